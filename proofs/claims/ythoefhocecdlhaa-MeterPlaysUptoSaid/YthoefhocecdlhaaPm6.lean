/-
  Part 6 of 9.
-/
import Derived.Test.YthoefhocecdlhaaPm5
import Derived.Test.YthoefhocecdlhaaPm3
import Derived.Test.YthoefhocecdlhaaPm4
import Derived.Lib.Mul64
import Derived.Laws.Externs
set_option linter.unusedVariables false
set_option linter.unusedSimpArgs false
namespace Go.Proofs.Ythoefhocecdlhaa
open Go Go.PB
attribute [local irreducible] Mo Bin Eql Tr Wo Ap
section
variable {B : Hand} [Lets B] {L F G : List HProp} {x : B.X}
theorem set_same {α : Type} {l : List α} {i : Nat} {a : α} (h : l[i]? = some a) : l.set i a = l := by
 apply List.ext_getElem?
 intro j
 rw [List.getElem?_set]
 by_cases e : i = j
 ·subst e; rw [if_pos rfl, if_pos (List.getElem?_eq_some_iff.1 h).1, h]
 ·rw [if_neg e]
theorem one_num {l : List Nat} : ∀ w ∈ l.map num, one w = true := by
 intro w hw
 obtain ⟨v, _, rfl⟩ := List.mem_map.1 hw
 rfl
theorem copy_words_tr {a : Option Addr} {n c : Nat} {l : List Nat} (hn : n = l.length) (hl : l.length < 1000000) (hr : (a = none ∧ n = 0) ∨ ∃ b o, a = some ⟨b, o, none⟩ ∧ ∀ i v, l[i]? = some v → Rd L b (o + i) (num v)) :
  Tr Try.prog B 92 [.slice a n c] L x fun v L' x' => L' = vec 1 v (l.map num) :: L ∧ x' = x := by
 subst hn
 refine tr_star (vec 1 (.slice none 0 0) [] :: L) (fun h st => vec_nil st) ?_
 have hr' : (a = none ∧ l.length = 0) ∨ ∃ b o, a = some ⟨b, o, none⟩ ∧ Rds (vec 1 (.slice none 0 0) [] :: L) b o (l.map num) := by
  rcases hr with h | ⟨b, o, h1, h2⟩
  ·exact .inl h
  ·refine .inr ⟨b, o, h1, fun i v hi => .there ?_⟩
   rw [List.getElem?_map] at hi
   cases h : l[i]? with
   | none => rw [h] at hi; cases hi
   | some u => rw [h] at hi; cases hi; exact h2 i u h
 refine tr_of_body Try.func92 rfl Try.ntmps92 (by simp) fun um Q _ hQ => ?_
 simp only [argE, Nat.zero_add, Nat.reduceAdd]
 repeat (first | (apply wo_mo; apply mo_append (sz := 1) (new := l.map num); exact rfl; exact rfl; exact rfl; exact rfl; exact .here; (simp); exact hr'.imp And.right id; exact one_num; (simp only [sliceLen]; omega); exact trivial) | refine we_seq ?_ | (refine wR ?_; try simp only [oS]) | refine wo_nil ?_ | refine wM ?_ | refine wA ?_)
 rintro v' L' rfl
 repeat (first | refine wo_nil ?_ | refine wA ?_ | refine we_ret ?_)
 (first | refine or1 Try.func92 Try.results92 hQ rfl ?_ | refine on1 Try.func92 Try.results92 hQ rfl ?_)
 exact ⟨rfl, rfl⟩
def wvC (wv lv : Value) (w : Mach.Wd) : HProp := fun h => ∃ wl : List (Value × List Nat), wl.map (·.2) = w.words ∧ w.ok ∧ all (wdB wv lv wl w.nl) h
omit [Lets B] in
theorem wv_close {wv lv : Value} {w : Mach.Wd} {wl : List (Value × List Nat)} (h1 : wl.map (·.2) = w.words) (h2 : w.ok) {h : Hp} (s : Star (wdB wv lv wl w.nl ++ F) h) : Star (wvC wv lv w :: F) h :=
 star_map (star_shut s) (fun _ z => ⟨wl, h1, h2, z⟩) (fun _ z => z)
omit [Lets B] in
theorem wv_shut {wv lv : Value} {w : Mach.Wd} {wl : List (Value × List Nat)} {lw : List Value} (h1 : wl.map (·.2) = w.words) (h2 : w.ok) (h3 : lw.length = w.nl) {h : Hp} (s : Star (vec 1 lv lw :: all (lw.map lstT) :: vec 1 wv (wl.map (·.1)) :: all (wl.map rowT) :: F) h) : Star (wvC wv lv w :: F) h := by
 have s1 : Star (lstC lv w.nl :: vec 1 wv (wl.map (·.1)) :: all (wl.map rowT) :: F) h := star_map (star_shut (M := [_, _]) s) (fun _ z => ⟨lw, h3, z⟩) (fun _ z => z)
 exact wv_close h1 h2 (star_swap s1)
def copyInv1 (b1 b2 b3 : Nat) (wv lv : Value) (wl : List (Value × List Nat)) (x : B.X) (F : List HProp) : Inv (Nat × Value × List (Value × List Nat)) B.X where
 e := fun i => [(1, .pointer (some ⟨b1, 0, none⟩)), (2, .pointer (some ⟨b2, 0, none⟩)), (3, .pointer (some ⟨b3, 0, none⟩)), (4, .int .i64 (i.1 : Nat))]
 L := fun i => arr b3 0 [i.2.1, .slice none 0 0] :: vec 1 i.2.1 (i.2.2.map (·.1)) :: all (i.2.2.map rowT) :: arr b1 0 [wv, lv] :: arr b2 0 [.slice none 0 0, .slice none 0 0] :: vec 1 wv (wl.map (·.1)) :: all (wl.map rowT) :: F
 x := fun _ => x
 ok := fun i => i.1 ≤ wl.length ∧ i.2.2.map (·.2) = (wl.map (·.2)).take i.1
def copyInv2 (b1 b2 b3 : Nat) (wv lv ov : Value) (lw : List Value) (x : B.X) (F : List HProp) : Inv (Nat × Value × List Value) B.X where
 e := fun i => [(1, .pointer (some ⟨b1, 0, none⟩)), (2, .pointer (some ⟨b2, 0, none⟩)), (3, .pointer (some ⟨b3, 0, none⟩)), (5, .int .i64 (i.1 : Nat))]
 L := fun i => arr b3 0 [ov, i.2.1] :: vec 1 i.2.1 i.2.2 :: all (i.2.2.map lstT) :: arr b1 0 [wv, lv] :: arr b2 0 [.slice none 0 0, .slice none 0 0] :: vec 1 lv lw :: all (lw.map lstT) :: F
 x := fun _ => x
 ok := fun i => i.1 ≤ lw.length ∧ i.2.2.length = i.1
set_option maxHeartbeats 4000000 in
theorem copy_tr {wv lv : Value} {w : Mach.Wd} (hh : Has L (wvC wv lv w) F) :
  Tr Try.prog B 59 [.agg #[wv, lv]] L x fun v L' x' => ∃ wv' lv', v = .agg #[wv', lv'] ∧ L' = wvC wv' lv' w :: wvC wv lv w :: F ∧ x' = x := by
 refine tr_ex hh fun (wl : List (Value × List Nat)) => tr_and .here fun e1 => tr_and .here fun hok => tr_star (vec 1 wv (wl.map fun (z : Value × List Nat) => z.1) :: lstC lv w.nl :: all (wl.map rowT) :: F) (fun h st => star_open st) ?_
 refine tr_ex (c := fun lw h => lw.length = w.nl ∧ all [vec 1 lv lw, all (lw.map lstT)] h) (.there .here) fun lw => tr_and .here fun hlw => tr_star (vec 1 lv lw :: all (lw.map lstT) :: vec 1 wv (wl.map fun (z : Value × List Nat) => z.1) :: all (wl.map rowT) :: F) (fun h st => star_open st) ?_
 refine Tr.post (R := fun v L' x' => ∃ wv' lv', v = .agg #[wv', lv'] ∧ x' = x ∧ ∀ h, Star L' h → Star (wvC wv' lv' w :: wvC wv lv w :: F) h) ?_ (by rintro v L' x' ⟨wv', lv', rfl, rfl, hs⟩; exact ⟨_, ⟨wv', lv', rfl, rfl, rfl⟩, hs⟩)
 refine tr_star (vec 1 wv (wl.map (·.1)) :: all (wl.map rowT) :: vec 1 lv lw :: all (lw.map lstT) :: F) (fun h st => ?_) ?_
 ·refine Ent.star ?_ st
  exact .take (.there (.there .here)) (.take (.there (.there .here)) (.take .here (.take .here .refl)))
 have hwn : wl.length < 1000000 := by have := hok.n; rw [← e1, List.length_map] at this; exact this
 have hln : lw.length < 1000000 := by have := hok.nl; omega
 refine tr_pure (of_has .here (vec_shape (by omega))) ?_
 rintro ⟨va, vn, vc, rfl, hvn, _, hva, hva2⟩
 have hvnn : vn = wl.length := by simpa using hvn.symm
 subst hvnn
 refine tr_pure (of_has (.there (.there .here)) (vec_shape (by omega))) ?_
 rintro ⟨la, ln, lc, rfl, hlln, _, hla, hla2⟩
 have hlnn : ln = lw.length := by simpa using hlln.symm
 subst hlnn
 refine tr_of_body Try.func59 rfl Try.ntmps59 (by simp) fun um Q _ hQ => ?_
 simp only [argE, Nat.zero_add, Nat.reduceAdd]
 repeat (first | (apply wo_mo; apply mo_box; exact rfl; exact trivial) | refine we_seq ?_ | (refine wR ?_; try simp only [oS]))
 rintro v' L' ⟨b1, rfl, rfl⟩
 repeat (first | (apply wo_mo; apply mo_alloc; exact trivial))
 rintro v' L' ⟨b2, rfl, rfl⟩
 repeat (first | (apply wo_mo; apply mo_alloc; exact trivial) | refine we_seq ?_ | (refine wR ?_; try simp only [oS]) | refine wo_nil ?_)
 rintro v' L' ⟨b3, rfl, rfl⟩
 repeat (first | refine we_seq ?_ | (refine wR ?_; try simp only [oS]) | refine wo_nil ?_ | refine wA ?_)
 refine we_block ?_
 refine we_star ((copyInv1 b1 b2 b3 (.slice va wl.length vc) (.slice la lw.length lc) wl x (vec 1 (.slice la lw.length lc) lw :: all (lw.map lstT) :: F)).L (0, .slice none 0 0, [])) (fun h st => ?_) ?_
 ·have st2 : Star (arr b3 0 [.slice none 0 0, .slice none 0 0] :: arr b1 0 [.slice va wl.length vc, .slice la lw.length lc] :: arr b2 0 [.slice none 0 0, .slice none 0 0] :: vec 1 (.slice va wl.length vc) (wl.map (·.1)) :: all (wl.map rowT) :: vec 1 (.slice la lw.length lc) lw :: all (lw.map lstT) :: F) h := by
   refine Ent.star ?_ st
   exact .take .here (.take (.there .here) (.take .here .refl))
  exact star_map st2 (fun _ z => z) (fun _ z => vec_nil (star_shut (M := []) z))
 refine we_loopN (copyInv1 b1 b2 b3 (.slice va wl.length vc) (.slice la lw.length lc) wl x (vec 1 (.slice la lw.length lc) lw :: all (lw.map lstT) :: F)) (fun i => wl.length - i.1) (0, .slice none 0 0, []) ⟨by simp, by simp⟩ ⟨rfl, rfl, rfl, rfl, trivial⟩ .refl rfl ?_
 rintro ⟨i, ov, nw⟩ ⟨hi, hnw⟩
 dsimp only [copyInv1] at hi hnw ⊢
 by_cases hc : i < wl.length
 ·obtain ⟨⟨iv, l⟩, hwl⟩ : ∃ z, wl[i]? = some z := ⟨wl[i], by simp [hc]⟩
  have hlm : l ∈ w.words := by rw [← e1]; exact List.mem_map.2 ⟨_, List.mem_of_getElem? hwl, rfl⟩
  have hll := hok.len _ hlm
  refine we_pure (of_has (.there .here) (vec_shape (by omega))) ?_
  rintro ⟨oa, on, oc, rfl, hon, _, _, _⟩
  have honn : on = nw.length := by simpa using hon.symm
  subst honn
  have hnwl : nw.length = i := by have := congrArg List.length hnw; simpa [Nat.min_eq_left hi] using this
  obtain ⟨⟨vb, vo, sp⟩, rfl⟩ : ∃ z, va = some z := by
   cases va with
   | none => have : wl.length = 0 := hva rfl; omega
   | some z => exact ⟨z, rfl⟩
  cases hva2 _ rfl
  obtain ⟨R, hR⟩ : ∃ R, R = all (nw.map rowT) :: all ((wl.map rowT).eraseIdx i) :: vec 1 (.slice la lw.length lc) lw :: all (lw.map lstT) :: F := ⟨_, rfl⟩
  refine we_star (arr b3 0 [.slice oa nw.length oc, .slice none 0 0] :: vec 1 (.slice oa nw.length oc) (nw.map (·.1)) :: arr b1 0 [.slice (some ⟨vb, vo, none⟩) wl.length vc, .slice la lw.length lc] :: arr b2 0 [.slice none 0 0, .slice none 0 0] :: vec 1 (.slice (some ⟨vb, vo, none⟩) wl.length vc) (wl.map (·.1)) :: rowT (iv, l) :: R) (fun h st => ?_) ?_
  ·rw [hR]
   have s1 : Star (all (wl.map rowT) :: arr b3 0 [.slice oa nw.length oc, .slice none 0 0] :: vec 1 (.slice oa nw.length oc) (nw.map (·.1)) :: arr b1 0 [.slice (some ⟨vb, vo, none⟩) wl.length vc, .slice la lw.length lc] :: arr b2 0 [.slice none 0 0, .slice none 0 0] :: vec 1 (.slice (some ⟨vb, vo, none⟩) wl.length vc) (wl.map (·.1)) :: all (nw.map rowT) :: vec 1 (.slice la lw.length lc) lw :: all (lw.map lstT) :: F) h := by
    refine Ent.star ?_ st
    exact .take (.there (.there (.there (.there (.there (.there .here)))))) (.take .here (.take .here (.take (.there .here) (.take (.there .here) (.take (.there .here) (.take .here .refl))))))
   have s2 := star_pick (i := i) (c := rowT (iv, l)) (by rw [List.getElem?_map, hwl]; rfl) s1
   refine Ent.star ?_ s2
   exact .take (.there (.there .here)) (.take (.there (.there .here)) (.take (.there (.there .here)) (.take (.there (.there .here)) (.take (.there (.there .here)) (.take .here (.take (.there .here) (.take .here .refl)))))))
  refine we_pure (of_has (.there (.there (.there (.there (.there .here))))) (vec_shape (by omega))) ?_
  rintro ⟨ia, inn, ic, hiv, hin, _, hia, hia2⟩
  dsimp only at hiv hin
  subst hiv
  have hinn : inn = l.length := by simpa using hin.symm
  subst hinn
  repeat (first | refine wlssT ?_ | refine we_seq ?_ | (refine wR ?_; try simp only [oS]) | refine wo_nil ?_ | refine wM ?_ | refine wD ?_ | refine wL ?_ | refine wE ?_ | refine wT ?_ | refine we_skip ?_ | refine we_block ?_)
  have hiv : Rd (arr b3 0 [.slice oa nw.length oc, .slice none 0 0] :: vec 1 (.slice oa nw.length oc) (nw.map (·.1)) :: arr b1 0 [.slice (some ⟨vb, vo, none⟩) wl.length vc, .slice la lw.length lc] :: arr b2 0 [.slice none 0 0, .slice none 0 0] :: vec 1 (.slice (some ⟨vb, vo, none⟩) wl.length vc) (wl.map (·.1)) :: rowT (.slice ia l.length ic, l) :: R) vb (vo + i) (.slice ia l.length ic) := rd_vec (.there (.there (.there (.there .here)))) (by rw [List.getElem?_map, hwl]; rfl)
  have hcw : (ia = none ∧ l.length = 0) ∨ ∃ b o, ia = some ⟨b, o, none⟩ ∧ ∀ j v, l[j]? = some v → Rd (arr b3 0 [.slice oa nw.length oc, .slice none 0 0] :: vec 1 (.slice oa nw.length oc) (nw.map (·.1)) :: arr b1 0 [.slice (some ⟨vb, vo, none⟩) wl.length vc, .slice la lw.length lc] :: arr b2 0 [.slice none 0 0, .slice none 0 0] :: vec 1 (.slice (some ⟨vb, vo, none⟩) wl.length vc) (wl.map (·.1)) :: rowT (.slice ia l.length ic, l) :: R) b (o + j) (num v) := by
   cases ia with
   | none => exact .inl ⟨rfl, hia rfl⟩
   | some z =>
    obtain ⟨b, o, sp⟩ := z
    cases hia2 _ rfl
    exact .inr ⟨b, o, rfl, fun j v hj => rd_vec (.there (.there (.there (.there (.there .here))))) (by rw [List.getElem?_map, hj]; rfl)⟩
  have hov : ∀ {L : List HProp}, Rd (arr b3 0 [.slice oa nw.length oc, .slice none 0 0] :: L) b3 0 (.slice oa nw.length oc) := fun {L} => Rd.row0 rfl
  refine we_draw (List.range' 0 12) (by kernel_rfl) ?_
  repeat (first | (apply ap_pure; exact rfl; exact rfl; exact trivial; intro L; apply mo_index1; exact rfl; exact rfl; omega) | (apply ap_read; exact rfl; exact rfl; exact trivial; apply mo_load; exact rfl; exact hiv) | refine aM ?_ | refine aD ?_ | refine aL ?_)
  refine ap_callR rfl rfl rfl trivial rfl rfl (.cons rfl .nil) (copy_words_tr rfl hll hcw) ?_ ?_
  ·rintro v L' x' ⟨rfl, rfl⟩ q hq
   replace hq := (List.mem_filter.1 hq).1
   simp only [List.mem_cons, List.not_mem_nil, or_false] at hq
   rcases hq with rfl | rfl | rfl | rfl | rfl | rfl | rfl <;> first | exact .inl rfl | exact .inr ⟨_, rfl, trivial, mo_load rfl (Rd.there hov)⟩ | exact .inr ⟨_, rfl, trivial, mo_load rfl (Rd.there hiv)⟩ | exact .inr ⟨_, rfl, trivial, mo_load rfl (Rd.there (.there (.there (Rd.row0 rfl))))⟩
  rintro v L' x' ⟨rfl, rfl⟩
  refine ap_know (of_has .here (vec_shape (by omega))) ?_
  rintro ⟨ca, cn, cc, rfl, _⟩
  refine ap_loudR rfl rfl rfl rfl trivial (mo_buildSlice (sz := 1) (vs := [.slice ca cn cc]) rfl (.cons rfl .nil) rfl (by intro v hv; cases (List.mem_singleton.1 hv); exact rfl) (by omega)) ?_ ?_
  ·rintro v L' ⟨sb, rfl, rfl⟩ q hq
   replace hq := (List.mem_filter.1 (List.mem_filter.1 hq).1).1
   simp only [List.mem_cons, List.not_mem_nil, or_false] at hq
   rcases hq with rfl | rfl | rfl | rfl | rfl | rfl | rfl <;> first | exact .inl rfl | exact .inr ⟨_, rfl, trivial, mo_load rfl (Rd.there (Rd.there hov))⟩ | exact .inr ⟨_, rfl, trivial, mo_load rfl (Rd.there (Rd.there hiv))⟩ | exact .inr ⟨_, rfl, trivial, mo_load rfl (Rd.there (Rd.there (.there (.there (Rd.row0 rfl)))))⟩
  rintro v L' ⟨sb, rfl, rfl⟩
  refine ap_loud rfl rfl rfl rfl rfl trivial (mo_append (sz := 1) (new := [.slice ca cn cc]) rfl rfl rfl rfl (.there (.there (.there .here))) rfl (.inr ⟨_, _, rfl, Rds.all .here⟩) (by intro v hv; cases (List.mem_singleton.1 hv); exact rfl) (by simp only [sliceLen]; omega)) ?_
  rintro v' L' rfl
  refine ap_know (of_has .here (vec_shape (by omega))) ?_
  rintro ⟨qa, ql, qc, rfl, _⟩
  repeat (first | refine aD ?_)
  refine ap_loud rfl rfl rfl rfl rfl trivial (mo_store rfl rfl rfl (Wt.row0 (k := 0) (.there (.there (.there .here))) (Nat.succ_pos 1))) ?_
  rintro v' L' ⟨rfl, rfl⟩
  refine ap_end ?_
  repeat (first | (refine wR ?_; try simp only [oS]) | refine wo_nil ?_ | refine wM ?_ | refine wA ?_ | refine wadd ?_)
  refine at_roundS (I := copyInv1 b1 b2 b3 (.slice (some ⟨vb, vo, none⟩) wl.length vc) (.slice la lw.length lc) wl x' (vec 1 (.slice la lw.length lc) lw :: all (lw.map lstT) :: F)) (R := fun i' => wl.length - i'.1 < wl.length - i) (i + 1, .slice qa ql qc, nw ++ [(.slice ca cn cc, l)]) (by simp only; omega) ⟨by simp only; omega, ?_⟩ ⟨rfl, rfl, rfl, rfl, trivial⟩ (fun h st => ?_) rfl
  ·simp only [List.map_append, List.map_cons, List.map_nil, hnw]
   rw [List.take_add_one, List.getElem?_map, hwl]; rfl
  ·dsimp only [copyInv1]
   rw [hR] at st
   have s1 : Star (rowT (.slice ia l.length ic, l) :: all ((wl.map rowT).eraseIdx i) :: vec 1 (.slice ca cn cc) (l.map num) :: all (nw.map rowT) :: arr b3 0 [.slice qa ql qc, .slice none 0 0] :: vec 1 (.slice qa ql qc) (nw.map (·.1) ++ [.slice ca cn cc]) :: arr b1 0 [.slice (some ⟨vb, vo, none⟩) wl.length vc, .slice la lw.length lc] :: arr b2 0 [.slice none 0 0, .slice none 0 0] :: vec 1 (.slice (some ⟨vb, vo, none⟩) wl.length vc) (wl.map (·.1)) :: vec 1 (.slice la lw.length lc) lw :: all (lw.map lstT) :: F) h := by
    refine Ent.star ?_ st
    exact .take (.there (.there (.there (.there (.there (.there (.there .here))))))) (.take (.there (.there (.there (.there (.there (.there (.there (.there .here)))))))) (.take (.there (.there .here)) (.take (.there (.there (.there (.there (.there (.there .here)))))) (.take (.there (.there .here)) (.take .here (.take (.there .here) (.take (.there .here) (.take (.there .here) (.drop .refl)))))))))
   have s2 := star_put (M := wl.map rowT) (c := rowT (.slice ia l.length ic, l)) (by simpa using hc) s1
   rw [show (wl.map rowT).set i (rowT (.slice ia l.length ic, l)) = wl.map rowT from set_same (by rw [List.getElem?_map, hwl]; rfl)] at s2
   have s3 := star_swap s2
   have s4 : Star (all (nw.map rowT ++ [rowT (.slice ca cn cc, l)]) :: _) h := star_push (star_map s3 (fun _ z => z) (fun _ z => star_swap z))
   simp only [List.map_append, List.map_cons, List.map_nil]
   refine Ent.star ?_ s4
   exact .take (.there (.there .here)) (.take (.there (.there .here)) (.take .here (.take (.there .here) (.take (.there .here) (.take (.there .here) (.take .here .refl))))))
 ·have hi' : i = wl.length := by omega
  have hnw' : nw.map (·.2) = w.words := by rw [hnw, hi', ← e1]; exact List.take_of_length_le (by simp)
  clear hi hnw
  subst hi'
  repeat (first | refine wlssF ?_ | refine we_seq ?_ | (refine wR ?_; try simp only [oS]) | refine wo_nil ?_ | refine wM ?_ | refine wA ?_ | refine wD ?_ | refine wL ?_ | refine wE ?_ | refine wF ?_ | refine we_exit ?_)
  refine we_block ?_
  obtain ⟨F2, hF2⟩ : ∃ F2, F2 = vec 1 ov (nw.map (·.1)) :: all (nw.map rowT) :: vec 1 (.slice va wl.length vc) (wl.map (·.1)) :: all (wl.map rowT) :: F := ⟨_, rfl⟩
  refine we_star ((copyInv2 b1 b2 b3 (.slice va wl.length vc) (.slice la lw.length lc) ov lw x F2).L (0, .slice none 0 0, [])) (fun h st => ?_) ?_
  ·have st2 : Star (arr b3 0 [ov, .slice none 0 0] :: arr b1 0 [.slice va wl.length vc, .slice la lw.length lc] :: arr b2 0 [.slice none 0 0, .slice none 0 0] :: vec 1 (.slice la lw.length lc) lw :: all (lw.map lstT) :: F2) h := by
    rw [hF2]
    refine Ent.star ?_ st
    exact .take .here (.take (.there (.there .here)) (.take (.there (.there .here)) (.take (.there (.there (.there (.there .here)))) (.take (.there (.there (.there (.there .here)))) .refl))))
   exact star_map st2 (fun _ z => z) (fun _ z => vec_nil (star_shut (M := []) z))
  refine we_loopN (copyInv2 b1 b2 b3 (.slice va wl.length vc) (.slice la lw.length lc) ov lw x F2) (fun i => lw.length - i.1) (0, .slice none 0 0, []) ⟨by simp, by simp⟩ ⟨rfl, rfl, rfl, rfl, trivial⟩ .refl rfl ?_
  rintro ⟨i, ol, nl⟩ ⟨hi, hnl⟩
  dsimp only [copyInv2] at hi hnl ⊢
  by_cases hc : i < lw.length
  ·obtain ⟨lv, hlv⟩ : ∃ z, lw[i]? = some z := ⟨lw[i], by simp [hc]⟩
   refine we_pure (of_has (.there .here) (vec_shape (by omega))) ?_
   rintro ⟨oa, on, oc, rfl, hon, _, _, _⟩
   have honn : on = nl.length := by simpa using hon.symm
   subst honn
   obtain ⟨⟨lb, lo, sp⟩, rfl⟩ : ∃ z, la = some z := by
    cases la with
    | none => have : lw.length = 0 := hla rfl; omega
    | some z => exact ⟨z, rfl⟩
   cases hla2 _ rfl
   obtain ⟨R, hR⟩ : ∃ R, R = all (nl.map lstT) :: all ((lw.map lstT).eraseIdx i) :: arr b2 0 [.slice none 0 0, .slice none 0 0] :: F2 := ⟨_, rfl⟩
   refine we_star (vec 2 (.slice none 0 0) [] :: arr b3 0 [ov, .slice oa nl.length oc] :: vec 1 (.slice oa nl.length oc) nl :: arr b1 0 [.slice va wl.length vc, .slice (some ⟨lb, lo, none⟩) lw.length lc] :: vec 1 (.slice (some ⟨lb, lo, none⟩) lw.length lc) lw :: lstT lv :: R) (fun h st => vec_nil ?_) ?_
   ·rw [hR]
    have s1 : Star (all (lw.map lstT) :: arr b3 0 [ov, .slice oa nl.length oc] :: vec 1 (.slice oa nl.length oc) nl :: arr b1 0 [.slice va wl.length vc, .slice (some ⟨lb, lo, none⟩) lw.length lc] :: vec 1 (.slice (some ⟨lb, lo, none⟩) lw.length lc) lw :: all (nl.map lstT) :: arr b2 0 [.slice none 0 0, .slice none 0 0] :: F2) h := by
     refine Ent.star ?_ st
     exact .take (.there (.there (.there (.there (.there (.there .here)))))) (.take .here (.take .here (.take (.there .here) (.take (.there (.there .here)) (.take .here (.take .here .refl))))))
    have s2 := star_pick (i := i) (c := lstT lv) (by rw [List.getElem?_map, hlv]; rfl) s1
    refine Ent.star ?_ s2
    exact .take (.there (.there .here)) (.take (.there (.there .here)) (.take (.there (.there .here)) (.take (.there (.there .here)) (.take .here (.take (.there .here) (.take .here .refl))))))
   refine we_pure (of_has (.there (.there (.there (.there (.there .here))))) (vec_shape (by omega))) ?_
   rintro ⟨ia, inn, ic, hiv, hin, _, hia, hia2⟩
   subst hiv
   have hinn : inn = 0 := by simp only [List.length_nil] at hin; omega
   subst hinn
   repeat (first | refine wlssT ?_ | refine we_seq ?_ | (refine wR ?_; try simp only [oS]) | refine wo_nil ?_ | refine wM ?_ | refine wA ?_ | refine wD ?_ | refine wL ?_ | refine wE ?_ | refine wT ?_ | refine we_skip ?_ | refine we_block ?_)
   have hov : ∀ {c : HProp} {L : List HProp}, Rd (c :: arr b3 0 [ov, .slice oa nl.length oc] :: L) b3 1 (.slice oa nl.length oc) := fun {c L} => .there (Rd.row0 rfl)
   have hli : Rd (vec 2 (.slice none 0 0) [] :: arr b3 0 [ov, .slice oa nl.length oc] :: vec 1 (.slice oa nl.length oc) nl :: arr b1 0 [.slice va wl.length vc, .slice (some ⟨lb, lo, none⟩) lw.length lc] :: vec 1 (.slice (some ⟨lb, lo, none⟩) lw.length lc) lw :: lstT (.slice ia 0 ic) :: R) lb (lo + i) (.slice ia 0 ic) := rd_vec (.there (.there (.there (.there .here)))) hlv
   refine we_draw (List.range' 0 13) (by kernel_rfl) ?_
   repeat (first | (apply ap_pure; exact rfl; exact rfl; exact trivial; intro L; apply mo_index1; exact rfl; exact rfl; omega) | (apply ap_read; exact rfl; exact rfl; exact trivial; apply mo_load; exact rfl; exact hli) | refine aM ?_ | refine aD ?_ | refine aL ?_)
   have hnew : (ia = none ∧ (0 : Nat) = 0) ∨ ∃ xbb xo', ia = some ⟨xbb, xo', none⟩ ∧ Rds (vec 2 (.slice none 0 0) [] :: arr b3 0 [ov, .slice oa nl.length oc] :: vec 1 (.slice oa nl.length oc) nl :: arr b1 0 [.slice va wl.length vc, .slice (some ⟨lb, lo, none⟩) lw.length lc] :: vec 1 (.slice (some ⟨lb, lo, none⟩) lw.length lc) lw :: lstT (.slice ia 0 ic) :: R) xbb xo' [] := by
    cases ia with
    | none => exact .inl ⟨rfl, rfl⟩
    | some z =>
     obtain ⟨b, o, sp⟩ := z
     cases hia2 _ rfl
     exact .inr ⟨b, o, rfl, fun j v hj => by simp at hj⟩
   refine ap_loudR rfl rfl rfl rfl trivial (mo_append (sz := 2) (new := []) rfl rfl rfl rfl .here rfl (hnew.imp And.right id) (by intro v hv; cases hv) (by simp only [sliceLen]; omega)) ?_ ?_
   ·rintro v L' rfl q hq
    replace hq := (List.mem_filter.1 hq).1
    simp only [List.mem_cons, List.not_mem_nil, or_false] at hq
    rcases hq with rfl | rfl | rfl | rfl | rfl | rfl | rfl | rfl <;> first | exact .inl rfl | exact .inr ⟨_, rfl, trivial, mo_load rfl hov⟩ | exact .inr ⟨_, rfl, trivial, mo_load rfl (.there (.there (.there (Rd.row0 rfl))))⟩ | exact .inr ⟨_, rfl, trivial, mo_load rfl (rd_vec (.there (.there (.there (.there .here)))) hlv)⟩
   rintro v' L' rfl
   refine ap_know (of_has .here (vec_shape (by omega))) ?_
   rintro ⟨ca, cn, cc, rfl, _⟩
   refine ap_loudR rfl rfl rfl rfl trivial (mo_buildSlice (sz := 1) (vs := [.slice ca cn cc]) rfl (.cons rfl .nil) rfl (by intro v hv; cases (List.mem_singleton.1 hv); exact rfl) (by omega)) ?_ ?_
   ·rintro v L' ⟨sb, rfl, rfl⟩ q hq
    replace hq := (List.mem_filter.1 (List.mem_filter.1 hq).1).1
    simp only [List.mem_cons, List.not_mem_nil, or_false] at hq
    rcases hq with rfl | rfl | rfl | rfl | rfl | rfl | rfl | rfl <;> first | exact .inl rfl | exact .inr ⟨_, rfl, trivial, mo_load rfl (.there hov)⟩ | exact .inr ⟨_, rfl, trivial, mo_load rfl (.there (.there (.there (.there (Rd.row0 rfl)))))⟩ | exact .inr ⟨_, rfl, trivial, mo_load rfl (.there (rd_vec (.there (.there (.there (.there .here)))) hlv))⟩
   rintro v' L' ⟨sb, rfl, rfl⟩
   refine ap_loud rfl rfl rfl rfl rfl trivial (mo_append (sz := 1) (new := [.slice ca cn cc]) rfl rfl rfl rfl (.there (.there (.there .here))) rfl (.inr ⟨_, _, rfl, Rds.all .here⟩) (by intro v hv; cases (List.mem_singleton.1 hv); exact rfl) (by simp only [sliceLen]; omega)) ?_
   rintro v' L' rfl
   refine ap_know (of_has .here (vec_shape (by omega))) ?_
   rintro ⟨qa, ql, qc, rfl, _⟩
   repeat (first | refine aD ?_)
   refine ap_loud rfl rfl rfl rfl rfl trivial (mo_store rfl rfl rfl (Wt.row0 (k := 1) (.there (.there (.there .here))) (Nat.lt_succ_self 1))) ?_
   rintro v' L' ⟨rfl, rfl⟩
   refine ap_end ?_
   repeat (first | (refine wR ?_; try simp only [oS]) | refine wo_nil ?_ | refine wM ?_ | refine wA ?_ | refine wadd ?_)
   refine at_roundS (I := copyInv2 b1 b2 b3 (.slice va wl.length vc) (.slice (some ⟨lb, lo, none⟩) lw.length lc) ov lw x F2) (R := fun i' => lw.length - i'.1 < lw.length - i) (i + 1, .slice qa ql qc, nl ++ [.slice ca cn cc]) (by simp only; omega) ⟨by simp only; omega, by simp [hnl]⟩ ⟨rfl, rfl, rfl, rfl, trivial⟩ (fun h st => ?_) rfl
   dsimp only [copyInv2]
   rw [hR] at st
   have s1 : Star (lstT (.slice ia 0 ic) :: all ((lw.map lstT).eraseIdx i) :: lstT (.slice ca cn cc) :: all (nl.map lstT) :: arr b3 0 [ov, .slice qa ql qc] :: vec 1 (.slice qa ql qc) (nl ++ [.slice ca cn cc]) :: arr b1 0 [.slice va wl.length vc, .slice (some ⟨lb, lo, none⟩) lw.length lc] :: arr b2 0 [.slice none 0 0, .slice none 0 0] :: vec 1 (.slice (some ⟨lb, lo, none⟩) lw.length lc) lw :: F2) h := by
    refine Ent.star ?_ st
    exact (.take (.there (.there (.there (.there (.there (.there .here)))))) (.take (.there (.there (.there (.there (.there (.there (.there .here))))))) (.take (.there (.there .here)) (.take (.there (.there (.there (.there (.there .here))))) (.take (.there (.there .here)) (.take .here (.take (.there .here) (.take (.there (.there .here)) (.take (.there .here) (.drop .refl))))))))))
   have s2 := star_put (M := lw.map lstT) (c := lstT (.slice ia 0 ic)) (by simpa using hc) s1
   rw [set_same (by rw [List.getElem?_map, hlv]; rfl)] at s2
   have s3 := star_swap s2
   have s4 : Star (all (nl.map lstT ++ [lstT (.slice ca cn cc)]) :: _) h := star_push (star_map s3 (fun _ z => z) (fun _ z => star_swap z))
   simp only [List.map_append, List.map_cons, List.map_nil]
   refine Ent.star ?_ s4
   exact .take (.there (.there .here)) (.take (.there (.there .here)) (.take .here (.take (.there .here) (.take (.there .here) (.take (.there .here) (.take .here .refl))))))
  ·have hi' : i = lw.length := by omega
   clear hi
   subst hi'
   repeat (first | refine wlssF ?_ | refine we_seq ?_ | (refine wR ?_; try simp only [oS]) | refine wo_nil ?_ | refine wM ?_ | refine wD ?_ | refine wL ?_ | refine wE ?_ | refine wF ?_ | refine we_exit ?_)
   refine wo_pure (of_has (.there .here) (vec_shape (by omega))) ?_
   rintro ⟨qa, qn, qc, rfl, _⟩
   refine wo_pure (of_has (c := vec 1 ov (nw.map (·.1))) (by rw [hF2]; exact (.there (.there (.there (.there (.there (.there (.there .here)))))))) (vec_shape (by omega))) ?_
   rintro ⟨pa, pn, pc, rfl, _⟩
   have hr3 : Rds (arr b3 0 [.slice pa pn pc, .slice qa qn qc] :: vec 1 (.slice qa qn qc) nl :: all (nl.map lstT) :: arr b1 0 [.slice va wl.length vc, .slice la lw.length lc] :: arr b2 0 [.slice none 0 0, .slice none 0 0] :: vec 1 (.slice la lw.length lc) lw :: all (lw.map lstT) :: F2) b3 0 [.slice pa pn pc, .slice qa qn qc] := Rds.all .here
   repeat (first | (apply wo_po; apply mo_loadA (vs := [.slice pa pn pc, .slice qa qn qc]); exact rfl; exact rfl; exact hr3; exact trivial))
   refine wo_pm (mo_storeA (c := 0) (k := 0) (a := 0) (vs := [.slice none 0 0, .slice none 0 0]) rfl rfl rfl (by intro w hw; simp [Value.cells] at hw; rcases hw with rfl | rfl <;> rfl) rfl (Nat.le_refl 2) (.there (.there (.there (.there .here))))) trivial ?_
   repeat (first | refine wo_nil ?_ | refine we_ret ?_)
   refine at_leaveM (rs := [.cell 2 48]) Try.func59 Try.results59 hQ (.inl rfl) (.cons (.cell (vs := [.slice pa pn pc, .slice qa qn qc]) rfl rfl (Rds.all (.there (.there (.there (.there .here)))))) .nil) ?_
   refine ⟨_, _, rfl, rfl, fun h st => ?_⟩
   rw [hF2] at st
   have s1 : Star (vec 1 (.slice qa qn qc) nl :: all (nl.map lstT) :: vec 1 (.slice pa pn pc) (nw.map (·.1)) :: all (nw.map rowT) :: vec 1 (.slice la lw.length lc) lw :: all (lw.map lstT) :: vec 1 (.slice va wl.length vc) (wl.map (·.1)) :: all (wl.map rowT) :: F) h := by
    refine Ent.star ?_ st
    exact (.take (.there .here) (.take (.there .here) (.take (.there (.there (.there (.there (.there .here))))) (.take (.there (.there (.there (.there (.there .here))))) (.take (.there (.there (.there .here))) (.take (.there (.there (.there .here))) (.drop (.drop (.drop .refl)))))))))
   exact star_map (wv_shut hnw' hok (hnl.trans hlw) s1) (fun _ z => z) (fun _ z => wv_shut e1 hok hlw z)
end
section
structure PT where
 tb : Nat
 cw : CW
 cs : List Mach.Cl
def PT.cv (p : PT) : Value := p.cw.v p.cs.length
def thK (y : PT × Mach.Th) : HProp := thC y.1.tb y.1.cv y.2
def ptrK (y : PT × Mach.Th) : Value := .pointer (some ⟨y.1.tb, 0, none⟩)
def trC (e : Nat × Nat × Nat) : List Value := [.int .i64 (e.1 : Nat), .int .u8 (e.2.1 : Nat), .int .i64 (e.2.2 : Nat)]
abbrev Calls := List (CW × List Mach.Cl)
def cvK (y : CW × List Mach.Cl) : Value := y.1.v y.2.length
structure CallsOk (F : List HProp) (cc : Calls) : Prop where
 n : cc.length < 1000
 obs : ∀ y ∈ cc, Obs F (codeC y.1 y.2)
 ok : ∀ y ∈ cc, (y.2.all Mach.Cl.ok) = true
 len : ∀ y ∈ cc, y.2.length < 1000000
theorem CallsOk.there {F : List HProp} {cc : Calls} {d : HProp} (c : CallsOk F cc) : CallsOk (d :: F) cc := ⟨c.n, fun y hy => (c.obs y hy).there, c.ok, c.len⟩
variable {B : Hand} [Lets B] {L F G : List HProp} {x : B.X}
theorem new_th {tb : Nat} {cv : Value} {cs : List Mach.Cl} {h : Hp} (s : Star (arr tb 0 (thCells cv { calls := cs } (.slice none 0 0)) :: L) h) : Star (thC tb cv { calls := cs } :: L) h := by
 refine th_close (y := (.slice none 0 0, [])) rfl (fun _ => by show 0 < 18446744073709551616; omega) ?_
 exact star_map s (fun _ z => z) (fun _ z => vec_nil (star_shut (M := []) z))
omit [Lets B] in
theorem wv_shape {wv lv : Value} {w : Mach.Wd} : ∀ h, wvC wv lv w h → (∃ a n c, wv = .slice a n c) ∧ ∃ a n c, lv = .slice a n c := by
 rintro h ⟨wl, h1, h2, h3, h4, s1, q1, q2⟩
 obtain ⟨h5, h6, s2, ⟨lw, q3, h7, h8, s3, q4, q5⟩, q6⟩ := q2
 obtain ⟨a, n, c, e1, _⟩ := vec_shape (by omega) _ q1
 obtain ⟨a', n', c', e2, _⟩ := vec_shape (by omega) _ q4
 exact ⟨⟨a, n, c, e1⟩, a', n', c', e2⟩
omit [Lets B] in
theorem wd_of_wv {wb : Nat} {wv lv : Value} {w : Mach.Wd} {h : Hp} (s : Star (arr wb 0 [wv, lv] :: wvC wv lv w :: F) h) : Star (wdC wb w :: F) h := by
 obtain ⟨wl, s⟩ := star_ex (star_swap s)
 obtain ⟨e1, s⟩ := star_and s
 obtain ⟨e2, s⟩ := star_and s
 have s2 : Star (wdB wv lv wl w.nl ++ (arr wb 0 [wv, lv] :: F)) h := star_open s
 refine wd_close (y := (wv, lv, wl)) e1 e2 ?_
 refine Ent.star ?_ s2
 exact (.take (.there (.there (.there .here))) .refl)
def playInv1 (b3 b6 b8 wb : Nat) (ov tv : Value) (cc : Calls) (x : B.X) (F : List HProp) : Inv (Nat × Value × List (PT × Mach.Th)) B.X where
 e := fun i => [(1, ov), (2, tv), (6, .pointer (some ⟨b6, 0, none⟩)), (8, .pointer (some ⟨b8, 0, none⟩)), (9, .pointer (some ⟨wb, 0, none⟩)), (10, i.2.1), (11, .int .i64 (i.1 : Nat))]
 L := fun i => vec 1 i.2.1 (i.2.2.map ptrK) :: all (i.2.2.map thK) :: vec 1 tv (cc.map cvK) :: F
 x := fun _ => x
 ok := fun i => i.1 ≤ cc.length ∧ i.2.2.map (fun y => (y.1.cw, y.1.cs)) = cc.take i.1 ∧ i.2.2.map (·.2) = (cc.take i.1).map fun y => ({ calls := y.2 } : Mach.Th)
theorem begin_get {f : Nat} : ∀ {l l' : List Mach.Th}, Mach.begin_ f l = some l' → l'.length = l.length ∧ ∀ (i : Nat) t, l[i]? = some t → ∃ t', Mach.onF f t = some t' ∧ l'[i]? = some t' := by
 intro l
 induction l with
 | nil => intro l' h; cases h; exact ⟨rfl, fun i t h => by simp at h⟩
 | cons a l ih =>
  intro l' h
  unfold Mach.begin_ at h
  cases h1 : Mach.onF f a with
  | none => rw [h1] at h; cases h
  | some a' =>
   rw [h1, Option.bind_some] at h
   cases h2 : Mach.begin_ f l with
   | none => rw [h2] at h; cases h
   | some m =>
    rw [h2] at h
    cases h
    obtain ⟨e1, e2⟩ := ih h2
    refine ⟨by simp [e1], fun i t ht => ?_⟩
    cases i with
    | zero => cases ht; exact ⟨a', h1, rfl⟩
    | succ i => exact e2 i t (by simpa using ht)
theorem take_set_drop {α : Type} {l m : List α} {i : Nat} {a : α} (hl : l[i]? = some a) (hm : i < m.length) : (l.take i ++ m.drop i).set i a = l.take (i + 1) ++ m.drop (i + 1) := by
 have hlt : i < l.length := (List.getElem?_eq_some_iff.1 hl).1
 have h1 : (l.take i).length = i := by simp; omega
 have h2 : m.drop i = m[i] :: m.drop (i + 1) := List.drop_eq_getElem_cons hm
 rw [List.set_append_right _ _ (by omega), h1, Nat.sub_self, List.take_add_one, hl, h2, List.set_cons_zero]
 simp
theorem init_good {cs : List Mach.Cl} {k : Nat} (h1 : (cs.all Mach.Cl.ok) = true) (h2 : cs.length < 1000000) : Good cs { calls := cs } k :=
 ⟨rfl, h1, h2, by show 0 < 1000000; omega, Nat.zero_le _, Nat.zero_le _, Nat.zero_le _, fun y hy => by cases hy⟩
def playInv2 (b6 b8 wb : Nat) (ov tv lv : Value) (pts : List PT) (l0 l1 : List Mach.Th) (x : B.X) (F : List HProp) : Inv (Nat × List (PT × Mach.Th)) B.X where
 e := fun i => [(1, ov), (2, tv), (6, .pointer (some ⟨b6, 0, none⟩)), (8, .pointer (some ⟨b8, 0, none⟩)), (9, .pointer (some ⟨wb, 0, none⟩)), (10, lv), (12, .int .i64 (i.1 : Nat))]
 L := fun i => vec 1 lv (i.2.map ptrK) :: all (i.2.map thK) :: F
 x := fun _ => x
 ok := fun i => i.1 ≤ pts.length ∧ i.2.map (·.1) = pts ∧ i.2.map (·.2) = l1.take i.1 ++ l0.drop i.1
end
section
def Stands (t : Mach.Th) : Prop := t.over = true ∨ Mach.told t.next.op = true ∧ t.call < t.calls.length
theorem onF_stands : ∀ {f : Nat} {t t' : Mach.Th}, Mach.onF f t = some t' → Stands t' := by
 intro f
 induction f with
 | zero => intro t t' h; cases h
 | succ f ih =>
  intro t t' h
  unfold Mach.onF at h
  split at h
  ·cases h; exact .inl (by assumption)
  split at h
  ·cases h; exact .inl rfl
  split at h
  ·cases h
   rename_i h2 h3
   refine .inr ⟨h3, ?_⟩
   unfold Mach.Th.begun
   split <;> exact Nat.lt_of_not_le h2
  split at h
  ·exact ih h
  ·exact ih h
theorem Good.mono {cs : List Mach.Cl} {t : Mach.Th} {k k' : Nat} (g : Good cs t k) (h : k' ≤ k) : Good cs t k' :=
 ⟨g.calls, g.ok, g.len, g.pc, g.call, g.ans1, g.ans2, fun y hy => by have := g.room y hy; omega⟩
structure PlayOk (f : Nat) (s : Mach.St) (q : List (PT × Mach.Th)) : Prop where
 l : q.map (·.2) = s.l
 tr : s.tr.length ≤ 16384
 good : ∀ y ∈ q, Good y.1.cs y.2 ((16384 - s.tr.length) * (f + 1))
 st : ∀ y ∈ q, Stands y.2
theorem opF_good {cs : List Mach.Cl} {f k : Nat} {w w' : Mach.Wd} {t t' : Mach.Th} (hlt : t.call < cs.length) (g : Good cs t (k + (f + 1))) (hk : k + (f + 1) < 1000000000) (h0 : Mach.told t.next.op = true) (h : Mach.opF f w t = some (w', t')) : Good cs t' k ∧ Stands t' := by
 unfold Mach.opF at h
 split at h
 ·dsimp only at h
  cases h1 : Mach.onF f { t with pc := t.pc + 1, r := (Mach.op1 t.next (w.row t.next.on) t.place t.r).2 } with
  | none => rw [h1] at h; cases h
  | some t1 =>
   rw [h1] at h
   simp only [Option.map_some, Option.some.injEq, Prod.mk.injEq] at h
   obtain ⟨_, rfl⟩ := h
   have hpc : t.pc + 1 < 1000000 := by
    rcases g.next hlt with h | ⟨_, h⟩
    ·rw [h] at h0; cases h0
    ·exact h
   refine ⟨Good.onF (t := { t with pc := t.pc + 1, r := (Mach.op1 t.next (w.row t.next.on) t.place t.r).2 }) (k := k) (f := f) ⟨g.calls, g.ok, g.len, hpc, g.call, g.ans1, g.ans2, fun y hy => by have := g.room y hy; omega⟩ (by omega) h1, onF_stands h1⟩
 ·cases h
theorem turn_ok {f k : Nat} {s s' : Mach.St} {q : List (PT × Mach.Th)} {pt : PT} {t : Mach.Th} (p : PlayOk f s q) (hf : 16384 * (f + 1) + f < 1000000000) (hq : q[k]? = some (pt, t)) (hlt : s.tr.length < 16384) (ho : t.over = false) (h : Mach.turn f s k = some s') :
  ∃ w' t', Mach.opF f s.w t = some (w', t') ∧ s' = ⟨w', s.l.set k t', s.tr ++ [(k, t.mark)]⟩ ∧ PlayOk f s' (q.set k (pt, t')) ∧ Good pt.cs t (f + 1) ∧ t.call < pt.cs.length ∧ Mach.told t.next.op = true := by
 have hm := List.mem_of_getElem? hq
 have g := p.good _ hm
 have hst : Mach.told t.next.op = true ∧ t.call < t.calls.length := by
  rcases p.st _ hm with h | h
  ·rw [ho] at h; cases h
  ·exact h
 have hcl : t.calls = pt.cs := g.calls
 rw [hcl] at hst
 have hl : s.l[k]? = some t := by rw [← p.l, List.getElem?_map, hq]; rfl
 have e1 : (16384 - s.tr.length) * (f + 1) = (16384 - (s.tr.length + 1)) * (f + 1) + (f + 1) := by
  rw [← Nat.succ_mul]; congr 1; omega
 have e2 : (16384 - s.tr.length) * (f + 1) ≤ 16384 * (f + 1) := Nat.mul_le_mul_right _ (by omega)
 unfold Mach.turn at h
 rw [hl] at h
 dsimp only at h
 cases ho1 : Mach.opF f s.w t with
 | none => rw [ho1] at h; cases h
 | some y =>
  obtain ⟨w', t'⟩ := y
  rw [ho1] at h
  cases h
  have g' : Good pt.cs t ((16384 - (s.tr.length + 1)) * (f + 1) + (f + 1)) := by rw [← e1]; exact g
  obtain ⟨g2, st2⟩ := opF_good hst.2 g' (by omega) hst.1 ho1
  refine ⟨w', t', rfl, rfl, ⟨?_, ?_, ?_, ?_⟩, g.mono (by omega), hst.2, hst.1⟩
  ·show (q.set k (pt, t')).map (·.2) = s.l.set k t'
   rw [List.map_set, p.l]
  ·show (s.tr ++ [(k, t.mark)]).length ≤ 16384
   simp; omega
  ·intro y hy
   show Good y.1.cs y.2 ((16384 - (s.tr ++ [(k, t.mark)]).length) * (f + 1))
   rw [List.length_append, List.length_cons, List.length_nil]
   rcases List.mem_or_eq_of_mem_set hy with h | rfl
   ·exact (p.good y h).mono (by show (16384 - (s.tr.length + 1)) * (f + 1) ≤ _; omega)
   ·exact g2
  ·intro y hy
   rcases List.mem_or_eq_of_mem_set hy with h | rfl
   ·exact p.st y h
   ·exact st2
theorem byOrder_full {f : Nat} {s : Mach.St} (h : 16384 ≤ s.tr.length) : ∀ o, Mach.byOrder f s o = some s := by
 intro o
 induction o with
 | nil => rfl
 | cons k o ih =>
  cases k with
  | none => exact ih
  | some k =>
   unfold Mach.byOrder
   rw [if_neg (by unfold Mach.may; simp; intro h1; omega)]
   exact ih
theorem may_true {s : Mach.St} {k : Nat} {t : Mach.Th} (h1 : s.tr.length < 16384) (h2 : s.l[k]? = some t) (h3 : t.over = false) : Mach.may s k = true := by
 unfold Mach.may; rw [h2]; simp [h1, h3]
theorem may_over {s : Mach.St} {k : Nat} {t : Mach.Th} (h2 : s.l[k]? = some t) (h3 : t.over = true) : Mach.may s k = false := by
 unfold Mach.may; rw [h2]; simp [h3]
theorem may_none {s : Mach.St} {k : Nat} (h2 : s.l[k]? = none) : Mach.may s k = false := by
 unfold Mach.may; rw [h2]; simp
theorem may_full {s : Mach.St} {k : Nat} (h : 16384 ≤ s.tr.length) : Mach.may s k = false := by
 unfold Mach.may; simp; intro h1; omega
def playInv3 {B : Hand} (b6 b8 wb pb : Nat) (ov tv lv : Value) (pts : List PT) (f : Nat) (oN : List (Option Nat)) (s1 : Mach.St) (x : B.X) (F : List HProp) : Inv (Nat × Value × Mach.St × List (PT × Mach.Th)) B.X where
 e := fun i => [(1, ov), (2, tv), (6, .pointer (some ⟨b6, 0, none⟩)), (8, .pointer (some ⟨b8, 0, none⟩)), (9, .pointer (some ⟨wb, 0, none⟩)), (10, lv), (13, .pointer (some ⟨pb, 0, none⟩)), (14, .int .i64 (i.1 : Nat))]
 L := fun i => arr pb 0 [i.2.1, .slice none 0 0] :: vec 3 i.2.1 (i.2.2.1.tr.map trC).flatten :: vec 1 lv (i.2.2.2.map ptrK) :: all (i.2.2.2.map thK) :: wdC wb i.2.2.1.w :: F
 x := fun _ => x
 ok := fun i => i.1 ≤ oN.length ∧ Mach.byOrder f i.2.2.1 (oN.drop i.1) = some s1 ∧ i.2.2.2.map (·.1) = pts ∧ PlayOk f i.2.2.1 i.2.2.2
def playMid {B : Hand} (b6 b8 wb pb : Nat) (ov tv lv : Value) (pts : List PT) (f : Nat) (s : Mach.St) (x : B.X) (F : List HProp) : Inv (Value × List (PT × Mach.Th)) B.X where
 e := fun _ => [(1, ov), (2, tv), (6, .pointer (some ⟨b6, 0, none⟩)), (8, .pointer (some ⟨b8, 0, none⟩)), (9, .pointer (some ⟨wb, 0, none⟩)), (10, lv), (13, .pointer (some ⟨pb, 0, none⟩))]
 L := fun i => arr pb 0 [i.1, .slice none 0 0] :: vec 3 i.1 (s.tr.map trC).flatten :: vec 1 lv (i.2.map ptrK) :: all (i.2.map thK) :: wdC wb s.w :: F
 x := fun _ => x
 ok := fun i => i.2.map (·.1) = pts ∧ PlayOk f s i.2
variable {B : Hand} [Lets B] {L F G : List HProp} {x : B.X}
theorem tr_len {l : List (Nat × Nat × Nat)} {n : Nat} (h : (l.map trC).flatten.length = n * 3) : n = l.length := by
 rw [flat_len (k := 3) (fun _ => rfl)] at h; omega
end
end Go.Proofs.Ythoefhocecdlhaa
namespace Go.PB.Mach
def St.cut (s : St) : List Nat := (List.range s.l.length).filter fun k => match s.l[k]? with | some t => !t.over | none => false
end Go.PB.Mach
namespace Go.Proofs.Ythoefhocecdlhaa
open Go Go.PB
attribute [local irreducible] Mo Bin Eql Tr Wo Ap
variable {B : Hand} [Lets B] {L F G : List HProp} {x : B.X}
def ansK (y : Value × List (Bool × List Nat)) : HProp := fun h => ∃ al : List (Bool × Value × List Nat), al.map ansOf = y.2 ∧ all [vec 2 y.1 (al.map ansV).flatten, all (al.map ansT)] h
def cI (k : Nat) : Value := .int .i64 (k : Nat)
def playR (x : B.X) (F : List HProp) (st : Mach.St) (v : Value) (L' : List HProp) (x' : B.X) : Prop :=
 ∃ trv cutv ansv wv lv : Value, ∃ os : List (Value × List (Bool × List Nat)), v = .tuple #[.agg #[trv, cutv], ansv, .agg #[wv, lv]] ∧ x' = x ∧ os.map (·.2) = st.l.map (·.ans) ∧
  ∀ h, Star L' h → Star (vec 3 trv (st.tr.map trC).flatten :: vec 1 cutv (st.cut.map cI) :: vec 1 ansv (os.map (·.1)) :: all (os.map ansK) :: wvC wv lv st.w :: F) h
omit [Lets B] in
theorem we_wd {kd : CallKind} {n : Nat} {K : Post B} {e : Env} {z : Z} {c : Code} {wb : Nat} {w : Mach.Wd} (hh : Has L (wdC wb w) F) (k : ∀ wv lv, We Try.prog B kd n c K e z (arr wb 0 [wv, lv] :: wvC wv lv w :: F) x) : We Try.prog B kd n c K e z L x :=
 we_ex hh fun y => we_and .here fun e1 => we_and .here fun e2 => we_star (arr wb 0 [y.1, y.2.1] :: wvC y.1 y.2.1 w :: F) (fun h s => star_map (star_open s) (fun _ z => z) (fun _ z => wv_close (wl := y.2.2) e1 e2 z)) (k y.1 y.2.1)
def cutTo (q : List (PT × Mach.Th)) (k : Nat) : List Nat := (List.range k).filter fun j => match q[j]? with | some y => !y.2.over | none => false
theorem cut_succ {q : List (PT × Mach.Th)} {k : Nat} {y : PT × Mach.Th} (h : q[k]? = some y) : cutTo q (k + 1) = if y.2.over = true then cutTo q k else cutTo q k ++ [k] := by
 by_cases ho : y.2.over = true
 ·rw [if_pos ho]; unfold cutTo; rw [List.range_succ, List.filter_append]; simp [h, ho]
 ·rw [if_neg ho]; unfold cutTo; rw [List.range_succ, List.filter_append]; simp [h, ho]
def outInv (b6 b8 wb pb : Nat) (lv trv : Value) (q : List (PT × Mach.Th)) (x : B.X) (F : List HProp) : Inv (Nat × Value × Value × List (Value × List (Bool × List Nat))) B.X where
 e := fun i => [(6, .pointer (some ⟨b6, 0, none⟩)), (8, .pointer (some ⟨b8, 0, none⟩)), (9, .pointer (some ⟨wb, 0, none⟩)), (10, lv), (13, .pointer (some ⟨pb, 0, none⟩)), (18, i.2.1), (19, .int .i64 (i.1 : Nat))]
 L := fun i => arr pb 0 [trv, i.2.2.1] :: vec 1 i.2.2.1 ((cutTo q i.1).map cI) :: vec 1 i.2.1 (i.2.2.2.map (·.1)) :: all (i.2.2.2.map ansK) :: all ((q.drop i.1).map thK) :: vec 1 lv (q.map ptrK) :: F
 x := fun _ => x
 ok := fun i => i.1 ≤ q.length ∧ i.2.2.2.map (·.2) = (q.take i.1).map fun y => y.2.ans
def outMid (b6 b8 wb pb : Nat) (lv trv ov : Value) (q : List (PT × Mach.Th)) (k : Nat) (x : B.X) (L : List HProp) : Inv Value B.X where
 e := fun _ => [(6, .pointer (some ⟨b6, 0, none⟩)), (8, .pointer (some ⟨b8, 0, none⟩)), (9, .pointer (some ⟨wb, 0, none⟩)), (10, lv), (13, .pointer (some ⟨pb, 0, none⟩)), (18, ov), (19, .int .i64 (k : Nat))]
 L := fun i => arr pb 0 [trv, i] :: vec 1 i ((cutTo q (k + 1)).map cI) :: L
 x := fun _ => x
 ok := fun _ => True
set_option maxHeartbeats 8000000 in
theorem play_tail3 {um : FrameMode} {Q : PB.End → FrameMode → Hp → B.X → Prop} [pkk : Pass (leave Try.prog B 33 .normal Q) ⟨[], um⟩] {b6 b8 wb pb : Nat} {ov0 tv trv : Value} {st : Mach.St} {q : List (PT × Mach.Th)} {qa : Option Addr} {qc : Nat} (hqn : q.length < 1000)
  (hl : q.map (·.2) = st.l) (hqa : qa = none → q.length = 0) (hqa2 : ∀ y, qa = some y → y = ⟨y.block, y.off, none⟩)
  (hQ : ∀ v L' x' h', playR x F st v L' x' → Star L' h' → Q (.ret v) um h' x') :
  We Try.prog B .normal 159 (seqTail 8 ((Try.f33.body).getD .skip)) (leave Try.prog B 33 .normal Q)
   [(1, ov0), (2, tv), (6, .pointer (some ⟨b6, 0, none⟩)), (8, .pointer (some ⟨b8, 0, none⟩)), (9, .pointer (some ⟨wb, 0, none⟩)), (10, .slice qa q.length qc), (13, .pointer (some ⟨pb, 0, none⟩))] ⟨[], um⟩
   (arr pb 0 [trv, .slice none 0 0] :: vec 3 trv (st.tr.map trC).flatten :: vec 1 (.slice qa q.length qc) (q.map ptrK) :: all (q.map thK) :: wdC wb st.w :: arr b6 0 [.slice none 0 0, .slice none 0 0] :: arr b8 0 [.slice none 0 0, .slice none 0 0] :: F) x := by
 obtain ⟨F2, hF2⟩ : ∃ F2, F2 = vec 3 trv (st.tr.map trC).flatten :: wdC wb st.w :: arr b6 0 [.slice none 0 0, .slice none 0 0] :: arr b8 0 [.slice none 0 0, .slice none 0 0] :: F := ⟨_, rfl⟩
 repeat (first | refine we_seq ?_ | (refine wR ?_; try simp only [oS]) | refine wo_nil ?_ | refine wA ?_)
 refine we_block ?_
 refine we_star ((outInv b6 b8 wb pb (.slice qa q.length qc) trv q x F2).L (0, .slice none 0 0, .slice none 0 0, [])) (fun h hs => ?_) ?_
 ·rw [hF2]
  have s1 : Star (arr pb 0 [trv, .slice none 0 0] :: all (q.map thK) :: vec 1 (.slice qa q.length qc) (q.map ptrK) :: vec 3 trv (st.tr.map trC).flatten :: wdC wb st.w :: arr b6 0 [.slice none 0 0, .slice none 0 0] :: arr b8 0 [.slice none 0 0, .slice none 0 0] :: F) h := by
   refine Ent.star ?_ hs
   repeat (first | exact Ent.refl | (apply Ent.take; (repeat (first | exact Has.here | apply Has.there))) | apply Ent.drop)
  exact star_map s1 (fun _ z => z) (fun _ z => vec_nil (vec_nil (star_shut (M := []) z)))
 refine we_loopN (outInv b6 b8 wb pb (.slice qa q.length qc) trv q x F2) (fun i => q.length - i.1) (0, .slice none 0 0, .slice none 0 0, []) ⟨Nat.zero_le _, rfl⟩ ⟨rfl, rfl, rfl, rfl, rfl, rfl, rfl, trivial⟩ .refl rfl ?_
 rintro ⟨k, ov, cutv, os⟩ ⟨hk, hos⟩
 dsimp only [outInv] at hk hos ⊢
 have hosn : os.length = k := by have := congrArg List.length hos; simpa [Nat.min_eq_left hk] using this
 by_cases hc : k < q.length
 ·obtain ⟨⟨pt, t⟩, hqk⟩ : ∃ z, q[k]? = some z := ⟨q[k], by simp [hc]⟩
  obtain ⟨⟨qb, qo, sp⟩, rfl⟩ : ∃ z, qa = some z := by
   cases qa with
   | none => have : q.length = 0 := hqa rfl; omega
   | some z => exact ⟨z, rfl⟩
  cases hqa2 _ rfl
  have hdrop : q.drop k = (pt, t) :: q.drop (k + 1) := by
   rw [List.drop_eq_getElem_cons hc]
   congr 1
   exact Option.some.inj (by rw [← hqk]; simp)
  refine we_star (thK (pt, t) :: arr pb 0 [trv, cutv] :: vec 1 cutv ((cutTo q k).map cI) :: vec 1 ov (os.map (·.1)) :: all (os.map ansK) :: all ((q.drop (k + 1)).map thK) :: vec 1 (.slice (some ⟨qb, qo, none⟩) q.length qc) (q.map ptrK) :: F2) (fun h hs => ?_) ?_
  ·rw [hdrop] at hs
   have s1 : Star (all (thK (pt, t) :: (q.drop (k + 1)).map thK) :: arr pb 0 [trv, cutv] :: vec 1 cutv ((cutTo q k).map cI) :: vec 1 ov (os.map (·.1)) :: all (os.map ansK) :: vec 1 (.slice (some ⟨qb, qo, none⟩) q.length qc) (q.map ptrK) :: F2) h := by
    refine Ent.star ?_ hs
    exact (.take (.there (.there (.there (.there .here)))) .refl)
   have s2 := star_pick (i := 0) (c := thK (pt, t)) rfl s1
   refine Ent.star ?_ s2
   exact (.take .here (.take (.there .here) (.take (.there .here) (.take (.there .here) (.take (.there .here) .refl)))))
  refine we_ex .here fun y => we_and .here fun e1 => we_and .here fun hr => we_open .here ?_
  obtain ⟨av, al⟩ := y
  dsimp only at e1
  refine we_pure (of_has (.there .here) (vec_shape (by omega))) ?_
  rintro ⟨aa, an, ac, hav, _⟩
  dsimp only at hav
  subst hav
  refine we_pure (of_has (.there (.there (.there (.there .here)))) (vec_shape (by omega))) ?_
  rintro ⟨ca, cn, cc, hcv, hcn, _⟩
  subst hcv
  have hcnn : cn = (cutTo q k).length := by simpa using hcn.symm
  have hcl : (cutTo q k).length ≤ k := by unfold cutTo; exact Nat.le_trans (List.length_filter_le _ _) (by simp)
  subst hcnn
  refine we_pure (of_has (.there (.there (.there (.there (.there .here))))) (vec_shape (by omega))) ?_
  rintro ⟨oa, on, oc, hov, hon, _⟩
  subst hov
  have honn : on = os.length := by simpa using hon.symm
  subst honn
  obtain ⟨LL, hLL⟩ : ∃ LL, LL = vec 2 (.slice aa an ac) (al.map ansV).flatten :: all (al.map ansT) :: vec 1 (.slice oa os.length oc) (os.map (·.1)) :: all (os.map ansK) :: all ((q.drop (k + 1)).map thK) :: vec 1 (.slice (some ⟨qb, qo, none⟩) q.length qc) (q.map ptrK) :: F2 := ⟨_, rfl⟩
  refine we_star (arr pb 0 [trv, .slice ca (cutTo q k).length cc] :: vec 1 (.slice ca (cutTo q k).length cc) ((cutTo q k).map cI) :: arr pt.tb 0 (thCells pt.cv t (.slice aa an ac)) :: LL) (fun h hs => ?_) ?_
  ·rw [hLL]
   refine Ent.star ?_ hs
   exact (.take (.there (.there (.there .here))) (.take (.there (.there (.there .here))) .refl))
  have hptr : ∀ d1 d2 d3 : HProp, Rd (d1 :: d2 :: d3 :: LL) qb (qo + k) (.pointer (some ⟨pt.tb, 0, none⟩)) := fun d1 d2 d3 => by rw [hLL]; exact rd_vec (.there (.there (.there (.there (.there (.there (.there (.there .here)))))))) (by rw [List.getElem?_map, hqk]; rfl)
  have hover : ∀ d1 d2 : HProp, Rd (d1 :: d2 :: arr pt.tb 0 (thCells pt.cv t (.slice aa an ac)) :: LL) pt.tb 28 (.bool t.over) := fun d1 d2 => .there (.there (Rd.row0 rfl))
  have hansv : ∀ d1 d2 : HProp, Rd (d1 :: d2 :: arr pt.tb 0 (thCells pt.cv t (.slice aa an ac)) :: LL) pt.tb 27 (.slice aa an ac) := fun d1 d2 => .there (.there (Rd.row0 rfl))
  repeat (first | refine wlssT ?_ | refine we_seq ?_ | (refine wR ?_; try simp only [oS]) | refine wo_nil ?_ | refine wM ?_ | refine wE ?_ | refine wT ?_ | refine we_skip ?_)
  refine we_block ?_
  refine we_seq ?_
  refine we_join (outMid b6 b8 wb pb (.slice (some ⟨qb, qo, none⟩) q.length qc) trv (.slice oa os.length oc) q k x (arr pt.tb 0 (thCells pt.cv t (.slice aa an ac)) :: LL)) ?_ ?_
  ·have hcs := cut_succ hqk
   cases hto : t.over with
   | true =>
    rw [hto] at hover
    rw [if_pos hto] at hcs
    repeat (first | (apply wo_po; apply mo_index1; exact rfl; exact rfl; omega; exact trivial) | (apply wo_po; apply mo_load; exact rfl; exact hptr _ _ _; exact trivial) | (apply wo_po; apply mo_load; exact rfl; exact hover _ _; exact trivial) | refine we_seq ?_ | (refine wR ?_; try simp only [oS]) | refine wo_nil ?_ | refine wM ?_ | refine wN ?_ | refine wD ?_ | (apply wo_po; apply mo_not; exact rfl; exact gY) | refine wF ?_ | refine we_skip ?_)
    refine at_mid (I := outMid b6 b8 wb pb (.slice (some ⟨qb, qo, none⟩) q.length qc) trv (.slice oa os.length oc) q k x (arr pt.tb 0 (thCells pt.cv t (.slice aa an ac)) :: LL)) (.slice ca (cutTo q k).length cc) trivial ⟨rfl, rfl, rfl, rfl, rfl, rfl, rfl, trivial⟩ (ent_eq ?_) rfl
    dsimp only [outMid]
    rw [hcs]
   | false =>
    rw [hto] at hover
    rw [if_neg (by simp [hto])] at hcs
    repeat (first | (apply wo_po; apply mo_index1; exact rfl; exact rfl; omega; exact trivial) | (apply wo_po; apply mo_load; exact rfl; exact hptr _ _ _; exact trivial) | (apply wo_po; apply mo_load; exact rfl; exact hover _ _; exact trivial) | (apply wo_mo; apply mo_buildSlice (sz := 1) (vs := [cI k]); exact rfl; exact .cons rfl .nil; exact rfl; (intro v hv; cases (List.mem_singleton.1 hv); exact rfl); omega; exact trivial) | refine we_seq ?_ | (refine wR ?_; try simp only [oS]) | refine wo_nil ?_ | refine wM ?_ | refine wN ?_ | refine wD ?_ | (apply wo_po; apply mo_not; exact rfl; exact gY) | refine wL ?_ | refine wT ?_)
    rintro v' L' ⟨sb, rfl, rfl⟩
    repeat (first | (apply wo_mo; apply mo_append (sz := 1) (new := [cI k]); exact rfl; exact rfl; exact rfl; exact rfl; exact (.there (.there .here)); exact rfl; exact .inr ⟨_, _, rfl, Rds.all .here⟩; (intro v hv; cases (List.mem_singleton.1 hv); exact rfl); (simp only [sliceLen]; omega); exact trivial))
    rintro v' L' rfl
    refine wo_pure (of_has .here (vec_shape (by omega))) ?_
    rintro ⟨ua, un, uc, rfl, _⟩
    repeat (first | refine wS ?_ | refine wo_nil ?_ | refine wD ?_)
    refine at_mid (I := outMid b6 b8 wb pb (.slice (some ⟨qb, qo, none⟩) q.length qc) trv (.slice oa os.length oc) q k x (arr pt.tb 0 (thCells pt.cv t (.slice aa an ac)) :: LL)) (.slice ua un uc) trivial ⟨rfl, rfl, rfl, rfl, rfl, rfl, rfl, trivial⟩ ?_ rfl
    dsimp only [outMid]
    rw [hcs, show (cutTo q k ++ [k]).map cI = (cutTo q k).map cI ++ [cI k] by simp]
    exact (.take (.there (.there .here)) (.take .here (.drop .refl)))
  ·intro cutv2 _
   dsimp only [outMid]
   repeat (first | (apply wo_po; apply mo_index1; exact rfl; exact rfl; omega; exact trivial) | (apply wo_po; apply mo_load; exact rfl; exact hptr _ _ _; exact trivial) | (apply wo_po; apply mo_load; exact rfl; exact hansv _ _; exact trivial) | (apply wo_mo; apply mo_buildSlice (sz := 1) (vs := [.slice aa an ac]); exact rfl; exact .cons rfl .nil; exact rfl; (intro v hv; cases (List.mem_singleton.1 hv); exact rfl); omega; exact trivial) | (refine wR ?_; try simp only [oS]) | refine wM ?_ | refine wN ?_ | refine wD ?_)
   rintro v' L' ⟨sb, rfl, rfl⟩
   refine wo_ent (arr sb 0 [.slice aa an ac] :: arr pb 0 [trv, cutv2] :: vec 1 cutv2 ((cutTo q (k + 1)).map cI) :: arr pt.tb 0 (thCells pt.cv t (.slice aa an ac)) :: vec 2 (.slice aa an ac) (al.map ansV).flatten :: all (al.map ansT) :: vec 1 (.slice oa os.length oc) (os.map (·.1)) :: all (os.map ansK) :: all ((q.drop (k + 1)).map thK) :: vec 1 (.slice (some ⟨qb, qo, none⟩) q.length qc) (q.map ptrK) :: F2) (ent_eq (by rw [hLL]; rfl)) ?_
   repeat (first | (apply wo_mo; apply mo_append (sz := 1) (new := [.slice aa an ac]); exact rfl; exact rfl; exact rfl; exact rfl; exact (.there (.there (.there (.there (.there (.there .here)))))); exact rfl; exact .inr ⟨_, _, rfl, Rds.all .here⟩; (intro v hv; cases (List.mem_singleton.1 hv); exact rfl); (simp only [sliceLen]; omega); exact trivial))
   rintro v' L' rfl
   repeat (first | (refine wR ?_; try simp only [oS]) | refine wo_nil ?_ | refine wM ?_ | refine wA ?_ | refine wadd ?_)
   refine at_roundS (I := outInv b6 b8 wb pb (.slice (some ⟨qb, qo, none⟩) q.length qc) trv q x F2) (R := fun i' => q.length - i'.1 < q.length - k) (k + 1, v', cutv2, os ++ [(.slice aa an ac, t.ans)]) (by simp only; omega) ⟨by simp only; omega, ?_⟩ ⟨rfl, rfl, rfl, rfl, rfl, rfl, rfl, trivial⟩ (fun h hs => ?_) rfl
   ·simp only [List.map_append, List.map_cons, List.map_nil, hos]
    rw [List.take_add_one, hqk, List.map_append]; rfl
   ·dsimp only [outInv]
    rw [List.map_append, List.map_append]
    have s1 : Star (vec 2 (.slice aa an ac) (al.map ansV).flatten :: all (al.map ansT) :: all (os.map ansK) :: arr pb 0 [trv, cutv2] :: vec 1 cutv2 ((cutTo q (k + 1)).map cI) :: vec 1 v' (os.map (·.1) ++ [.slice aa an ac]) :: all ((q.drop (k + 1)).map thK) :: vec 1 (.slice (some ⟨qb, qo, none⟩) q.length qc) (q.map ptrK) :: F2) h := by
     refine Ent.star ?_ hs
     exact (.take (.there (.there (.there (.there (.there .here))))) (.take (.there (.there (.there (.there (.there .here))))) (.take (.there (.there (.there (.there (.there .here))))) (.take (.there (.there .here)) (.take (.there (.there .here)) (.take .here (.take (.there (.there .here)) (.take (.there (.there .here)) (.drop (.drop .refl))))))))))
    have s2 : Star (ansK (.slice aa an ac, t.ans) :: all (os.map ansK) :: _) h := star_map (star_shut (M := [_, _]) s1) (fun _ z => ⟨al, e1, z⟩) (fun _ z => z)
    have s3 := star_push s2
    refine Ent.star ?_ s3
    exact (.take (.there .here) (.take (.there .here) (.take (.there .here) (.take .here .refl))))
 ·have hk2 : k = q.length := by omega
  subst hk2
  rw [List.take_length] at hos
  repeat (first | refine wlssF ?_ | refine we_seq ?_ | (refine wR ?_; try simp only [oS]) | refine wo_nil ?_ | refine wM ?_ | refine wE ?_ | refine wF ?_ | refine we_exit ?_)
  subst hF2
  refine we_pure (of_has (.there (.there (.there (.there (.there (.there .here)))))) (vec_shape (by omega))) ?_
  rintro ⟨ra, rn, rc, rfl, _⟩
  refine we_pure (of_has (.there .here) (vec_shape (by omega))) ?_
  rintro ⟨ca, cn, cc, rfl, _⟩
  refine we_wd (wb := wb) (w := st.w) (.there (.there (.there (.there (.there (.there (.there .here))))))) fun wv lv => ?_
  refine we_pure (of_has (.there .here) wv_shape) ?_
  rintro ⟨⟨wa, wn, wc, rfl⟩, la, ln, lc, rfl⟩
  obtain ⟨F3, hF3⟩ : ∃ F3, F3 = wvC (.slice wa wn wc) (.slice la ln lc) st.w :: vec 1 (.slice ca cn cc) ((cutTo q q.length).map cI) :: vec 1 ov (os.map (·.1)) :: all (os.map ansK) :: vec 3 (.slice ra rn rc) (st.tr.map trC).flatten :: F := ⟨_, rfl⟩
  refine we_star (arr wb 0 [.slice wa wn wc, .slice la ln lc] :: arr pb 0 [.slice ra rn rc, .slice ca cn cc] :: arr b6 0 [.slice none 0 0, .slice none 0 0] :: arr b8 0 [.slice none 0 0, .slice none 0 0] :: F3) (fun h hs => ?_) ?_
  ·rw [hF3]
   refine Ent.star ?_ hs
   exact (.take .here (.take (.there .here) (.take (.there (.there (.there (.there (.there (.there (.there .here))))))) (.take (.there (.there (.there (.there (.there (.there (.there .here))))))) (.take .here (.take .here (.take .here (.take .here (.take (.there (.there .here)) (.drop (.drop .refl)))))))))))
  have hrp : ∀ {F3 : List HProp}, Rds (arr wb 0 [.slice wa wn wc, .slice la ln lc] :: arr pb 0 [.slice ra rn rc, .slice ca cn cc] :: F3) pb 0 [.slice ra rn rc, .slice ca cn cc] := fun {F3} => Rds.all (.there .here)
  have hrw : ∀ {F3 : List HProp}, Rds (arr wb 0 [.slice wa wn wc, .slice la ln lc] :: F3) wb 0 [.slice wa wn wc, .slice la ln lc] := fun {F3} => Rds.all .here
  refine we_draw (List.range' 0 6) (by kernel_rfl) ?_
  repeat (first | (apply ap_read; exact rfl; exact rfl; exact trivial; apply mo_loadA (vs := [.slice ra rn rc, .slice ca cn cc]); exact rfl; exact rfl; exact hrp) | (apply ap_read; exact rfl; exact rfl; exact trivial; apply mo_loadA (vs := [.slice wa wn wc, .slice la ln lc]); exact rfl; exact rfl; exact hrw) | refine aM ?_)
  refine ap_loudR rfl rfl rfl rfl trivial (mo_storeA (c := 0) (k := 0) (a := 0) (vs := [.slice none 0 0, .slice none 0 0]) rfl rfl rfl (by intro w hw; simp [Value.cells] at hw; rcases hw with rfl | rfl <;> rfl) rfl (Nat.le_refl 2) (.there (.there .here))) ?_ ?_
  ·rintro v L' ⟨rfl, rfl⟩ p hp
   replace hp := (List.mem_filter.1 hp).1
   simp only [List.mem_cons, List.not_mem_nil, or_false] at hp
   rcases hp with rfl | rfl | rfl <;> first | exact .inl rfl | exact .inr ⟨_, rfl, trivial, mo_loadA (vs := [.slice wa wn wc, .slice la ln lc]) rfl rfl hrw⟩ | exact .inr ⟨_, rfl, trivial, mo_loadA (vs := [.slice ra rn rc, .slice ca cn cc]) rfl rfl hrp⟩
  rintro v' L' ⟨rfl, rfl⟩
  repeat (first | refine aA ?_)
  refine ap_loud rfl rfl rfl rfl rfl trivial (mo_storeA (c := 0) (k := 0) (a := 0) (vs := [.slice none 0 0, .slice none 0 0]) rfl rfl rfl (by intro w hw; simp [Value.cells] at hw; rcases hw with rfl | rfl <;> rfl) rfl (Nat.le_refl 2) (.there (.there (.there .here)))) ?_
  rintro v' L' ⟨rfl, rfl⟩
  refine ap_end ?_
  repeat (first | refine we_ret ?_)
  refine at_leaveM (rs := [.cell 6 81, .tmp 7, .cell 8 48]) Try.func33 Try.results33 hQ (.inl rfl) (.cons (.cell (vs := [.slice ra rn rc, .slice ca cn cc]) rfl rfl (Rds.all (.there (.there .here)))) (.cons (.tmp rfl) (.cons (.cell (vs := [.slice wa wn wc, .slice la ln lc]) rfl rfl (Rds.all (.there (.there (.there .here))))) .nil))) ?_
  refine ⟨.slice ra rn rc, .slice ca cn cc, ov, .slice wa wn wc, .slice la ln lc, os, rfl, rfl, ?_, fun h hs => ?_⟩
  ·rw [hos, ← hl, List.map_map]; rfl
  ·have hcut : cutTo q q.length = st.cut := by
    unfold cutTo Mach.St.cut
    rw [← hl, List.length_map]
    congr 1
    funext j
    rw [List.getElem?_map]
    cases q[j]? <;> rfl
   rw [hF3, hcut] at hs
   refine Ent.star ?_ hs
   exact (.take (.there (.there (.there (.there (.there (.there (.there (.there .here)))))))) (.take (.there (.there (.there (.there (.there .here))))) (.take (.there (.there (.there (.there (.there .here))))) (.take (.there (.there (.there (.there (.there .here))))) (.take (.there (.there (.there (.there .here)))) (.drop (.drop (.drop (.drop .refl)))))))))
end Go.Proofs.Ythoefhocecdlhaa
namespace Go.Proofs.Ythoefhocecdlhaa
open Go Go.PB
attribute [local irreducible] Mo Bin Eql Tr Wo Ap
section
variable {B : Hand} [Lets B] {L F G : List HProp} {x : B.X}
theorem round_full {f : Nat} {s : Mach.St} {b : Bool} (h : 16384 ≤ s.tr.length) : ∀ m k, Mach.round f m k s b = some (s, b) := by
 intro m
 induction m with
 | zero => intro k; rfl
 | succ m ih =>
  intro k
  unfold Mach.round
  rw [may_full h, if_neg (by decide)]
  exact ih (k + 1)
def rndInv (b6 b8 wb pb : Nat) (ov tv lv : Value) (pts : List PT) (f : Nat) (st : Mach.St) (x : B.X) (F : List HProp) : Inv (Nat × Bool × Value × Mach.St × List (PT × Mach.Th)) B.X where
 e := fun i => [(1, ov), (2, tv), (6, .pointer (some ⟨b6, 0, none⟩)), (8, .pointer (some ⟨b8, 0, none⟩)), (9, .pointer (some ⟨wb, 0, none⟩)), (10, lv), (13, .pointer (some ⟨pb, 0, none⟩)), (16, .bool i.2.1)]
 L := fun i => arr pb 0 [i.2.2.1, .slice none 0 0] :: vec 3 i.2.2.1 (i.2.2.2.1.tr.map trC).flatten :: vec 1 lv (i.2.2.2.2.map ptrK) :: all (i.2.2.2.2.map thK) :: wdC wb i.2.2.2.1.w :: F
 x := fun _ => x
 ok := fun i => (if i.2.1 = true then Mach.rounds f i.1 i.2.2.2.1 = some st else i.2.2.2.1 = st) ∧ i.2.2.2.2.map (·.1) = pts ∧ PlayOk f i.2.2.2.1 i.2.2.2.2
def rndIn (b6 b8 wb pb : Nat) (ov tv lv : Value) (pts : List PT) (f : Nat) (r : Mach.St × Bool) (x : B.X) (F : List HProp) : Inv (Nat × Bool × Value × Mach.St × List (PT × Mach.Th)) B.X where
 e := fun i => [(1, ov), (2, tv), (6, .pointer (some ⟨b6, 0, none⟩)), (8, .pointer (some ⟨b8, 0, none⟩)), (9, .pointer (some ⟨wb, 0, none⟩)), (10, lv), (13, .pointer (some ⟨pb, 0, none⟩)), (16, .bool i.2.1), (17, .int .i64 (i.1 : Nat))]
 L := fun i => arr pb 0 [i.2.2.1, .slice none 0 0] :: vec 3 i.2.2.1 (i.2.2.2.1.tr.map trC).flatten :: vec 1 lv (i.2.2.2.2.map ptrK) :: all (i.2.2.2.2.map thK) :: wdC wb i.2.2.2.1.w :: F
 x := fun _ => x
 ok := fun i => i.1 ≤ pts.length ∧ Mach.round f (pts.length - i.1) i.1 i.2.2.2.1 i.2.1 = some r ∧ i.2.2.2.2.map (·.1) = pts ∧ PlayOk f i.2.2.2.1 i.2.2.2.2
set_option maxHeartbeats 8000000 in
theorem play_tail2 {um : FrameMode} {Q : PB.End → FrameMode → Hp → B.X → Prop} [pkk : Pass (leave Try.prog B 33 .normal Q) ⟨[], um⟩] {b6 b8 wb pb : Nat} {ov0 tv trv : Value} {st s1 : Mach.St} {cc : Calls} {f g : Nat} {pts : List PT} {q : List (PT × Mach.Th)} {qa : Option Addr} {qc : Nat}
  (hp : Mach.rounds f g s1 = some st) (hf : 16384 * (f + 1) + f < 1000000000) (hcc : CallsOk F cc) (hpc : pts.map (fun p => (p.cw, p.cs)) = cc) (hq1 : q.map (·.1) = pts) (pk : PlayOk f s1 q) (hqa : qa = none → q.length = 0) (hqa2 : ∀ y, qa = some y → y = ⟨y.block, y.off, none⟩)
  (hQ : ∀ v L' x' h', playR x F st v L' x' → Star L' h' → Q (.ret v) um h' x') :
  We Try.prog B .normal 159 (seqTail 7 ((Try.f33.body).getD .skip)) (leave Try.prog B 33 .normal Q)
   [(1, ov0), (2, tv), (6, .pointer (some ⟨b6, 0, none⟩)), (8, .pointer (some ⟨b8, 0, none⟩)), (9, .pointer (some ⟨wb, 0, none⟩)), (10, .slice qa q.length qc), (13, .pointer (some ⟨pb, 0, none⟩))] ⟨[], um⟩
   (arr pb 0 [trv, .slice none 0 0] :: vec 3 trv (s1.tr.map trC).flatten :: vec 1 (.slice qa q.length qc) (q.map ptrK) :: all (q.map thK) :: wdC wb s1.w :: arr b6 0 [.slice none 0 0, .slice none 0 0] :: arr b8 0 [.slice none 0 0, .slice none 0 0] :: F) x := by
 have hcn := hcc.n
 have hpn : pts.length = cc.length := by rw [← hpc, List.length_map]
 have hqn : q.length = pts.length := by rw [← hq1, List.length_map]
 obtain ⟨R2, hR2⟩ : ∃ R2, R2 = arr b6 0 [.slice none 0 0, .slice none 0 0] :: arr b8 0 [.slice none 0 0, .slice none 0 0] :: F := ⟨_, rfl⟩
 have hcc2 : CallsOk R2 cc := by rw [hR2]; exact hcc.there.there
 rw [← hR2, hqn]
 rw [hqn] at hqa
 repeat (first | refine we_seq ?_ | (refine wR ?_; try simp only [oS]) | refine wo_nil ?_ | refine wA ?_)
 refine we_join (playMid b6 b8 wb pb ov0 tv (.slice qa pts.length qc) pts f st x R2) ?_ ?_
 ·refine we_block ?_
  refine we_loopN (rndInv b6 b8 wb pb ov0 tv (.slice qa pts.length qc) pts f st x R2) (fun i => if i.2.1 = true then i.1 + 1 else 0) (g, true, trv, s1, q) ⟨by rw [if_pos rfl]; exact hp, hq1, pk⟩ ⟨rfl, rfl, rfl, rfl, rfl, rfl, rfl, rfl, trivial⟩ .refl rfl ?_
  clear hp hq1 pk hqn q s1 trv
  rintro ⟨g, left, trv, s, q⟩ ⟨hg, hq1, pk⟩
  dsimp only [rndInv] at hg hq1 pk ⊢
  cases left with
  | false =>
   rw [if_neg (by decide)] at hg
   subst hg
   repeat (first | refine we_seq ?_ | (refine wR ?_; try simp only [oS]) | refine wo_nil ?_ | refine wM ?_ | refine wF ?_ | refine we_exit ?_)
   refine at_mid (I := playMid b6 b8 wb pb ov0 tv (.slice qa pts.length qc) pts f s x R2) (trv, q) ⟨hq1, pk⟩ ⟨rfl, rfl, rfl, rfl, rfl, rfl, rfl, trivial⟩ .refl rfl
  | true =>
   rw [if_pos rfl] at hg
   obtain ⟨g, rfl⟩ : ∃ g', g = g' + 1 := by
    cases g with
    | zero => cases hg
    | succ g => exact ⟨g, rfl⟩
   have hsl : s.l.length = pts.length := by rw [← pk.l, List.length_map, ← hq1, List.length_map]
   unfold Mach.rounds at hg
   cases hr : Mach.round f s.l.length 0 s false with
   | none => rw [hr] at hg; cases hg
   | some r =>
   rw [hr, Option.bind_some] at hg
   rw [hsl] at hr
   repeat (first | refine we_seq ?_ | (refine wR ?_; try simp only [oS]) | refine wo_nil ?_ | refine wM ?_ | refine wT ?_ | refine we_skip ?_)
   refine we_block ?_
   repeat (first | refine we_seq ?_ | (refine wR ?_; try simp only [oS]) | refine wo_nil ?_ | refine wA ?_)
   refine we_block ?_
   refine we_loopN (rndIn b6 b8 wb pb ov0 tv (.slice qa pts.length qc) pts f r x R2) (fun i => pts.length - i.1) (0, false, trv, s, q) ⟨Nat.zero_le _, hr, hq1, pk⟩ ⟨rfl, rfl, rfl, rfl, rfl, rfl, rfl, rfl, rfl, trivial⟩ .refl rfl ?_
   clear hr hq1 pk hsl q s trv
   rintro ⟨k, left, trv, s, q⟩ ⟨hk, hr, hq1, pk⟩
   dsimp only [rndIn] at hk hr hq1 pk ⊢
   have hqn : q.length = pts.length := by rw [← hq1, List.length_map]
   have htr := pk.tr
   refine we_pure (of_has (.there .here) (vec_shape (by omega))) ?_
   rintro ⟨ra, rn, rc, rfl, hrn, _⟩
   have hrnn := tr_len hrn
   subst hrnn
   by_cases hc : k < pts.length
   ·by_cases hc2 : s.tr.length < 16384
    ·obtain ⟨⟨pt, t⟩, hqk⟩ : ∃ z, q[k]? = some z := ⟨q[k], by simp⟩
     have hlk : s.l[k]? = some t := by rw [← pk.l, List.getElem?_map, hqk]; rfl
     obtain ⟨⟨qb, qo, sp⟩, rfl⟩ : ∃ z, qa = some z := by
      cases qa with
      | none => have : pts.length = 0 := hqa rfl; omega
      | some z => exact ⟨z, rfl⟩
     cases hqa2 _ rfl
     have hpt : pts[k]? = some pt := by rw [← hq1, List.getElem?_map, hqk]; rfl
     have hccm : (pt.cw, pt.cs) ∈ cc := by rw [← hpc]; exact List.mem_map.2 ⟨pt, List.mem_of_getElem? hpt, rfl⟩
     rw [show pts.length - k = (pts.length - (k + 1)) + 1 by omega] at hr
     unfold Mach.round at hr
     refine we_star (thK (pt, t) :: arr pb 0 [.slice ra s.tr.length rc, .slice none 0 0] :: vec 3 (.slice ra s.tr.length rc) (s.tr.map trC).flatten :: vec 1 (.slice (some ⟨qb, qo, none⟩) pts.length qc) (q.map ptrK) :: all ((q.map thK).eraseIdx k) :: wdC wb s.w :: R2) (fun h st => ?_) ?_
     ·have s1 : Star (all (q.map thK) :: arr pb 0 [.slice ra s.tr.length rc, .slice none 0 0] :: vec 3 (.slice ra s.tr.length rc) (s.tr.map trC).flatten :: vec 1 (.slice (some ⟨qb, qo, none⟩) pts.length qc) (q.map ptrK) :: wdC wb s.w :: R2) h := by
       refine Ent.star ?_ st
       repeat (first | exact Ent.refl | (apply Ent.take; (repeat (first | exact Has.here | apply Has.there))) | apply Ent.drop)
      have s2 := star_pick (i := k) (c := thK (pt, t)) (by rw [List.getElem?_map, hqk]; rfl) s1
      refine Ent.star ?_ s2
      exact (.take .here (.take (.there .here) (.take (.there .here) (.take (.there .here) (.take .here .refl)))))
     refine we_ex .here fun y => we_and .here fun e1 => we_and .here fun hr2 => we_open .here ?_
     obtain ⟨av, al⟩ := y
     refine we_ent (arr pt.tb 0 (thCells pt.cv t av) :: vec 2 av (al.map ansV).flatten :: all (al.map ansT) :: arr pb 0 [.slice ra s.tr.length rc, .slice none 0 0] :: vec 3 (.slice ra s.tr.length rc) (s.tr.map trC).flatten :: vec 1 (.slice (some ⟨qb, qo, none⟩) pts.length qc) (q.map ptrK) :: all ((q.map thK).eraseIdx k) :: wdC wb s.w :: R2) .refl ?_
     have hpv : Rd (arr pt.tb 0 (thCells pt.cv t av) :: vec 2 av (al.map ansV).flatten :: all (al.map ansT) :: arr pb 0 [.slice ra s.tr.length rc, .slice none 0 0] :: vec 3 (.slice ra s.tr.length rc) (s.tr.map trC).flatten :: vec 1 (.slice (some ⟨qb, qo, none⟩) pts.length qc) (q.map ptrK) :: all ((q.map thK).eraseIdx k) :: wdC wb s.w :: R2) qb (qo + k) (.pointer (some ⟨pt.tb, 0, none⟩)) := rd_vec (.there (.there (.there (.there (.there .here))))) (by rw [List.getElem?_map, hqk]; rfl)
     have hov : Rd (arr pt.tb 0 (thCells pt.cv t av) :: vec 2 av (al.map ansV).flatten :: all (al.map ansT) :: arr pb 0 [.slice ra s.tr.length rc, .slice none 0 0] :: vec 3 (.slice ra s.tr.length rc) (s.tr.map trC).flatten :: vec 1 (.slice (some ⟨qb, qo, none⟩) pts.length qc) (q.map ptrK) :: all ((q.map thK).eraseIdx k) :: wdC wb s.w :: R2) pt.tb 28 (.bool t.over) := Rd.row0 rfl
     cases hto : t.over with
     | true =>
      rw [hto] at hov
      rw [if_neg (by rw [may_over hlk hto]; decide)] at hr
      repeat (first | (apply wo_po; apply mo_index1; exact rfl; exact rfl; omega; exact gY) | (apply wo_po; apply mo_load; exact rfl; exact hpv; exact gY) | (apply wo_po; apply mo_load; exact rfl; exact hov; exact gY) | refine wlssT ?_ | refine we_seq ?_ | (refine wR ?_; try simp only [oS]) | refine wo_nil ?_ | refine wM ?_ | refine wA ?_ | refine wK ?_ | refine wN ?_ | refine wD ?_ | (apply wo_po; apply mo_not; exact rfl; exact gY) | refine wL ?_ | refine wadd ?_ | refine wE ?_ | refine wT ?_ | refine wF ?_ | refine we_skip ?_ | refine we_block ?_)
      refine at_roundS (I := rndIn b6 b8 wb pb ov0 tv (.slice (some ⟨qb, qo, none⟩) pts.length qc) pts f r x R2) (R := fun i' => pts.length - i'.1 < pts.length - k) (k + 1, left, .slice ra s.tr.length rc, s, q) (by simp only; omega) ⟨by simp only; omega, hr, hq1, pk⟩ ⟨rfl, rfl, rfl, rfl, rfl, rfl, rfl, rfl, rfl, trivial⟩ (fun h st => ?_) rfl
      dsimp only [rndIn]
      have s1 := th_close (y := (av, al)) e1 hr2 st
      have s2 : Star (thK (pt, t) :: all ((q.map thK).eraseIdx k) :: arr pb 0 [.slice ra s.tr.length rc, .slice none 0 0] :: vec 3 (.slice ra s.tr.length rc) (s.tr.map trC).flatten :: vec 1 (.slice (some ⟨qb, qo, none⟩) pts.length qc) (q.map ptrK) :: wdC wb s.w :: R2) h := by
       refine Ent.star ?_ s1
       exact (.take .here (.take (.there (.there (.there .here))) .refl))
      have s3 := star_put (M := q.map thK) (by simp; omega) s2
      rw [set_same (by rw [List.getElem?_map, hqk]; rfl)] at s3
      refine Ent.star ?_ s3
      exact (.take (.there .here) (.take (.there .here) (.take (.there .here) (.take .here .refl))))
     | false =>
      rw [hto] at hov
      rw [if_pos (may_true hc2 hlk hto)] at hr
      cases htn : Mach.turn f s k with
      | none => rw [htn] at hr; cases hr
      | some s' =>
      rw [htn, Option.bind_some] at hr
      obtain ⟨w', t', hop, rfl, pk', hgood, hcl, htold⟩ := turn_ok pk hf hqk hc2 hto htn
      repeat (first | (apply wo_po; apply mo_index1; exact rfl; exact rfl; omega; exact gY) | (apply wo_po; apply mo_load; exact rfl; exact hpv; exact gY) | (apply wo_po; apply mo_load; exact rfl; exact hov; exact gY) | refine wlssT ?_ | refine we_seq ?_ | (refine wR ?_; try simp only [oS]) | refine wo_nil ?_ | refine wM ?_ | refine wK ?_ | refine wN ?_ | refine wD ?_ | (apply wo_po; apply mo_not; exact rfl; exact gY) | refine wL ?_ | refine wE ?_ | refine wT ?_ | refine we_skip ?_ | refine we_block ?_)
      obtain ⟨GG, hGG⟩ : ∃ GG, GG = arr pb 0 [.slice ra s.tr.length rc, .slice none 0 0] :: vec 3 (.slice ra s.tr.length rc) (s.tr.map trC).flatten :: vec 1 (.slice (some ⟨qb, qo, none⟩) pts.length qc) (q.map ptrK) :: all ((q.map thK).eraseIdx k) :: R2 := ⟨_, rfl⟩
      have hobs : Obs GG (codeC pt.cw pt.cs) := by rw [hGG]; exact (hcc2.obs _ hccm).there.there.there.there
      have hptr : ∀ d1 d2 : HProp, Rd (d1 :: d2 :: GG) qb (qo + k) (.pointer (some ⟨pt.tb, 0, none⟩)) := fun d1 d2 => by rw [hGG]; exact rd_vec (.there (.there (.there (.there .here)))) (by rw [List.getElem?_map, hqk]; rfl)
      have htrv : ∀ d1 d2 : HProp, Rd (d1 :: d2 :: GG) pb 0 (.slice ra s.tr.length rc) := fun d1 d2 => by rw [hGG]; exact .there (.there (Rd.row0 rfl))
      refine we_star (thC pt.tb (pt.cw.v pt.cs.length) t :: wdC wb s.w :: GG) (fun h st => ?_) ?_
      ·rw [hGG]
       have s1 := th_close (y := (av, al)) e1 hr2 st
       refine Ent.star ?_ s1
       exact (.take .here (.take (.there (.there (.there (.there .here)))) .refl))
      refine we_draw (List.range' 0 13) (by kernel_rfl) ?_
      repeat (first | (apply ap_pure; exact rfl; exact rfl; exact trivial; intro L; apply mo_index1; exact rfl; exact rfl; exact hc) | (apply ap_read; exact rfl; exact rfl; exact trivial; apply mo_load; exact rfl; exact hptr _ _) | (apply ap_read; exact rfl; exact rfl; exact trivial; apply mo_load; exact rfl; exact htrv _ _) | refine aM ?_ | refine aD ?_)
      refine ap_callR rfl rfl rfl trivial rfl rfl (.cons rfl (.cons rfl .nil)) (op_tr (cw := pt.cw) (cs := pt.cs) (G := GG) hop hgood (by omega) hcl htold .here .here hobs) ?_ ?_
      ·rintro v L' x' ⟨rfl, rfl, rfl⟩ p hp
       replace hp := (List.mem_filter.1 hp).1
       simp only [List.mem_cons, List.not_mem_nil, or_false] at hp
       rcases hp with rfl | rfl | rfl | rfl | rfl | rfl | rfl <;> first | exact .inl rfl | exact .inr ⟨_, rfl, trivial, mo_load rfl (htrv _ _)⟩ | exact .inr ⟨_, rfl, trivial, mo_load rfl (hptr _ _)⟩
      rintro v L' x1 ⟨rfl, rfl, rfl⟩
      repeat (first | (apply ap_pure; exact rfl; exact rfl; exact trivial; intro L; apply mo_build (pv := [(0, _), (1, _)]); exact rfl; exact .cons rfl (.cons rfl .nil); exact rfl))
      refine ap_loudR rfl rfl rfl rfl trivial (mo_buildSlice (sz := 3) (vs := [.agg #[.int .i64 (k : Nat), .int .u8 (t.mark.1 : Nat), .int .i64 (t.mark.2 : Nat)]]) rfl (.cons rfl .nil) rfl (by intro v hv; cases (List.mem_singleton.1 hv); exact rfl) (by omega)) ?_ ?_
      ·rintro v L' ⟨sb, rfl, rfl⟩ p hp
       replace hp := (List.mem_filter.1 hp).1
       rcases List.mem_cons.1 hp with rfl | hp
       ·exact .inl rfl
       replace hp := (List.mem_filter.1 hp).1
       simp only [List.mem_cons, List.not_mem_nil, or_false] at hp
       rcases hp with rfl | rfl | rfl | rfl | rfl | rfl | rfl <;> first | exact .inl rfl | exact .inr ⟨_, rfl, trivial, mo_load rfl (.there (htrv _ _))⟩ | exact .inr ⟨_, rfl, trivial, mo_load rfl (.there (hptr _ _))⟩
      rintro v' L' ⟨sb, rfl, rfl⟩
      subst hGG
      refine ap_loud rfl rfl rfl rfl rfl trivial (mo_append (sz := 3) (new := [.int .i64 (k : Nat), .int .u8 (t.mark.1 : Nat), .int .i64 (t.mark.2 : Nat)]) rfl rfl rfl rfl (.there (.there (.there (.there .here)))) rfl (.inr ⟨_, _, rfl, Rds.all .here⟩) (by intro v hv; simp at hv; rcases hv with rfl | rfl | rfl <;> rfl) (by simp only [sliceLen]; omega)) ?_
      rintro v' L' rfl
      refine ap_know (of_has .here (vec_shape (by omega))) ?_
      rintro ⟨ua, un, uc, rfl, _⟩
      repeat (first | refine aD ?_)
      refine ap_loud rfl rfl rfl rfl rfl trivial (mo_store rfl rfl rfl (Wt.row0 (k := 0) (.there (.there (.there (.there .here)))) (Nat.succ_pos 1))) ?_
      rintro v' L' ⟨rfl, rfl⟩
      refine ap_end ?_
      repeat (first | (refine wR ?_; try simp only [oS]) | refine wo_nil ?_ | refine wM ?_ | refine wA ?_ | refine wadd ?_)
      refine at_roundS (I := rndIn b6 b8 wb pb ov0 tv (.slice (some ⟨qb, qo, none⟩) pts.length qc) pts f r x1 R2) (R := fun i' => pts.length - i'.1 < pts.length - k) (k + 1, true, .slice ua un uc, ⟨w', s.l.set k t', s.tr ++ [(k, t.mark)]⟩, q.set k (pt, t')) (by simp only; omega) ⟨by simp only; omega, hr, by simp only [List.map_set, hq1]; exact set_same hpt, pk'⟩ ⟨rfl, rfl, rfl, rfl, rfl, rfl, rfl, rfl, rfl, trivial⟩ (fun h st => ?_) rfl
      dsimp only [rndIn]
      have s1 : Star (thK (pt, t') :: all ((q.map thK).eraseIdx k) :: arr pb 0 [.slice ua un uc, .slice none 0 0] :: vec 3 (.slice ua un uc) ((s.tr.map trC).flatten ++ trC (k, t.mark)) :: vec 1 (.slice (some ⟨qb, qo, none⟩) pts.length qc) (q.map ptrK) :: wdC wb w' :: R2) h := by
       refine Ent.star ?_ st
       exact (.take (.there (.there .here)) (.take (.there (.there (.there (.there (.there .here))))) (.take (.there (.there (.there .here))) (.take .here (.take (.there (.there .here)) (.take (.there .here) (.drop .refl)))))))
      have s2 := star_put (M := q.map thK) (by simp; omega) s1
      rw [List.map_set, List.map_set, set_same (l := q.map ptrK) (by rw [List.getElem?_map, hqk]; rfl), show ((s.tr ++ [(k, t.mark)]).map trC).flatten = (s.tr.map trC).flatten ++ trC (k, t.mark) by simp]
      refine Ent.star ?_ s2
      exact (.take (.there .here) (.take (.there .here) (.take (.there .here) (.take .here .refl))))
    ·rw [round_full (by omega)] at hr
     cases hr
     have hg' : if left = true then Mach.rounds f g s = some st else s = st := by
      dsimp only at hg
      cases left with
      | true => rw [if_pos rfl] at hg ⊢; exact hg
      | false => rw [if_neg (by decide)] at hg ⊢; exact Option.some.inj hg
     repeat (first | refine wlssT ?_ | refine wlssF ?_ | refine we_seq ?_ | (refine wR ?_; try simp only [oS]) | refine wo_nil ?_ | refine wM ?_ | refine wK ?_ | refine wD ?_ | refine wL ?_ | refine wE ?_ | refine wF ?_ | refine we_exit ?_)
     refine at_round (I := rndInv b6 b8 wb pb ov0 tv (.slice qa pts.length qc) pts f st x R2) (R := fun i' => (if i'.2.1 = true then i'.1 + 1 else 0) < (if true = true then g + 1 + 1 else 0)) (g, left, .slice ra s.tr.length rc, s, q) (by dsimp only; rw [if_pos rfl]; split <;> omega) ⟨hg', hq1, pk⟩ ⟨rfl, rfl, rfl, rfl, rfl, rfl, rfl, rfl, trivial⟩ .refl rfl
   ·rw [show pts.length - k = 0 by omega] at hr
    cases hr
    have hg' : if left = true then Mach.rounds f g s = some st else s = st := by
     dsimp only at hg
     cases left with
     | true => rw [if_pos rfl] at hg ⊢; exact hg
     | false => rw [if_neg (by decide)] at hg ⊢; exact Option.some.inj hg
    repeat (first | refine wlssF ?_ | refine we_seq ?_ | (refine wR ?_; try simp only [oS]) | refine wo_nil ?_ | refine wM ?_ | (apply wo_no; exact rfl) | refine wJ ?_ | refine wE ?_ | refine wF ?_ | refine we_exit ?_)
    refine at_round (I := rndInv b6 b8 wb pb ov0 tv (.slice qa pts.length qc) pts f st x R2) (R := fun i' => (if i'.2.1 = true then i'.1 + 1 else 0) < (if true = true then g + 1 + 1 else 0)) (g, left, .slice ra s.tr.length rc, s, q) (by dsimp only; rw [if_pos rfl]; split <;> omega) ⟨hg', hq1, pk⟩ ⟨rfl, rfl, rfl, rfl, rfl, rfl, rfl, rfl, trivial⟩ .refl rfl
 ·rintro ⟨trv, q⟩ ⟨hq1, pk⟩
  dsimp only [playMid] at hq1 pk ⊢
  have hqn2 : q.length = pts.length := by rw [← hq1, List.length_map]
  rw [hR2]
  rw [← hqn2] at hqa ⊢
  exact play_tail3 (by omega) pk.l hqa hqa2 hQ
end
section
variable {B : Hand} [Lets B] {L F G : List HProp} {x : B.X}
set_option maxHeartbeats 8000000 in
theorem play_tail {um : FrameMode} {Q : PB.End → FrameMode → Hp → B.X → Prop} [pkk : Pass (leave Try.prog B 33 .normal Q) ⟨[], um⟩] {b6 b8 wb pb : Nat} {tv : Value} {w : Mach.Wd} {st s1 : Mach.St} {oa : Option Addr} {oc : Nat} {o : List Int} {cc : Calls} {f g : Nat} {pts : List PT} {l0 : List Mach.Th} {q : List (PT × Mach.Th)} {qa : Option Addr} {qc : Nat}
  (hby : Mach.byOrder f ⟨w, l0, []⟩ (o.map fun k => if k < 0 then none else some k.toNat) = some s1) (hp : Mach.rounds f g s1 = some st) (hf : 16384 * (f + 1) + f < 1000000000) (hcc : CallsOk F cc) (ho : o.length < 1000000) (hoi : ∀ k ∈ o, -9223372036854775808 ≤ k ∧ k ≤ 9223372036854775807)
  (hor : ∀ i k, o[i]? = some k → ∃ b p, oa = some ⟨b, p, none⟩ ∧ Rd F b (p + i) (.int .i64 k)) (hpc : pts.map (fun p => (p.cw, p.cs)) = cc) (hq1 : q.map (·.1) = pts) (pk : PlayOk f ⟨w, l0, []⟩ q) (hqa : qa = none → q.length = 0) (hqa2 : ∀ y, qa = some y → y = ⟨y.block, y.off, none⟩)
  (hQ : ∀ v L' x' h', playR x F st v L' x' → Star L' h' → Q (.ret v) um h' x') :
  We Try.prog B .normal 159 (seqTail 6 ((Try.f33.body).getD .skip)) (leave Try.prog B 33 .normal Q)
   [(1, .slice oa o.length oc), (2, tv), (6, .pointer (some ⟨b6, 0, none⟩)), (8, .pointer (some ⟨b8, 0, none⟩)), (9, .pointer (some ⟨wb, 0, none⟩)), (10, .slice qa q.length qc), (13, .pointer (some ⟨pb, 0, none⟩))] ⟨[], um⟩
   (arr pb 0 [.slice none 0 0, .slice none 0 0] :: vec 1 (.slice qa q.length qc) (q.map ptrK) :: all (q.map thK) :: wdC wb w :: arr b6 0 [.slice none 0 0, .slice none 0 0] :: arr b8 0 [.slice none 0 0, .slice none 0 0] :: F) x := by
 obtain ⟨R2, hR2⟩ : ∃ R2, R2 = arr b6 0 [.slice none 0 0, .slice none 0 0] :: arr b8 0 [.slice none 0 0, .slice none 0 0] :: F := ⟨_, rfl⟩
 have hcc2 : CallsOk R2 cc := by rw [hR2]; exact hcc.there.there
 have hor2 : ∀ i k, o[i]? = some k → ∃ b p, oa = some ⟨b, p, none⟩ ∧ Rd R2 b (p + i) (.int .i64 k) := fun i k h => by
  obtain ⟨b, p, h1, h2⟩ := hor i k h
  exact ⟨b, p, h1, by rw [hR2]; exact .there (.there h2)⟩
 rw [← hR2]
 obtain ⟨oN, hoN⟩ : ∃ oN, oN = o.map fun k : Int => if k < 0 then none else some k.toNat := ⟨_, rfl⟩
 have hoNl : oN.length = o.length := by rw [hoN, List.length_map]
 rw [← hoN] at hby
 have hcn := hcc.n
 have hqn : q.length = cc.length := by rw [← hpc, ← hq1, List.length_map, List.length_map]
 repeat (first | refine we_seq ?_ | (refine wR ?_; try simp only [oS]) | refine wo_nil ?_ | refine wA ?_)
 refine we_join (playMid b6 b8 wb pb (.slice oa o.length oc) tv (.slice qa q.length qc) pts f s1 x R2) ?_ ?_
 rotate_left
 ·rintro ⟨trv, q2⟩ ⟨hq2, pk2⟩
  dsimp only [playMid] at hq2 pk2 ⊢
  have hqn2 : q2.length = q.length := by rw [← List.length_map (f := (·.1)), hq2, ← hq1, List.length_map]
  rw [hR2]
  rw [← hqn2] at hqa ⊢
  exact play_tail2 hp hf hcc hpc hq2 pk2 hqa hqa2 hQ
 refine we_block ?_
 refine we_star ((playInv3 b6 b8 wb pb (.slice oa o.length oc) tv (.slice qa q.length qc) pts f oN s1 x R2).L (0, .slice none 0 0, ⟨w, l0, []⟩, q)) (fun h st => star_map st (fun _ z => z) (fun _ z => vec_nil z)) ?_
 obtain ⟨nq, hnq⟩ : ∃ nq, nq = q.length := ⟨_, rfl⟩
 rw [← hnq] at hqa hqn ⊢
 refine we_loopN (playInv3 b6 b8 wb pb (.slice oa o.length oc) tv (.slice qa nq qc) pts f oN s1 x R2) (fun i => oN.length - i.1) (0, .slice none 0 0, ⟨w, l0, []⟩, q) ⟨Nat.zero_le _, hby, hq1, pk⟩ ⟨rfl, rfl, rfl, rfl, rfl, rfl, rfl, rfl, trivial⟩ .refl rfl ?_
 clear hby pk hq1 hnq q w l0
 rintro ⟨i, trv, s, q⟩ ⟨hi, hby, hq1, pk⟩
 dsimp only [playInv3] at hi hby hq1 pk ⊢
 have hqn2 : q.length = nq := by rw [hqn, ← hpc, ← hq1, List.length_map, List.length_map]
 have hsl : s.l.length = nq := by rw [← pk.l, List.length_map]; exact hqn2
 refine we_pure (of_has (.there .here) (vec_shape (by omega))) ?_
 rintro ⟨ra, rn, rc, rfl, hrn, _⟩
 have hrnn := tr_len hrn
 subst hrnn
 have htr := pk.tr
 by_cases hc : i < o.length
 ·by_cases hc2 : s.tr.length < 16384
  ·obtain ⟨ki, hk⟩ : ∃ k, o[i]? = some k := ⟨o[i], by simp [hc]⟩
   obtain ⟨k1, k2⟩ := hoi ki (List.mem_of_getElem? hk)
   obtain ⟨ob, op, rfl, hkr⟩ := hor2 i ki hk
   have hdrop : oN.drop i = (if ki < 0 then none else some ki.toNat) :: oN.drop (i + 1) := by
    rw [List.drop_eq_getElem_cons (by omega : i < oN.length)]
    congr 1
    have : oN[i]? = some (if ki < 0 then none else some ki.toNat) := by rw [hoN, List.getElem?_map, hk]; rfl
    exact Option.some.inj (by rw [← this]; simp)
   rw [hdrop] at hby
   by_cases hneg : ki < 0
   ·rw [if_pos hneg] at hby
    have hkr' : ∀ {d1 d2 d3 d4 d5 : HProp}, Rd (d1 :: d2 :: d3 :: d4 :: d5 :: R2) ob (op + i) (.int .i64 ki) := fun {d1 d2 d3 d4 d5} => .there (.there (.there (.there (.there hkr))))
    repeat (first | (apply wo_po; apply mo_indexAddr (r := op + i); exact rfl; exact rfl; omega; omega; omega; exact trivial) | (apply wo_po; apply mo_load; exact rfl; exact hkr'; exact trivial) | refine wlssT ?_ | refine we_seq ?_ | (refine wR ?_; try simp only [oS]) | refine wo_nil ?_ | refine wM ?_ | refine wA ?_ | (apply wo_no; exact rfl) | refine wK ?_ | refine wD ?_ | refine wL ?_ | refine wadd ?_ | refine wE ?_ | refine wT ?_ | refine we_skip ?_ | refine we_block ?_ | refine we_exit ?_)
    refine at_round (I := playInv3 b6 b8 wb pb (.slice (some ⟨ob, op, none⟩) o.length oc) tv (.slice qa nq qc) pts f oN s1 x R2) (R := fun i' => oN.length - i'.1 < oN.length - i) (i + 1, _, s, q) (by simp only; omega) ⟨by simp only; omega, hby, hq1, pk⟩ ⟨rfl, rfl, rfl, rfl, rfl, rfl, rfl, rfl, trivial⟩ .refl rfl
   rw [if_neg hneg] at hby
   obtain ⟨k, rfl⟩ : ∃ k : Nat, ki = k := ⟨ki.toNat, by omega⟩
   rw [Int.toNat_natCast] at hby
   unfold Mach.byOrder at hby
   by_cases hkq : k < nq
   ·obtain ⟨⟨pt, t⟩, hqk⟩ : ∃ z, q[k]? = some z := ⟨q[k], by simp⟩
    have hlk : s.l[k]? = some t := by rw [← pk.l, List.getElem?_map, hqk]; rfl
    obtain ⟨⟨qb, qo, sp⟩, rfl⟩ : ∃ z, qa = some z := by
     cases qa with
     | none => have : nq = 0 := hqa rfl; omega
     | some z => exact ⟨z, rfl⟩
    cases hqa2 _ rfl
    have hpt : pts[k]? = some pt := by rw [← hq1, List.getElem?_map, hqk]; rfl
    have hccm : (pt.cw, pt.cs) ∈ cc := by rw [← hpc]; exact List.mem_map.2 ⟨pt, List.mem_of_getElem? hpt, rfl⟩
    refine we_star (thK (pt, t) :: arr pb 0 [.slice ra s.tr.length rc, .slice none 0 0] :: vec 3 (.slice ra s.tr.length rc) (s.tr.map trC).flatten :: vec 1 (.slice (some ⟨qb, qo, none⟩) nq qc) (q.map ptrK) :: all ((q.map thK).eraseIdx k) :: wdC wb s.w :: R2) (fun h st => ?_) ?_
    ·have s1 : Star (all (q.map thK) :: arr pb 0 [.slice ra s.tr.length rc, .slice none 0 0] :: vec 3 (.slice ra s.tr.length rc) (s.tr.map trC).flatten :: vec 1 (.slice (some ⟨qb, qo, none⟩) nq qc) (q.map ptrK) :: wdC wb s.w :: R2) h := by
      refine Ent.star ?_ st
      repeat (first | exact Ent.refl | (apply Ent.take; (repeat (first | exact Has.here | apply Has.there))) | apply Ent.drop)
     have s2 := star_pick (i := k) (c := thK (pt, t)) (by rw [List.getElem?_map, hqk]; rfl) s1
     refine Ent.star ?_ s2
     repeat (first | exact Ent.refl | (apply Ent.take; (repeat (first | exact Has.here | apply Has.there))) | apply Ent.drop)
    refine we_ex .here fun y => we_and .here fun e1 => we_and .here fun hr => we_open .here ?_
    obtain ⟨av, al⟩ := y
    refine we_ent (arr pt.tb 0 (thCells pt.cv t av) :: vec 2 av (al.map ansV).flatten :: all (al.map ansT) :: arr pb 0 [.slice ra s.tr.length rc, .slice none 0 0] :: vec 3 (.slice ra s.tr.length rc) (s.tr.map trC).flatten :: vec 1 (.slice (some ⟨qb, qo, none⟩) nq qc) (q.map ptrK) :: all ((q.map thK).eraseIdx k) :: wdC wb s.w :: R2) .refl ?_
    have hkr' : ∀ {d1 d2 d3 d4 d5 d6 d7 d8 : HProp}, Rd (d1 :: d2 :: d3 :: d4 :: d5 :: d6 :: d7 :: d8 :: R2) ob (op + i) (.int .i64 k) := fun {d1 d2 d3 d4 d5 d6 d7 d8} => .there (.there (.there (.there (.there (.there (.there (.there hkr)))))))
    have hpv : Rd (arr pt.tb 0 (thCells pt.cv t av) :: vec 2 av (al.map ansV).flatten :: all (al.map ansT) :: arr pb 0 [.slice ra s.tr.length rc, .slice none 0 0] :: vec 3 (.slice ra s.tr.length rc) (s.tr.map trC).flatten :: vec 1 (.slice (some ⟨qb, qo, none⟩) nq qc) (q.map ptrK) :: all ((q.map thK).eraseIdx k) :: wdC wb s.w :: R2) qb (qo + k) (.pointer (some ⟨pt.tb, 0, none⟩)) := rd_vec (.there (.there (.there (.there (.there .here))))) (by rw [List.getElem?_map, hqk]; rfl)
    have hov : Rd (arr pt.tb 0 (thCells pt.cv t av) :: vec 2 av (al.map ansV).flatten :: all (al.map ansT) :: arr pb 0 [.slice ra s.tr.length rc, .slice none 0 0] :: vec 3 (.slice ra s.tr.length rc) (s.tr.map trC).flatten :: vec 1 (.slice (some ⟨qb, qo, none⟩) nq qc) (q.map ptrK) :: all ((q.map thK).eraseIdx k) :: wdC wb s.w :: R2) pt.tb 28 (.bool t.over) := Rd.row0 rfl
    cases hto : t.over with
    | true =>
     rw [hto] at hov
     rw [if_neg (by rw [may_over hlk hto]; decide)] at hby
     repeat (first | (apply wo_po; apply mo_indexAddr (r := op + i); exact rfl; exact rfl; omega; omega; omega; exact trivial) | (apply wo_po; apply mo_load; exact rfl; exact hkr'; exact trivial) | (apply wo_po; apply mo_index1; exact rfl; exact rfl; omega; exact gY) | (apply wo_po; apply mo_load; exact rfl; exact hpv; exact gY) | (apply wo_po; apply mo_load; exact rfl; exact hov; exact gY) | refine wlssT ?_ | refine wlssF ?_ | refine wgeqF ?_ | refine we_seq ?_ | (refine wR ?_; try simp only [oS]) | refine wo_nil ?_ | refine wM ?_ | refine wA ?_ | refine wK ?_ | refine wJ ?_ | refine wN ?_ | refine wD ?_ | refine wL ?_ | refine wadd ?_ | refine wE ?_ | refine wT ?_ | refine we_skip ?_ | refine we_block ?_ | refine we_exit ?_)
     refine at_roundS (I := playInv3 b6 b8 wb pb (.slice (some ⟨ob, op, none⟩) o.length oc) tv (.slice (some ⟨qb, qo, none⟩) nq qc) pts f oN s1 x R2) (R := fun i' => oN.length - i'.1 < oN.length - i) (i + 1, .slice ra s.tr.length rc, s, q) (by simp only; omega) ⟨by simp only; omega, hby, hq1, pk⟩ ⟨rfl, rfl, rfl, rfl, rfl, rfl, rfl, rfl, trivial⟩ (fun h st => ?_) rfl
     dsimp only [playInv3]
     have s1 := th_close (y := (av, al)) e1 hr st
     have s2 : Star (thK (pt, t) :: all ((q.map thK).eraseIdx k) :: arr pb 0 [.slice ra s.tr.length rc, .slice none 0 0] :: vec 3 (.slice ra s.tr.length rc) (s.tr.map trC).flatten :: vec 1 (.slice (some ⟨qb, qo, none⟩) nq qc) (q.map ptrK) :: wdC wb s.w :: R2) h := by
      refine Ent.star ?_ s1
      exact (.take .here (.take (.there (.there (.there .here))) .refl))
     have s3 := star_put (M := q.map thK) (by simp; omega) s2
     rw [set_same (by rw [List.getElem?_map, hqk]; rfl)] at s3
     refine Ent.star ?_ s3
     repeat (first | exact Ent.refl | (apply Ent.take; (repeat (first | exact Has.here | apply Has.there))) | apply Ent.drop)
    | false =>
     rw [hto] at hov
     rw [if_pos (may_true hc2 hlk hto)] at hby
     cases htn : Mach.turn f s k with
     | none => rw [htn] at hby; cases hby
     | some s' =>
     rw [htn, Option.bind_some] at hby
     obtain ⟨w', t', hop, rfl, pk', hgood, hcl, htold⟩ := turn_ok pk hf hqk hc2 hto htn
     repeat (first | (apply wo_po; apply mo_indexAddr (r := op + i); exact rfl; exact rfl; omega; omega; omega; exact trivial) | (apply wo_po; apply mo_load; exact rfl; exact hkr'; exact trivial) | (apply wo_po; apply mo_index1; exact rfl; exact rfl; omega; exact gY) | (apply wo_po; apply mo_load; exact rfl; exact hpv; exact gY) | (apply wo_po; apply mo_load; exact rfl; exact hov; exact gY) | refine wlssT ?_ | refine wlssF ?_ | refine wgeqF ?_ | refine we_seq ?_ | (refine wR ?_; try simp only [oS]) | refine wo_nil ?_ | refine wM ?_ | refine wA ?_ | refine wK ?_ | refine wJ ?_ | refine wN ?_ | refine wD ?_ | refine wL ?_ | refine wE ?_ | refine wT ?_ | refine wF ?_ | refine we_skip ?_ | refine we_block ?_)
     obtain ⟨GG, hGG⟩ : ∃ GG, GG = arr pb 0 [.slice ra s.tr.length rc, .slice none 0 0] :: vec 3 (.slice ra s.tr.length rc) (s.tr.map trC).flatten :: vec 1 (.slice (some ⟨qb, qo, none⟩) nq qc) (q.map ptrK) :: all ((q.map thK).eraseIdx k) :: R2 := ⟨_, rfl⟩
     have hobs : Obs GG (codeC pt.cw pt.cs) := by rw [hGG]; exact (hcc2.obs _ hccm).there.there.there.there
     have hptr : ∀ d1 d2 : HProp, Rd (d1 :: d2 :: GG) qb (qo + k) (.pointer (some ⟨pt.tb, 0, none⟩)) := fun d1 d2 => by rw [hGG]; exact rd_vec (.there (.there (.there (.there .here)))) (by rw [List.getElem?_map, hqk]; rfl)
     have htrv : ∀ d1 d2 : HProp, Rd (d1 :: d2 :: GG) pb 0 (.slice ra s.tr.length rc) := fun d1 d2 => by rw [hGG]; exact .there (.there (Rd.row0 rfl))
     refine we_star (thC pt.tb (pt.cw.v pt.cs.length) t :: wdC wb s.w :: GG) (fun h st => ?_) ?_
     ·rw [hGG]
      have s1 := th_close (y := (av, al)) e1 hr st
      refine Ent.star ?_ s1
      exact (.take .here (.take (.there (.there (.there (.there .here)))) .refl))
     refine we_draw (List.range' 0 13) (by kernel_rfl) ?_
     repeat (first | (apply ap_pure; exact rfl; exact rfl; exact trivial; intro L; apply mo_index1; exact rfl; exact rfl; exact hkq) | (apply ap_read; exact rfl; exact rfl; exact trivial; apply mo_load; exact rfl; exact hptr _ _) | (apply ap_read; exact rfl; exact rfl; exact trivial; apply mo_load; exact rfl; exact htrv _ _) | refine aM ?_ | refine aD ?_)
     refine ap_callR rfl rfl rfl trivial rfl rfl (.cons rfl (.cons rfl .nil)) (op_tr (cw := pt.cw) (cs := pt.cs) (G := GG) hop hgood (by omega) hcl htold .here .here hobs) ?_ ?_
     ·rintro v L' x' ⟨rfl, rfl, rfl⟩ p hp
      replace hp := (List.mem_filter.1 hp).1
      simp only [List.mem_cons, List.not_mem_nil, or_false] at hp
      rcases hp with rfl | rfl | rfl | rfl | rfl | rfl | rfl <;> first | exact .inl rfl | exact .inr ⟨_, rfl, trivial, mo_load rfl (htrv _ _)⟩ | exact .inr ⟨_, rfl, trivial, mo_load rfl (hptr _ _)⟩
     rintro v L' x1 ⟨rfl, rfl, rfl⟩
     repeat (first | (apply ap_pure; exact rfl; exact rfl; exact trivial; intro L; apply mo_build (pv := [(0, _), (1, _)]); exact rfl; exact .cons rfl (.cons rfl .nil); exact rfl))
     refine ap_loudR rfl rfl rfl rfl trivial (mo_buildSlice (sz := 3) (vs := [.agg #[.int .i64 (k : Nat), .int .u8 (t.mark.1 : Nat), .int .i64 (t.mark.2 : Nat)]]) rfl (.cons rfl .nil) rfl (by intro v hv; cases (List.mem_singleton.1 hv); exact rfl) (by omega)) ?_ ?_
     ·rintro v L' ⟨sb, rfl, rfl⟩ p hp
      replace hp := (List.mem_filter.1 hp).1
      rcases List.mem_cons.1 hp with rfl | hp
      ·exact .inl rfl
      replace hp := (List.mem_filter.1 hp).1
      simp only [List.mem_cons, List.not_mem_nil, or_false] at hp
      rcases hp with rfl | rfl | rfl | rfl | rfl | rfl | rfl <;> first | exact .inl rfl | exact .inr ⟨_, rfl, trivial, mo_load rfl (.there (htrv _ _))⟩ | exact .inr ⟨_, rfl, trivial, mo_load rfl (.there (hptr _ _))⟩
     rintro v' L' ⟨sb, rfl, rfl⟩
     subst hGG
     refine ap_loud rfl rfl rfl rfl rfl trivial (mo_append (sz := 3) (new := [.int .i64 (k : Nat), .int .u8 (t.mark.1 : Nat), .int .i64 (t.mark.2 : Nat)]) rfl rfl rfl rfl (.there (.there (.there (.there .here)))) rfl (.inr ⟨_, _, rfl, Rds.all .here⟩) (by intro v hv; simp at hv; rcases hv with rfl | rfl | rfl <;> rfl) (by simp only [sliceLen]; omega)) ?_
     rintro v' L' rfl
     refine ap_know (of_has .here (vec_shape (by omega))) ?_
     rintro ⟨ua, un, uc, rfl, _⟩
     repeat (first | refine aD ?_)
     refine ap_loud rfl rfl rfl rfl rfl trivial (mo_store rfl rfl rfl (Wt.row0 (k := 0) (.there (.there (.there (.there .here)))) (Nat.succ_pos 1))) ?_
     rintro v' L' ⟨rfl, rfl⟩
     refine ap_end ?_
     repeat (first | (refine wR ?_; try simp only [oS]) | refine wo_nil ?_ | refine wM ?_ | refine wA ?_ | refine wadd ?_)
     refine at_roundS (I := playInv3 b6 b8 wb pb (.slice (some ⟨ob, op, none⟩) o.length oc) tv (.slice (some ⟨qb, qo, none⟩) nq qc) pts f oN s1 x1 R2) (R := fun i' => oN.length - i'.1 < oN.length - i) (i + 1, .slice ua un uc, ⟨w', s.l.set k t', s.tr ++ [(k, t.mark)]⟩, q.set k (pt, t')) (by simp only; omega) ⟨by simp only; omega, hby, by simp only [List.map_set, hq1]; exact set_same hpt, pk'⟩ ⟨rfl, rfl, rfl, rfl, rfl, rfl, rfl, rfl, trivial⟩ (fun h st => ?_) rfl
     dsimp only [playInv3]
     have s1 : Star (thK (pt, t') :: all ((q.map thK).eraseIdx k) :: arr pb 0 [.slice ua un uc, .slice none 0 0] :: vec 3 (.slice ua un uc) ((s.tr.map trC).flatten ++ trC (k, t.mark)) :: vec 1 (.slice (some ⟨qb, qo, none⟩) nq qc) (q.map ptrK) :: wdC wb w' :: R2) h := by
      refine Ent.star ?_ st
      exact (.take (.there (.there .here)) (.take (.there (.there (.there (.there (.there .here))))) (.take (.there (.there (.there .here))) (.take .here (.take (.there (.there .here)) (.take (.there .here) (.drop .refl)))))))
     have s2 := star_put (M := q.map thK) (by simp; omega) s1
     rw [List.map_set, List.map_set, set_same (l := q.map ptrK) (by rw [List.getElem?_map, hqk]; rfl), show ((s.tr ++ [(k, t.mark)]).map trC).flatten = (s.tr.map trC).flatten ++ trC (k, t.mark) by simp]
     refine Ent.star ?_ s2
     repeat (first | exact Ent.refl | (apply Ent.take; (repeat (first | exact Has.here | apply Has.there))) | apply Ent.drop)
   ·rw [if_neg (by rw [may_none (List.getElem?_eq_none (by omega))]; decide)] at hby
    have hkr' : ∀ {d1 d2 d3 d4 d5 : HProp}, Rd (d1 :: d2 :: d3 :: d4 :: d5 :: R2) ob (op + i) (.int .i64 k) := fun {d1 d2 d3 d4 d5} => .there (.there (.there (.there (.there hkr))))
    repeat (first | (apply wo_po; apply mo_indexAddr (r := op + i); exact rfl; exact rfl; omega; omega; omega; exact trivial) | (apply wo_po; apply mo_load; exact rfl; exact hkr'; exact trivial) | refine wlssT ?_ | refine wlssF ?_ | refine wgeqT ?_ | refine we_seq ?_ | (refine wR ?_; try simp only [oS]) | refine wo_nil ?_ | refine wM ?_ | refine wA ?_ | (apply wo_no; exact rfl) | refine wK ?_ | refine wJ ?_ | refine wD ?_ | refine wL ?_ | refine wadd ?_ | refine wE ?_ | refine wT ?_ | refine we_skip ?_ | refine we_block ?_ | refine we_exit ?_)
    refine at_round (I := playInv3 b6 b8 wb pb (.slice (some ⟨ob, op, none⟩) o.length oc) tv (.slice qa nq qc) pts f oN s1 x R2) (R := fun i' => oN.length - i'.1 < oN.length - i) (i + 1, _, s, q) (by simp only; omega) ⟨by simp only; omega, hby, hq1, pk⟩ ⟨rfl, rfl, rfl, rfl, rfl, rfl, rfl, rfl, trivial⟩ .refl rfl
  ·rw [byOrder_full (by omega)] at hby
   cases hby
   repeat (first | refine wlssT ?_ | refine wlssF ?_ | refine we_seq ?_ | (refine wR ?_; try simp only [oS]) | refine wo_nil ?_ | refine wM ?_ | refine wK ?_ | refine wD ?_ | refine wL ?_ | refine wE ?_ | refine wF ?_ | refine we_exit ?_)
   refine at_mid (I := playMid b6 b8 wb pb (.slice oa o.length oc) tv (.slice qa nq qc) pts f s1 x R2) (_, q) ⟨hq1, pk⟩ ⟨rfl, rfl, rfl, rfl, rfl, rfl, rfl, trivial⟩ .refl rfl
 ·have : oN.drop i = [] := List.drop_eq_nil_of_le (by omega)
  rw [this] at hby
  cases hby
  repeat (first | refine wlssF ?_ | refine we_seq ?_ | (refine wR ?_; try simp only [oS]) | refine wo_nil ?_ | refine wM ?_ | (apply wo_no; exact rfl) | refine wJ ?_ | refine wE ?_ | refine wF ?_ | refine we_exit ?_)
  refine at_mid (I := playMid b6 b8 wb pb (.slice oa o.length oc) tv (.slice qa nq qc) pts f s1 x R2) (_, q) ⟨hq1, pk⟩ ⟨rfl, rfl, rfl, rfl, rfl, rfl, rfl, trivial⟩ .refl rfl
end
section
variable {B : Hand} [Lets B] {L F G : List HProp} {x : B.X}
set_option maxHeartbeats 8000000 in
theorem play_tr {wv lv tv : Value} {w : Mach.Wd} {st : Mach.St} {oa : Option Addr} {oc : Nat} {o : List Int} {cc : Calls} {f g : Nat}
  (hp : Mach.play f g w (o.map fun k => if k < 0 then none else some k.toNat) (cc.map (·.2)) = some st) (hf : 16384 * (f + 1) + f < 1000000000) (hcc : CallsOk F cc) (ho : o.length < 1000000) (hoi : ∀ k ∈ o, -9223372036854775808 ≤ k ∧ k ≤ 9223372036854775807)
  (hor : ∀ i k, o[i]? = some k → ∃ b p, oa = some ⟨b, p, none⟩ ∧ Rd F b (p + i) (.int .i64 k)) (hh : Has L (wvC wv lv w) G) (ht : Has G (vec 1 tv (cc.map cvK)) F) :
  Tr Try.prog B 33 [.agg #[wv, lv], .slice oa o.length oc, tv] L x (playR x (vec 1 tv (cc.map cvK) :: wvC wv lv w :: F) st) := by
 refine tr_star (wvC wv lv w :: vec 1 tv (cc.map cvK) :: F) (fun h s => star_map (hh.star s) (fun _ z => z) (fun _ z => ht.star z)) ?_
 clear hh ht
 refine tr_pure (of_has (.there .here) (vec_shape (by omega))) ?_
 rintro ⟨ta, tn, tc, rfl, htn, _, hta, hta2⟩
 have htnn : tn = cc.length := by simpa using htn.symm
 subst htnn
 -- the plain play, step by step
 unfold Mach.play at hp
 cases hb : Mach.begin_ f ((cc.map (·.2)).map fun c => { calls := c }) with
 | none => rw [hb] at hp; cases hp
 | some l0 =>
 rw [hb, Option.bind_some] at hp
 cases hby : Mach.byOrder f ⟨w, l0, []⟩ (o.map fun k => if k < 0 then none else some k.toNat) with
 | none => rw [hby] at hp; cases hp
 | some s1 =>
 rw [hby, Option.bind_some] at hp
 refine tr_of_body Try.func33 rfl Try.ntmps33 (by simp) fun um Q _ hQ => ?_
 simp only [argE, Nat.zero_add, Nat.reduceAdd]
 repeat (first | (apply wo_mo; apply mo_box; exact rfl; exact trivial) | refine we_seq ?_ | (refine wR ?_; try simp only [oS]))
 rintro v' L' ⟨b3, rfl, rfl⟩
 repeat (first | (apply wo_mo; apply mo_alloc; exact trivial))
 rintro v' L' ⟨b6, rfl, rfl⟩
 repeat (first | (apply wo_mo; apply mo_alloc; exact trivial) | refine wA ?_)
 rintro v' L' ⟨b8, rfl, rfl⟩
 refine wo_pure (of_has (.there (.there (.there .here))) wv_shape) ?_
 rintro ⟨⟨wa, wn, wc, rfl⟩, la, ln, lc, rfl⟩
 have hb3 : Rds (arr b8 0 [.slice none 0 0, .slice none 0 0] :: arr b6 0 [.slice none 0 0, .slice none 0 0] :: arr b3 0 [.slice wa wn wc, .slice la ln lc] :: wvC (.slice wa wn wc) (.slice la ln lc) w :: vec 1 (.slice ta cc.length tc) (cc.map cvK) :: F) b3 0 [.slice wa wn wc, .slice la ln lc] := Rds.all (.there (.there .here))
 repeat (first | (apply wo_po; apply mo_loadA (vs := [.slice wa wn wc, .slice la ln lc]); exact rfl; exact rfl; exact hb3; exact trivial) | refine we_seq ?_ | (refine wR ?_; try simp only [oS]) | refine wo_nil ?_)
 refine wo_call (.cons rfl .nil) trivial (copy_tr (.there (.there (.there .here)))) ?_
 rintro v L' x' ⟨wv', lv', rfl, rfl, rfl⟩
 refine wo_pure (of_has .here wv_shape) ?_
 rintro ⟨⟨wa', wn', wc', rfl⟩, la', ln', lc', rfl⟩
 repeat (first | (apply wo_mo; apply mo_alloc; exact trivial))
 rintro v' L' ⟨wb, rfl, rfl⟩
 repeat (first | (apply wo_pm; apply mo_storeA (c := 0) (k := 0) (a := 0) (vs := [.slice none 0 0, .slice none 0 0]); exact rfl; exact rfl; exact rfl; (intro w hw; simp [Value.cells] at hw; rcases hw with rfl | rfl <;> rfl); exact rfl; exact Nat.le_refl 2; exact .here; exact trivial) | refine we_seq ?_ | (refine wR ?_; try simp only [oS]) | refine wo_nil ?_ | refine wA ?_)
 obtain ⟨R0, hR0⟩ : ∃ R0, R0 = wvC (.slice wa wn wc) (.slice la ln lc) w :: F := ⟨_, rfl⟩
 have hccR : ∀ {d : HProp}, CallsOk R0 cc := fun {d} => by rw [hR0]; exact hcc.there
 refine we_block ?_
 refine we_star ((playInv1 b3 b6 b8 wb (.slice oa o.length oc) (.slice ta cc.length tc) cc x' (wdC wb w :: arr b6 0 [.slice none 0 0, .slice none 0 0] :: arr b8 0 [.slice none 0 0, .slice none 0 0] :: R0)).L (0, .slice none 0 0, [])) (fun h st => ?_) ?_
 ·have s1 : Star (arr wb 0 [.slice wa' wn' wc', .slice la' ln' lc'] :: wvC (.slice wa' wn' wc') (.slice la' ln' lc') w :: vec 1 (.slice ta cc.length tc) (cc.map cvK) :: arr b6 0 [.slice none 0 0, .slice none 0 0] :: arr b8 0 [.slice none 0 0, .slice none 0 0] :: R0) h := by
   rw [hR0]
   refine Ent.star ?_ st
   repeat (first | exact Ent.refl | (apply Ent.take; (repeat (first | exact Has.here | apply Has.there))) | apply Ent.drop)
  have s2 := wd_of_wv s1
  dsimp only [playInv1]
  exact vec_nil (star_shut (M := []) (star_swap s2))
 refine we_loopN (playInv1 b3 b6 b8 wb (.slice oa o.length oc) (.slice ta cc.length tc) cc x' (wdC wb w :: arr b6 0 [.slice none 0 0, .slice none 0 0] :: arr b8 0 [.slice none 0 0, .slice none 0 0] :: R0)) (fun i => cc.length - i.1) (0, .slice none 0 0, []) ⟨by simp, by simp, by simp⟩ ⟨rfl, rfl, rfl, rfl, rfl, rfl, rfl, trivial⟩ .refl rfl ?_
 rintro ⟨i, av, q⟩ ⟨hi, hq1, hq2⟩
 dsimp only [playInv1] at hi hq1 hq2 ⊢
 have hccn := hcc.n
 by_cases hc : i < cc.length
 ·obtain ⟨⟨cw, cs⟩, hcs⟩ : ∃ z, cc[i]? = some z := ⟨cc[i], by simp [hc]⟩
  obtain ⟨⟨tb0, to0, sp⟩, rfl⟩ : ∃ z, ta = some z := by
   cases ta with
   | none => have : cc.length = 0 := hta rfl; omega
   | some z => exact ⟨z, rfl⟩
  cases hta2 _ rfl
  refine we_pure (of_has .here (vec_shape (by omega))) ?_
  rintro ⟨qa, qn, qc, rfl, hqn, _⟩
  have hqnn : qn = q.length := by simpa using hqn.symm
  subst hqnn
  have hql : q.length = i := by have := congrArg List.length hq1; simpa [Nat.min_eq_left hi] using this
  have hcv : Rd (vec 1 (.slice qa q.length qc) (q.map ptrK) :: all (q.map thK) :: vec 1 (.slice (some ⟨tb0, to0, none⟩) cc.length tc) (cc.map cvK) :: wdC wb w :: arr b6 0 [.slice none 0 0, .slice none 0 0] :: arr b8 0 [.slice none 0 0, .slice none 0 0] :: R0) tb0 (to0 + i) (cvK (cw, cs)) := rd_vec (.there (.there .here)) (by rw [List.getElem?_map, hcs]; rfl)
  repeat (first | (apply wo_po; apply mo_index1; exact rfl; exact rfl; exact hc; exact trivial) | (apply wo_po; apply mo_load; exact rfl; exact hcv; exact trivial) | (apply wo_po; apply mo_build (pv := [(0, _)]); exact rfl; exact .cons rfl .nil; exact rfl; exact trivial) | (apply wo_mo; apply mo_box; exact rfl; exact trivial) | refine wlssT ?_ | refine we_seq ?_ | (refine wR ?_; try simp only [oS]) | refine wo_nil ?_ | refine wM ?_ | refine wE ?_ | refine wT ?_ | refine we_skip ?_ | refine we_block ?_)
  rintro v' L' ⟨tb, rfl, rfl⟩
  refine wo_star (thK (⟨tb, cw, cs⟩, { calls := cs }) :: vec 1 (.slice qa q.length qc) (q.map ptrK) :: all (q.map thK) :: vec 1 (.slice (some ⟨tb0, to0, none⟩) cc.length tc) (cc.map cvK) :: wdC wb w :: arr b6 0 [.slice none 0 0, .slice none 0 0] :: arr b8 0 [.slice none 0 0, .slice none 0 0] :: R0) (fun h st => new_th st) ?_
  repeat (first | (apply wo_mo; apply mo_buildSlice (sz := 1) (vs := [.pointer (some ⟨tb, 0, none⟩)]); exact rfl; exact .cons rfl .nil; exact rfl; (intro v hv; cases (List.mem_singleton.1 hv); exact rfl); omega; exact trivial))
  rintro v' L' ⟨sb, rfl, rfl⟩
  repeat (first | (apply wo_mo; apply mo_append (sz := 1) (new := [.pointer (some ⟨tb, 0, none⟩)]); exact rfl; exact rfl; exact rfl; exact rfl; exact (.there (.there .here)); exact rfl; exact .inr ⟨_, _, rfl, Rds.all .here⟩; (intro v hv; cases (List.mem_singleton.1 hv); exact rfl); (simp only [sliceLen]; omega); exact trivial))
  rintro v' L' rfl
  repeat (first | (refine wR ?_; try simp only [oS]) | refine wo_nil ?_ | refine wM ?_ | refine wA ?_ | refine wadd ?_)
  refine at_roundS (I := playInv1 b3 b6 b8 wb (.slice oa o.length oc) (.slice (some ⟨tb0, to0, none⟩) cc.length tc) cc x' (wdC wb w :: arr b6 0 [.slice none 0 0, .slice none 0 0] :: arr b8 0 [.slice none 0 0, .slice none 0 0] :: R0)) (R := fun i' => cc.length - i'.1 < cc.length - i) (i + 1, v', q ++ [(⟨tb, cw, cs⟩, { calls := cs })]) (by simp only; omega) ⟨by simp only; omega, ?_, ?_⟩ ⟨rfl, rfl, rfl, rfl, rfl, rfl, rfl, trivial⟩ (fun h st => ?_) rfl
  ·simp only [List.map_append, List.map_cons, List.map_nil, hq1]
   rw [List.take_add_one, hcs]; rfl
  ·simp only [List.map_append, List.map_cons, List.map_nil, hq2]
   rw [List.take_add_one, hcs, List.map_append]; rfl
  ·dsimp only [playInv1]
   rw [List.map_append, List.map_append]
   have s1 : Star (vec 1 v' (q.map ptrK ++ [.pointer (some ⟨tb, 0, none⟩)]) :: thK (⟨tb, cw, cs⟩, { calls := cs }) :: all (q.map thK) :: vec 1 (.slice (some ⟨tb0, to0, none⟩) cc.length tc) (cc.map cvK) :: wdC wb w :: arr b6 0 [.slice none 0 0, .slice none 0 0] :: arr b8 0 [.slice none 0 0, .slice none 0 0] :: R0) h := by
    refine Ent.star ?_ st
    repeat (first | exact Ent.refl | (apply Ent.take; (repeat (first | exact Has.here | apply Has.there))) | apply Ent.drop)
   exact star_map s1 (fun _ z => z) (fun _ z => star_push z)
 ·have hi' : i = cc.length := by omega
  subst hi'
  rw [List.take_length] at hq1 hq2
  repeat (first | refine wlssF ?_ | refine we_seq ?_ | (refine wR ?_; try simp only [oS]) | refine wo_nil ?_ | refine wM ?_ | refine wA ?_ | refine wE ?_ | refine wF ?_ | refine we_exit ?_)
  obtain ⟨pts, hpts⟩ : ∃ pts, pts = q.map (·.1) := ⟨_, rfl⟩
  have hpc : pts.map (fun p => (p.cw, p.cs)) = cc := by rw [hpts, List.map_map, ← hq1]; rfl
  have hpn : pts.length = cc.length := by rw [← hpc, List.length_map]
  obtain ⟨hbl, hbg⟩ := begin_get hb
  rw [List.map_map] at hb hbl hbg
  have hql : q.length = cc.length := by rw [← hpn, hpts, List.length_map]
  have hl0n : l0.length = cc.length := by rw [hbl]; simp
  refine we_pure (of_has .here (vec_shape (by omega))) ?_
  rintro ⟨qa, qn, qc, rfl, hqn, _, hqa, hqa2⟩
  have hqnn : qn = cc.length := by rw [← hql]; simpa using hqn.symm
  subst hqnn
  obtain ⟨R1, hR1⟩ : ∃ R1, R1 = vec 1 (.slice ta cc.length tc) (cc.map cvK) :: wdC wb w :: arr b6 0 [.slice none 0 0, .slice none 0 0] :: arr b8 0 [.slice none 0 0, .slice none 0 0] :: R0 := ⟨_, rfl⟩
  have hccR1 : CallsOk R1 cc := by rw [hR1, hR0]; exact hcc.there.there.there.there.there
  rw [← hR1]
  refine we_block ?_
  refine we_loopN (playInv2 b6 b8 wb (.slice oa o.length oc) (.slice ta cc.length tc) (.slice qa cc.length qc) pts (cc.map fun y => { calls := y.2 }) l0 x' R1) (fun i => pts.length - i.1) (0, q) ⟨Nat.zero_le _, hpts.symm, by simpa using hq2⟩ ⟨rfl, rfl, rfl, rfl, rfl, rfl, rfl, trivial⟩ .refl rfl ?_
  clear hq1 hq2 hpts hql
  rintro ⟨i, q⟩ ⟨hi, hq1, hq2⟩
  dsimp only [playInv2] at hi hq1 hq2 ⊢
  have hql : q.length = pts.length := by rw [← hq1, List.length_map]
  by_cases hc2 : i < pts.length
  ·obtain ⟨⟨pt, t⟩, hqi⟩ : ∃ z, q[i]? = some z := ⟨q[i], by simp⟩
   obtain ⟨⟨qb, qo, sp⟩, rfl⟩ : ∃ z, qa = some z := by
    cases qa with
    | none => have : cc.length = 0 := hqa rfl; omega
    | some z => exact ⟨z, rfl⟩
   cases hqa2 _ rfl
   have hpti : pts[i]? = some pt := by rw [← hq1, List.getElem?_map, hqi]; rfl
   have hcci : cc[i]? = some (pt.cw, pt.cs) := by rw [← hpc, List.getElem?_map, hpti]; rfl
   have hccm := List.mem_of_getElem? hcci
   have hti : t = { calls := pt.cs } := by
    have h1 := congrArg (fun l => l[i]?) hq2
    simp only [List.getElem?_map, hqi] at h1
    rw [List.getElem?_append_right (by simp; omega)] at h1
    have h2 : i - (l0.take i).length = 0 := by simp; omega
    rw [h2, List.getElem?_drop, Nat.add_zero, List.getElem?_map, hcci] at h1
    exact Option.some.inj h1
   subst hti
   obtain ⟨t', ht', hl0⟩ := hbg i { calls := pt.cs } (by rw [List.getElem?_map, hcci]; rfl)
   have hpv : Rd (vec 1 (.slice (some ⟨qb, qo, none⟩) cc.length qc) (q.map ptrK) :: thK (pt, { calls := pt.cs }) :: all ((q.map thK).eraseIdx i) :: R1) qb (qo + i) (.pointer (some ⟨pt.tb, 0, none⟩)) := rd_vec .here (by rw [List.getElem?_map, hqi]; rfl)
   refine we_star (vec 1 (.slice (some ⟨qb, qo, none⟩) cc.length qc) (q.map ptrK) :: thK (pt, { calls := pt.cs }) :: all ((q.map thK).eraseIdx i) :: R1) (fun h st => star_map st (fun _ z => z) (fun _ z => star_pick (by rw [List.getElem?_map, hqi]; rfl) z)) ?_
   repeat (first | (apply wo_po; apply mo_index1; exact rfl; exact rfl; omega; exact trivial) | (apply wo_po; apply mo_load; exact rfl; exact hpv; exact trivial) | refine wlssT ?_ | refine we_seq ?_ | (refine wR ?_; try simp only [oS]) | refine wo_nil ?_ | refine wM ?_ | refine wE ?_ | refine wT ?_ | refine we_skip ?_ | refine we_block ?_)
   refine wo_call (.cons rfl (.cons rfl .nil)) trivial (on_tr (cw := pt.cw) (cs := pt.cs) ht' (init_good (hcc.ok _ hccm) (hcc.len _ hccm)) (by omega) (.there .here) ((hccR1.obs _ hccm).there.there)) ?_
   rintro v L' x'' ⟨rfl, rfl, rfl⟩
   repeat (first | (refine wR ?_; try simp only [oS]) | refine wo_nil ?_ | refine wM ?_ | refine wA ?_ | refine wadd ?_)
   refine at_roundS (I := playInv2 b6 b8 wb (.slice oa o.length oc) (.slice ta cc.length tc) (.slice (some ⟨qb, qo, none⟩) cc.length qc) pts (cc.map fun y => { calls := y.2 }) l0 x'' R1) (R := fun i' => pts.length - i'.1 < pts.length - i) (i + 1, q.set i (pt, t')) (by simp only; omega) ⟨by simp only; omega, ?_, ?_⟩ ⟨rfl, rfl, rfl, rfl, rfl, rfl, rfl, trivial⟩ (fun h st => ?_) rfl
   ·simp only [List.map_set, hq1]
    exact set_same hpti
   ·simp only [List.map_set, hq2]
    exact take_set_drop hl0 (by simp; omega)
   ·dsimp only [playInv2]
    rw [List.map_set, List.map_set, set_same (l := q.map ptrK) (by rw [List.getElem?_map, hqi]; rfl)]
    have s1 : Star (vec 1 (.slice (some ⟨qb, qo, none⟩) cc.length qc) (q.map ptrK) :: thK (pt, t') :: all ((q.map thK).eraseIdx i) :: R1) h := star_swap st
    exact star_map s1 (fun _ z => z) (fun _ z => star_put (by simp; omega) z)
  ·have hi2 : i = pts.length := by omega
   subst hi2
   have hq2' : q.map (·.2) = l0 := by
    rw [hq2, List.take_of_length_le (by rw [hbl]; simp; omega), List.drop_eq_nil_of_le (by simp; omega), List.append_nil]
   clear hq2
   repeat (first | refine wlssF ?_ | refine we_seq ?_ | (refine wR ?_; try simp only [oS]) | refine wo_nil ?_ | refine wM ?_ | refine wE ?_ | refine wF ?_ | refine we_exit ?_)
   repeat (first | (apply wo_mo; apply mo_alloc; exact trivial))
   rintro v' L' ⟨pb, rfl, rfl⟩
   refine wo_nil ?_
   have hqc : q.length = cc.length := by omega
   have pk : PlayOk f ⟨w, l0, []⟩ q := by
    have hall : ∀ y ∈ q, Good y.1.cs y.2 (16384 * (f + 1)) ∧ Stands y.2 := by
     intro y hy
     obtain ⟨i, hi3⟩ := List.mem_iff_getElem?.1 hy
     have hpti : pts[i]? = some y.1 := by rw [← hq1, List.getElem?_map, hi3]; rfl
     have hcci : cc[i]? = some (y.1.cw, y.1.cs) := by rw [← hpc, List.getElem?_map, hpti]; rfl
     have hccm := List.mem_of_getElem? hcci
     obtain ⟨t', ht', hl0⟩ := hbg i { calls := y.1.cs } (by rw [List.getElem?_map, hcci]; rfl)
     have : l0[i]? = some y.2 := by rw [← hq2', List.getElem?_map, hi3]; rfl
     rw [this] at hl0
     cases hl0
     exact ⟨Good.onF (k := 16384 * (f + 1)) (f := f) (init_good (hcc.ok _ hccm) (hcc.len _ hccm)) hf ht', onF_stands ht'⟩
    exact ⟨hq2', Nat.zero_le _, fun y hy => (hall y hy).1, fun y hy => (hall y hy).2⟩
   refine at_star (arr pb 0 [.slice none 0 0, .slice none 0 0] :: vec 1 (.slice qa q.length qc) (q.map ptrK) :: all (q.map thK) :: wdC wb w :: arr b6 0 [.slice none 0 0, .slice none 0 0] :: arr b8 0 [.slice none 0 0, .slice none 0 0] :: vec 1 (.slice ta cc.length tc) (cc.map cvK) :: wvC (.slice wa wn wc) (.slice la ln lc) w :: F) (fun h st => ?_) ?_
   ·rw [hR1, hR0] at st
    rw [hqc]
    refine Ent.star ?_ st
    exact (.take .here (.take .here (.take .here (.take (.there .here) (.take (.there .here) (.take (.there .here) (.take .here .refl)))))))
   refine at_sub [(1, .slice oa o.length oc), (2, .slice ta cc.length tc), (6, .pointer (some ⟨b6, 0, none⟩)), (8, .pointer (some ⟨b8, 0, none⟩)), (9, .pointer (some ⟨wb, 0, none⟩)), (10, .slice qa q.length qc), (13, .pointer (some ⟨pb, 0, none⟩))] ⟨rfl, rfl, rfl, rfl, rfl, by rw [hqc]; rfl, rfl, trivial⟩ ?_
   exact play_tail (F := vec 1 (.slice ta cc.length tc) (cc.map cvK) :: wvC (.slice wa wn wc) (.slice la ln lc) w :: F) (l0 := l0) (w := w) hby hp hf hcc.there.there ho hoi (fun i k h => by
    obtain ⟨b, p, h1, h2⟩ := hor i k h
    exact ⟨b, p, h1, .there (.there h2)⟩) hpc hq1 pk (by rw [hqc]; exact hqa) hqa2 hQ
end
section
variable {B : Hand} [Lets B] {L F G : List HProp} {x : B.X}
def clC (kv dv : Value) (cl : Mach.Cl) : HProp := all [vec 7 kv (cl.code.map inC).flatten, vec 1 dv (cl.data.map num)]
end
section
section
variable {B : Hand} [Lets B] {L F G : List HProp} {x : B.X} {n k v : Nat}
def rowOf (N : Nat) (f : Nat → Nat) : List Nat := (List.range N).map f
theorem rowOf_len {N : Nat} {f : Nat → Nat} : (rowOf N f).length = N := by simp [rowOf]
theorem rowOf_get {N i : Nat} {f : Nat → Nat} (h : i < N) : (rowOf N f)[i]? = some (f i) := by simp [rowOf, h]
theorem rowOf_set {N q v : Nat} {f : Nat → Nat} : (rowOf N f).set q v = rowOf N (upd f q v) := by
 apply List.ext_getElem?
 intro i
 rw [List.getElem?_set, rowOf_len]
 by_cases h : q = i
 ·subst h
  by_cases hi : q < N
  ·rw [if_pos rfl, if_pos hi, rowOf_get hi, upd_same]
  ·rw [if_pos rfl, if_neg hi]; simp [rowOf, hi]
 ·rw [if_neg h]
  by_cases hi : i < N
  ·rw [rowOf_get hi, rowOf_get hi, upd_other (fun e => h e.symm)]
  ·simp [rowOf, hi]
theorem row_set0 {N q v : Nat} {f : Nat → Nat} : [rowOf N f].set 0 ((rowOf N f).set q v) = [rowOf N (upd f q v)] := by
 rw [rowOf_set]; rfl
theorem inC_one {l : List Mach.In} : ∀ w ∈ (l.map inC).flatten, one w = true := by
 intro w hw
 simp only [List.mem_flatten, List.mem_map] at hw
 obtain ⟨c, ⟨i, _, rfl⟩, hw⟩ := hw
 simp only [inC, List.mem_cons, List.not_mem_nil, or_false] at hw
 rcases hw with rfl | rfl | rfl | rfl | rfl | rfl | rfl <;> rfl
theorem cl_shut {kv : Value} {cl : Mach.Cl} {cs : List Value} (hc : cs = (cl.code.map inC).flatten) (hd : cl.data = []) {h : Hp} (s : Star (vec 7 kv cs :: L) h) : Star (clC kv (.slice none 0 0) cl :: L) h := by
 subst hc
 refine star_shut (M := [_, _]) ?_
 rw [hd]
 exact star_swap (vec_nil s)
def yes (q : Bool) : Nat := if q then 1 else 0
theorem yes_tr {q : Bool} : Tr Try.prog B 45 [.bool q] L x fun v L' x' => v = num (yes q) ∧ L' = L ∧ x' = x := by
 cases q
 ·refine tr_of_body Try.func45 rfl Try.ntmps45 (by simp) fun um Q _ hQ => ?_
  simp only [argE, Nat.zero_add, Nat.reduceAdd]
  repeat (first | refine we_seq ?_ | (refine wR ?_; try simp only [oS]) | refine wo_nil ?_ | refine wM ?_ | refine wA ?_ | refine wF ?_ | refine we_ret ?_ | refine we_skip ?_)
  (first | refine or1 Try.func45 Try.results45 hQ rfl ?_ | refine on1 Try.func45 Try.results45 hQ rfl ?_)
  exact ⟨rfl, rfl, rfl⟩
 ·refine tr_of_body Try.func45 rfl Try.ntmps45 (by simp) fun um Q _ hQ => ?_
  simp only [argE, Nat.zero_add, Nat.reduceAdd]
  repeat (first | refine we_seq ?_ | (refine wR ?_; try simp only [oS]) | refine wo_nil ?_ | refine wM ?_ | refine wA ?_ | refine wT ?_ | refine we_ret ?_)
  (first | refine or1 Try.func45 Try.results45 hQ rfl ?_ | refine on1 Try.func45 Try.results45 hQ rfl ?_)
  exact ⟨rfl, rfl, rfl⟩
end
end
end Go.Proofs.Ythoefhocecdlhaa
namespace Go.Proofs.Ythoefhocecdlhaa
open Go Go.PB
attribute [local irreducible] Mo Bin Eql Tr Wo Ap Wle
section
def rowDM (N M fu : Nat) : Wds where
 W := fun f => ⟨[rowOf N f], 1⟩
 un := fun w i => (w.row 0).getD i 0
 ok := fun f => ∀ i, i < N → f i < M
 fu := fu
 back := fun f => by
  have e : rowOf N (fun i => ((Mach.Wd.row ⟨[rowOf N f], 1⟩ 0)).getD i 0) = rowOf N f := by
   apply List.ext_getElem?
   intro i
   by_cases h : i < N
   ·rw [rowOf_get h, rowOf_get h]
    show some ((rowOf N f).getD i 0) = _
    rw [List.getD_eq_getElem?_getD, rowOf_get h]; rfl
   ·simp [rowOf, h]
  rw [e]
 okun := fun f h i hi => by
  show (rowOf N f).getD i 0 < _
  rw [List.getD_eq_getElem?_getD, rowOf_get hi]; exact h i hi
theorem row_un {N M fu i : Nat} {f : Nat → Nat} (h : i < N) : f i = (rowDM N M fu).un ((rowDM N M fu).W f) i := by
 show f i = (rowOf N f).getD i 0
 rw [List.getD_eq_getElem?_getD, rowOf_get h]; rfl
theorem _root_.Go.PB.Mach.Op.more {f k : Nat} {w w' : Mach.Wd} {t t' : Mach.Th} {m : Nat × Nat} (h : Mach.Op f w t m w' t') : Mach.Op (f + k) w t m w' t' where
 over := h.over
 mark := h.mark
 on := by
  have o := h.on
  unfold Mach.opF at o ⊢
  split at o
  ·rename_i hp
   rw [if_pos hp]
   simp only [Option.map_eq_some_iff] at o ⊢
   obtain ⟨u, hu, e⟩ := o
   exact ⟨u, Mach.onF_more hu, e⟩
  ·cases o
theorem _root_.Go.PB.Mach.Op.up {f g : Nat} {w w' : Mach.Wd} {t t' : Mach.Th} {m : Nat × Nat} (h : Mach.Op f w t m w' t') (hle : f ≤ g) : Mach.Op g w t m w' t' := by
 obtain ⟨k, rfl⟩ := Nat.le.dest hle
 exact h.more
section
variable {D : Wds} {N k : Nat} {Pv : Nat × Mach.Th → HProp} {Pm : HProp}
theorem acc_go {addr : Nat → Nat × Nat} {K : List (Nat × Nat × Value)} {A : Apart addr N K} {Z : HProp} {hPv : ∀ q h, Star [Pv q] h → Pv q h} {sb says turn fin wg : Nat} {op w : Nat} {o : Int} {s : PlS} {R : PlS → Prop} {f0 : Nat → Nat} (ho : ((op : Nat) : Int) = o) (h0 : D.ok f0) (hfg : ∀ i, i < N → s.f i = s.g i) (hpm : ∀ h, Pm h → Pv (k, s.t) h)
  (hop : ∀ f, D.ok f → ∃ f' t', Mach.Op D.fu (D.W f) s.t (op, w) (D.W f') t' ∧ ∀ n, n < s.n → R ⟨f, D.un (D.W f'), t', n⟩) : (playAcc D addr N K A Z Pv hPv sb says turn fin wg k Pm).step o w s R := by
 obtain ⟨_, _, o1, _⟩ := hop f0 h0
 refine ⟨o1.over, by rw [o1.mark]; exact ho, by rw [o1.mark], hfg, hpm, fun f n hn hf => ?_⟩
 obtain ⟨f', t', o', h⟩ := hop f hf
 exact ⟨_, o'.on, h n hn⟩
theorem good_go {m : Nat × Nat} {t : Mach.Th} {f0 : Nat → Nat} (h0 : D.ok f0) (hop : ∀ f, D.ok f → ∃ f' t', Mach.Op D.fu (D.W f) t m (D.W f') t' ∧ D.ok f' ∧ GoodT D t') : GoodT D t := by
 obtain ⟨_, _, o, _⟩ := hop f0 h0
 refine GoodT.mk o.over fun f hf => ?_
 obtain ⟨f', t', o', h1, h2⟩ := hop f hf
 exact ⟨f', t', o'.on, h1, h2⟩
end
theorem goodN_go {D : Wds} {m : Nat × Nat} {n : Nat} {t : Mach.Th} {f0 : Nat → Nat} (h0 : D.ok f0) (hop : ∀ f, D.ok f → ∃ f' t', Mach.Op D.fu (D.W f) t m (D.W f') t' ∧ D.ok f' ∧ GoodN D n t') : GoodN D (n + 1) t := by
 obtain ⟨_, _, o, _⟩ := hop f0 h0
 refine .inr ⟨o.over, fun f hf => ?_⟩
 obtain ⟨f', t', o', h1, h2⟩ := hop f hf
 exact ⟨f', t', o'.on, h1, h2⟩
theorem goodN_le {D : Wds} : ∀ {n : Nat} {t : Mach.Th}, GoodN D (n + 1) t → GoodN D n t
 | 0, _, _ => trivial
 | n + 1, t, h => by
  rcases h with h | ⟨h1, h2⟩
  ·exact .inl h
  ·refine .inr ⟨h1, fun f hf => ?_⟩
   obtain ⟨f', t', a, b, c⟩ := h2 f hf
   exact ⟨f', t', a, b, goodN_le c⟩
theorem row_ok0 {N M fu : Nat} (h : 0 < M := by decide) : (rowDM N M fu).ok (fun _ => 0) := fun i _ => h
theorem row_upd {N M fu q v : Nat} {f : Nat → Nat} (h : (rowDM N M fu).ok f) (hv : v < M) : (rowDM N M fu).ok (upd f q v) := fun i hi => by
 unfold upd
 split
 ·exact hv
 ·exact h i hi
end
end Go.Proofs.Ythoefhocecdlhaa
namespace Go.PB.Mach
section
def mtakeCode (on ck need top w out : Nat) : List In := [⟨1, on, 10, 9, 0, 0, 0⟩, ⟨6, 0, 11, 0, 0, 0, ck⟩, ⟨16, 0, 12, 10, 11, 0, 0⟩, ⟨8, 0, 12, 12, 9, 0, need⟩, ⟨6, 0, 13, 0, 0, 0, top⟩, ⟨19, 0, 13, 9, 0, 0, w + 11⟩, ⟨20, 0, 13, 12, 0, 0, w + 11⟩,
 ⟨5, on, 14, 9, 10, 12, 0⟩, ⟨19, 0, 14, 9, 0, 0, w⟩, ⟨6, 0, out, 0, 0, 0, 1⟩, ⟨18, 0, 0, 0, 0, 0, w + 12⟩, ⟨6, 0, out, 0, 0, 0, 0⟩]
def mtakeCl (ck need top : Nat) : Cl := ⟨mtakeCode 0 ck need top 0 0 ++ [⟨22, 0, 9, 0, 0, 0, 0⟩, ⟨22, 0, 0, 0, 0, 0, 0⟩], []⟩
def mstateCl : Cl := ⟨[⟨1, 0, 0, 9, 0, 0, 0⟩, ⟨22, 0, 9, 0, 0, 0, 0⟩, ⟨22, 0, 0, 0, 0, 0, 0⟩], []⟩
def mlevelCl (ck bd den : Nat) : Cl := ⟨[⟨1, 0, 0, 9, 0, 0, 0⟩, ⟨6, 0, 1, 0, 0, 0, ck⟩, ⟨16, 0, 0, 0, 1, 0, 0⟩, ⟨8, 0, 2, 1, 9, 0, bd⟩, ⟨6, 0, 3, 0, 0, 0, 0⟩, ⟨20, 0, 2, 0, 0, 0, 9⟩, ⟨9, 0, 2, 2, 0, 0, 0⟩, ⟨6, 0, 4, 0, 0, 0, den⟩, ⟨11, 0, 3, 2, 4, 0, 0⟩, ⟨22, 0, 9, 0, 0, 0, 0⟩, ⟨22, 0, 3, 0, 0, 0, 0⟩], []⟩
def mrefCl (e : Nat) : Cl := ⟨[⟨6, 0, 0, 0, 0, 0, e⟩, ⟨22, 0, 0, 0, 0, 0, 0⟩, ⟨22, 0, 9, 0, 0, 0, 0⟩], []⟩
variable {cs : List Cl} {cl : Cl} {c on b ck need top out s u t1 t2 : Nat} {pre : List (Bool × List Nat)} {said : List Nat} {w : Wd} {t' : Th} {l : List Nat} {r : Nat → Nat} {f : Nat}
def HasMTake (cl : Cl) (on ck need top b out : Nat) : Prop := ∀ i x, (mtakeCode on ck need top b out)[i]? = some x → cl.code[b + i]? = some x
def mr (r : Nat → Nat) (s ck t1 t2 top : Nat) : Nat → Nat := upd (upd (upd (upd (upd r 10 s) 11 ck) 12 t1) 12 t2) 13 top
theorem mtake_0N (hc : cs[c]? = some cl) (hk : HasMTake cl on ck need 0 b out) (h0 : pre.length = c) (hw : w.words[on]? = some l) (hv : l[0]? = some s) (h9 : r 9 = 0) (hck : ck < 18446744073709551616) (h1 : max s ck % 18446744073709551616 = t1) (h2 : (t1 + need) % 18446744073709551616 = t2)
  (ho : onF (f + 10) (T cs c (b + 12) (upd (mr r s ck t1 t2 0) out 0) pre said) = some t') : Op (f + 20) w (T cs c b r pre said) (1, 0) w t' :=
 op_load (vb := 0) hc (hk 0 _ rfl) hw h9 rfl hv (Goes.on1 (st_set hc h0 (hk 1 _ rfl) (Nat.mod_eq_of_lt hck)) (Goes.on1 (st_most (vb := s) (vc := ck) hc h0 (hk 2 _ rfl) h1 rfl rfl) (Goes.on1 (st_plus (vb := t1) (vc := 0) hc h0 (hk 3 _ rfl) h2 rfl h9) (Goes.on1 (st_set hc h0 (hk 4 _ rfl) rfl) (Goes.on1 (st_sameT (vb := 0) (vc := 0) hc h0 (hk 5 _ rfl) rfl rfl h9) (Goes.on1 (st_set hc h0 (hk 11 _ rfl) rfl) (onF_more (k := 4) ho)))))))
theorem mtake_0F (hc : cs[c]? = some cl) (hk : HasMTake cl on ck need top b out) (h0 : pre.length = c) (hw : w.words[on]? = some l) (hv : l[0]? = some s) (h9 : r 9 = 0) (hck : ck < 18446744073709551616) (h1 : max s ck % 18446744073709551616 = t1) (h2 : (t1 + need) % 18446744073709551616 = t2) (ht : top < 18446744073709551616) (hne : ¬ top = 0) (hlt : top < t2)
  (ho : onF (f + 10) (T cs c (b + 12) (upd (mr r s ck t1 t2 top) out 0) pre said) = some t') : Op (f + 20) w (T cs c b r pre said) (1, 0) w t' :=
 op_load (vb := 0) hc (hk 0 _ rfl) hw h9 rfl hv (Goes.on1 (st_set hc h0 (hk 1 _ rfl) (Nat.mod_eq_of_lt hck)) (Goes.on1 (st_most (vb := s) (vc := ck) hc h0 (hk 2 _ rfl) h1 rfl rfl) (Goes.on1 (st_plus (vb := t1) (vc := 0) hc h0 (hk 3 _ rfl) h2 rfl h9) (Goes.on1 (st_set hc h0 (hk 4 _ rfl) (Nat.mod_eq_of_lt ht)) (Goes.on1 (st_sameF (vb := top) (vc := 0) hc h0 (hk 5 _ rfl) hne rfl h9) (Goes.on1 (st_belowT (vb := top) (vc := t2) hc h0 (hk 6 _ rfl) hlt rfl rfl) (Goes.on1 (st_set hc h0 (hk 11 _ rfl) rfl) (onF_more (k := 3) ho))))))))
theorem mtake_0T (hc : cs[c]? = some cl) (hk : HasMTake cl on ck need top b out) (h0 : pre.length = c) (hw : w.words[on]? = some l) (hv : l[0]? = some s) (h9 : r 9 = 0) (hck : ck < 18446744073709551616) (h1 : max s ck % 18446744073709551616 = t1) (h2 : (t1 + need) % 18446744073709551616 = t2) (ht : top < 18446744073709551616) (hne : ¬ top = 0) (hlt : ¬ top < t2) :
  Op 30 w (T cs c b r pre said) (1, 0) w (T cs c (b + 7) (mr r s ck t1 t2 top) pre said) :=
 op_load (vb := 0) hc (hk 0 _ rfl) hw h9 rfl hv (Goes.on1 (st_set hc h0 (hk 1 _ rfl) (Nat.mod_eq_of_lt hck)) (Goes.on1 (st_most (vb := s) (vc := ck) hc h0 (hk 2 _ rfl) h1 rfl rfl) (Goes.on1 (st_plus (vb := t1) (vc := 0) hc h0 (hk 3 _ rfl) h2 rfl h9) (Goes.on1 (st_set hc h0 (hk 4 _ rfl) (Nat.mod_eq_of_lt ht)) (Goes.on1 (st_sameF (vb := top) (vc := 0) hc h0 (hk 5 _ rfl) hne rfl h9) (Goes.on1 (st_belowF (vb := top) (vc := t2) hc h0 (hk 6 _ rfl) hlt rfl rfl) (on_stop hc h0 (hk 7 _ rfl) rfl)))))))
theorem mtake_7F (hc : cs[c]? = some cl) (hk : HasMTake cl on ck need top b out) (h0 : pre.length = c) (hw : w.words[on]? = some l) (hv : l[0]? = some u) (h9 : r 9 = 0) (hne : ¬ u = s) : Op 30 w (T cs c (b + 7) (mr r s ck t1 t2 top) pre said) (5, 0) w (T cs c b (upd (mr r s ck t1 t2 top) 14 0) pre said) :=
 op_casF (vb := 0) (vc := s) hc (hk 7 _ rfl) hw h9 rfl rfl hv hne (Goes.on1 (st_sameT (vb := 0) (vc := 0) hc h0 (hk 8 _ rfl) rfl rfl h9) (on_stop hc h0 (hk 0 _ rfl) rfl))
theorem mtake_7T {ws : List (List Nat)} (hc : cs[c]? = some cl) (hk : HasMTake cl on ck need top b out) (h0 : pre.length = c) (hw : w.words[on]? = some l) (hv : l[0]? = some s) (h9 : r 9 = 0) (hws : w.words.set on (l.set 0 t2) = ws)
  (ho : onF (f + 10) (T cs c (b + 12) (upd (upd (mr r s ck t1 t2 top) 14 1) out 1) pre said) = some t') : Op (f + 20) w (T cs c (b + 7) (mr r s ck t1 t2 top) pre said) (5, 0) ⟨ws, w.nl⟩ t' :=
 op_casT (vb := 0) (vd := t2) hc (hk 7 _ rfl) hw h9 rfl rfl rfl hv hws (Goes.on1 (st_sameF (vb := 1) (vc := 0) hc h0 (hk 8 _ rfl) (by decide) rfl h9) (Goes.on1 (st_set hc h0 (hk 9 _ rfl) rfl) (Goes.on1 (goes_jump hc h0 (hk 10 _ rfl)) (onF_more (k := 7) ho))))
theorem mtake_has : HasMTake (mtakeCl ck need top) 0 ck need top 0 0 := fun i x h => by
 show (mtakeCode 0 ck need top 0 0 ++ _)[0 + i]? = some x
 rw [Nat.zero_add, List.getElem?_append_left (List.getElem?_eq_some_iff.1 h).1]
 exact h
theorem mtake_end {a0 a9 : Nat} (hc : cs[c]? = some (mtakeCl ck need top)) (h0 : pre.length = c) (e0 : r 0 = a0) (e9 : r 9 = a9) (ho : onF f (Bt cs (c + 1) (pre ++ [(true, [a9, a0])])) = some t') : onF (f + 10) (T cs c (0 + 12) r pre []) = some t' :=
 Goes.on1 (st_tell (vb := a9) hc h0 rfl e9) (Goes.on1 (st_tell (vb := a0) hc h0 rfl e0) (Goes.on1 (goes_end hc h0 rfl) (onF_more (k := 7) ho)))
theorem mstate_0 (hc : cs[c]? = some mstateCl) (h0 : pre.length = c) (hw : w.words[0]? = some l) (hv : l[0]? = some s) (ho : onF f (Bt cs (c + 1) (pre ++ [(true, [0, s])])) = some t') : Op (f + 20) w (T cs c 0 (fun _ => 0) pre []) (1, 0) w t' :=
 op_load (vb := 0) hc rfl hw rfl rfl hv (Goes.on1 (st_tell (vb := 0) hc h0 rfl rfl) (Goes.on1 (st_tell (vb := s) hc h0 rfl rfl) (Goes.on1 (goes_end hc h0 rfl) (onF_more (k := 17) ho))))
variable {bd den v : Nat}
theorem mlevel_F (hc : cs[c]? = some (mlevelCl ck bd den)) (h0 : pre.length = c) (hw : w.words[0]? = some l) (hv : l[0]? = some s) (hck : ck < 18446744073709551616) (h1 : max s ck % 18446744073709551616 = t1) (h2 : (ck + bd) % 18446744073709551616 = t2) (hlt : t2 < t1)
  (ho : onF f (Bt cs (c + 1) (pre ++ [(true, [0, 0])])) = some t') : Op (f + 20) w (T cs c 0 (fun _ => 0) pre []) (1, 0) w t' :=
 op_load (vb := 0) hc rfl hw rfl rfl hv (Goes.on1 (st_set hc h0 rfl (Nat.mod_eq_of_lt hck)) (Goes.on1 (st_most (vb := s) (vc := ck) hc h0 rfl h1 rfl rfl) (Goes.on1 (st_plus (vb := ck) (vc := 0) hc h0 rfl h2 rfl rfl) (Goes.on1 (st_set hc h0 rfl rfl) (Goes.on1 (st_belowT (vb := t2) (vc := t1) hc h0 rfl hlt rfl rfl) (Goes.on1 (st_tell (vb := 0) hc h0 rfl rfl) (Goes.on1 (st_tell (vb := 0) hc h0 rfl rfl) (Goes.on1 (goes_end hc h0 rfl) (onF_more (k := 12) ho)))))))))
theorem mlevel_T {t3 : Nat} (hc : cs[c]? = some (mlevelCl ck bd den)) (h0 : pre.length = c) (hw : w.words[0]? = some l) (hv : l[0]? = some s) (hck : ck < 18446744073709551616) (h1 : max s ck % 18446744073709551616 = t1) (h2 : (ck + bd) % 18446744073709551616 = t2) (hlt : ¬ t2 < t1) (h3 : (t2 + 18446744073709551616 - t1) % 18446744073709551616 = t3) (hd : den < 18446744073709551616)
  (hq : (if den = 0 then 0 else t3 / den) % 18446744073709551616 = v) (ho : onF f (Bt cs (c + 1) (pre ++ [(true, [0, v])])) = some t') : Op (f + 20) w (T cs c 0 (fun _ => 0) pre []) (1, 0) w t' :=
 op_load (vb := 0) hc rfl hw rfl rfl hv (Goes.on1 (st_set hc h0 rfl (Nat.mod_eq_of_lt hck)) (Goes.on1 (st_most (vb := s) (vc := ck) hc h0 rfl h1 rfl rfl) (Goes.on1 (st_plus (vb := ck) (vc := 0) hc h0 rfl h2 rfl rfl) (Goes.on1 (st_set hc h0 rfl rfl) (Goes.on1 (st_belowF (vb := t2) (vc := t1) hc h0 rfl hlt rfl rfl)
  (Goes.on1 (st_less (vb := t2) (vc := t1) hc h0 rfl h3 rfl rfl) (Goes.on1 (st_set hc h0 rfl (Nat.mod_eq_of_lt hd)) (Goes.on1 (st_over (vb := t3) (vc := den) hc h0 rfl hq rfl rfl)
  (Goes.on1 (st_tell (vb := 0) hc h0 rfl rfl) (Goes.on1 (st_tell (vb := v) hc h0 rfl rfl) (Goes.on1 (goes_end hc h0 rfl) (onF_more (k := 9) ho))))))))))))
theorem mref_on {e : Nat} (hc : cs[c]? = some (mrefCl e)) (h0 : pre.length = c) (he : e < 18446744073709551616) (ho : onF f (Bt cs (c + 1) (pre ++ [(true, [e, 0])])) = some t') : onF (f + 10) (T cs c 0 (fun _ => 0) pre []) = some t' :=
 Goes.on1 (st_set hc h0 rfl (Nat.mod_eq_of_lt he)) (Goes.on1 (st_tell (vb := e) hc h0 rfl rfl) (Goes.on1 (st_tell (vb := 0) hc h0 rfl rfl) (Goes.on1 (goes_end hc h0 rfl) (onF_more (k := 6) ho))))
end
end Go.PB.Mach
namespace Go.Proofs.Ythoefhocecdlhaa
open Go Go.PB
attribute [local irreducible] Mo Bin Eql Tr Wo Ap Wle
section
theorem mulw {u v w : Nat} (h : u * v = w) (hw : w < 18446744073709551616) : IntKind.u64.wrap ((u : Int) * (v : Int)) = (w : Int) := by
 rw [← Int.natCast_mul, h]; exact wrap_u64 (by omega) (by omega)
theorem addw {u v w : Nat} (h : u + v = w) (hw : w < 18446744073709551616) : IntKind.u64.wrap ((u : Int) + (v : Int)) = (w : Int) := by
 rw [← Int.natCast_add, h]; exact wrap_u64 (by omega) (by omega)
theorem subw {u v w : Nat} (h : v + w = u) (hw : u < 18446744073709551616) : IntKind.u64.wrap ((u : Int) - (v : Int)) = (w : Int) := by
 rw [show (u : Int) - (v : Int) = (w : Int) by omega]; exact wrap_u64 (by omega) (by omega)
theorem mulm {u v : Nat} : IntKind.u64.wrap ((u : Int) * (v : Int)) = ((u * v % 18446744073709551616 : Nat) : Int) := by
 rw [← Int.natCast_mul, wrap_u64_mod]; generalize u * v = m; omega
theorem lowm {u : Nat} (h : u < 18446744073709551616) : IntKind.u64.wrap (BitVec.ofInt IntKind.u64.bits (u : Int) &&& BitVec.ofInt IntKind.u64.bits (4294967295 : Int)).toNat = ((u % 4294967296 : Nat) : Int) := by
 rw [show (4294967295 : Int) = ((4294967295 : Nat) : Int) from rfl, and_u64' h (by omega), show u &&& 4294967295 = u % 4294967296 from Nat.and_two_pow_sub_one_eq_mod u 32]; omega
theorem highm {u : Nat} (h : u < 18446744073709551616) : (u : Int).fdiv (2 ^ (min (32 : Int).toNat IntKind.u64.bits)) = ((u / 4294967296 : Nat) : Int) := by
 have := u64_shr (a := u) (n := 32) (by omega) h
 rw [show ((32 : Nat) : Int) = 32 from rfl] at this
 rw [this]; omega
section
variable {B : Hand} [Lets B] {L F : List HProp} {x : B.X} {a b : Nat}
set_option maxHeartbeats 2000000 in
theorem mul64_tr (ha : a < 18446744073709551616) (hb : b < 18446744073709551616) : Tr Try.prog B 97 [.int .u64 (a : Nat), .int .u64 (b : Nat)] L x fun v L' x' => v = .tuple #[.int .u64 (a * b / 18446744073709551616 : Nat), .int .u64 (a * b % 18446744073709551616 : Nat)] ∧ L' = L ∧ x' = x := by
 obtain ⟨k1, k2, k3, k4⟩ := Go.Lib.mul64_hi a b ha hb
 have e1 := lowm ha
 have e2 := lowm hb
 have e3 := highm ha
 have e4 := highm hb
 have hab : a * b / 18446744073709551616 < 18446744073709551616 := Nat.div_lt_of_lt_mul (Nat.mul_lt_mul'' ha hb)
 have e5 := mulm (u := a) (v := b)
 generalize a * b / 18446744073709551616 = hi at *
 generalize a * b % 18446744073709551616 = lo at *
 generalize a % 4294967296 = x0 at *
 generalize a / 4294967296 = x1 at *
 generalize b % 4294967296 = y0 at *
 generalize b / 4294967296 = y1 at *
 have m1 : IntKind.u64.wrap ((x0 : Int) * (y0 : Int)) = ((x0 * y0 : Nat) : Int) := mulw rfl (by omega)
 have m2 : IntKind.u64.wrap ((x1 : Int) * (y0 : Int)) = ((x1 * y0 : Nat) : Int) := mulw rfl (by omega)
 have m3 : IntKind.u64.wrap ((x0 : Int) * (y1 : Int)) = ((x0 * y1 : Nat) : Int) := mulw rfl (by omega)
 have m4 : IntKind.u64.wrap ((x1 : Int) * (y1 : Int)) = ((x1 * y1 : Nat) : Int) := mulw rfl (by omega)
 generalize x0 * y0 = p00 at *
 generalize x1 * y0 = p10 at *
 generalize x0 * y1 = p01 at *
 generalize x1 * y1 = p11 at *
 have h1 := highm (u := p00) (by omega)
 have s1 : IntKind.u64.wrap ((p10 : Int) + ((p00 / 4294967296 : Nat) : Int)) = ((p10 + p00 / 4294967296 : Nat) : Int) := addw rfl (by omega)
 generalize p00 / 4294967296 = c00 at *
 generalize p10 + c00 = t at *
 have h2 := highm (u := t) (by omega)
 have l2 := lowm (u := t) (by omega)
 generalize t / 4294967296 = w2 at *
 generalize t % 4294967296 = w1 at *
 have s2 : IntKind.u64.wrap ((w1 : Int) + (p01 : Int)) = ((w1 + p01 : Nat) : Int) := addw rfl (by omega)
 have s3 : IntKind.u64.wrap ((p11 : Int) + (w2 : Int)) = ((p11 + w2 : Nat) : Int) := addw rfl (by omega)
 generalize w1 + p01 = w1' at *
 generalize p11 + w2 = q at *
 have h3 := highm (u := w1') (by omega)
 have s4 : IntKind.u64.wrap ((q : Int) + ((w1' / 4294967296 : Nat) : Int)) = (hi : Int) := addw k4 hab
 refine tr_of_body Try.func97 rfl Try.ntmps97 (by simp) fun um Q _ hQ => ?_
 simp only [argE, Nat.zero_add, Nat.reduceAdd]
 repeat (first | (apply wo_po; apply mo_bin; exact rfl; exact rfl; apply bin_and; (first | exact e1 | exact e2 | exact l2); exact gY) | (apply wo_po; apply mo_bin; exact rfl; exact rfl; apply bin_shr; omega; (first | exact e3 | exact e4 | exact h1 | exact h2 | exact h3); exact gY) | (apply wo_po; apply mo_bin; exact rfl; exact rfl; apply bin_mul; (first | exact m1 | exact m2 | exact m3 | exact m4 | exact e5); exact gY) | (apply wo_po; apply mo_bin; exact rfl; exact rfl; apply bin_add; (first | exact s1 | exact s2 | exact s3 | exact s4); exact gY) | refine we_seq ?_ | (refine wR ?_; try simp only [oS]) | refine wo_nil ?_ | refine wM ?_ | refine wA ?_ | refine we_ret ?_)
 (first | refine or2 Try.func97 Try.results97 hQ rfl rfl ?_ | refine on2 Try.func97 Try.results97 hQ rfl rfl ?_)
 exact ⟨rfl, rfl, rfl⟩
end
instance : Exn Try.prog 98 add64Entry := ⟨⟨Try.f98, Try.func98, by kernel_rfl, by kernel_rfl, by kernel_rfl, by kernel_rfl⟩⟩
theorem at_add64 {P : Program} {L : List HProp} {a b : Nat} : ∀ (M : Mark → Prop) h (Q : Value → Hp → Prop) X, Star L h → (∀ v L' h', (v = .tuple #[.int .u64 ((a + b) % 18446744073709551616 : Nat), .int .u64 ((a + b) / 18446744073709551616 : Nat)] ∧ L' = L) → Star L' h' → Q v h') → wpS P M (add64Entry [.int .u64 (a : Nat), .int .u64 (b : Nat), .int .u64 0].toArray) h Q X := by
 intro M h Q X s q
 exact q _ L h ⟨rfl, rfl⟩ s
end
section
def takeN (num den burst s now n : Nat) : Option Nat :=
 if burst * den < n * den + (max s (now * num) - now * num) then none else some ((max s (now * num) + n * den) % 18446744073709551616)
def levelN (num den burst s now : Nat) : Nat :=
 if burst * den < max s (now * num) - now * num then 0 else (burst * den - (max s (now * num) - now * num)) / den
def takeR (s : Nat) : Option Nat → Value
 | none => .tuple #[.int .u64 (s : Nat), .bool false, .int .i64 0]
 | some t => .tuple #[.int .u64 (t : Nat), .bool true, .int .i64 0]
structure BOk (num den burst : Nat) : Prop where
 n1 : 1 ≤ num
 n2 : num ≤ 65536
 d1 : 1 ≤ den
 d2 : den ≤ 65536
 b1 : 1 ≤ burst
 b2 : burst ≤ 1048576
section
variable {B : Hand} [Lets B] {L F : List HProp} {x : B.X} {num den burst now n s h1 l1 h2 l2 b wb : Nat}
theorem mo_maxN {P : Program} {e : Env} {ty : TypeId} {o o' : Operand} {tys : Array TypeId} {k : IntKind} {a b c : Nat} (hx : ev e o = some (.int k a)) (hy : ev e o' = some (.int k b)) (h : max a b = c) : Mo P e (.call ⟨.builtin .max, #[o, o'], tys⟩) ty L fun v' L' => v' = .int k c ∧ L' = L := by
 have := mo_max (P := P) (ty := ty) (L := L) (tys := tys) hx hy
 rw [show max (a : Int) (b : Int) = (c : Int) by omega] at this
 exact this
theorem check_ok (O : BOk num den burst) : Tr Try.prog B 43 [.agg #[.int .u64 (num : Nat), .int .u64 (den : Nat), .int .u64 (burst : Nat)]] L x fun v L' x' => v = .int .i64 0 ∧ L' = L ∧ x' = x := by
 obtain ⟨n1, n2, d1, d2, b1, b2⟩ := O
 refine Tr.post (R := fun v L' x' => v = .int .i64 0 ∧ x' = x ∧ ∀ h, Star L' h → Star L h) ?_ (by rintro v L' x' ⟨h0, rfl, hs⟩; exact ⟨L, ⟨h0, rfl, rfl⟩, hs⟩)
 refine tr_of_body Try.func43 rfl Try.ntmps43 (by simp) fun um Q _ hQ => ?_
 simp only [argE, Nat.zero_add, Nat.reduceAdd]
 repeat (first | (apply wo_mo; apply mo_box; exact rfl; exact trivial) | refine we_seq ?_ | (refine wR ?_; try simp only [oS]))
 rintro v' L' ⟨bb, rfl, rfl⟩
 refine wo_ent (arr bb 0 [.int .u64 (num : Nat), .int .u64 (den : Nat), .int .u64 (burst : Nat)] :: L) .refl ?_
 repeat (first | refine wlssF ?_ | refine wgtrF ?_ | refine we_seq ?_ | (refine wR ?_; try simp only [oS]) | refine wo_nil ?_ | refine wM ?_ | refine wA ?_ | refine wJ ?_ | refine wD ?_ | refine wL ?_ | refine wF ?_ | refine we_ret ?_ | refine we_skip ?_)
 (first | refine or1 Try.func43 Try.results43 hQ rfl ?_ | refine on1 Try.func43 Try.results43 hQ rfl ?_)
 exact ⟨rfl, rfl, fun h st => star_drop st⟩
def mayInv (x : B.X) (L : List HProp) (sb cp : Nat) : Inv Nat B.X where
 e := fun i => [(13, .slice (some ⟨sb, 0, none⟩) 1 cp), (14, .int .i64 1), (15, .int .i64 (i : Nat))]
 L := fun _ => L
 x := fun _ => x
 ok := fun i => i ≤ 1
theorem may_tr {sb cp : Nat} (O : BOk num den burst) (ht : now ≤ 1099511627776) (hr : Rd L sb 0 (.int .u64 (now : Nat))) : Tr Try.prog B 63 [.agg #[.int .u64 (num : Nat), .int .u64 (den : Nat), .int .u64 (burst : Nat)], .slice (some ⟨sb, 0, none⟩) 1 cp] L x fun v L' x' => v = .int .i64 0 ∧ L' = L ∧ x' = x := by
 refine Tr.post (R := fun v L' x' => v = .int .i64 0 ∧ x' = x ∧ ∀ h, Star L' h → Star L h) ?_ (by rintro v L' x' ⟨h0, rfl, hs⟩; exact ⟨L, ⟨h0, rfl, rfl⟩, hs⟩)
 refine tr_of_body Try.func63 rfl Try.ntmps63 (by simp) fun um Q _ hQ => ?_
 simp only [argE, Nat.zero_add, Nat.reduceAdd]
 repeat (first | (apply wo_mo; apply mo_box; exact rfl; exact trivial) | refine we_seq ?_ | (refine wR ?_; try simp only [oS]))
 rintro v' L' ⟨bb, rfl, rfl⟩
 refine wo_ent (arr bb 0 [.int .u64 (num : Nat), .int .u64 (den : Nat), .int .u64 (burst : Nat)] :: L) .refl ?_
 repeat (first | (apply wo_po; apply mo_loadA (vs := [.int .u64 (num : Nat), .int .u64 (den : Nat), .int .u64 (burst : Nat)]); exact rfl; exact rfl; exact Rds.all .here; exact trivial) | refine we_seq ?_ | (refine wR ?_; try simp only [oS]) | refine wo_nil ?_ | refine wA ?_)
 refine wo_call (.cons rfl .nil) trivial (check_ok O) ?_
 rintro v L' x' ⟨rfl, rfl, rfl⟩
 repeat (first | refine wneqF ?_ | refine we_seq ?_ | (refine wR ?_; try simp only [oS]) | refine wo_nil ?_ | refine wM ?_ | refine wA ?_ | refine wE ?_ | refine wF ?_ | refine we_skip ?_ | refine we_block ?_)
 refine we_loopN (mayInv x' (arr bb 0 [.int .u64 (num : Nat), .int .u64 (den : Nat), .int .u64 (burst : Nat)] :: L) sb cp) (fun i => 2 - i) 0 (by show 0 ≤ 1; omega) ⟨rfl, rfl, rfl, trivial⟩ .refl rfl ?_
 intro i hi
 dsimp only [mayInv] at hi ⊢
 by_cases c : i < 1
 ·have : i = 0 := by omega
  subst this
  repeat (first | (apply wo_po; apply mo_indexAddr (r := 0); exact rfl; exact rfl; omega; omega; omega; exact trivial) | (apply wo_po; apply mo_load; exact rfl; exact (Rd.there hr); exact trivial) | refine wlssT ?_ | refine wgtrF ?_ | refine we_seq ?_ | (refine wR ?_; try simp only [oS]) | refine wo_nil ?_ | refine wM ?_ | refine wA ?_ | refine wadd ?_ | refine wT ?_ | refine wF ?_ | refine we_skip ?_ | refine we_block ?_)
  exact at_round (I := mayInv _ _ sb cp) (R := fun i' => 2 - i' < 2 - 0) 1 (by omega) (by show 1 ≤ 1; omega) ⟨rfl, rfl, rfl, trivial⟩ .refl rfl
 ·repeat (first | refine wlssF ?_ | refine we_seq ?_ | (refine wR ?_; try simp only [oS]) | refine wo_nil ?_ | refine wA ?_ | refine wF ?_ | refine we_ret ?_ | refine we_exit ?_)
  (first | refine or1 Try.func63 Try.results63 hQ rfl ?_ | refine on1 Try.func63 Try.results63 hQ rfl ?_)
  exact ⟨rfl, rfl, fun h st => star_drop st⟩
theorem ahead_tr (O : BOk num den burst) (ht : now ≤ 1099511627776) (hs : s < 18446744073709551616) : Tr Try.prog B 64 [.agg #[.int .u64 (num : Nat), .int .u64 (den : Nat), .int .u64 (burst : Nat)], .int .u64 (s : Nat), .int .u64 (now : Nat)] L x fun v L' x' => v = .tuple #[.int .u64 (max s (now * num) : Nat), .int .u64 (max s (now * num) - now * num : Nat)] ∧ L' = L ∧ x' = x := by
 have hm : now * num ≤ 1099511627776 * 65536 := Nat.mul_le_mul ht O.n2
 have m1 : IntKind.u64.wrap ((now : Int) * (num : Int)) = ((now * num : Nat) : Int) := mulw rfl (by omega)
 generalize now * num = ck at *
 have s1 : IntKind.u64.wrap (((max s ck : Nat) : Int) - (ck : Int)) = ((max s ck - ck : Nat) : Int) := subw (by omega) (by omega)
 refine Tr.post (R := fun v L' x' => v = .tuple #[.int .u64 (max s ck : Nat), .int .u64 (max s ck - ck : Nat)] ∧ x' = x ∧ ∀ h, Star L' h → Star L h) ?_ (by rintro v L' x' ⟨h0, rfl, hs⟩; exact ⟨L, ⟨h0, rfl, rfl⟩, hs⟩)
 refine tr_of_body Try.func64 rfl Try.ntmps64 (by simp) fun um Q _ hQ => ?_
 simp only [argE, Nat.zero_add, Nat.reduceAdd]
 repeat (first | (apply wo_mo; apply mo_box; exact rfl; exact trivial) | refine we_seq ?_ | (refine wR ?_; try simp only [oS]))
 rintro v' L' ⟨bb, rfl, rfl⟩
 refine wo_ent (arr bb 0 [.int .u64 (num : Nat), .int .u64 (den : Nat), .int .u64 (burst : Nat)] :: L) .refl ?_
 repeat (first | (apply wo_po; apply mo_bin; exact rfl; exact rfl; apply bin_mul; (first | exact m1); exact gY) | (apply wo_po; apply mo_bin; exact rfl; exact rfl; apply bin_sub; (first | exact s1); exact gY) | (apply wo_po; apply mo_maxN (c := max s ck); exact rfl; exact rfl; exact rfl; exact trivial) | refine we_seq ?_ | (refine wR ?_; try simp only [oS]) | refine wo_nil ?_ | refine wM ?_ | refine wA ?_ | refine wD ?_ | refine wL ?_ | refine we_ret ?_)
 (first | refine or2 Try.func64 Try.results64 hQ rfl rfl ?_ | refine on2 Try.func64 Try.results64 hQ rfl rfl ?_)
 exact ⟨rfl, rfl, fun h st => star_drop st⟩
theorem times_tr {a b : Nat} (ha : a < 18446744073709551616) (hb : b < 18446744073709551616) : Tr Try.prog B 65 [.int .u64 (a : Nat), .int .u64 (b : Nat)] L x fun v L' x' => v = .agg #[.int .u64 (a * b / 18446744073709551616 : Nat), .int .u64 (a * b % 18446744073709551616 : Nat)] ∧ L' = L ∧ x' = x := by
 refine Tr.post (R := fun v L' x' => v = .agg #[.int .u64 (a * b / 18446744073709551616 : Nat), .int .u64 (a * b % 18446744073709551616 : Nat)] ∧ x' = x ∧ ∀ h, Star L' h → Star L h) ?_ (by rintro v L' x' ⟨h0, rfl, hs⟩; exact ⟨L, ⟨h0, rfl, rfl⟩, hs⟩)
 refine tr_of_body Try.func65 rfl Try.ntmps65 (by simp) fun um Q _ hQ => ?_
 simp only [argE, Nat.zero_add, Nat.reduceAdd]
 repeat (first | (apply wo_mo; apply mo_alloc; exact trivial) | refine we_seq ?_ | (refine wR ?_; try simp only [oS]))
 rintro v' L' ⟨cb, rfl, rfl⟩
 repeat (first | refine we_seq ?_ | (refine wR ?_; try simp only [oS]) | refine wo_nil ?_ | refine wM ?_)
 refine wo_call (.cons rfl (.cons rfl .nil)) trivial (mul64_tr ha hb) ?_
 rintro v' L' x' ⟨rfl, rfl, rfl⟩
 repeat (first | (apply wo_po; apply mo_build (pv := [(0, _), (1, _)]); exact rfl; exact .cons rfl (.cons rfl .nil); exact rfl; exact trivial) | (apply wo_pm; apply mo_storeA (b := cb) (c := 0) (k := 0) (a := 0) (vs := [.int .u64 0, .int .u64 0]); exact rfl; exact rfl; exact rfl; (intro w hw; simp [Value.cells] at hw; rcases hw with rfl | rfl <;> rfl); exact rfl; exact Nat.le_refl 2; exact .here; exact trivial) | refine we_seq ?_ | (refine wR ?_; try simp only [oS]) | refine wo_nil ?_ | refine wM ?_ | refine wA ?_ | (apply wo_po; apply mo_extract; exact rfl; exact rfl; exact gY) | refine we_ret ?_)
 refine at_leaveM (rs := [.cell 4 163]) Try.func65 Try.results65 hQ (.inl rfl) (.cons (.cell (vs := [.int .u64 (a * b / 18446744073709551616 : Nat), .int .u64 (a * b % 18446744073709551616 : Nat)]) rfl rfl (Rds.all .here)) .nil) ?_
 exact ⟨rfl, rfl, fun h st => star_drop st⟩
theorem wadd_tr (e1 : h1 < 18446744073709551616) (e2 : l1 < 18446744073709551616) (e3 : l2 < 18446744073709551616) (e4 : h1 + 1 < 18446744073709551616) (hh : Has L (arr wb 0 [.int .u64 (h1 : Nat), .int .u64 (l1 : Nat)]) F) : Tr Try.prog B 66 [.pointer (some ⟨wb, 0, none⟩), .agg #[.int .u64 0, .int .u64 (l2 : Nat)]] L x fun v L' x' => v = .tuple #[] ∧ L' = arr wb 0 [.int .u64 (h1 + (l1 + l2) / 18446744073709551616 : Nat), .int .u64 ((l1 + l2) % 18446744073709551616 : Nat)] :: F ∧ x' = x := by
 refine Tr.post (R := fun v L' x' => v = .tuple #[] ∧ x' = x ∧ ∀ h, Star L' h → Star (arr wb 0 [.int .u64 (h1 + (l1 + l2) / 18446744073709551616 : Nat), .int .u64 ((l1 + l2) % 18446744073709551616 : Nat)] :: F) h) ?_ (by rintro v L' x' ⟨h0, rfl, hs⟩; exact ⟨_, ⟨h0, rfl, rfl⟩, hs⟩)
 refine tr_star (arr wb 0 [.int .u64 (h1 : Nat), .int .u64 (l1 : Nat)] :: F) (fun h st => hh.star st) ?_
 have s1 : IntKind.u64.wrap ((h1 : Int) + (0 : Int)) = (h1 : Int) := wrap_u64 (by omega) (by omega)
 have hc : (l1 + l2) / 18446744073709551616 ≤ 1 := by omega
 have s2 : IntKind.u64.wrap ((h1 : Int) + (((l1 + l2) / 18446744073709551616 : Nat) : Int)) = ((h1 + (l1 + l2) / 18446744073709551616 : Nat) : Int) := addw rfl (by omega)
 have hadd := fun (L : List HProp) => at_add64 (P := Try.prog) (L := L) (a := l1) (b := l2)
 generalize (l1 + l2) / 18446744073709551616 = cy at *
 generalize (l1 + l2) % 18446744073709551616 = lo at *
 refine tr_of_body Try.func66 rfl Try.ntmps66 (by simp) fun um Q _ hQ => ?_
 simp only [argE, Nat.zero_add, Nat.reduceAdd]
 repeat (first | (apply wo_mo; apply mo_box; exact rfl; exact trivial) | refine we_seq ?_ | (refine wR ?_; try simp only [oS]))
 rintro v' L' ⟨vb, rfl, rfl⟩
 refine wo_ent (arr vb 0 [.int .u64 0, .int .u64 (l2 : Nat)] :: arr wb 0 [.int .u64 (h1 : Nat), .int .u64 (l1 : Nat)] :: F) .refl ?_
 repeat (first | refine we_seq ?_ | (refine wR ?_; try simp only [oS]) | refine wo_nil ?_ | refine wA ?_)
 refine we_draw (List.range' 0 15) (by kernel_rfl) ?_
 repeat (first | refine aM ?_ | refine aN ?_ | refine aD ?_ | refine aL ?_)
 refine ap_loud rfl rfl rfl rfl rfl trivial (mo_ext (args := [_, _, _]) (.cons rfl (.cons rfl (.cons rfl .nil))) (hadd _)) ?_
 rintro v' L' ⟨rfl, rfl⟩
 repeat (first | refine aM ?_ | refine aN ?_ | refine aD ?_ | (apply ap_pure; exact rfl; exact rfl; exact gY; intro L; apply mo_extract; exact rfl; exact rfl))
 refine ap_loud rfl rfl rfl rfl rfl trivial (mo_store rfl rfl rfl (Wt.row (k := 1) (vs := [.int .u64 (h1 : Nat), .int .u64 (l1 : Nat)]) (Nat.lt_succ_self 1) rfl (.there .here))) ?_
 rintro v' L' ⟨rfl, rfl⟩
 repeat (first | refine aA ?_ | refine ap_end ?_)
 repeat (first | refine we_seq ?_)
 refine we_draw (List.range' 0 10) (by kernel_rfl) ?_
 repeat (first | (apply ap_pure; exact rfl; exact rfl; exact gY; intro L; apply mo_bin; exact rfl; exact rfl; apply bin_add; exact s1) | refine aM ?_ | refine aN ?_ | refine aD ?_ | refine aL ?_)
 refine ap_loud rfl rfl rfl rfl rfl trivial (mo_store rfl rfl rfl (Wt.row0 (k := 0) (.there .here) (by simp))) ?_
 rintro v' L' ⟨rfl, rfl⟩
 repeat (first | refine ap_end ?_)
 repeat (first | (apply wo_po; apply mo_bin; exact rfl; exact rfl; apply bin_add; (first | exact s2); exact gY) | refine wS ?_ | (refine wR ?_; try simp only [oS]) | refine wo_nil ?_ | refine wM ?_ | refine wN ?_ | refine wD ?_ | refine wL ?_)
 (first | refine or0 Try.func66 Try.results66 hQ ?_ | refine on0 Try.func66 Try.results66 hQ ?_)
 exact ⟨rfl, rfl, fun h st => Ent.star (.take (.there .here) (.drop .refl)) st⟩
theorem above_tr (e1 : l1 < 18446744073709551616) (e2 : l2 < 18446744073709551616) {q : Bool} (hq : q = decide (h2 * 18446744073709551616 + l2 < h1 * 18446744073709551616 + l1)) : Tr Try.prog B 67 [.agg #[.int .u64 (h1 : Nat), .int .u64 (l1 : Nat)], .agg #[.int .u64 (h2 : Nat), .int .u64 (l2 : Nat)]] L x fun v L' x' => v = .bool q ∧ L' = L ∧ x' = x := by
 refine Tr.post (R := fun v L' x' => v = .bool q ∧ x' = x ∧ ∀ h, Star L' h → Star L h) ?_ (by rintro v L' x' ⟨h0, rfl, hs⟩; exact ⟨L, ⟨h0, rfl, rfl⟩, hs⟩)
 have hc : (h2 < h1 ∧ q = true) ∨ (h1 = h2 ∧ l2 < l1 ∧ q = true) ∨ (h1 = h2 ∧ l1 ≤ l2 ∧ q = false) ∨ (h1 < h2 ∧ q = false) := by
  rcases Nat.lt_trichotomy h1 h2 with c | c | c
  ·exact .inr (.inr (.inr ⟨c, by rw [hq]; exact decide_eq_false (by omega)⟩))
  ·by_cases d : l2 < l1
   ·exact .inr (.inl ⟨c, d, by rw [hq]; exact decide_eq_true (by omega)⟩)
   ·exact .inr (.inr (.inl ⟨c, by omega, by rw [hq]; exact decide_eq_false (by omega)⟩))
  ·exact .inl ⟨c, by rw [hq]; exact decide_eq_true (by omega)⟩
 clear hq
 refine tr_of_body Try.func67 rfl Try.ntmps67 (by simp) fun um Q _ hQ => ?_
 simp only [argE, Nat.zero_add, Nat.reduceAdd]
 repeat (first | (apply wo_mo; apply mo_box; exact rfl; exact trivial) | refine we_seq ?_ | (refine wR ?_; try simp only [oS]))
 rintro v' L' ⟨ab, rfl, rfl⟩
 refine wo_ent (arr ab 0 [.int .u64 (h1 : Nat), .int .u64 (l1 : Nat)] :: L) .refl ?_
 repeat (first | (apply wo_mo; apply mo_box; exact rfl; exact trivial))
 rintro v' L' ⟨cb, rfl, rfl⟩
 refine wo_ent (arr cb 0 [.int .u64 (h2 : Nat), .int .u64 (l2 : Nat)] :: arr ab 0 [.int .u64 (h1 : Nat), .int .u64 (l1 : Nat)] :: L) .refl ?_
 rcases hc with ⟨c, rfl⟩ | ⟨c, d, rfl⟩ | ⟨c, d, rfl⟩ | ⟨c, rfl⟩
 all_goals
  repeat (first | refine wgtrT ?_ | refine wgtrF ?_ | refine weqlT ?_ | refine weqlF ?_ | refine we_seq ?_ | (refine wR ?_; try simp only [oS]) | refine wo_nil ?_ | refine wM ?_ | refine wA ?_ | (apply wo_no; exact rfl) | (apply wo_nu; exact rfl) | refine wK ?_ | refine wJ ?_ | refine wD ?_ | refine wL ?_ | refine we_ret ?_)
  (first | refine or1 Try.func67 Try.results67 hQ rfl ?_ | refine on1 Try.func67 Try.results67 hQ rfl ?_)
  exact ⟨rfl, rfl, fun h st => star_drop (star_drop st)⟩
set_option maxHeartbeats 2000000 in
theorem btake_tr (O : BOk num den burst) (ht : now ≤ 1099511627776) (hs : s < 18446744073709551616) (hn : n < 18446744073709551616) {r : Option Nat} (hr : takeN num den burst s now n = r) : Tr Try.prog B 39 [.agg #[.int .u64 (num : Nat), .int .u64 (den : Nat), .int .u64 (burst : Nat)], .int .u64 (s : Nat), .int .u64 (now : Nat), .int .u64 (n : Nat)] L x fun v L' x' => v = takeR s r ∧ L' = L ∧ x' = x := by
 refine Tr.post (R := fun v L' x' => v = takeR s r ∧ x' = x ∧ ∀ h, Star L' h → Star L h) ?_ (by rintro v L' x' ⟨h0, rfl, hs⟩; exact ⟨L, ⟨h0, rfl, rfl⟩, hs⟩)
 refine tr_of_body Try.func39 rfl Try.ntmps39 (by simp) fun um Q _ hQ => ?_
 simp only [argE, Nat.zero_add, Nat.reduceAdd]
 repeat (first | (apply wo_mo; apply mo_box; exact rfl; exact trivial) | refine we_seq ?_ | (refine wR ?_; try simp only [oS]))
 rintro v' L' ⟨bb, rfl, rfl⟩
 refine wo_ent (arr bb 0 [.int .u64 (num : Nat), .int .u64 (den : Nat), .int .u64 (burst : Nat)] :: L) .refl ?_
 repeat (first | (apply wo_po; apply mo_loadA (vs := [.int .u64 (num : Nat), .int .u64 (den : Nat), .int .u64 (burst : Nat)]); exact rfl; exact rfl; exact Rds.all .here; exact trivial) | (apply wo_mo; apply mo_buildSlice (sz := 1) (vs := [_]); exact rfl; exact .cons rfl .nil; exact rfl; (intro v hv; cases (List.mem_singleton.1 hv); exact rfl); omega; exact trivial) | refine we_seq ?_ | (refine wR ?_; try simp only [oS]) | refine wo_nil ?_ | refine wM ?_ | refine wA ?_)
 rintro v' L' ⟨sb, rfl, rfl⟩
 refine wo_ent (arr sb 0 [.int .u64 (now : Nat)] :: arr bb 0 [.int .u64 (num : Nat), .int .u64 (den : Nat), .int .u64 (burst : Nat)] :: L) .refl ?_
 skip
 refine wo_call (.cons rfl (.cons rfl .nil)) trivial (may_tr O ht (Rd.row (k := 0) rfl rfl)) ?_
 rintro v' L' x' ⟨rfl, rfl, rfl⟩
 repeat (first | (apply wo_po; apply mo_loadA (vs := [.int .u64 (num : Nat), .int .u64 (den : Nat), .int .u64 (burst : Nat)]); exact rfl; exact rfl; exact Rds.all (.there .here); exact trivial) | refine wneqF ?_ | refine we_seq ?_ | (refine wR ?_; try simp only [oS]) | refine wo_nil ?_ | refine wM ?_ | refine wA ?_ | refine wF ?_ | refine we_skip ?_)
 refine wo_call (.cons rfl (.cons rfl (.cons rfl .nil))) trivial (ahead_tr O ht hs) ?_
 rintro v' L' x' ⟨rfl, rfl, rfl⟩
 have hm : now * num ≤ 1099511627776 * 65536 := Nat.mul_le_mul ht O.n2
 have hbd : burst * den ≤ 1048576 * 65536 := Nat.mul_le_mul O.b2 O.d2
 have hnd : n * den ≤ 18446744073709551615 * 65536 := Nat.mul_le_mul (by omega) O.d2
 have hd1 := O.d1
 have hd2 := O.d2
 have m1 : IntKind.u64.wrap ((burst : Int) * (den : Int)) = ((burst * den : Nat) : Int) := mulw rfl (by omega)
 unfold takeN at hr
 have hT := times_tr (B := B) (x := x') (L := arr sb 0 [.int .u64 (now : Nat)] :: arr bb 0 [.int .u64 (num : Nat), .int .u64 (den : Nat), .int .u64 (burst : Nat)] :: L) (a := n) (b := den) hn (by omega)
 generalize burst * den = bd at *
 generalize hck : now * num = ck at *
 generalize n * den = nd at *
 obtain ⟨hi, hhi⟩ : ∃ hi, nd / 18446744073709551616 = hi := ⟨_, rfl⟩
 obtain ⟨lo, hlo⟩ : ∃ lo, nd % 18446744073709551616 = lo := ⟨_, rfl⟩
 obtain ⟨t, htt⟩ : ∃ t, max s ck = t := ⟨_, rfl⟩
 rw [htt] at hr ⊢
 rw [hhi, hlo] at hT
 have ht64 : t < 18446744073709551616 := by omega
 have hsum : nd = hi * 18446744073709551616 + lo := by omega
 repeat (first | refine we_seq ?_ | (refine wR ?_; try simp only [oS]) | refine wo_nil ?_ | refine wM ?_ | refine wA ?_ | refine wD ?_ | (apply wo_po; apply mo_extract; exact rfl; exact rfl; exact gY) | refine wL ?_)
 refine wo_call (.cons rfl (.cons rfl .nil)) trivial hT ?_
 rintro v' L' x2 ⟨rfl, rfl, rfl⟩
 repeat (first | (apply wo_mo; apply mo_alloc; exact trivial))
 rintro v' L' ⟨nb, rfl, rfl⟩
 repeat (first | (apply wo_pm; apply mo_storeA (c := 0) (k := 0) (a := 0) (vs := [.int .u64 0, .int .u64 0]); exact rfl; exact rfl; exact rfl; (intro w hw; simp [Value.cells] at hw; rcases hw with rfl | rfl <;> rfl); exact rfl; exact Nat.le_refl 2; exact .here; exact trivial) | refine we_seq ?_ | (refine wR ?_; try simp only [oS]) | refine wo_nil ?_)
 refine wo_ent (arr nb 0 [.int .u64 (hi : Nat), .int .u64 (lo : Nat)] :: arr sb 0 [.int .u64 (now : Nat)] :: arr bb 0 [.int .u64 (num : Nat), .int .u64 (den : Nat), .int .u64 (burst : Nat)] :: L) .refl ?_
 repeat (first | (apply wo_po; apply mo_loadA (vs := [.int .u64 (hi : Nat), .int .u64 (lo : Nat)]); exact rfl; exact rfl; exact Rds.all .here; exact trivial) | (apply wo_mo; apply mo_alloc; exact trivial))
 rintro v' L' ⟨ab, rfl, rfl⟩
 repeat (first | (apply wo_pm; apply mo_storeA (c := 0) (k := 0) (a := 0) (vs := [.int .u64 0, .int .u64 0]); exact rfl; exact rfl; exact rfl; (intro w hw; simp [Value.cells] at hw; rcases hw with rfl | rfl <;> rfl); exact rfl; exact Nat.le_refl 2; exact .here; exact trivial) | refine we_seq ?_ | (refine wR ?_; try simp only [oS]) | refine wo_nil ?_ | refine wM ?_)
 refine wo_ent (arr ab 0 [.int .u64 (hi : Nat), .int .u64 (lo : Nat)] :: arr nb 0 [.int .u64 (hi : Nat), .int .u64 (lo : Nat)] :: arr sb 0 [.int .u64 (now : Nat)] :: arr bb 0 [.int .u64 (num : Nat), .int .u64 (den : Nat), .int .u64 (burst : Nat)] :: L) .refl ?_
 repeat (first | (apply wo_po; apply mo_build (pv := [(0, _), (1, _)]); exact rfl; exact .cons rfl (.cons rfl .nil); exact rfl; exact trivial))
 refine wo_call (.cons rfl (.cons rfl .nil)) trivial (wadd_tr (by omega) (by omega) (by omega) (by omega) .here) ?_
 rintro v' L' x3 ⟨rfl, rfl, rfl⟩
 obtain ⟨hi2, hhi2⟩ : ∃ hi2, hi + (lo + (t - ck)) / 18446744073709551616 = hi2 := ⟨_, rfl⟩
 obtain ⟨lo2, hlo2⟩ : ∃ lo2, (lo + (t - ck)) % 18446744073709551616 = lo2 := ⟨_, rfl⟩
 rw [hhi2, hlo2]
 repeat (first | (apply wo_po; apply mo_loadA (vs := [.int .u64 (hi2 : Nat), .int .u64 (lo2 : Nat)]); exact rfl; exact rfl; exact Rds.all .here; exact trivial) | (apply wo_po; apply mo_bin; exact rfl; exact rfl; apply bin_mul; (first | exact m1); exact gY) | (apply wo_po; apply mo_build (pv := [(0, _), (1, _)]); exact rfl; exact .cons rfl (.cons rfl .nil); exact rfl; exact trivial) | refine we_seq ?_ | (refine wR ?_; try simp only [oS]) | refine wo_nil ?_ | refine wD ?_ | refine wL ?_)
 refine wo_call (.cons rfl (.cons rfl .nil)) trivial (above_tr (h1 := hi2) (l1 := lo2) (h2 := 0) (l2 := bd) (by omega) (by omega) (q := decide (bd < nd + (t - ck))) (by congr 1; apply propext; omega)) ?_
 rintro v' L' x4 ⟨rfl, rfl, rfl⟩
 by_cases c : bd < nd + (t - ck)
 ·rw [if_pos c] at hr
  subst hr
  rw [decide_eq_true c]
  repeat (first | refine we_seq ?_ | (refine wR ?_; try simp only [oS]) | refine wo_nil ?_ | refine wM ?_ | refine wA ?_ | refine wT ?_ | refine we_ret ?_)
  (first | refine or3 Try.func39 Try.results39 hQ rfl rfl rfl ?_ | refine on3 Try.func39 Try.results39 hQ rfl rfl rfl ?_)
  exact ⟨rfl, rfl, fun h st => Ent.star (.drop (.drop (.drop (.drop .refl)))) st⟩
 ·rw [if_neg c] at hr
  subst hr
  rw [decide_eq_false c]
  have a1 : IntKind.u64.wrap ((t : Int) + (lo : Int)) = (((t + nd) % 18446744073709551616 : Nat) : Int) := (wrap_u64_mod _).trans (by omega)
  repeat (first | (apply wo_po; apply mo_bin; exact rfl; exact rfl; apply bin_add; (first | exact a1); exact gY) | refine we_seq ?_ | (refine wR ?_; try simp only [oS]) | refine wo_nil ?_ | refine wM ?_ | refine wA ?_ | refine wD ?_ | refine wL ?_ | refine wF ?_ | refine we_ret ?_ | refine we_skip ?_)
  (first | refine or3 Try.func39 Try.results39 hQ rfl rfl rfl ?_ | refine on3 Try.func39 Try.results39 hQ rfl rfl rfl ?_)
  exact ⟨rfl, rfl, fun h st => Ent.star (.drop (.drop (.drop (.drop .refl)))) st⟩
set_option maxHeartbeats 2000000 in
theorem blevel_tr (O : BOk num den burst) (ht : now ≤ 1099511627776) (hs : s < 18446744073709551616) : Tr Try.prog B 41 [.agg #[.int .u64 (num : Nat), .int .u64 (den : Nat), .int .u64 (burst : Nat)], .int .u64 (s : Nat), .int .u64 (now : Nat)] L x fun v L' x' => v = .tuple #[.int .u64 (levelN num den burst s now : Nat), .int .i64 0] ∧ L' = L ∧ x' = x := by
 obtain ⟨lv, hlv⟩ : ∃ lv, levelN num den burst s now = lv := ⟨_, rfl⟩
 rw [hlv]
 refine Tr.post (R := fun v L' x' => v = .tuple #[.int .u64 (lv : Nat), .int .i64 0] ∧ x' = x ∧ ∀ h, Star L' h → Star L h) ?_ (by rintro v L' x' ⟨h0, rfl, hs⟩; exact ⟨L, ⟨h0, rfl, rfl⟩, hs⟩)
 refine tr_of_body Try.func41 rfl Try.ntmps41 (by simp) fun um Q _ hQ => ?_
 simp only [argE, Nat.zero_add, Nat.reduceAdd]
 repeat (first | (apply wo_mo; apply mo_box; exact rfl; exact trivial) | refine we_seq ?_ | (refine wR ?_; try simp only [oS]))
 rintro v' L' ⟨bb, rfl, rfl⟩
 refine wo_ent (arr bb 0 [.int .u64 (num : Nat), .int .u64 (den : Nat), .int .u64 (burst : Nat)] :: L) .refl ?_
 repeat (first | (apply wo_po; apply mo_loadA (vs := [.int .u64 (num : Nat), .int .u64 (den : Nat), .int .u64 (burst : Nat)]); exact rfl; exact rfl; exact Rds.all .here; exact trivial) | (apply wo_mo; apply mo_buildSlice (sz := 1) (vs := [_]); exact rfl; exact .cons rfl .nil; exact rfl; (intro v hv; cases (List.mem_singleton.1 hv); exact rfl); omega; exact trivial) | refine we_seq ?_ | (refine wR ?_; try simp only [oS]) | refine wo_nil ?_ | refine wM ?_ | refine wA ?_)
 rintro v' L' ⟨sb, rfl, rfl⟩
 refine wo_ent (arr sb 0 [.int .u64 (now : Nat)] :: arr bb 0 [.int .u64 (num : Nat), .int .u64 (den : Nat), .int .u64 (burst : Nat)] :: L) .refl ?_
 skip
 refine wo_call (.cons rfl (.cons rfl .nil)) trivial (may_tr O ht (Rd.row (k := 0) rfl rfl)) ?_
 rintro v' L' x' ⟨rfl, rfl, rfl⟩
 repeat (first | (apply wo_po; apply mo_loadA (vs := [.int .u64 (num : Nat), .int .u64 (den : Nat), .int .u64 (burst : Nat)]); exact rfl; exact rfl; exact Rds.all (.there .here); exact trivial) | refine wneqF ?_ | refine we_seq ?_ | (refine wR ?_; try simp only [oS]) | refine wo_nil ?_ | refine wM ?_ | refine wA ?_ | refine wF ?_ | refine we_skip ?_)
 refine wo_call (.cons rfl (.cons rfl (.cons rfl .nil))) trivial (ahead_tr O ht hs) ?_
 rintro v' L' x' ⟨rfl, rfl, rfl⟩
 have hm : now * num ≤ 1099511627776 * 65536 := Nat.mul_le_mul ht O.n2
 have hbd : burst * den ≤ 1048576 * 65536 := Nat.mul_le_mul O.b2 O.d2
 have hd1 := O.d1
 have hd2 := O.d2
 have m1 : IntKind.u64.wrap ((burst : Int) * (den : Int)) = ((burst * den : Nat) : Int) := mulw rfl (by omega)
 unfold levelN at hlv
 generalize burst * den = bd at *
 generalize hck : now * num = ck at *
 obtain ⟨t, htt⟩ : ∃ t, max s ck - ck = t := ⟨_, rfl⟩
 rw [htt] at hlv ⊢
 by_cases c : bd < t
 ·rw [if_pos c] at hlv
  subst hlv
  repeat (first | (apply wo_po; apply mo_bin; exact rfl; exact rfl; apply bin_mul; (first | exact m1); exact gY) | refine wgtrT ?_ | refine we_seq ?_ | (refine wR ?_; try simp only [oS]) | refine wo_nil ?_ | refine wM ?_ | refine wA ?_ | refine wD ?_ | (apply wo_po; apply mo_extract; exact rfl; exact rfl; exact gY) | refine wL ?_ | refine wT ?_ | refine we_ret ?_)
  (first | refine or2 Try.func41 Try.results41 hQ rfl rfl ?_ | refine on2 Try.func41 Try.results41 hQ rfl rfl ?_)
  exact ⟨rfl, rfl, fun h st => Ent.star (.drop (.drop .refl)) st⟩
 ·rw [if_neg c] at hlv
  subst hlv
  have s1 : IntKind.u64.wrap ((bd : Int) - (t : Int)) = ((bd - t : Nat) : Int) := subw (by omega) (by omega)
  have q1 : IntKind.u64.wrap (((bd - t : Nat) : Int).tdiv (den : Int)) = (((bd - t) / den : Nat) : Int) := by
   rw [← Int.ofNat_tdiv]
   have := Nat.div_le_self (bd - t) den
   generalize (bd - t) / den = z at *
   exact wrap_u64 (by omega) (by omega)
  repeat (first | (apply wo_po; apply mo_bin; exact rfl; exact rfl; apply bin_mul; (first | exact m1); exact gY) | (apply wo_po; apply mo_bin; exact rfl; exact rfl; apply bin_sub; (first | exact s1); exact gY) | (apply wo_po; apply mo_bin; exact rfl; exact rfl; apply bin_quo; omega; (first | exact q1); exact gY) | refine wgtrF ?_ | refine we_seq ?_ | (refine wR ?_; try simp only [oS]) | refine wo_nil ?_ | refine wM ?_ | refine wA ?_ | refine wD ?_ | (apply wo_po; apply mo_extract; exact rfl; exact rfl; exact gY) | refine wL ?_ | refine wF ?_ | refine we_ret ?_ | refine we_skip ?_)
  (first | refine or2 Try.func41 Try.results41 hQ rfl rfl ?_ | refine on2 Try.func41 Try.results41 hQ rfl rfl ?_)
  exact ⟨rfl, rfl, fun h st => Ent.star (.drop (.drop .refl)) st⟩
end
end
section
structure MeterAt {B : Hand} {gv : Value} (A : Acc B gv) (r num den burst : Nat) : Prop where
 ok : BOk num den burst
 hdr : ∀ s, Rds [A.C s] r 0 [.int .u64 (num : Nat), .int .u64 (den : Nat), .int .u64 (burst : Nat)]
 a : A.addr 0 = (r, 3)
theorem takeN_lt {num den burst s now n t : Nat} (h : takeN num den burst s now n = some t) : t < 18446744073709551616 := by
 unfold takeN at h
 split at h
 ·cases h
 ·cases h; exact Nat.mod_lt _ (by decide)
section
variable {B : Hand} [Lets B] {gv : Value} {A : Acc B gv} {r num den burst now n : Nat} {L F : List HProp}
omit [Lets B] in
theorem MeterAt.rds (R : MeterAt A r num den burst) {s : A.S} (hh : Has L (A.C s) F) : Rds L r 0 [.int .u64 (num : Nat), .int .u64 (den : Nat), .int .u64 (burst : Nat)] := fun i v hv => Rd.of hh (R.hdr s i v hv)
theorem step_tr {op : Int} {s : A.S} {T : A.S → Prop} (hs : A.step op 0 s T) (hh : Has L (A.C s) F) :
  Tr Try.prog B 37 [gv, .int .u8 op] L (A.x s) fun v L' x' => ∃ s', T s' ∧ v = .tuple #[] ∧ L' = A.C s' :: F ∧ x' = A.x s' := by
 rcases A.gate with ⟨rfl, hg⟩ | ⟨t, p, f, rfl, hm, he, hg⟩
 ·refine tr_of_body Try.func37 rfl Try.ntmps37 (by simp) fun um Q _ hQ => ?_
  simp only [argE, Nat.zero_add, Nat.reduceAdd]
  repeat (first | refine we_seq ?_ | (refine wR ?_; try simp only [oS]) | refine wo_nil ?_ | refine wM ?_ | (apply wo_po; apply mo_bin; exact rfl; exact rfl; apply bin_ne; apply eql_nil_nil; exact gY) | refine wF ?_ | refine we_skip ?_)
  refine at_ent _ (Ent.take hh .refl) ?_
  (first | refine or0 Try.func37 Try.results37 hQ ?_ | refine on0 Try.func37 Try.results37 hQ ?_)
  exact ⟨s, hg _ _ _ _ hs, rfl, rfl, rfl⟩
 ·refine tr_of_body Try.func37 rfl Try.ntmps37 (by simp) fun um Q _ hQ => ?_
  simp only [argE, Nat.zero_add, Nat.reduceAdd]
  repeat (first | (apply wo_po; apply mo_build (pv := [(0, _)]); exact rfl; exact .cons rfl .nil; exact rfl; exact trivial) | refine we_seq ?_ | (refine wR ?_; try simp only [oS]) | refine wo_nil ?_ | refine wM ?_ | (apply wo_po; apply mo_bin; exact rfl; exact rfl; apply bin_ne; apply eql_iface_nil; exact gY) | refine wT ?_)
  refine wo_invoke (args := [_]) rfl (.cons rfl .nil) trivial (hg op 0 s T L F hs hh) ?_
  rintro v L' x' ⟨s', h1, rfl, rfl, rfl⟩
  repeat (first | refine wo_nil ?_)
  (first | refine or0 Try.func37 Try.results37 hQ ?_ | refine on0 Try.func37 Try.results37 hQ ?_)
  exact ⟨s', h1, rfl, rfl, rfl⟩
theorem there_tr {x : B.X} (O : BOk num den burst) (hr : Rds L r 0 [.int .u64 (num : Nat), .int .u64 (den : Nat), .int .u64 (burst : Nat)]) : Tr Try.prog B 42 [.pointer (some ⟨r, 0, none⟩)] L x fun v L' x' => v = .bool true ∧ L' = L ∧ x' = x := by
 have hr2 := hr 2 _ rfl
 have hb := O.b1
 refine tr_of_body Try.func42 rfl Try.ntmps42 (by simp) fun um Q _ hQ => ?_
 simp only [argE, Nat.zero_add, Nat.reduceAdd]
 repeat (first | (apply wo_po; apply mo_load; exact rfl; exact hr2; exact rfl) | refine wgtrT ?_ | refine we_seq ?_ | (refine wR ?_; try simp only [oS]) | refine wo_nil ?_ | refine wM ?_ | refine wA ?_ | refine wK ?_ | refine wN ?_ | refine wD ?_ | (apply wo_po; apply mo_bin; exact rfl; exact rfl; apply bin_ne; apply eql_ptr_nil; exact gY) | refine we_ret ?_)
 (first | refine or1 Try.func42 Try.results42 hQ rfl ?_ | refine on1 Try.func42 Try.results42 hQ rfl ?_)
 exact ⟨rfl, rfl, rfl⟩
theorem mmay_tr {x : B.X} (O : BOk num den burst) (ht : now ≤ 1099511627776) (hr : Rds L r 0 [.int .u64 (num : Nat), .int .u64 (den : Nat), .int .u64 (burst : Nat)]) : Tr Try.prog B 36 [.pointer (some ⟨r, 0, none⟩), .int .u64 (now : Nat)] L x fun v L' x' => v = .int .i64 0 ∧ L' = L ∧ x' = x := by
 refine tr_of_body Try.func36 rfl Try.ntmps36 (by simp) fun um Q _ hQ => ?_
 simp only [argE, Nat.zero_add, Nat.reduceAdd]
 repeat (first | refine we_seq ?_ | (refine wR ?_; try simp only [oS]) | refine wo_nil ?_ | refine wM ?_ | refine wA ?_ | refine we_block ?_)
 refine wo_call (.cons rfl .nil) trivial (there_tr O hr) ?_
 rintro v L1 x1 ⟨rfl, rfl, rfl⟩
 repeat (first | refine wgtrF ?_ | refine we_seq ?_ | (refine wR ?_; try simp only [oS]) | refine wo_nil ?_ | refine wM ?_ | refine wA ?_ | (apply wo_po; apply mo_not; exact rfl; exact gY) | refine wF ?_ | refine we_ret ?_ | refine we_skip ?_)
 (first | refine or1 Try.func36 Try.results36 hQ rfl ?_ | refine on1 Try.func36 Try.results36 hQ rfl ?_)
 exact ⟨rfl, rfl, rfl⟩
theorem mmay_far {x : B.X} (O : BOk num den burst) (ht : 1099511627776 < now) (hr : Rds L r 0 [.int .u64 (num : Nat), .int .u64 (den : Nat), .int .u64 (burst : Nat)]) : Tr Try.prog B 36 [.pointer (some ⟨r, 0, none⟩), .int .u64 (now : Nat)] L x fun v L' x' => v = .int .i64 5 ∧ L' = L ∧ x' = x := by
 refine tr_of_body Try.func36 rfl Try.ntmps36 (by simp) fun um Q _ hQ => ?_
 simp only [argE, Nat.zero_add, Nat.reduceAdd]
 repeat (first | refine we_seq ?_ | (refine wR ?_; try simp only [oS]) | refine wo_nil ?_ | refine wM ?_ | refine wA ?_ | refine we_block ?_)
 refine wo_call (.cons rfl .nil) trivial (there_tr O hr) ?_
 rintro v L1 x1 ⟨rfl, rfl, rfl⟩
 repeat (first | refine wgtrT ?_ | refine we_seq ?_ | (refine wR ?_; try simp only [oS]) | refine wo_nil ?_ | refine wM ?_ | refine wA ?_ | (apply wo_po; apply mo_not; exact rfl; exact gY) | refine wT ?_ | refine wF ?_ | refine we_ret ?_)
 (first | refine or1 Try.func36 Try.results36 hQ rfl ?_ | refine on1 Try.func36 Try.results36 hQ rfl ?_)
 exact ⟨rfl, rfl, rfl⟩
def MTakeF (A : Acc B gv) (num den burst now n : Nat) (Q : Bool → A.S → Prop) (X : A.S → Prop) (s : A.S) : Prop :=
 A.step 1 0 s fun s => A.load 0 s fun o s => match takeN num den burst o now n with
  | none => Q false s
  | some t => A.step 5 0 s fun s => A.cas 0 o t s fun c s => if c then Q true s else X s
def MTakeT (A : Acc B gv) (num den burst now n : Nat) (s : A.S) (Q : Bool → A.S → Prop) : Prop := ∀ X : A.S → Prop, (∀ s, MTakeF A num den burst now n Q X s → X s) → X s
theorem mtake_tr (R : MeterAt A r num den burst) (ht : now ≤ 1099511627776) (hn : n < 18446744073709551616) {s : A.S} {G : Bool → A.S → Prop} (hs : MTakeT A num den burst now n s G) (hh : Has L (A.C s) F) :
  Tr Try.prog B 9 [.pointer (some ⟨r, 0, none⟩), gv, .int .u64 (now : Nat), .int .u64 (n : Nat)] L (A.x s) fun v L' x' => ∃ q s', G q s' ∧ v = .tuple #[.bool q, .int .i64 0] ∧ L' = A.C s' :: F ∧ x' = A.x s' := by
 refine tr_of_body Try.func9 rfl Try.ntmps9 (by simp) fun um Q _ hQ => ?_
 simp only [argE, Nat.zero_add, Nat.reduceAdd]
 repeat (first | refine we_seq ?_ | (refine wR ?_; try simp only [oS]) | refine wo_nil ?_ | refine wM ?_ | refine wA ?_)
 refine wo_call (.cons rfl (.cons rfl .nil)) trivial (mmay_tr R.ok ht (R.rds hh)) ?_
 rintro v1 L1 x1 ⟨rfl, rfl, rfl⟩
 repeat (first | refine wneqF ?_ | refine we_seq ?_ | (refine wR ?_; try simp only [oS]) | refine wo_nil ?_ | refine wM ?_ | refine wA ?_ | refine wF ?_ | refine we_skip ?_ | refine we_block ?_)
 refine we_lfp (MTakeF A num den burst now n G) (fun s => A.C s :: F) A.x s hs [(0, .pointer (some ⟨r, 0, none⟩)), (1, gv), (2, .int .u64 (now : Nat)), (3, .int .u64 (n : Nat))] ⟨rfl, rfl, rfl, rfl, trivial⟩ (.take hh .refl) rfl ?_
 clear hs hh
 intro s hs
 repeat (first | refine we_seq ?_ | (refine wR ?_; try simp only [oS]) | refine wM ?_ | refine we_block ?_)
 refine wo_call (.cons rfl (.cons rfl .nil)) trivial (step_tr hs .here) ?_
 rintro v1 L1 x1 ⟨s1, h1, rfl, rfl, rfl⟩
 repeat (first | refine we_seq ?_ | (refine wR ?_; try simp only [oS]) | refine wo_nil ?_ | refine wM ?_ | refine wN ?_ | refine wD ?_)
 refine wo_call (.cons rfl .nil) trivial (A.load_ok _ _ _ _ _ _ _ R.a h1 .here) ?_
 rintro v1 L1 x1 ⟨o, s2, ho, h2, rfl, rfl, rfl⟩
 have hrd : Rds (A.C s2 :: F) r 0 [.int .u64 (num : Nat), .int .u64 (den : Nat), .int .u64 (burst : Nat)] := R.rds .here
 obtain ⟨tk, htk⟩ : ∃ tk, takeN num den burst o now n = tk := ⟨_, rfl⟩
 rw [htk] at h2
 repeat (first | (apply wo_po; apply mo_loadA (vs := [.int .u64 (num : Nat), .int .u64 (den : Nat), .int .u64 (burst : Nat)]); exact rfl; exact rfl; exact hrd; exact trivial) | refine we_seq ?_ | (refine wR ?_; try simp only [oS]) | refine wo_nil ?_ | refine wM ?_ | refine wA ?_ | refine wN ?_ | refine wD ?_)
 refine wo_call (.cons rfl (.cons rfl (.cons rfl (.cons rfl .nil)))) trivial (btake_tr R.ok ht ho hn htk) ?_
 rintro v1 L1 x1 ⟨rfl, rfl, rfl⟩
 cases tk with
 | none =>
  unfold takeR
  repeat (first | refine we_seq ?_ | (refine wR ?_; try simp only [oS]) | refine wo_nil ?_ | refine wM ?_ | refine wA ?_ | (apply wo_po; apply mo_extract; exact rfl; exact rfl; exact gY) | (apply wo_po; apply mo_not; exact rfl; exact gY) | refine wT ?_ | refine we_ret ?_)
  (first | refine or2 Try.func9 Try.results9 hQ rfl rfl ?_ | refine on2 Try.func9 Try.results9 hQ rfl rfl ?_)
  exact ⟨false, s2, h2, rfl, rfl, rfl⟩
 | some t =>
  unfold takeR
  dsimp only at h2
  repeat (first | refine we_seq ?_ | (refine wR ?_; try simp only [oS]) | refine wo_nil ?_ | refine wM ?_ | refine wA ?_ | (apply wo_po; apply mo_extract; exact rfl; exact rfl; exact gY) | (apply wo_po; apply mo_not; exact rfl; exact gY) | refine wF ?_ | refine we_skip ?_)
  refine wo_call (.cons rfl (.cons rfl .nil)) trivial (step_tr h2 .here) ?_
  rintro v1 L1 x1 ⟨s3, h3, rfl, rfl, rfl⟩
  repeat (first | refine we_seq ?_ | (refine wR ?_; try simp only [oS]) | refine wo_nil ?_ | refine wM ?_ | refine wN ?_ | refine wD ?_)
  refine wo_call (.cons rfl (.cons rfl (.cons rfl .nil))) trivial (A.cas_ok _ _ _ _ _ _ _ _ _ R.a (takeN_lt htk) h3 .here) ?_
  rintro v1 L1 x1 ⟨q, s4, h4, rfl, rfl, rfl⟩
  cases q
  ·simp only [Bool.false_eq_true, if_false] at h4
   repeat (first | refine wo_nil ?_ | refine wF ?_ | refine we_skip ?_)
   exact at_again h4 ⟨rfl, rfl, rfl, rfl, trivial⟩ .refl
  ·simp only [if_true] at h4
   repeat (first | refine we_seq ?_ | (refine wR ?_; try simp only [oS]) | refine wo_nil ?_ | refine wA ?_ | refine wT ?_ | refine we_ret ?_)
   (first | refine or2 Try.func9 Try.results9 hQ rfl rfl ?_ | refine on2 Try.func9 Try.results9 hQ rfl rfl ?_)
   exact ⟨true, s4, h4, rfl, rfl, rfl⟩
theorem mtake_far (R : MeterAt A r num den burst) (ht : 1099511627776 < now) {s : A.S} (hh : Has L (A.C s) F) :
  Tr Try.prog B 9 [.pointer (some ⟨r, 0, none⟩), gv, .int .u64 (now : Nat), .int .u64 (n : Nat)] L (A.x s) fun v L' x' => v = .tuple #[.bool false, .int .i64 5] ∧ L' = L ∧ x' = A.x s := by
 refine tr_of_body Try.func9 rfl Try.ntmps9 (by simp) fun um Q _ hQ => ?_
 simp only [argE, Nat.zero_add, Nat.reduceAdd]
 repeat (first | refine we_seq ?_ | (refine wR ?_; try simp only [oS]) | refine wo_nil ?_ | refine wM ?_ | refine wA ?_)
 refine wo_call (.cons rfl (.cons rfl .nil)) trivial (mmay_far R.ok ht (R.rds hh)) ?_
 rintro v1 L1 x1 ⟨rfl, rfl, rfl⟩
 repeat (first | refine wneqT ?_ | refine we_seq ?_ | (refine wR ?_; try simp only [oS]) | refine wo_nil ?_ | refine wM ?_ | refine wA ?_ | refine wT ?_ | refine we_ret ?_)
 (first | refine or2 Try.func9 Try.results9 hQ rfl rfl ?_ | refine on2 Try.func9 Try.results9 hQ rfl rfl ?_)
 exact ⟨rfl, rfl, rfl⟩
def MLoadT (A : Acc B gv) (s : A.S) (Q : Nat → A.S → Prop) : Prop := A.step 1 0 s fun s => A.load 0 s fun o s => Q o s
theorem mlevel_tr (R : MeterAt A r num den burst) (ht : now ≤ 1099511627776) {s : A.S} {G : Nat → A.S → Prop} (hs : MLoadT A s G) (hh : Has L (A.C s) F) :
  Tr Try.prog B 10 [.pointer (some ⟨r, 0, none⟩), gv, .int .u64 (now : Nat)] L (A.x s) fun v L' x' => ∃ o s', o < 18446744073709551616 ∧ G o s' ∧ v = .tuple #[.int .u64 (levelN num den burst o now : Nat), .int .i64 0] ∧ L' = A.C s' :: F ∧ x' = A.x s' := by
 refine tr_of_body Try.func10 rfl Try.ntmps10 (by simp) fun um Q _ hQ => ?_
 simp only [argE, Nat.zero_add, Nat.reduceAdd]
 repeat (first | refine we_seq ?_ | (refine wR ?_; try simp only [oS]) | refine wo_nil ?_ | refine wM ?_ | refine wA ?_)
 refine wo_call (.cons rfl (.cons rfl .nil)) trivial (mmay_tr R.ok ht (R.rds hh)) ?_
 rintro v1 L1 x1 ⟨rfl, rfl, rfl⟩
 repeat (first | refine wneqF ?_ | refine we_seq ?_ | (refine wR ?_; try simp only [oS]) | refine wo_nil ?_ | refine wM ?_ | refine wA ?_ | refine wF ?_ | refine we_skip ?_)
 refine wo_call (.cons rfl (.cons rfl .nil)) trivial (step_tr hs hh) ?_
 rintro v1 L1 x1 ⟨s1, h1, rfl, rfl, rfl⟩
 have hrd : Rds (A.C s1 :: F) r 0 [.int .u64 (num : Nat), .int .u64 (den : Nat), .int .u64 (burst : Nat)] := R.rds .here
 repeat (first | refine we_seq ?_ | refine wo_nil ?_)
 refine we_draw [0, 1, 2, 3, 4, 5, 6, 8, 7, 9, 10, 11, 12, 13] (by kernel_rfl) ?_
 repeat (first | (apply ap_read; exact rfl; exact rfl; exact trivial; apply mo_loadA (vs := [.int .u64 (num : Nat), .int .u64 (den : Nat), .int .u64 (burst : Nat)]); exact rfl; exact rfl; exact hrd) | refine aM ?_ | refine aN ?_ | refine aD ?_)
 refine ap_callR rfl rfl rfl trivial rfl rfl (.cons rfl .nil) (A.load_ok _ _ _ _ _ _ _ R.a h1 .here) ?_ ?_
 ·rintro v1 L1 x1 ⟨o, s2, ho, h2, rfl, rfl, rfl⟩ p hp
  have hrd : Rds (A.C s2 :: F) r 0 [.int .u64 (num : Nat), .int .u64 (den : Nat), .int .u64 (burst : Nat)] := R.rds .here
  replace hp := (List.mem_filter.1 hp).1
  simp only [List.mem_cons, List.not_mem_nil, or_false] at hp
  rcases hp with rfl | rfl | rfl | rfl | rfl | rfl | rfl | rfl <;> first | exact .inl rfl | exact .inr ⟨_, rfl, trivial, mo_loadA (vs := [.int .u64 (num : Nat), .int .u64 (den : Nat), .int .u64 (burst : Nat)]) rfl rfl hrd⟩
 rintro v1 L1 x1 ⟨o, s2, ho, h2, rfl, rfl, rfl⟩
 skip
 refine ap_callv rfl rfl rfl rfl trivial rfl rfl (.cons rfl (.cons rfl (.cons rfl .nil))) (blevel_tr R.ok ht ho) ?_
 rintro v1 L1 x1 ⟨rfl, rfl, rfl⟩
 repeat (first | refine aA ?_ | (apply ap_pure; exact rfl; exact rfl; exact gY; intro L; apply mo_extract; exact rfl; exact rfl) | refine ap_end ?_)
 repeat (first | refine we_ret ?_)
 (first | refine or2 Try.func10 Try.results10 hQ rfl rfl ?_ | refine on2 Try.func10 Try.results10 hQ rfl rfl ?_)
 exact ⟨o, s2, ho, h2, rfl, rfl, rfl⟩
theorem mlevel_far (R : MeterAt A r num den burst) (ht : 1099511627776 < now) {s : A.S} (hh : Has L (A.C s) F) :
  Tr Try.prog B 10 [.pointer (some ⟨r, 0, none⟩), gv, .int .u64 (now : Nat)] L (A.x s) fun v L' x' => v = .tuple #[.int .u64 0, .int .i64 5] ∧ L' = L ∧ x' = A.x s := by
 refine tr_of_body Try.func10 rfl Try.ntmps10 (by simp) fun um Q _ hQ => ?_
 simp only [argE, Nat.zero_add, Nat.reduceAdd]
 repeat (first | refine we_seq ?_ | (refine wR ?_; try simp only [oS]) | refine wo_nil ?_ | refine wM ?_ | refine wA ?_)
 refine wo_call (.cons rfl (.cons rfl .nil)) trivial (mmay_far R.ok ht (R.rds hh)) ?_
 rintro v1 L1 x1 ⟨rfl, rfl, rfl⟩
 repeat (first | refine wneqT ?_ | refine we_seq ?_ | (refine wR ?_; try simp only [oS]) | refine wo_nil ?_ | refine wM ?_ | refine wA ?_ | refine wT ?_ | refine we_ret ?_)
 (first | refine or2 Try.func10 Try.results10 hQ rfl rfl ?_ | refine on2 Try.func10 Try.results10 hQ rfl rfl ?_)
 exact ⟨rfl, rfl, rfl⟩
theorem mstate_tr (R : MeterAt A r num den burst) {s : A.S} {G : Nat → A.S → Prop} (hs : MLoadT A s G) (hh : Has L (A.C s) F) :
  Tr Try.prog B 11 [.pointer (some ⟨r, 0, none⟩), gv] L (A.x s) fun v L' x' => ∃ o s', o < 18446744073709551616 ∧ G o s' ∧ v = .tuple #[.int .u64 (o : Nat), .int .i64 0] ∧ L' = A.C s' :: F ∧ x' = A.x s' := by
 refine tr_of_body Try.func11 rfl Try.ntmps11 (by simp) fun um Q _ hQ => ?_
 simp only [argE, Nat.zero_add, Nat.reduceAdd]
 repeat (first | refine we_seq ?_ | (refine wR ?_; try simp only [oS]) | refine wo_nil ?_ | refine wM ?_ | refine wA ?_)
 refine wo_call (.cons rfl .nil) trivial (there_tr R.ok (R.rds hh)) ?_
 rintro v1 L1 x1 ⟨rfl, rfl, rfl⟩
 repeat (first | refine we_seq ?_ | (refine wR ?_; try simp only [oS]) | refine wo_nil ?_ | refine wM ?_ | (apply wo_po; apply mo_not; exact rfl; exact gY) | refine wF ?_ | refine we_skip ?_)
 refine wo_call (.cons rfl (.cons rfl .nil)) trivial (step_tr hs hh) ?_
 rintro v1 L1 x1 ⟨s1, h1, rfl, rfl, rfl⟩
 repeat (first | refine we_seq ?_ | (refine wR ?_; try simp only [oS]) | refine wo_nil ?_ | refine wM ?_ | refine wN ?_ | refine wD ?_)
 refine wo_call (.cons rfl .nil) trivial (A.load_ok _ _ _ _ _ _ _ R.a h1 .here) ?_
 rintro v1 L1 x1 ⟨o, s2, ho, h2, rfl, rfl, rfl⟩
 repeat (first | refine wo_nil ?_ | refine wA ?_ | refine we_ret ?_)
 (first | refine or2 Try.func11 Try.results11 hQ rfl rfl ?_ | refine on2 Try.func11 Try.results11 hQ rfl rfl ?_)
 exact ⟨o, s2, ho, h2, rfl, rfl, rfl⟩
theorem mnew_tr {x : B.X} (O : BOk num den burst) : Tr Try.prog B 13 [.agg #[.int .u64 (num : Nat), .int .u64 (den : Nat), .int .u64 (burst : Nat)]] L x fun v L' x' => ∃ r, v = .tuple #[.pointer (some ⟨r, 0, none⟩), .int .i64 0] ∧ L' = arr r 0 [.int .u64 (num : Nat), .int .u64 (den : Nat), .int .u64 (burst : Nat), .int .u64 0] :: L ∧ x' = x := by
 refine Tr.post (R := fun v L' x' => ∃ r, v = .tuple #[.pointer (some ⟨r, 0, none⟩), .int .i64 0] ∧ x' = x ∧ ∀ h, Star L' h → Star (arr r 0 [.int .u64 (num : Nat), .int .u64 (den : Nat), .int .u64 (burst : Nat), .int .u64 0] :: L) h) ?_ (by rintro v L' x' ⟨r, h0, rfl, hs⟩; exact ⟨_, ⟨r, h0, rfl, rfl⟩, hs⟩)
 refine tr_of_body Try.func13 rfl Try.ntmps13 (by simp) fun um Q _ hQ => ?_
 simp only [argE, Nat.zero_add, Nat.reduceAdd]
 repeat (first | (apply wo_mo; apply mo_box; exact rfl; exact trivial) | refine we_seq ?_ | (refine wR ?_; try simp only [oS]))
 rintro v' L' ⟨bb, rfl, rfl⟩
 refine wo_ent (arr bb 0 [.int .u64 (num : Nat), .int .u64 (den : Nat), .int .u64 (burst : Nat)] :: L) .refl ?_
 repeat (first | (apply wo_po; apply mo_loadA (vs := [.int .u64 (num : Nat), .int .u64 (den : Nat), .int .u64 (burst : Nat)]); exact rfl; exact rfl; exact Rds.all .here; exact trivial) | refine we_seq ?_ | (refine wR ?_; try simp only [oS]) | refine wo_nil ?_ | refine wA ?_)
 refine wo_call (.cons rfl .nil) trivial (check_ok O) ?_
 rintro v1 L1 x1 ⟨rfl, rfl, rfl⟩
 repeat (first | (apply wo_po; apply mo_loadA (vs := [.int .u64 (num : Nat), .int .u64 (den : Nat), .int .u64 (burst : Nat)]); exact rfl; exact rfl; exact Rds.all .here; exact trivial) | (apply wo_po; apply mo_build (pv := [(0, _)]); exact rfl; exact .cons rfl .nil; exact rfl; exact trivial) | (apply wo_mo; apply mo_box; exact rfl; exact trivial) | refine wneqF ?_ | refine we_seq ?_ | (refine wR ?_; try simp only [oS]) | refine wo_nil ?_ | refine wM ?_ | refine wA ?_ | refine wF ?_ | refine we_skip ?_)
 rintro v' L' ⟨r, rfl, rfl⟩
 repeat (first | refine wo_nil ?_ | refine wA ?_ | refine we_ret ?_)
 (first | refine or2 Try.func13 Try.results13 hQ rfl rfl ?_ | refine on2 Try.func13 Try.results13 hQ rfl rfl ?_)
 exact ⟨r, rfl, rfl, fun h st => Ent.star (.take .here (.drop .refl)) st⟩
variable {v0 : Option Addr} {x : B.X}
end
end
section
def mAddr (r : Nat) (_ : Nat) : Nat × Nat := (r, 3)
def mK (r num den burst : Nat) : List (Nat × Nat × Value) := [(r, 0, .int .u64 (num : Nat)), (r, 1, .int .u64 (den : Nat)), (r, 2, .int .u64 (burst : Nat))]
theorem m_apart (r num den burst : Nat) : Apart (mAddr r) 1 (mK r num den burst) where
 inj := fun i j hi hj _ => by omega
 fix := fun i _ k hk => by simp only [mK, List.mem_cons, List.not_mem_nil, or_false] at hk; rcases hk with rfl | rfl | rfl <;> simp [mAddr]
section
variable {B : Hand} [Lets B] {x : B.X} {r num den burst now n : Nat} {L F : List HProp} {h : Hp} {s : Nat → Nat}
def mC (r num den burst : Nat) (s : Nat → Nat) : HProp := wds (mAddr r) 1 (mK r num den burst) s
omit [Lets B] in
theorem m_wds (st : Star (arr r 0 [.int .u64 (num : Nat), .int .u64 (den : Nat), .int .u64 (burst : Nat), .int .u64 0] :: L) h) : Star (mC r num den burst (fun _ => 0) :: L) h := by
 refine star_map st (fun h a => ⟨fun w hw => ⟨by show 0 < 18446744073709551616; decide, a 3 _ rfl⟩, fun k hk => ?_⟩) (fun _ y => y)
 simp only [mK, List.mem_cons, List.not_mem_nil, or_false] at hk
 rcases hk with rfl | rfl | rfl
 ·exact a 0 _ rfl
 ·exact a 1 _ rfl
 ·exact a 2 _ rfl
omit [Lets B] in
theorem mC_rd : Rds [mC r num den burst s] r 0 [.int .u64 (num : Nat), .int .u64 (den : Nat), .int .u64 (burst : Nat)] := fun i v hv h hs => by
 obtain ⟨h1, h2, s1, hc, _⟩ := hs
 match i, hv with
 | 0, hv => cases hv; exact ⟨rfl, .inl (s1.o1 _ _ _ (hc.2 (r, 0, .int .u64 (num : Nat)) (by simp [mK])))⟩
 | 1, hv => cases hv; exact ⟨rfl, .inl (s1.o1 _ _ _ (hc.2 (r, 1, .int .u64 (den : Nat)) (by simp [mK])))⟩
 | 2, hv => cases hv; exact ⟨rfl, .inl (s1.o1 _ _ _ (hc.2 (r, 2, .int .u64 (burst : Nat)) (by simp [mK])))⟩
def mLone (x : B.X) (r num den burst : Nat) : Acc B .nilIface := loneAcc x (mAddr r) 1 (mK r num den burst) (m_apart r num den burst)
theorem m_at (O : BOk num den burst) : MeterAt (mLone x r num den burst) r num den burst := ⟨O, fun s => mC_rd, rfl⟩
theorem mtake_lone (O : BOk num den burst) (ht : now ≤ 1099511627776) (hn : n < 18446744073709551616) {u : Nat} {k : Option Nat} (hs : s 0 = u) (hk : takeN num den burst u now n = k) (hh : Has L (mC r num den burst s) F) :
  Tr Try.prog B 9 [.pointer (some ⟨r, 0, none⟩), .nilIface, .int .u64 (now : Nat), .int .u64 (n : Nat)] L x fun v L' x' => ∃ s', v = .tuple #[.bool k.isSome, .int .i64 0] ∧ s' 0 = k.getD u ∧ L' = mC r num den burst s' :: F ∧ x' = x := by
 refine (mtake_tr (A := mLone x r num den burst) (m_at O) ht hn (s := s) (G := fun q s' => q = k.isSome ∧ s' 0 = k.getD u) ?_ hh).mono ?_
 ·intro X hX
  refine hX _ ⟨by show 0 < 1; omega, ?_⟩
  show match takeN num den burst (s 0) now n with | none => _ | some t => _
  rw [hs, hk]
  cases k with
  | none => exact ⟨rfl, hs⟩
  | some t =>
   refine ⟨by show 0 < 1; omega, ?_⟩
   rw [if_pos hs]
   simp only [if_true]
   exact ⟨rfl, upd_same⟩
 ·rintro v L' x' ⟨q, s', ⟨rfl, h1⟩, rfl, rfl, rfl⟩
  exact ⟨s', rfl, h1, rfl, rfl⟩
end
end
section
def needN (den burst n : Nat) : Nat := if n ≤ burst then n * den else 0
def topN (num den burst now n : Nat) : Nat := if n ≤ burst then now * num + burst * den else 0
theorem bd_pos {den burst : Nat} (h1 : 1 ≤ burst) (h2 : 1 ≤ den) : 1 ≤ burst * den := Nat.mul_pos h1 h2
theorem take_plain {num den burst s now n : Nat} (O : BOk num den burst) (ht : now ≤ 1099511627776) (hs : s ≤ 72057662757404672) :
  now * num ≤ 72057594037927936 ∧ topN num den burst now n ≤ 72057662757404672 ∧ needN den burst n ≤ 68719476736 ∧
  takeN num den burst s now n = if topN num den burst now n = 0 then none else if topN num den burst now n < max s (now * num) + needN den burst n then none else some (max s (now * num) + needN den burst n) := by
 have hm : now * num ≤ 1099511627776 * 65536 := Nat.mul_le_mul ht O.n2
 have hbd : burst * den ≤ 1048576 * 65536 := Nat.mul_le_mul O.b2 O.d2
 have hb1 := bd_pos O.b1 O.d1
 have hd1 := O.d1
 unfold takeN topN needN
 by_cases c : n ≤ burst
 ·have hn : n * den ≤ burst * den := Nat.mul_le_mul_right _ c
  simp only [if_pos c]
  generalize now * num = ck at *
  generalize burst * den = bd at *
  generalize n * den = nd at *
  refine ⟨by omega, by omega, by omega, ?_⟩
  rw [if_neg (show ¬ ck + bd = 0 by omega)]
  by_cases d : bd < nd + (max s ck - ck)
  ·rw [if_pos d, if_pos (by omega)]
  ·rw [if_neg d, if_neg (by omega), Nat.mod_eq_of_lt (by omega)]
 ·have hn : (burst + 1) * den ≤ n * den := Nat.mul_le_mul_right _ (by omega)
  rw [Nat.add_mul, Nat.one_mul] at hn
  simp only [if_neg c]
  generalize now * num = ck at *
  generalize burst * den = bd at *
  generalize n * den = nd at *
  refine ⟨by omega, by omega, by omega, ?_⟩
  rw [if_pos (by omega), if_pos trivial]
theorem level_plain {num den burst s now : Nat} (O : BOk num den burst) (ht : now ≤ 1099511627776) (hs : s ≤ 72057662757404672) :
  now * num ≤ 72057594037927936 ∧ burst * den ≤ 68719476736 ∧ levelN num den burst s now = (if now * num + burst * den < max s (now * num) then 0 else (now * num + burst * den - max s (now * num)) / den) ∧ levelN num den burst s now ≤ 68719476736 := by
 have hm : now * num ≤ 1099511627776 * 65536 := Nat.mul_le_mul ht O.n2
 have hbd : burst * den ≤ 1048576 * 65536 := Nat.mul_le_mul O.b2 O.d2
 unfold levelN
 generalize now * num = ck at *
 generalize burst * den = bd at *
 refine ⟨by omega, by omega, ?_, ?_⟩
 ·by_cases c : bd < max s ck - ck
  ·rw [if_pos c, if_pos (by omega)]
  ·rw [if_neg c, if_neg (by omega), show bd - (max s ck - ck) = ck + bd - max s ck by omega]
 ·by_cases c : bd < max s ck - ck
  ·rw [if_pos c]; omega
  ·rw [if_neg c]
   have := Nat.div_le_self (bd - (max s ck - ck)) den
   omega
section
variable {B : Hand} [Lets B] {x : B.X} {gv : Value} {r nb num den burst now n : Nat}
omit [Lets B] in
theorem rds_in {M : List HProp} {b o : Nat} {vs : List Value} (h : Rds M b o vs) : Rds [all M] b o vs := fun i v hv w st => h i v hv w (by have := star_open st; rwa [List.append_nil] at this)
def DoneT (A : Acc B gv) (num den burst kd now n : Nat) (s : A.S) (Q : List Nat → A.S → Prop) : Prop :=
 if kd = 0 then (if now ≤ 1099511627776 then MTakeT A num den burst now n s fun q s => Q [0, yes q] s else Q [5, 0] s)
 else if kd = 1 then (if now ≤ 1099511627776 then MLoadT A s fun o s => Q [0, levelN num den burst o now] s else Q [5, 0] s)
 else MLoadT A s fun o s => Q [0, o] s
def callCl (num den burst kd now n : Nat) : Mach.Cl :=
 if kd = 0 then (if now ≤ 1099511627776 then Mach.mtakeCl (now * num) (needN den burst n) (topN num den burst now n) else Mach.mrefCl 5)
 else if kd = 1 then (if now ≤ 1099511627776 then Mach.mlevelCl (now * num) (burst * den) den else Mach.mrefCl 5)
 else Mach.mstateCl
end
end
end Go.Proofs.Ythoefhocecdlhaa
