/-
  patchbaylaw04: what the row asks: OnceMakes is true of every input; the input reads as it did.
-/
import Derived.Test.YtcladnioicackaaOm5
import Derived.Test.YtcladnioicackaaOm3
import Derived.Conc.HoldsTime
import Derived.Test.YtcladnioicackaaRows
set_option linter.unusedVariables false
set_option linter.unusedSimpArgs false
namespace Go.Proofs.Ytcladnioicackaa
open Go Go.PB
attribute [local irreducible] Mo Bin Eql Tr Wo TrD Wle Ap
section
section
variable {B : Hand} [Lets B] [NoCut B] [AllM B] {L F G : List HProp} {x : B.X} {v : Nat} {d c : Int}
def omInv (x : B.X) (o r ch xb cb t11 : Nat) (d : Int) (v : Nat) (c tm : Int) (Z : HProp) : Inv (Nat × Value × Value) B.X where
 e := fun i => [(2, .int .i64 tm), (4, .pointer (some ⟨xb, 0, none⟩)), (9, .pointer (some ⟨cb, 0, none⟩)), (10, .pointer (some ⟨o, 0, none⟩)), (11, .pointer (some ⟨t11, 0, none⟩)), (12, .int .i64 (i.1 : Nat))]
 L := fun i => [omC o r ch xb cb d v c i.1, arr t11 0 [i.2.1, i.2.2], wvC i.2.1 i.2.2 ⟨[[omW d c i.1]], 1⟩, Z]
 x := fun _ => x
 ok := fun i => i.1 ≤ 5
def omMid (x : B.X) (o r ch xb cb t11 nb i : Nat) (d : Int) (v : Nat) (c tm : Int) (Z : HProp) (wv lv : Value) : Inv (Value × Value × Value × Value × Nat) B.X where
 e := fun y => [(2, .int .i64 tm), (4, .pointer (some ⟨xb, 0, none⟩)), (9, .pointer (some ⟨cb, 0, none⟩)), (10, .pointer (some ⟨o, 0, none⟩)), (11, .pointer (some ⟨t11, 0, none⟩)), (12, .int .i64 (i : Nat)), (13, .pointer (some ⟨nb, 0, none⟩)), (14, num (tell1 d v)), (15, .int .i64 (codeOf d c)), (16, y.1), (17, .pointer (some ⟨y.2.2.2.2, 0, none⟩)), (18, y.2.1)]
 L := fun y => [vec 1 y.1 [num (tell0 d c), num (tell1 d v)], vec 2 y.2.1 ((omMs i).map mkC).flatten, arr y.2.2.2.2 0 [y.2.2.1, y.2.2.2.1], wvC y.2.2.1 y.2.2.2.1 ⟨[[omW d c (i + 1)]], 1⟩, notesC nb ((omMs i).map mkI), arr o 0 [.pointer (some ⟨r, 0, none⟩)], arr r 0 (onceL (.int .i64 (0 : Nat)) (omF xb cb) (.int .u64 (stOf (codeOf d c) : Nat)) (.int .u64 1) 0 0 (.chan (some ch)) (.int .u64 (v : Nat)) (.int .i64 (codeOf d c))), arr xb 0 (mkCs d v c), arr cb 0 [.int .i64 1], arr t11 0 [wv, lv], Z]
 x := fun _ => x
 ok := fun _ => True
theorem om_open {o r ch xb cb i : Nat} {R : List HProp} {h : Hp} (st : Star (omC o r ch xb cb d v c (i + 1) :: R) h) :
  Star (arr o 0 [.pointer (some ⟨r, 0, none⟩)] :: arr r 0 (onceL (.int .i64 (0 : Nat)) (omF xb cb) (.int .u64 (stOf (codeOf d c) : Nat)) (.int .u64 1) 0 0 (.chan (some ch)) (.int .u64 (v : Nat)) (.int .i64 (codeOf d c))) :: arr xb 0 (mkCs d v c) :: arr cb 0 [.int .i64 1] :: R) h := by
 have e2 : omC o r ch xb cb d v c (i + 1) = all (omOld o r ch xb cb d v c) := by unfold omC; rw [if_neg (by omega)]
 rw [e2] at st
 have s1 : Star (arr o 0 [.pointer (some ⟨r, 0, none⟩)] :: arr r 0 (onceL (.int .i64 (0 : Nat)) (omF xb cb) (.int .u64 (stOf (codeOf d c) : Nat)) (.int .u64 1) 0 0 (.chan (some ch)) (.int .u64 (v : Nat)) (.int .i64 (codeOf d c))) :: omD xb cb d v c 1 :: R) h := star_open st
 exact star_map s1 (fun _ z => z) fun _ z => star_map z (fun _ z => z) fun _ z => star_open (M := [_, _]) z
theorem om_shut {o r ch xb cb i : Nat} {R : List HProp} {h : Hp}
  (st : Star (arr o 0 [.pointer (some ⟨r, 0, none⟩)] :: arr r 0 (onceL (.int .i64 (0 : Nat)) (omF xb cb) (.int .u64 (stOf (codeOf d c) : Nat)) (.int .u64 1) 0 0 (.chan (some ch)) (.int .u64 (v : Nat)) (.int .i64 (codeOf d c))) :: arr xb 0 (mkCs d v c) :: arr cb 0 [.int .i64 1] :: R) h) : Star (omC o r ch xb cb d v c (i + 1) :: R) h := by
 have e2 : omC o r ch xb cb d v c (i + 1) = all (omOld o r ch xb cb d v c) := by unfold omC; rw [if_neg (by omega)]
 rw [e2]
 exact star_shut (M := omOld o r ch xb cb d v c) (star_map st (fun _ z => z) fun _ z => star_map z (fun _ z => z) fun _ z => star_shut (M := [_, _]) z)
set_option maxHeartbeats 4000000 in
theorem om_rest {um : FrameMode} {Q : PB.End → FrameMode → Hp → B.X → Prop} [pkk : Pass (leave Try.prog B 3 .normal Q) ⟨[], um⟩] {tm : Int} (htm : -9223372036854775808 ≤ tm ∧ tm ≤ 9223372036854775807) (hv : v < 18446744073709551616) {Z : HProp} {xb : Nat}
  (hQ : ∀ w L' x' h', (w = .bool true ∧ x' = x ∧ ∀ h, Star L' h → Star [Z] h) → Star L' h' → Q (.ret w) um h' x') :
  We Try.prog B .normal 93 (seqTail 3 ((Try.f3.body).getD .skip)) (leave Try.prog B 3 .normal Q) [(2, .int .i64 tm), (4, .pointer (some ⟨xb, 0, none⟩))] ⟨[], um⟩ (arr xb 0 (mkCs d v c) :: [Z]) x := by
 repeat (first | (apply wo_mo; apply mo_alloc; exact trivial) | refine we_seq ?_ | (refine wR ?_; try simp only [oS]))
 rintro v' L' ⟨cb, rfl, rfl⟩
 refine wo_ent (arr cb 0 [.int .i64 0] :: arr xb 0 (mkCs d v c) :: [Z]) .refl ?_
 repeat (first | refine wS ?_ | (apply wo_po; apply mo_makeFunc (first := []) (cap := [_, _]) (vf := []); exact .nil; exact .cons rfl (.cons rfl .nil); exact trivial) | refine we_seq ?_ | (refine wR ?_; try simp only [oS]) | refine wo_nil ?_)
 refine wo_ent (arr cb 0 [.int .i64 0] :: arr xb 0 (mkCs d v c) :: [Z]) .refl ?_
 refine wo_call (.cons rfl .nil) trivial newU_tr ?_
 rintro v1 L1 x1 ⟨o, r, ch, rfl, rfl, rfl⟩
 repeat (first | refine we_seq ?_ | (refine wR ?_; try simp only [oS]) | refine wo_nil ?_ | refine wA ?_)
 refine wo_call (.cons rfl .nil) trivial (oworld_tr (n := 1) (by omega)) ?_
 rintro v1 L1 x2 ⟨wv, lv, rfl, rfl, rfl⟩
 refine wo_pure (of_has .here wv_shape) ?_
 rintro ⟨⟨wa, wn, wc, rfl⟩, la, ln, lc, rfl⟩
 repeat (first | (apply wo_mo; apply mo_alloc; exact trivial))
 rintro v' L' ⟨t11, rfl, rfl⟩
 repeat (first | (apply wo_pm; apply mo_storeA (b := t11) (c := 0) (k := 0) (a := 0) (vs := [.slice none 0 0, .slice none 0 0]); exact rfl; exact rfl; exact rfl; (intro w hw; simp [Value.cells] at hw; rcases hw with rfl | rfl <;> rfl); exact rfl; exact Nat.le_refl 2; exact .here; exact trivial) | refine we_seq ?_ | (refine wR ?_; try simp only [oS]) | refine wo_nil ?_ | refine wA ?_)
 refine we_block ?_
 refine we_star ((omInv x2 o r ch xb cb t11 d v c tm Z).L (0, .slice wa wn wc, .slice la ln lc)) (fun h st => ?_) ?_
 ·have s1 : Star (arr t11 0 [.slice wa wn wc, .slice la ln lc] :: wvC (.slice wa wn wc) (.slice la ln lc) ⟨[[0]], 1⟩ :: arr o 0 [.pointer (some ⟨r, 0, none⟩)] :: arr r 0 (onceL (.int .i64 (0 : Nat)) (omF xb cb) (.int .u64 0) (.int .u64 0) 0 0 (.chan (some ch)) (.int .u64 0) (.int .i64 0)) :: shpC r 143 10 :: chC ch 0 #[] 0 0 :: arr cb 0 [.int .i64 0] :: arr xb 0 (mkCs d v c) :: [Z]) h := st
  have s2 : Star (arr xb 0 (mkCs d v c) :: arr cb 0 [.int .i64 0] :: arr o 0 [.pointer (some ⟨r, 0, none⟩)] :: arr r 0 (onceL (.int .i64 (0 : Nat)) (omF xb cb) (.int .u64 0) (.int .u64 0) 0 0 (.chan (some ch)) (.int .u64 0) (.int .i64 0)) :: chC ch 0 #[] 0 0 :: arr t11 0 [.slice wa wn wc, .slice la ln lc] :: wvC (.slice wa wn wc) (.slice la ln lc) ⟨[[0]], 1⟩ :: [Z]) h := Ent.star (.take (.there (.there (.there (.there (.there (.there (.there .here))))))) (.take (.there (.there (.there (.there (.there (.there .here)))))) (.take (.there (.there .here)) (.take (.there (.there .here)) (.take (.there (.there (.there .here))) (.take .here (.take .here (.drop .refl)))))))) s1
  have s3 := star_shut (M := [_, _]) s2
  exact star_shut (M := omNew o r ch xb cb d v c) (Ent.star (.take (.there .here) (.take (.there .here) (.take (.there .here) (.take .here .refl)))) s3)
 refine we_loopN (omInv x2 o r ch xb cb t11 d v c tm Z) (fun i => 6 - i.1) (0, _, _) (by show 0 ≤ 5; omega) ⟨rfl, rfl, rfl, rfl, rfl, rfl, trivial⟩ .refl rfl ?_
 rintro ⟨i, wv, lv⟩ hi
 dsimp only [omInv] at hi ⊢
 have w0 := Int.emod_nonneg tm (by omega : (5 : Int) ≠ 0)
 have w1 := Int.emod_lt_of_pos tm (by omega : (0 : Int) < 5)
 repeat (first | refine we_seq ?_ | (refine wR ?_; try simp only [oS]) | refine wM ?_)
 refine wo_call (.cons rfl (.cons rfl .nil)) trivial (within_tr htm (by omega)) ?_
 rintro v1 L1 x3 ⟨rfl, rfl, rfl⟩
 by_cases hlt : (i : Int) < 1 + tm % 5
 ·repeat (first | refine wlssT ?_ | refine we_seq ?_ | (refine wR ?_; try simp only [oS]) | refine wo_nil ?_ | refine wadd ?_ | refine wT ?_ | refine we_skip ?_ | refine we_block ?_)
  refine wo_call .nil trivial new_notes_tr ?_
  rintro v1 L1 x4 ⟨nb, rfl, rfl, rfl⟩
  repeat (first | (apply wo_po; apply mo_makeInterface; exact rfl; exact trivial) | refine we_seq ?_ | (refine wR ?_; try simp only [oS]) | refine wo_nil ?_ | refine wM ?_ | refine wA ?_)
  refine wo_call (.cons rfl (.cons rfl .nil)) trivial om_get_tr ?_
  rintro v1 L1 x5 ⟨rfl, rfl, rfl⟩
  repeat (first | refine we_seq ?_ | refine wo_nil ?_ | refine wM ?_ | refine wA ?_ | (apply wo_po; apply mo_extract; exact rfl; exact rfl; exact gY))
  obtain ⟨g, hcomes⟩ := om_comes (d := d) (c := c) hv i
  refine we_star (notesC nb ((omMs i).map mkI) :: arr o 0 [.pointer (some ⟨r, 0, none⟩)] :: arr r 0 (onceL (.int .i64 (0 : Nat)) (omF xb cb) (.int .u64 (stOf (codeOf d c) : Nat)) (.int .u64 1) 0 0 (.chan (some ch)) (.int .u64 (v : Nat)) (.int .i64 (codeOf d c))) :: arr xb 0 (mkCs d v c) :: arr cb 0 [.int .i64 1] :: arr t11 0 [wv, lv] :: wvC wv lv ⟨[[omW d c i]], 1⟩ :: [Z]) (fun h st => star_map st (fun _ z => z) fun _ z => om_open z) ?_
  refine we_join (omMid x5 o r ch xb cb t11 nb i d v c tm Z wv lv) ?_ ?_
  ·refine we_draw (List.range' 0 12) (by kernel_rfl) ?_
   repeat (first | (apply ap_read; exact rfl; exact rfl; exact trivial; apply mo_loadA (vs := [wv, lv]); exact rfl; exact rfl; exact Rds.all (.there (.there (.there (.there (.there .here)))))) | (apply ap_read; exact rfl; exact rfl; exact trivial; apply mo_loadA (vs := mkCs d v c); exact rfl; exact rfl; exact Rds.all (.there (.there (.there .here)))))
   refine ap_fork (f := 8) (ord' := [0, 1, 8, 2, 3, 4, 5, 6, 7, 9, 10, 11]) (by kernel_rfl) (by kernel_rfl) (by kernel_rfl) (by kernel_rfl) ?_ ?_
   ·refine ap1_call rfl rfl trivial rfl rfl (.cons rfl (.cons rfl .nil)) (oref_tr hv) ?_ ?_
    ·rintro v' L' x' ⟨kb, m, rfl, rfl, rfl⟩ p hp
     replace hp := (List.mem_filter.1 hp).1
     simp only [List.mem_cons, List.not_mem_nil, or_false] at hp
     rcases hp with rfl | rfl <;> first | exact .inl rfl | exact .inr ⟨_, rfl, trivial, mo_loadA (vs := [wv, lv]) rfl rfl (Rds.all (.there (.there (.there (.there (.there (.there .here)))))))⟩ | exact .inr ⟨_, rfl, trivial, mo_loadA (vs := mkCs d v c) rfl rfl (Rds.all (.there (.there (.there (.there .here)))))⟩
    rintro v' L' x' ⟨kb, m, rfl, rfl, rfl⟩
    refine ap_fork (f := 8) (ord' := [0, 1, 2, 8, 3, 4, 5, 6, 7, 9, 10, 11]) (by kernel_rfl) (by kernel_rfl) (by kernel_rfl) (by kernel_rfl) ?_ ?_
    ·refine ap1_call (Pd' := []) rfl (by kernel_rfl) trivial rfl rfl (.cons rfl (.cons rfl .nil)) (alone_comes hcomes (om_cl_ok hv) (by unfold omMs; split <;> simp) (.there (.there (.there (.there (.there (.there (.there .here))))))) .here) (fun v L' x' _ p hp => by cases hp) ?_
     rintro v' L' x' ⟨tv, wv', lv', mv, rfl, rfl, rfl⟩
     repeat (first | refine aM ?_ | (apply ap_pure; exact rfl; exact rfl; exact gY; intro L; apply mo_extract; exact rfl; exact rfl))
     refine ap_know (of_has (.there .here) wv_shape) ?_
     rintro ⟨⟨wa', wn', wc', rfl⟩, la', ln', lc', rfl⟩
     refine ap_loudR rfl rfl rfl rfl trivial mo_alloc ?_ ?_
     ·rintro v L' ⟨nb2, rfl, rfl⟩ p hp
      replace hp := (List.mem_filter.1 hp).1
      simp only [List.mem_cons, List.not_mem_nil, or_false] at hp
      rcases hp with rfl | rfl | rfl | rfl <;> exact .inl rfl
     rintro v' L' ⟨nb2, rfl, rfl⟩
     repeat (first | refine aA ?_)
     refine ap_loud rfl rfl rfl rfl rfl trivial (mo_storeA (b := nb2) (c := 0) (k := 0) (a := 0) (vs := [.slice none 0 0, .slice none 0 0]) rfl rfl rfl (by intro w hw; simp [Value.cells] at hw; rcases hw with rfl | rfl <;> rfl) rfl (Nat.le_refl 2) .here) ?_
     rintro v' L' ⟨rfl, rfl⟩
     repeat (first | refine aA ?_ | refine ap_end ?_)
     refine at_midS (I := omMid _ o r ch xb cb t11 nb i d v c tm Z wv lv) (tv, mv, .slice wa' wn' wc', .slice la' ln' lc', nb2) trivial ⟨rfl, rfl, rfl, rfl, rfl, rfl, rfl, rfl, rfl, rfl, rfl, rfl, trivial⟩ (fun h st => ?_) rfl
     have s1 : Star (arr nb2 0 [.slice wa' wn' wc', .slice la' ln' lc'] :: vec 1 tv [num (tell0 d c), num (tell1 d v)] :: wvC (.slice wa' wn' wc') (.slice la' ln' lc') ⟨[[omW d c (i + 1)]], 1⟩ :: vec 2 mv ((omMs i).map mkC).flatten :: wvC wv lv ⟨[[omW d c i]], 1⟩ :: notesC nb ((omMs i).map mkI) :: arr o 0 [.pointer (some ⟨r, 0, none⟩)] :: arr r 0 (onceL (.int .i64 (0 : Nat)) (omF xb cb) (.int .u64 (stOf (codeOf d c) : Nat)) (.int .u64 1) 0 0 (.chan (some ch)) (.int .u64 (v : Nat)) (.int .i64 (codeOf d c))) :: arr xb 0 (mkCs d v c) :: arr cb 0 [.int .i64 1] :: arr t11 0 [wv, lv] :: [Z]) h := st
     exact Ent.star (.take (.there .here) (.take (.there (.there .here)) (.take .here (.take .here (.drop .refl))))) s1
    ·refine ap1_mo rfl rfl rfl trivial mo_alloc ?_ ?_
     ·rintro v' L' ⟨nb2, rfl, rfl⟩ p hp
      replace hp := (List.mem_filter.1 hp).1
      replace hp := (List.mem_filter.1 hp).1
      simp only [List.mem_cons, List.not_mem_nil, or_false] at hp
      rcases hp with rfl | rfl <;> first | exact .inl rfl | exact .inr ⟨_, rfl, trivial, mo_loadA (vs := [wv, lv]) rfl rfl (Rds.all (.there (.there (.there (.there (.there (.there (.there .here))))))))⟩ | exact .inr ⟨_, rfl, trivial, mo_loadA (vs := mkCs d v c) rfl rfl (Rds.all (.there (.there (.there (.there (.there .here))))))⟩
     rintro v' L' ⟨nb2, rfl, rfl⟩
     refine ap_callR (Pd' := []) rfl rfl (by kernel_rfl) trivial rfl rfl (.cons rfl (.cons rfl .nil)) (alone_comes hcomes (om_cl_ok hv) (by unfold omMs; split <;> simp) (.there (.there (.there (.there (.there (.there (.there (.there .here)))))))) (.there .here)) (fun v L' x' _ p hp => by cases hp) ?_
     rintro v' L' x' ⟨tv, wv', lv', mv, rfl, rfl, rfl⟩
     refine ap_star (L' := _) (fun h st => Ent.star (.take (.there (.there (.there (.there .here)))) (.take .here (.take .here (.take .here (.take .here .refl))))) st) (fun p hp => by cases hp) ?_
     repeat (first | refine aM ?_ | refine aA ?_ | (apply ap_pure; exact rfl; exact rfl; exact gY; intro L; apply mo_extract; exact rfl; exact rfl))
     refine ap_know (of_has (.there (.there .here)) wv_shape) ?_
     rintro ⟨⟨wa', wn', wc', rfl⟩, la', ln', lc', rfl⟩
     skip
     refine ap_loud rfl rfl rfl rfl rfl trivial (mo_storeA (b := nb2) (c := 0) (k := 0) (a := 0) (vs := [.slice none 0 0, .slice none 0 0]) rfl rfl rfl (by intro w hw; simp [Value.cells] at hw; rcases hw with rfl | rfl <;> rfl) rfl (Nat.le_refl 2) .here) ?_
     rintro v' L' ⟨rfl, rfl⟩
     repeat (first | refine aA ?_ | refine ap_end ?_)
     refine at_midS (I := omMid _ o r ch xb cb t11 nb i d v c tm Z wv lv) (tv, mv, .slice wa' wn' wc', .slice la' ln' lc', nb2) trivial ⟨rfl, rfl, rfl, rfl, rfl, rfl, rfl, rfl, rfl, rfl, rfl, rfl, trivial⟩ (fun h st => ?_) rfl
     have s1 : Star (arr nb2 0 [.slice wa' wn' wc', .slice la' ln' lc'] :: vec 1 tv [num (tell0 d c), num (tell1 d v)] :: wvC (.slice wa' wn' wc') (.slice la' ln' lc') ⟨[[omW d c (i + 1)]], 1⟩ :: vec 2 mv ((omMs i).map mkC).flatten :: wvC wv lv ⟨[[omW d c i]], 1⟩ :: notesC nb ((omMs i).map mkI) :: arr o 0 [.pointer (some ⟨r, 0, none⟩)] :: arr r 0 (onceL (.int .i64 (0 : Nat)) (omF xb cb) (.int .u64 (stOf (codeOf d c) : Nat)) (.int .u64 1) 0 0 (.chan (some ch)) (.int .u64 (v : Nat)) (.int .i64 (codeOf d c))) :: arr xb 0 (mkCs d v c) :: arr cb 0 [.int .i64 1] :: arr t11 0 [wv, lv] :: [Z]) h := st
     exact Ent.star (.take (.there .here) (.take (.there (.there .here)) (.take .here (.take .here (.drop .refl))))) s1
   ·refine ap1_mo rfl rfl rfl trivial mo_alloc ?_ ?_
    ·rintro v' L' ⟨nb2, rfl, rfl⟩ p hp
     replace hp := (List.mem_filter.1 hp).1
     simp only [List.mem_cons, List.not_mem_nil, or_false] at hp
     rcases hp with rfl | rfl <;> first | exact .inl rfl | exact .inr ⟨_, rfl, trivial, mo_loadA (vs := [wv, lv]) rfl rfl (Rds.all (.there (.there (.there (.there (.there (.there .here)))))))⟩ | exact .inr ⟨_, rfl, trivial, mo_loadA (vs := mkCs d v c) rfl rfl (Rds.all (.there (.there (.there (.there .here)))))⟩
    rintro v' L' ⟨nb2, rfl, rfl⟩
    refine ap_callR rfl rfl rfl trivial rfl rfl (.cons rfl (.cons rfl .nil)) (oref_tr hv) ?_ ?_
    ·rintro v' L' x' ⟨kb, m, rfl, rfl, rfl⟩ p hp
     replace hp := (List.mem_filter.1 hp).1
     replace hp := (List.mem_filter.1 hp).1
     simp only [List.mem_cons, List.not_mem_nil, or_false] at hp
     rcases hp with rfl | rfl <;> first | exact .inl rfl | exact .inr ⟨_, rfl, trivial, mo_loadA (vs := [wv, lv]) rfl rfl (Rds.all (.there (.there (.there (.there (.there (.there (.there .here))))))))⟩ | exact .inr ⟨_, rfl, trivial, mo_loadA (vs := mkCs d v c) rfl rfl (Rds.all (.there (.there (.there (.there (.there .here))))))⟩
    rintro v' L' x' ⟨kb, m, rfl, rfl, rfl⟩
    refine ap_callR (Pd' := []) rfl rfl (by kernel_rfl) trivial rfl rfl (.cons rfl (.cons rfl .nil)) (alone_comes hcomes (om_cl_ok hv) (by unfold omMs; split <;> simp) (.there (.there (.there (.there (.there (.there (.there (.there .here)))))))) .here) (fun v L' x' _ p hp => by cases hp) ?_
    rintro v' L' x' ⟨tv, wv', lv', mv, rfl, rfl, rfl⟩
    refine ap_star (L' := _) (fun h st => Ent.star (.take (.there (.there (.there (.there .here)))) (.take .here (.take .here (.take .here (.take .here .refl))))) st) (fun p hp => by cases hp) ?_
    repeat (first | refine aM ?_ | refine aA ?_ | (apply ap_pure; exact rfl; exact rfl; exact gY; intro L; apply mo_extract; exact rfl; exact rfl))
    refine ap_know (of_has (.there (.there .here)) wv_shape) ?_
    rintro ⟨⟨wa', wn', wc', rfl⟩, la', ln', lc', rfl⟩
    skip
    refine ap_loud rfl rfl rfl rfl rfl trivial (mo_storeA (b := nb2) (c := 0) (k := 0) (a := 0) (vs := [.slice none 0 0, .slice none 0 0]) rfl rfl rfl (by intro w hw; simp [Value.cells] at hw; rcases hw with rfl | rfl <;> rfl) rfl (Nat.le_refl 2) .here) ?_
    rintro v' L' ⟨rfl, rfl⟩
    repeat (first | refine aA ?_ | refine ap_end ?_)
    refine at_midS (I := omMid _ o r ch xb cb t11 nb i d v c tm Z wv lv) (tv, mv, .slice wa' wn' wc', .slice la' ln' lc', nb2) trivial ⟨rfl, rfl, rfl, rfl, rfl, rfl, rfl, rfl, rfl, rfl, rfl, rfl, trivial⟩ (fun h st => ?_) rfl
    have s1 : Star (arr nb2 0 [.slice wa' wn' wc', .slice la' ln' lc'] :: vec 1 tv [num (tell0 d c), num (tell1 d v)] :: wvC (.slice wa' wn' wc') (.slice la' ln' lc') ⟨[[omW d c (i + 1)]], 1⟩ :: vec 2 mv ((omMs i).map mkC).flatten :: wvC wv lv ⟨[[omW d c i]], 1⟩ :: notesC nb ((omMs i).map mkI) :: arr o 0 [.pointer (some ⟨r, 0, none⟩)] :: arr r 0 (onceL (.int .i64 (0 : Nat)) (omF xb cb) (.int .u64 (stOf (codeOf d c) : Nat)) (.int .u64 1) 0 0 (.chan (some ch)) (.int .u64 (v : Nat)) (.int .i64 (codeOf d c))) :: arr xb 0 (mkCs d v c) :: arr cb 0 [.int .i64 1] :: arr t11 0 [wv, lv] :: [Z]) h := st
    exact Ent.star (.take (.there .here) (.take (.there (.there .here)) (.take .here (.take .here (.drop .refl))))) s1
  ·rintro ⟨tv, mv, wv', lv', nb2⟩ _
   dsimp only [omMid]
   refine we_pure (of_has .here (vec_shape (by omega))) ?_
   rintro ⟨ta, tn, tc, rfl, htn, _, hta, hta2⟩
   refine we_pure (of_has (.there .here) (vec_shape (by omega))) ?_
   rintro ⟨ma, mn, mc, rfl, hmn, _, hma, hma2⟩
   refine we_pure (of_has (.there (.there (.there .here))) wv_shape) ?_
   rintro ⟨⟨wa', wn', wc', rfl⟩, la', ln', lc', rfl⟩
   have htn' : tn = [tell0 d c, tell1 d v].length := by simp at htn ⊢; omega
   have hml : (omMs i).length ≤ 3 := by unfold omMs; split <;> simp
   have hmn' : mn = ((omMs i).map mkI).length := by rw [flat_len (k := 2) (fun _ => rfl)] at hmn; simp; omega
   repeat (first | (apply wo_po; apply mo_conv; exact rfl; exact tell0_wrap; exact trivial) | (apply wo_mo; apply mo_buildSlice (sz := 1) (vs := [num (tell0 d c), num (tell1 d v)]); exact rfl; exact .cons rfl (.cons rfl .nil); exact rfl; (intro v hv; simp at hv; rcases hv with rfl | rfl <;> rfl); omega; exact trivial) | refine we_seq ?_ | (refine wR ?_; try simp only [oS]) | refine wM ?_)
   rintro v' L' ⟨sb, rfl, rfl⟩
   refine wo_call (.cons rfl (.cons rfl .nil)) trivial (same_words_tr (l := [tell0 d c, tell1 d v]) (l' := [tell0 d c, tell1 d v]) htn' rfl (by rw [htn']; show 2 < 1000000000000000; omega) (RdV.vec (.there .here) hta2 (fun h => List.length_eq_zero_iff.1 (by rw [← htn']; exact hta h))) (fun k u hk => ⟨sb, 0, rfl, ?_⟩)) ?_
   ·rw [Nat.zero_add]
    refine Rd.row0 (vs := [num (tell0 d c), num (tell1 d v)]) ?_
    rw [show [num (tell0 d c), num (tell1 d v)] = [tell0 d c, tell1 d v].map num from rfl, List.getElem?_map, hk]; rfl
   rintro v1 L1 x6 ⟨rfl, rfl, rfl⟩
   rw [decide_eq_true (rfl : [tell0 d c, tell1 d v] = [tell0 d c, tell1 d v])]
   repeat (first | refine wM ?_ | (apply wo_po; apply mo_not; exact rfl; exact gY))
   refine wo_call (.cons rfl .nil) rfl (marks_tr (by simp; omega) (.there (.there (.there (.there (.there .here)))))) ?_
   rintro v1 L1 x7 ⟨rfl, rfl⟩
   refine wo_pure (of_has .here (vec_shape (by omega))) ?_
   rintro ⟨na, nn, nc, rfl, hnn, _, hna, hna2⟩
   have hnn' : nn = ((omMs i).map mkI).length := by rw [flat2] at hnn; omega
   repeat (first | refine wM ?_)
   refine wo_call (.cons rfl (.cons rfl .nil)) rfl (same_marks_tr (l := (omMs i).map mkI) (l' := (omMs i).map mkI) hnn' hmn' (by simp at hnn'; omega) (RdM.vec .here hna2 (fun h => List.length_eq_zero_iff.1 (by rw [← hnn']; exact hna h))) (RdM.vec (n := mn) (c := mc) (by rw [← marks_flat]; exact (.there (.there (.there (.there .here))))) hma2 (fun h => List.length_eq_zero_iff.1 (by rw [← hmn']; exact hma h)))) ?_
   rintro v1 L1 x8 ⟨rfl, rfl, rfl⟩
   rw [decide_eq_true (rfl : (omMs i).map mkI = (omMs i).map mkI)]
   repeat (first | refine wM ?_ | refine wJ ?_ | (apply wo_po; apply mo_not; exact rfl; exact gY))
   refine wo_call (.cons rfl .nil) rfl (madeU_tr (n := 1) (r := r) (.there (.there (.there (.there (.there (.there (.there (Rd.row0 rfl)))))))) (.there (.there (.there (.there (.there (.there (.there (.there (Rd.row0 rfl))))))))) (by decide)) ?_
   rintro v1 L1 x9 ⟨rfl, rfl, rfl⟩
   repeat (first | (apply wo_po; apply mo_loadA (vs := [.slice wa' wn' wc', .slice la' ln' lc']); exact rfl; exact rfl; exact Rds.all (.there (.there (.there (.there (.there .here))))); exact trivial) | (apply wo_pm; apply mo_storeA (b := t11) (c := 0) (k := 0) (a := 0) (vs := [wv, lv]); exact rfl; exact rfl; exact rfl; (intro w hw; simp [Value.cells] at hw; rcases hw with rfl | rfl <;> rfl); exact rfl; exact Nat.le_refl 2; exact (.there (.there (.there (.there (.there (.there (.there (.there (.there (.there (.there .here))))))))))); exact trivial) | refine wneqF ?_ | (refine wR ?_; try simp only [oS]) | refine wo_nil ?_ | refine wM ?_ | refine wA ?_ | refine wJ ?_ | refine wL ?_ | refine wadd ?_ | refine wF ?_ | refine we_skip ?_)
   refine at_roundS (I := omInv _ o r ch xb cb t11 d v c tm Z) (R := fun i' => 6 - i'.1 < 6 - i) (i + 1, .slice wa' wn' wc', .slice la' ln' lc') (by show 6 - (i + 1) < 6 - i; omega) (by show i + 1 ≤ 5; omega) ⟨rfl, rfl, rfl, rfl, rfl, rfl, trivial⟩ (fun h st => ?_) rfl
   refine om_shut (Ent.star (L := _) (.take (.there (.there (.there (.there (.there (.there (.there .here))))))) (.take (.there (.there (.there (.there (.there (.there (.there .here))))))) (.take (.there (.there (.there (.there (.there (.there (.there .here))))))) (.take (.there (.there (.there (.there (.there (.there (.there .here))))))) (.take (.there (.there (.there (.there (.there (.there (.there .here))))))) (.take (.there (.there (.there (.there (.there (.there .here)))))) (.drop (.drop (.drop (.drop (.drop (.drop .refl)))))))))))) st)
 ·repeat (first | refine wlssF ?_ | refine we_seq ?_ | (refine wR ?_; try simp only [oS]) | refine wo_nil ?_ | refine wadd ?_ | refine wF ?_ | refine we_exit ?_)
  refine wo_call .nil trivial works_tr ?_
  rintro v1 L1 x4 ⟨rfl, rfl, rfl⟩
  repeat (first | refine wo_nil ?_ | refine wA ?_ | refine we_ret ?_)
  (first | refine or1 Try.func3 Try.results3 hQ rfl ?_ | refine on1 Try.func3 Try.results3 hQ rfl ?_)
  exact ⟨rfl, rfl, fun h st => star_dropM (M := [_, _, _]) st⟩
theorem makes_tr {n tm : Int} (hn : -9223372036854775808 ≤ n ∧ n ≤ 9223372036854775807) (htm : -9223372036854775808 ≤ tm ∧ tm ≤ 9223372036854775807) (hv : v < 18446744073709551616) {Z : HProp} :
  Tr Try.prog B 3 [.int .i64 n, mkV d v c, .int .i64 tm] [Z] x fun w L' x' => w = .bool true ∧ x' = x ∧ ∀ h, Star L' h → Star [Z] h := by
 refine tr_of_body Try.func3 rfl Try.ntmps3 (by simp) fun um Q _ hQ => ?_
 simp only [argE, Nat.zero_add, Nat.reduceAdd]
 repeat (first | (apply wo_mo; apply mo_box; exact rfl; exact trivial) | refine we_seq ?_ | (refine wR ?_; try simp only [oS]))
 rintro v' L' ⟨xb, rfl, rfl⟩
 refine wo_ent (arr xb 0 (mkCs d v c) :: [Z]) .refl ?_
 by_cases hb : n < 1 ∨ 1024 < n
 ·repeat (first | refine we_seq ?_ | (refine wR ?_; try simp only [oS]) | refine wo_nil ?_ | refine wM ?_ | refine wA ?_)
  refine wo_call (.cons rfl (.cons rfl .nil)) trivial (ntab_bad hb) ?_
  rintro v1 L1 x1 ⟨rfl, ⟨b, rfl⟩, rfl⟩
  refine wo_ent (arr xb 0 (mkCs d v c) :: [Z]) (.drop .refl) ?_
  by_cases h1 : n < 1
  ·repeat (first | (exact we_sub [(2, .int .i64 tm), (4, .pointer (some ⟨xb, 0, none⟩))] ⟨rfl, rfl, trivial⟩ (om_rest htm hv hQ)) | refine wlssT ?_ | refine wneqF ?_ | refine we_seq ?_ | (refine wR ?_; try simp only [oS]) | refine wo_nil ?_ | refine wM ?_ | refine wA ?_ | (apply wo_no; exact rfl) | refine wK ?_ | refine wJ ?_ | (apply wo_po; apply mo_extract; exact rfl; exact rfl; exact gY) | (apply wo_po; apply mo_bin; exact rfl; exact rfl; apply bin_ne; apply eql_ptr_nil; exact gY) | refine wT ?_ | refine wF ?_ | refine we_skip ?_)
  ·repeat (first | (exact we_sub [(2, .int .i64 tm), (4, .pointer (some ⟨xb, 0, none⟩))] ⟨rfl, rfl, trivial⟩ (om_rest htm hv hQ)) | refine wlssF ?_ | refine wgtrT ?_ | refine wneqF ?_ | refine we_seq ?_ | (refine wR ?_; try simp only [oS]) | refine wo_nil ?_ | refine wM ?_ | refine wA ?_ | refine wJ ?_ | (apply wo_po; apply mo_extract; exact rfl; exact rfl; exact gY) | (apply wo_po; apply mo_bin; exact rfl; exact rfl; apply bin_ne; apply eql_ptr_nil; exact gY) | refine wT ?_ | refine wF ?_ | refine we_skip ?_)
 ·obtain ⟨m, rfl⟩ : ∃ m : Nat, n = m := ⟨n.toNat, by omega⟩
  repeat (first | refine we_seq ?_ | (refine wR ?_; try simp only [oS]) | refine wo_nil ?_ | refine wM ?_ | refine wA ?_)
  refine wo_call (.cons rfl (.cons rfl .nil)) trivial (ntab_tr (n := m) (by omega) (by omega)) ?_
  rintro v1 L1 x1 ⟨tb, mb, sv, l, hl, rfl, rfl, rfl⟩
  refine wo_ent (arr xb 0 (mkCs d v c) :: [Z]) (.drop (.drop (.drop (.drop .refl)))) ?_
  repeat (first | (exact we_sub [(2, .int .i64 tm), (4, .pointer (some ⟨xb, 0, none⟩))] ⟨rfl, rfl, trivial⟩ (om_rest htm hv hQ)) | refine wlssF ?_ | refine wgtrF ?_ | refine wneqF ?_ | refine we_seq ?_ | (refine wR ?_; try simp only [oS]) | refine wo_nil ?_ | refine wM ?_ | refine wA ?_ | refine wJ ?_ | (apply wo_po; apply mo_extract; exact rfl; exact rfl; exact gY) | (apply wo_po; apply mo_bin; exact rfl; exact rfl; apply bin_eq; apply eql_ptr_nil; exact gY) | refine wF ?_ | refine we_skip ?_)
end
end
end Go.Proofs.Ytcladnioicackaa
namespace Go.Proofs.Ytcladnioicackaa
open Go Go.PB Go.ChangeShapes Go.WideShapes Go.RowKit
section
theorem own : ownKnob Try.prog.godebug = none := by kernel_rfl
theorem laidOut : laidOutB Try.prog = true := by kernel_rfl
def shMake : Sh (Int × Nat × Int × Unit) := shPair shI64 (shPair shU64 (shPair shI64 shUnit))
theorem opens_make : Opens Try.prog 24 shMake :=
 opens_struct (fs := #[_, _, _]) Try.underlying24 (by kernel_rfl) (opensF_cons rfl (opens_i64 (by kernel_rfl) (by kernel_rfl)) rfl (opensF_cons rfl (opens_u64 (by kernel_rfl) (by kernel_rfl)) rfl (opensF_cons rfl (opens_i64 (by kernel_rfl) (by kernel_rfl)) rfl opensF_nil)))
theorem make_at {W : World} {cs : Array Value} {x : Int × Nat × Int × Unit} (h : shMake.rel W (Value.agg cs).cells.toList x) : ∃ (a : Int) (b : Nat) (c : Int), cs = #[.int .i64 a, .int .u64 (b : Nat), .int .i64 c] ∧ b < 18446744073709551616 := by
 obtain ⟨l⟩ := cs
 replace h : shMake.rel W l x := h
 obtain ⟨⟨h1, h2⟩, ⟨h3, h4⟩, ⟨h5, h6⟩, h7⟩ := h
 simp only [shPair, shU64, shI64, shUnit] at h1 h3 h5 h7
 refine ⟨x.1, x.2.1, x.2.2.1, ?_, h4⟩
 match l, h1, h3, h5, h7 with
 | [v0, v1, v2], h1, h3, h5, _ => 
  simp at h1 h3 h5
  rw [h1, h3, h5]
 | [], h1, _, _, _ => simp at h1
 | [_], _, h3, _, _ => simp at h3
 | [_, _], _, _, h5, _ => simp at h5
 | _ :: _ :: _ :: _ :: _, _, _, _, h7 => simp at h7
theorem makes0 {W : World} {n tm : Int} {d c : Int} {v : Nat} (hn : -9223372036854775808 ≤ n ∧ n ≤ 9223372036854775807) (htm : -9223372036854775808 ≤ tm ∧ tm ≤ 9223372036854775807) (hv : v < 18446744073709551616) :
  Tr Try.prog solo0 3 [.int .i64 n, .agg #[.int .i64 d, .int .u64 (v : Nat), .int .i64 c], .int .i64 tm] [base W] () fun v L' x' => v = .bool true :=
 (makes_tr hn htm hv).mono fun v L x h => h.1
set_option maxRecDepth 100000 in
theorem onceMakes_lifted (os : Os) (started : os.Started) (H : Type) (enc : TypeId × Value → H) (Fi : Stop.Interp) :
  ReturnsInLeavingWide Rows.onceMakesRow.assume Try.checked os 3 .any (Rows.onceMakesSpec.pre6 enc Try.prog Try.f3 Rows.onceMakesRow.domain false) ((OpenSpec.ofChange Rows.onceMakesSpec).postWith enc Try.prog Try.f3 Fi (outsideKept [.timePasses]) false true false) := by
 refine returnsInLeavingWide_of_change_time (C := Try.checked) own started Try.func3
  (ChangeSpec.witness6c (enc := enc) (C := Try.checked) ⟨#[], #[.int .i64 0, .agg #[.int .i64 0, .int .u64 0, .int .i64 0], .int .i64 0], []⟩ 8 (by kernel_rfl) (by kernel_rfl) (by kernel_rfl) (by kernel_rfl)) ?_
 intro W base args ds gs before hval0 hW hcnd hsz _
 have hval : ∀ (j : Nat) t v, Try.f3.params[j]? = some t → args[j]? = some v → Value.okWide Try.prog W .any base t v := hval0
 have hW' := hW
 obtain ⟨p, q, hA0, hV, rfl, hfz, hnd⟩ := hW
 have hA : DataW.TrodAll enc Try.prog W 0 (fun _ => true) true Try.f3.params.toList args.toList ds p := hA0
 rw [Try.params3] at hA hval
 obtain ⟨v0, v1, v2, d0, d1, d2, p0, p1, p2, rfl, rfl, rfl, h0, h1, h2⟩ := trodAll_three hA
 obtain ⟨n0, rfl⟩ := okWide_int (k := .i64) (by kernel_rfl) (hval 0 _ v0 rfl rfl)
 obtain ⟨a1, rfl, z1⟩ := okWide_struct Try.underlying24 (hval 1 _ v1 rfl rfl)
 obtain ⟨n2, rfl⟩ := okWide_int (k := .i64) (by kernel_rfl) (hval 2 _ v2 rfl rfl)
 obtain ⟨x0, e0, r0⟩ := arg_one (opens_i64 (by kernel_rfl) (by kernel_rfl)) h0
 cases e0
 obtain ⟨x1, e1⟩ := arg_one opens_make h1
 obtain ⟨a1, b1, c1, rfl, y1⟩ := make_at e1
 obtain ⟨x2, e2, r2⟩ := arg_one (opens_i64 (by kernel_rfl) (by kernel_rfl)) h2
 cases e2
 refine good_of_tr (by kernel_rfl) (makes0 r0 r2 y1) fun v L' w' hv ha => ?_
 subst hv
 have hos : w'.os = W.os := ha.1.os
 have hww : ({ w' with os := W.os } : World) = w' := by rw [← hos]
 refine ⟨?_, by rw [hos]; exact Go.ConcM.OsLater.refl _⟩
 rw [hww]
 exact post_true laidOut (of_decide_eq_true (by kernel_rfl)) rfl (by kernel_rfl) rfl (fun ds hd => by match ds, hd with | [_, _, _], _ => rfl) hW' ha
theorem onceMakes : Rows.OnceMakesSaid :=
 OpenClaim.holds_of_wide_leaving_time 3 Try.f3 rfl rfl rfl rfl rfl rfl rfl ⟨rfl, rfl, rfl, rfl, rfl⟩ rfl rfl rfl rfl rfl (by kernel_rfl) Try.func3 (by kernel_rfl)
  (of_decide_eq_true (by kernel_rfl)) (by unfold Func.isWrapper; first | (rw [if_pos (by decide +kernel)]; kernel_rfl) | (rw [if_neg (by decide +kernel)]; exact ⟨rfl, rfl⟩))
  (fun os started H enc _ F => onceMakes_lifted os started H enc F)
end
end Go.Proofs.Ytcladnioicackaa
