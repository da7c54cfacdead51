/-
  Part 5 of 7.
-/
import Derived.Test.YthghlchcjeocpaaPk4
import Derived.Test.YthghlchcjeocpaaPk3
import Derived.Conc.WgGenN2
set_option linter.unusedVariables false
set_option linter.unusedSimpArgs false
namespace Go.Proofs.Ythghlchcjeocpaa
open Go Go.PB
attribute [local irreducible] Mo Bin Eql Tr Wo Ap
section
variable {B : Hand} [Lets B] {L F : List HProp} {x : B.X} {nb : Nat} {marks : List (Int × Nat)}
theorem new_notes_tr : Tr Try.prog B 20 [] L x fun v L' x' => ∃ nb, v = .pointer (some ⟨nb, 0, none⟩) ∧ L' = notesC nb [] :: L ∧ x' = x := by
 refine Tr.post (R := fun v L' x' => ∃ nb, v = .pointer (some ⟨nb, 0, none⟩) ∧ L' = arr nb 0 [.bool true, .slice none 0 0] :: L ∧ x' = x) ?_
  (by
   rintro v L' x' ⟨nb, rfl, rfl, rfl⟩
   refine ⟨_, ⟨nb, rfl, rfl, rfl⟩, fun h st => ?_⟩
   have st2 : Star ([arr nb 0 [.bool true, .slice none 0 0], vec 2 (.slice none 0 0) []] ++ L) h := star_map st (fun _ y => y) (fun _ y => vec_nil y)
   exact star_map (star_shut st2) (fun _ y => ⟨_, y⟩) (fun _ y => y))
 refine tr_of_body Try.func20 rfl Try.ntmps20 (by simp) fun um Q _ hQ => ?_
 simp only [argE, Nat.zero_add, Nat.reduceAdd]
 repeat (first | (apply wo_po; apply mo_build (pv := [(0, _)]); exact rfl; exact .cons rfl .nil; exact rfl; exact trivial) | (apply wo_mo; apply mo_box; exact rfl; exact trivial) | refine we_seq ?_ | (refine wR ?_; try simp only [oS]) | refine wo_nil ?_ | refine wA ?_)
 rintro v' L' ⟨r, rfl, rfl⟩
 repeat (first | refine wo_nil ?_ | refine wA ?_ | refine we_ret ?_)
 (first | refine or1 Try.func20 Try.results20 hQ rfl ?_ | refine on1 Try.func20 Try.results20 hQ rfl ?_)
 exact ⟨r, rfl, rfl, rfl⟩
theorem clone_tr {a : Option Addr} {n c : Nat} (hl : marks.length < 1000000) (hn : n = marks.length) (ha : (a = none ∧ n = 0) ∨ ∃ b o, a = some ⟨b, o, none⟩ ∧ Rds L b o (marks.map mark2).flatten) :
  Tr Try.prog B 50 [.slice a n c] L x fun v L' x' => L' = vec 2 v (marks.map mark2).flatten :: L ∧ x' = x := by
 subst hn
 rcases ha with ⟨rfl, h0⟩ | ⟨b, o, rfl, hr⟩
 ·refine tr_of_body Try.func50 rfl Try.ntmps50 (by simp) fun um Q _ hQ => ?_
  simp only [argE, Nat.zero_add, Nat.reduceAdd]
  repeat (first | refine we_seq ?_ | (refine wR ?_; try simp only [oS]) | refine wo_nil ?_ | refine wM ?_ | refine wA ?_ | (apply wo_po; apply mo_bin; exact rfl; exact rfl; apply bin_eq; apply eql_slice_nil; exact gY) | refine wT ?_ | refine we_ret ?_)
  have hm : marks = [] := List.length_eq_zero_iff.1 h0
  refine at_star (vec 2 (.slice none 0 0) (marks.map mark2).flatten :: L) (fun h st => by rw [hm]; exact vec_nil st) ?_
  (first | refine or1 Try.func50 Try.results50 hQ rfl ?_ | refine on1 Try.func50 Try.results50 hQ rfl ?_)
  exact ⟨rfl, rfl⟩
 ·have h1 : ∀ w ∈ (marks.map mark2).flatten, one w = true := by
   intro w hw
   simp only [List.mem_flatten, List.mem_map] at hw
   obtain ⟨l, ⟨m, _, rfl⟩, hw⟩ := hw
   simp only [mark2, List.mem_cons, List.not_mem_nil, or_false] at hw
   rcases hw with rfl | rfl <;> rfl
  refine tr_of_body Try.func50 rfl Try.ntmps50 (by simp) fun um Q _ hQ => ?_
  simp only [argE, Nat.zero_add, Nat.reduceAdd]
  repeat (first | (apply wo_mo; apply mo_buildSlice (sz := 2) (vs := []); exact rfl; exact .nil; exact rfl; (intro v hv; cases hv); omega; exact trivial) | refine we_seq ?_ | (refine wR ?_; try simp only [oS]) | refine wo_nil ?_ | refine wM ?_ | refine wA ?_ | (apply wo_po; apply mo_bin; exact rfl; exact rfl; apply bin_eq; apply eql_slice_nil; exact gY) | refine wF ?_ | refine we_skip ?_)
  rintro v' L' ⟨nb, rfl, rfl⟩
  refine wo_star (vec 2 (.slice (some ⟨nb, 0, none⟩) 0 0) [] :: L) (fun h st => vec_new (cs := []) rfl st) ?_
  repeat (first | (apply wo_mo; apply mo_append (sz := 2) (new := (marks.map mark2).flatten); exact rfl; exact rfl; exact rfl; exact rfl; exact .here; exact flat2 _; exact .inr ⟨_, _, rfl, fun i v hi => Rd.there (hr i v hi)⟩; exact h1; (simp only [sliceLen]; omega); exact trivial) | refine wM ?_)
  rintro v' L' rfl
  repeat (first | refine wo_nil ?_ | refine wA ?_ | refine we_ret ?_)
  (first | refine or1 Try.func50 Try.results50 hQ rfl ?_ | refine on1 Try.func50 Try.results50 hQ rfl ?_)
  exact ⟨rfl, rfl⟩
theorem marks_tr (hl : marks.length < 1000000) (hh : Has L (notesC nb marks) F) :
  Tr Try.prog B 25 [.pointer (some ⟨nb, 0, none⟩)] L x fun v L' x' => L' = vec 2 v (marks.map mark2).flatten :: notesC nb marks :: F ∧ x' = x := by
 refine tr_ex hh fun mv => tr_star _ (fun h st => star_open st) ?_
 simp only [List.cons_append, List.nil_append]
 refine Tr.post (R := fun v L' x' => L' = vec 2 v (marks.map mark2).flatten :: arr nb 0 [.bool true, mv] :: vec 2 mv (marks.map mark2).flatten :: F ∧ x' = x) ?_
  (by
   rintro v L' x' ⟨rfl, rfl⟩
   exact ⟨_, ⟨rfl, rfl⟩, fun h st => star_map st (fun _ y => y) (fun _ y => star_map (star_shut (M := [_, _]) y) (fun _ z => ⟨mv, z⟩) (fun _ z => z))⟩)
 refine tr_pure (of_has (.there .here) (vec_shape (by omega))) ?_
 rintro ⟨ra, rl, rc, rfl, hlen, hrc, hra, hra2⟩
 rw [flat2] at hlen
 have hrl : rl = marks.length := by omega
 subst hrl
 have hr0 : Rd (arr nb 0 [.bool true, .slice ra marks.length rc] :: vec 2 (.slice ra marks.length rc) (marks.map mark2).flatten :: F) nb 0 (.bool true) := Rd.row (k := 0) rfl rfl
 have hr1 : Rd (arr nb 0 [.bool true, .slice ra marks.length rc] :: vec 2 (.slice ra marks.length rc) (marks.map mark2).flatten :: F) nb 1 (.slice ra marks.length rc) := Rd.row (k := 1) rfl rfl
 have ha : (ra = none ∧ marks.length = 0) ∨ ∃ b o, ra = some ⟨b, o, none⟩ ∧ Rds (arr nb 0 [.bool true, .slice ra marks.length rc] :: vec 2 (.slice ra marks.length rc) (marks.map mark2).flatten :: F) b o (marks.map mark2).flatten := by
  cases ra with
  | none => exact .inl ⟨rfl, hra rfl⟩
  | some y =>
   obtain ⟨b, o, sp⟩ := y
   cases hra2 _ rfl
   exact .inr ⟨b, o, rfl, fun i v hi => rd_vec (.there .here) hi⟩
 refine tr_of_body Try.func25 rfl Try.ntmps25 (by simp) fun um Q _ hQ => ?_
 simp only [argE, Nat.zero_add, Nat.reduceAdd]
 repeat (first | (apply wo_po; apply mo_load; exact rfl; exact hr0; exact gY) | (apply wo_po; apply mo_load; exact rfl; exact hr1; exact trivial) | refine we_seq ?_ | (refine wR ?_; try simp only [oS]) | refine wo_nil ?_ | refine wM ?_ | refine wA ?_ | refine wJ ?_ | refine wN ?_ | refine wD ?_ | (apply wo_po; apply mo_not; exact rfl; exact gY) | (apply wo_po; apply mo_bin; exact rfl; exact rfl; apply bin_eq; apply eql_ptr_nil; exact gY) | refine wF ?_ | refine we_skip ?_)
 refine wo_call (.cons rfl .nil) trivial (clone_tr hl rfl ha) ?_
 rintro v L' x' ⟨rfl, rfl⟩
 repeat (first | refine wo_nil ?_ | refine wA ?_ | refine we_ret ?_)
 (first | refine or1 Try.func25 Try.results25 hQ rfl ?_ | refine on1 Try.func25 Try.results25 hQ rfl ?_)
 exact ⟨rfl, rfl⟩
def RdM (L : List HProp) (a : Option Addr) (l : List (Int × Nat)) : Prop := ∀ i m, l[i]? = some m → ∃ b o, a = some ⟨b, o, none⟩ ∧ Rds L b (o + 2 * i) [.int .u8 m.1, .int .i64 (m.2 : Nat)]
omit [Lets B] in
theorem RdM.vec {a : Option Addr} {n c : Nat} {l : List (Int × Nat)} (hh : Has L (vec 2 (.slice a n c) (l.map mark2).flatten) F) (ha : ∀ y, a = some y → y = ⟨y.block, y.off, none⟩) (hn : a = none → l = []) : RdM L a l := by
 intro i m hi
 cases a with
 | none => rw [hn rfl] at hi; simp at hi
 | some y =>
  obtain ⟨b, o, sp⟩ := y
  cases ha _ rfl
  refine ⟨b, o, rfl, fun j v hj => ?_⟩
  have hj2 : j < 2 := (List.getElem?_eq_some_iff.1 hj).1
  have := rd_vec (i := 2 * i + j) (v := v) hh (by rw [flat_get (k := 2) (fun _ => rfl) _ _ _ _ hi hj2]; exact hj)
  rwa [← Nat.add_assoc] at this
def marksInv (x : B.X) (L : List HProp) (a a' : Option Addr) (n c c' : Nat) (l l' : List (Int × Nat)) : Inv Nat B.X where
 e := fun i => [(0, .slice a n c), (1, .slice a' n c'), (5, .int .i64 i)]
 L := fun _ => L
 x := fun _ => x
 ok := fun i => i ≤ n ∧ l.take i = l'.take i
theorem same_marks_tr {a a' : Option Addr} {n n' c c' : Nat} {l l' : List (Int × Nat)} (hn : n = l.length) (hn' : n' = l'.length) (hl : n < 1000000000) (h1 : RdM L a l) (h2 : RdM L a' l') :
  Tr Try.prog B 24 [.slice a n c, .slice a' n' c'] L x fun v L' x' => v = .bool (decide (l = l')) ∧ L' = L ∧ x' = x := by
 by_cases hlen : n = n'
 ·subst hlen
  refine tr_of_body Try.func24 rfl Try.ntmps24 (by simp) fun um Q _ hQ => ?_
  simp only [argE, Nat.zero_add, Nat.reduceAdd]
  repeat (first | refine wneqF ?_ | refine we_seq ?_ | (refine wR ?_; try simp only [oS]) | refine wo_nil ?_ | refine wM ?_ | refine wA ?_ | refine wE ?_ | refine wF ?_ | refine we_skip ?_ | refine we_block ?_)
  refine we_loopN (marksInv x L a a' n c c' l l') (fun i => n - i) 0 ⟨by omega, by simp⟩ ⟨rfl, rfl, rfl, trivial⟩ .refl rfl ?_
  rintro i ⟨hi, ht⟩
  dsimp only [marksInv] at hi ht ⊢
  by_cases hc : i < n
  ·obtain ⟨v, hv⟩ : ∃ v, l[i]? = some v := ⟨l[i]'(by omega), by simp⟩
   obtain ⟨v', hv'⟩ : ∃ v, l'[i]? = some v := ⟨l'[i]'(by omega), by simp⟩
   obtain ⟨b1, o1, rfl, r1⟩ := h1 i v hv
   obtain ⟨b2, o2, rfl, r2⟩ := h2 i v' hv'
   obtain ⟨q, hq⟩ : ∃ q, decide (v.1 = v'.1 ∧ (v.2 : Int) = v'.2) = q := ⟨_, rfl⟩
   have heq := eql_two (p := ⟨Try.underlying99⟩) (P := Try.prog) (t := 99) (x := .tmp 20) (y := .tmp 24) (a0 := v.1) (b0 := v'.1) (a1 := v.2) (b1 := v'.2) (k0 := .u8) (k1 := .i64) (by kernel_rfl) (by kernel_rfl) (by decide) (by decide) rfl rfl (by kernel_rfl) (by kernel_rfl)
   rw [hq] at heq
   repeat (first | refine wlssT ?_ | refine we_seq ?_ | (refine wR ?_; try simp only [oS]) | refine wo_nil ?_ | refine wM ?_ | refine wE ?_ | refine wT ?_ | refine we_skip ?_ | refine we_block ?_)
   refine we_draw [0, 1, 2, 3, 4, 5, 6, 7, 8] (by kernel_rfl) ?_
   repeat (first | (apply ap_pure; exact rfl; exact rfl; exact trivial; intro L; apply mo_indexAddr (r := o1 + 2 * i); exact rfl; exact rfl; omega; omega; omega) | (apply ap_pure; exact rfl; exact rfl; exact trivial; intro L; apply mo_indexAddr (r := o2 + 2 * i); exact rfl; exact rfl; omega; omega; omega) | (apply ap_read; exact rfl; exact rfl; exact trivial; apply mo_loadA (vs := [.int .u8 v.1, .int .i64 (v.2 : Nat)]); exact rfl; exact rfl; exact r1) | (apply ap_read; exact rfl; exact rfl; exact trivial; apply mo_loadA (vs := [.int .u8 v'.1, .int .i64 (v'.2 : Nat)]); exact rfl; exact rfl; exact r2) | (apply ap_pure; exact rfl; exact rfl; exact trivial; intro L; apply mo_bin; exact rfl; exact rfl; apply bin_ne; exact heq) | refine aM ?_ | refine ap_end ?_)
   cases q
   ·repeat (first | refine we_seq ?_ | (refine wR ?_; try simp only [oS]) | refine wo_nil ?_ | refine wA ?_ | refine wT ?_ | refine we_ret ?_)
    (first | refine or1 Try.func24 Try.results24 hQ rfl ?_ | refine on1 Try.func24 Try.results24 hQ rfl ?_)
    have : l ≠ l' := fun h => by
     rw [h, hv'] at hv; cases hv
     simp at hq
    exact ⟨by rw [decide_eq_false this], rfl, rfl⟩
   ·repeat (first | (refine wR ?_; try simp only [oS]) | refine wo_nil ?_ | refine wM ?_ | refine wA ?_ | refine wadd ?_ | refine wF ?_ | refine we_skip ?_)
    refine at_round (I := marksInv x L _ _ n c c' l l') (R := fun i' => n - i' < n - i) (i + 1) (by omega) ⟨by omega, ?_⟩ ⟨rfl, rfl, rfl, trivial⟩ .refl rfl
    have hq' := of_decide_eq_true hq
    have : v = v' := Prod.ext hq'.1 (by omega)
    rw [List.take_add_one, List.take_add_one, ht, hv, hv', this]
  ·repeat (first | refine wlssF ?_ | refine we_seq ?_ | (refine wR ?_; try simp only [oS]) | refine wo_nil ?_ | refine wM ?_ | refine wA ?_ | refine wE ?_ | refine wF ?_ | refine we_ret ?_ | refine we_exit ?_)
   (first | refine or1 Try.func24 Try.results24 hQ rfl ?_ | refine on1 Try.func24 Try.results24 hQ rfl ?_)
   have : l = l' := by
    rw [List.take_of_length_le (by omega), List.take_of_length_le (by omega)] at ht
    exact ht
   exact ⟨by rw [decide_eq_true this], rfl, rfl⟩
 ·have hne : ¬ (n : Int) = n' := by omega
  refine tr_of_body Try.func24 rfl Try.ntmps24 (by simp) fun um Q _ hQ => ?_
  simp only [argE, Nat.zero_add, Nat.reduceAdd]
  repeat (first | refine wneqT ?_ | refine we_seq ?_ | (refine wR ?_; try simp only [oS]) | refine wo_nil ?_ | refine wM ?_ | refine wA ?_ | refine wE ?_ | refine wT ?_ | refine we_ret ?_)
  (first | refine or1 Try.func24 Try.results24 hQ rfl ?_ | refine on1 Try.func24 Try.results24 hQ rfl ?_)
  have : l ≠ l' := fun h => hlen (by rw [hn, hn', h])
  exact ⟨by rw [decide_eq_false this], rfl, rfl⟩
end
section
section
variable {B : Hand} [Lets B] {L F G : List HProp} {x : B.X} {n k v : Nat}
def rowOf (N : Nat) (f : Nat → Nat) : List Nat := (List.range N).map f
theorem rowOf_len {N : Nat} {f : Nat → Nat} : (rowOf N f).length = N := by simp [rowOf]
theorem rowOf_get {N i : Nat} {f : Nat → Nat} (h : i < N) : (rowOf N f)[i]? = some (f i) := by simp [rowOf, h]
theorem rowOf_set {N q v : Nat} {f : Nat → Nat} : (rowOf N f).set q v = rowOf N (upd f q v) := by
 apply List.ext_getElem?
 intro i
 rw [List.getElem?_set, rowOf_len]
 by_cases h : q = i
 ·subst h
  by_cases hi : q < N
  ·rw [if_pos rfl, if_pos hi, rowOf_get hi, upd_same]
  ·rw [if_pos rfl, if_neg hi]; simp [rowOf, hi]
 ·rw [if_neg h]
  by_cases hi : i < N
  ·rw [rowOf_get hi, rowOf_get hi, upd_other (fun e => h e.symm)]
  ·simp [rowOf, hi]
theorem row_set0 {N q v : Nat} {f : Nat → Nat} : [rowOf N f].set 0 ((rowOf N f).set q v) = [rowOf N (upd f q v)] := by
 rw [rowOf_set]; rfl
def yes (q : Bool) : Nat := if q then 1 else 0
end
end
end Go.Proofs.Ythghlchcjeocpaa
namespace Go.Proofs.Ythghlchcjeocpaa
open Go Go.PB
attribute [local irreducible] Mo Bin Eql Tr Wo Ap Wle
section
def rowDM (N M fu : Nat) : Wds where
 W := fun f => ⟨[rowOf N f], 1⟩
 un := fun w i => (w.row 0).getD i 0
 ok := fun f => ∀ i, i < N → f i < M
 fu := fu
 back := fun f => by
  have e : rowOf N (fun i => ((Mach.Wd.row ⟨[rowOf N f], 1⟩ 0)).getD i 0) = rowOf N f := by
   apply List.ext_getElem?
   intro i
   by_cases h : i < N
   ·rw [rowOf_get h, rowOf_get h]
    show some ((rowOf N f).getD i 0) = _
    rw [List.getD_eq_getElem?_getD, rowOf_get h]; rfl
   ·simp [rowOf, h]
  rw [e]
 okun := fun f h i hi => by
  show (rowOf N f).getD i 0 < _
  rw [List.getD_eq_getElem?_getD, rowOf_get hi]; exact h i hi
abbrev rowD (N : Nat) : Wds := rowDM N 18446744073709551616 30
theorem row_un {N M fu i : Nat} {f : Nat → Nat} (h : i < N) : f i = (rowDM N M fu).un ((rowDM N M fu).W f) i := by
 show f i = (rowOf N f).getD i 0
 rw [List.getD_eq_getElem?_getD, rowOf_get h]; rfl
section
variable {D : Wds} {N k : Nat} {Pv : Nat × Mach.Th → HProp} {Pm : HProp}
theorem acc_go {addr : Nat → Nat × Nat} {K : List (Nat × Nat × Value)} {A : Apart addr N K} {Z : HProp} {hPv : ∀ q h, Star [Pv q] h → Pv q h} {sb says turn fin wg : Nat} {op w : Nat} {o : Int} {s : PlS} {R : PlS → Prop} {f0 : Nat → Nat} (ho : ((op : Nat) : Int) = o) (h0 : D.ok f0) (hfg : ∀ i, i < N → s.f i = s.g i) (hpm : ∀ h, Pm h → Pv (k, s.t) h)
  (hop : ∀ f, D.ok f → ∃ f' t', Mach.Op D.fu (D.W f) s.t (op, w) (D.W f') t' ∧ ∀ n, n < s.n → R ⟨f, D.un (D.W f'), t', n⟩) : (playAcc D addr N K A Z Pv hPv sb says turn fin wg k Pm).step o w s R := by
 obtain ⟨_, _, o1, _⟩ := hop f0 h0
 refine ⟨o1.over, by rw [o1.mark]; exact ho, by rw [o1.mark], hfg, hpm, fun f n hn hf => ?_⟩
 obtain ⟨f', t', o', h⟩ := hop f hf
 exact ⟨_, o'.on, h n hn⟩
end
theorem goodN_go {D : Wds} {m : Nat × Nat} {n : Nat} {t : Mach.Th} {f0 : Nat → Nat} (h0 : D.ok f0) (hop : ∀ f, D.ok f → ∃ f' t', Mach.Op D.fu (D.W f) t m (D.W f') t' ∧ D.ok f' ∧ GoodN D n t') : GoodN D (n + 1) t := by
 obtain ⟨_, _, o, _⟩ := hop f0 h0
 refine .inr ⟨o.over, fun f hf => ?_⟩
 obtain ⟨f', t', o', h1, h2⟩ := hop f hf
 exact ⟨f', t', o'.on, h1, h2⟩
theorem goodN_le {D : Wds} : ∀ {n : Nat} {t : Mach.Th}, GoodN D (n + 1) t → GoodN D n t
 | 0, _, _ => trivial
 | n + 1, t, h => by
  rcases h with h | ⟨h1, h2⟩
  ·exact .inl h
  ·refine .inr ⟨h1, fun f hf => ?_⟩
   obtain ⟨f', t', a, b, c⟩ := h2 f hf
   exact ⟨f', t', a, b, goodN_le c⟩
theorem row_ok0 {N M fu : Nat} (h : 0 < M := by decide) : (rowDM N M fu).ok (fun _ => 0) := fun i _ => h
theorem row_upd {N M fu q v : Nat} {f : Nat → Nat} (h : (rowDM N M fu).ok f) (hv : v < M) : (rowDM N M fu).ok (upd f q v) := fun i hi => by
 unfold upd
 split
 ·exact hv
 ·exact h i hi
end
end Go.Proofs.Ythghlchcjeocpaa
namespace Go.PB.Mach
section
def qputCode (on n w : Nat) : List In := [⟨1, on, 10, 9, 0, 0, 0⟩, ⟨6, 0, 11, 0, 0, 0, n - 1⟩, ⟨12, 0, 12, 10, 11, 0, 0⟩, ⟨14, 0, 12, 12, 0, 0, 1⟩, ⟨1, on, 13, 12, 0, 0, 2⟩, ⟨9, 0, 13, 13, 10, 0, 0⟩, ⟨21, 0, 13, 0, 0, 0, w + 16⟩, ⟨19, 0, 13, 9, 0, 0, w + 9⟩, ⟨18, 0, 0, 0, 0, 0, w⟩,
 ⟨8, 0, 14, 10, 9, 0, 1⟩, ⟨5, on, 15, 9, 10, 14, 0⟩, ⟨19, 0, 15, 9, 0, 0, w⟩, ⟨2, on, 0, 12, 0, 0, 3⟩, ⟨2, on, 14, 12, 0, 0, 2⟩, ⟨6, 0, 1, 0, 0, 0, 1⟩, ⟨18, 0, 0, 0, 0, 0, w + 17⟩, ⟨6, 0, 1, 0, 0, 0, 0⟩]
def qtakeCode (on n w : Nat) : List In := [⟨1, on, 10, 9, 0, 0, 1⟩, ⟨6, 0, 11, 0, 0, 0, n - 1⟩, ⟨12, 0, 12, 10, 11, 0, 0⟩, ⟨14, 0, 12, 12, 0, 0, 1⟩, ⟨8, 0, 14, 10, 9, 0, 1⟩, ⟨1, on, 13, 12, 0, 0, 2⟩, ⟨9, 0, 13, 13, 14, 0, 0⟩, ⟨21, 0, 13, 0, 0, 0, w + 17⟩, ⟨19, 0, 13, 9, 0, 0, w + 10⟩, ⟨18, 0, 0, 0, 0, 0, w⟩,
 ⟨5, on, 15, 9, 10, 14, 1⟩, ⟨19, 0, 15, 9, 0, 0, w⟩, ⟨1, on, 0, 12, 0, 0, 3⟩, ⟨8, 0, 14, 10, 9, 0, n⟩, ⟨2, on, 14, 12, 0, 0, 2⟩, ⟨6, 0, 1, 0, 0, 0, 1⟩, ⟨18, 0, 0, 0, 0, 0, w + 19⟩, ⟨6, 0, 1, 0, 0, 0, 0⟩, ⟨6, 0, 0, 0, 0, 0, 0⟩]
def qputCl (n v : Nat) : Cl := ⟨⟨6, 0, 0, 0, 0, 0, v⟩ :: (qputCode 0 n 1 ++ [⟨22, 0, 1, 0, 0, 0, 0⟩]), []⟩
def qtakeCl (n : Nat) : Cl := ⟨qtakeCode 0 n 0 ++ [⟨22, 0, 0, 0, 0, 0, 0⟩, ⟨22, 0, 1, 0, 0, 0, 0⟩], []⟩
def qdrainCl (n : Nat) : Cl := ⟨⟨6, 0, 3, 0, 0, 0, n⟩ :: (qtakeCode 0 n 1 ++ [⟨19, 0, 1, 9, 0, 0, 25⟩, ⟨22, 0, 0, 0, 0, 0, 0⟩, ⟨6, 0, 4, 0, 0, 0, 1⟩, ⟨9, 0, 3, 3, 4, 0, 0⟩, ⟨20, 0, 9, 3, 0, 0, 1⟩]), []⟩
theorem qmask_mod {n k : Nat} (hn : n = 2 ^ k) (p : Nat) : (p &&& (n - 1)) = p % n := by
 rw [hn, Nat.and_two_pow_sub_one_eq_mod]
variable {cs : List Cl} {cl : Cl} {c n v on b : Nat} {pre : List (Bool × List Nat)} {said : List Nat} {w : Wd} {t' : Th} {t q d m : Nat} {l : List Nat} {r : Nat → Nat}
def HasPut (cl : Cl) (on n b : Nat) : Prop := ∀ i x, (qputCode on n b)[i]? = some x → cl.code[b + i]? = some x
def qr1 (r : Nat → Nat) (n t m : Nat) : Nat → Nat := upd (upd (upd (upd r 10 t) 11 (n - 1)) 12 m) 12 (2 * m)
def qr5 (r : Nat → Nat) (n t m q d : Nat) : Nat → Nat := upd (upd (qr1 r n t m) 13 q) 13 d
def qr9 (r : Nat → Nat) (n t m q t1 : Nat) : Nat → Nat := upd (qr5 r n t m q 0) 14 t1
def qrN (r : Nat → Nat) (n t m q d : Nat) : Nat → Nat := upd (qr5 r n t m q d) 1 0
def qrS (r : Nat → Nat) (n t m q t1 : Nat) : Nat → Nat := upd (upd (qr9 r n t m q t1) 15 1) 1 1
theorem qput_0 (hc : cs[c]? = some cl) (hk : HasPut cl on n b) (h0 : pre.length = c) (hw : w.words[on]? = some l) (hv : l[0]? = some t) (h9 : r 9 = 0) (hn : n < 18446744073709551616) (hm : (t &&& (n - 1)) % 18446744073709551616 = m) (hm2 : 2 * m < 18446744073709551616) : Op 30 w (T cs c b r pre said) (1, 0) w (T cs c (b + 4) (qr1 r n t m) pre said) :=
 op_load (vb := 0) hc (hk 0 _ rfl) hw h9 rfl hv (Goes.on1 (st_set hc h0 (hk 1 _ rfl) (Nat.mod_eq_of_lt (by omega))) (Goes.on1 (st_and (vb := t) (vc := n - 1) hc h0 (hk 2 _ rfl) hm rfl rfl) (Goes.on1 (st_left (vb := m) hc h0 (hk 3 _ rfl) (by rw [Nat.pow_one, Nat.mul_comm]; exact Nat.mod_eq_of_lt hm2) rfl) (on_stop hc h0 (hk 4 _ rfl) rfl))))
theorem qput_4F (hc : cs[c]? = some cl) (hk : HasPut cl on n b) (h0 : pre.length = c) (hw : w.words[on]? = some l) (hv : l[2 * m + 2]? = some q) (hm : 2 * m + 2 < 18446744073709551616) (hd : (q + 18446744073709551616 - t) % 18446744073709551616 = d) (hf : 9223372036854775808 ≤ d) (ho : onF 26 (T cs c (b + 17) (qrN r n t m q d) pre said) = some t') : Op 30 w (T cs c (b + 4) (qr1 r n t m) pre said) (1, 2 * m + 2) w t' :=
 op_load (vb := 2 * m) hc (hk 4 _ rfl) hw rfl (Nat.mod_eq_of_lt hm) hv (Goes.on1 (st_less (vb := q) (vc := t) hc h0 (hk 5 _ rfl) hd rfl rfl) (Goes.on1 (st_minusT (vb := d) hc h0 (hk 6 _ rfl) hf rfl) (Goes.on1 (st_set hc h0 (hk 16 _ rfl) rfl) (onF_more (k := 1) ho))))
theorem qput_4R (hc : cs[c]? = some cl) (hk : HasPut cl on n b) (h0 : pre.length = c) (hw : w.words[on]? = some l) (hv : l[2 * m + 2]? = some q) (h9 : r 9 = 0) (hm : 2 * m + 2 < 18446744073709551616) (hd : (q + 18446744073709551616 - t) % 18446744073709551616 = d) (hf : ¬ 9223372036854775808 ≤ d) (hne : ¬ d = 0) : Op 30 w (T cs c (b + 4) (qr1 r n t m) pre said) (1, 2 * m + 2) w (T cs c b (qr5 r n t m q d) pre said) :=
 op_load (vb := 2 * m) hc (hk 4 _ rfl) hw rfl (Nat.mod_eq_of_lt hm) hv (Goes.on1 (st_less (vb := q) (vc := t) hc h0 (hk 5 _ rfl) hd rfl rfl) (Goes.on1 (st_minusF (vb := d) hc h0 (hk 6 _ rfl) hf rfl) (Goes.on1 (st_sameF (vb := d) (vc := 0) hc h0 (hk 7 _ rfl) hne rfl h9) (Goes.on1 (goes_jump hc h0 (hk 8 _ rfl)) (on_stop hc h0 (hk 0 _ rfl) rfl)))))
theorem qput_4T {t1 : Nat} (hc : cs[c]? = some cl) (hk : HasPut cl on n b) (h0 : pre.length = c) (hw : w.words[on]? = some l) (hv : l[2 * m + 2]? = some q) (h9 : r 9 = 0) (hm : 2 * m + 2 < 18446744073709551616) (hd : (q + 18446744073709551616 - t) % 18446744073709551616 = 0) (ht1 : (t + 1) % 18446744073709551616 = t1) : Op 30 w (T cs c (b + 4) (qr1 r n t m) pre said) (1, 2 * m + 2) w (T cs c (b + 10) (qr9 r n t m q t1) pre said) :=
 op_load (vb := 2 * m) hc (hk 4 _ rfl) hw rfl (Nat.mod_eq_of_lt hm) hv (Goes.on1 (st_less (vb := q) (vc := t) hc h0 (hk 5 _ rfl) hd rfl rfl) (Goes.on1 (st_minusF (vb := 0) hc h0 (hk 6 _ rfl) (by decide) rfl) (Goes.on1 (st_sameT (vb := 0) (vc := 0) hc h0 (hk 7 _ rfl) rfl rfl h9) (Goes.on1 (st_plus (vb := t) (vc := 0) hc h0 (hk 9 _ rfl) ht1 rfl h9) (on_stop hc h0 (hk 10 _ rfl) rfl)))))
theorem qput_10F {t1 u : Nat} (hc : cs[c]? = some cl) (hk : HasPut cl on n b) (h0 : pre.length = c) (hw : w.words[on]? = some l) (hv : l[0]? = some u) (h9 : r 9 = 0) (hne : ¬ u = t) : Op 30 w (T cs c (b + 10) (qr9 r n t m q t1) pre said) (5, 0) w (T cs c b (upd (qr9 r n t m q t1) 15 0) pre said) :=
 op_casF (vb := 0) (vc := t) hc (hk 10 _ rfl) hw h9 rfl rfl hv hne (Goes.on1 (st_sameT (vb := 0) (vc := 0) hc h0 (hk 11 _ rfl) rfl rfl h9) (on_stop hc h0 (hk 0 _ rfl) rfl))
theorem qput_10T {t1 : Nat} {ws : List (List Nat)} (hc : cs[c]? = some cl) (hk : HasPut cl on n b) (h0 : pre.length = c) (hw : w.words[on]? = some l) (hv : l[0]? = some t) (h9 : r 9 = 0) (hws : w.words.set on (l.set 0 t1) = ws) : Op 30 w (T cs c (b + 10) (qr9 r n t m q t1) pre said) (5, 0) ⟨ws, w.nl⟩ (T cs c (b + 12) (upd (qr9 r n t m q t1) 15 1) pre said) :=
 op_casT (vb := 0) (vd := t1) hc (hk 10 _ rfl) hw h9 rfl rfl rfl hv hws (Goes.on1 (st_sameF (vb := 1) (vc := 0) hc h0 (hk 11 _ rfl) (by decide) rfl h9) (on_stop hc h0 (hk 12 _ rfl) rfl))
theorem qput_12 {t1 : Nat} {ws : List (List Nat)} (hc : cs[c]? = some cl) (hk : HasPut cl on n b) (h0 : pre.length = c) (hw : w.words[on]? = some l) (hv0 : r 0 = v) (hm : 2 * m + 3 < 18446744073709551616) (hlt : 2 * m + 3 < l.length) (hws : w.words.set on (l.set (2 * m + 3) v) = ws) : Op 30 w (T cs c (b + 12) (upd (qr9 r n t m q t1) 15 1) pre said) (2, 2 * m + 3) ⟨ws, w.nl⟩ (T cs c (b + 13) (upd (qr9 r n t m q t1) 15 1) pre said) :=
 op_store (vb := 2 * m) hc (hk 12 _ rfl) hw rfl (Nat.mod_eq_of_lt hm) hv0 hlt hws (on_stop hc h0 (hk 13 _ rfl) rfl)
theorem qput_13 {t1 : Nat} {ws : List (List Nat)} (hc : cs[c]? = some cl) (hk : HasPut cl on n b) (h0 : pre.length = c) (hw : w.words[on]? = some l) (hm : 2 * m + 2 < 18446744073709551616) (hlt : 2 * m + 2 < l.length) (hws : w.words.set on (l.set (2 * m + 2) t1) = ws) (ho : onF 26 (T cs c (b + 17) (qrS r n t m q t1) pre said) = some t') : Op 30 w (T cs c (b + 13) (upd (qr9 r n t m q t1) 15 1) pre said) (2, 2 * m + 2) ⟨ws, w.nl⟩ t' :=
 op_store (vb := 2 * m) (v := t1) hc (hk 13 _ rfl) hw rfl (Nat.mod_eq_of_lt hm) rfl hlt hws (Goes.on1 (st_set hc h0 (hk 14 _ rfl) rfl) (Goes.on1 (goes_jump hc h0 (hk 15 _ rfl)) (onF_more (k := 2) ho)))
def HasTake (cl : Cl) (on n b : Nat) : Prop := ∀ i x, (qtakeCode on n b)[i]? = some x → cl.code[b + i]? = some x
def tr0 (r : Nat → Nat) (n t m t1 : Nat) : Nat → Nat := upd (qr1 r n t m) 14 t1
def tr5 (r : Nat → Nat) (n t m t1 q d : Nat) : Nat → Nat := upd (upd (tr0 r n t m t1) 13 q) 13 d
def trN (r : Nat → Nat) (n t m t1 q d : Nat) : Nat → Nat := upd (upd (tr5 r n t m t1 q d) 1 0) 0 0
def tr12 (r : Nat → Nat) (n t m t1 q v tn : Nat) : Nat → Nat := upd (upd (upd (tr5 r n t m t1 q 0) 15 1) 0 v) 14 tn
def trS (r : Nat → Nat) (n t m t1 q v tn : Nat) : Nat → Nat := upd (tr12 r n t m t1 q v tn) 1 1
theorem qtake_0 {t1 : Nat} (hc : cs[c]? = some cl) (hk : HasTake cl on n b) (h0 : pre.length = c) (hw : w.words[on]? = some l) (hv : l[1]? = some t) (h9 : r 9 = 0) (hn : n < 18446744073709551616) (hm : (t &&& (n - 1)) % 18446744073709551616 = m) (hm2 : 2 * m < 18446744073709551616) (ht1 : (t + 1) % 18446744073709551616 = t1) : Op 30 w (T cs c b r pre said) (1, 1) w (T cs c (b + 5) (tr0 r n t m t1) pre said) :=
 op_load (vb := 0) hc (hk 0 _ rfl) hw h9 rfl hv (Goes.on1 (st_set hc h0 (hk 1 _ rfl) (Nat.mod_eq_of_lt (by omega))) (Goes.on1 (st_and (vb := t) (vc := n - 1) hc h0 (hk 2 _ rfl) hm rfl rfl) (Goes.on1 (st_left (vb := m) hc h0 (hk 3 _ rfl) (by rw [Nat.pow_one, Nat.mul_comm]; exact Nat.mod_eq_of_lt hm2) rfl) (Goes.on1 (st_plus (vb := t) (vc := 0) hc h0 (hk 4 _ rfl) ht1 rfl h9) (on_stop hc h0 (hk 5 _ rfl) rfl)))))
theorem qtake_5F {t1 : Nat} (hc : cs[c]? = some cl) (hk : HasTake cl on n b) (h0 : pre.length = c) (hw : w.words[on]? = some l) (hv : l[2 * m + 2]? = some q) (hm : 2 * m + 2 < 18446744073709551616) (hd : (q + 18446744073709551616 - t1) % 18446744073709551616 = d) (hf : 9223372036854775808 ≤ d) (ho : onF 26 (T cs c (b + 19) (trN r n t m t1 q d) pre said) = some t') : Op 30 w (T cs c (b + 5) (tr0 r n t m t1) pre said) (1, 2 * m + 2) w t' :=
 op_load (vb := 2 * m) hc (hk 5 _ rfl) hw rfl (Nat.mod_eq_of_lt hm) hv (Goes.on1 (st_less (vb := q) (vc := t1) hc h0 (hk 6 _ rfl) hd rfl rfl) (Goes.on1 (st_minusT (vb := d) hc h0 (hk 7 _ rfl) hf rfl) (Goes.on1 (st_set hc h0 (hk 17 _ rfl) rfl) (Goes.on1 (st_set hc h0 (hk 18 _ rfl) rfl) ho))))
theorem qtake_5R {t1 : Nat} (hc : cs[c]? = some cl) (hk : HasTake cl on n b) (h0 : pre.length = c) (hw : w.words[on]? = some l) (hv : l[2 * m + 2]? = some q) (h9 : r 9 = 0) (hm : 2 * m + 2 < 18446744073709551616) (hd : (q + 18446744073709551616 - t1) % 18446744073709551616 = d) (hf : ¬ 9223372036854775808 ≤ d) (hne : ¬ d = 0) : Op 30 w (T cs c (b + 5) (tr0 r n t m t1) pre said) (1, 2 * m + 2) w (T cs c b (tr5 r n t m t1 q d) pre said) :=
 op_load (vb := 2 * m) hc (hk 5 _ rfl) hw rfl (Nat.mod_eq_of_lt hm) hv (Goes.on1 (st_less (vb := q) (vc := t1) hc h0 (hk 6 _ rfl) hd rfl rfl) (Goes.on1 (st_minusF (vb := d) hc h0 (hk 7 _ rfl) hf rfl) (Goes.on1 (st_sameF (vb := d) (vc := 0) hc h0 (hk 8 _ rfl) hne rfl h9) (Goes.on1 (goes_jump hc h0 (hk 9 _ rfl)) (on_stop hc h0 (hk 0 _ rfl) rfl)))))
theorem qtake_5T {t1 : Nat} (hc : cs[c]? = some cl) (hk : HasTake cl on n b) (h0 : pre.length = c) (hw : w.words[on]? = some l) (hv : l[2 * m + 2]? = some q) (h9 : r 9 = 0) (hm : 2 * m + 2 < 18446744073709551616) (hd : (q + 18446744073709551616 - t1) % 18446744073709551616 = 0) : Op 30 w (T cs c (b + 5) (tr0 r n t m t1) pre said) (1, 2 * m + 2) w (T cs c (b + 10) (tr5 r n t m t1 q 0) pre said) :=
 op_load (vb := 2 * m) hc (hk 5 _ rfl) hw rfl (Nat.mod_eq_of_lt hm) hv (Goes.on1 (st_less (vb := q) (vc := t1) hc h0 (hk 6 _ rfl) hd rfl rfl) (Goes.on1 (st_minusF (vb := 0) hc h0 (hk 7 _ rfl) (by decide) rfl) (Goes.on1 (st_sameT (vb := 0) (vc := 0) hc h0 (hk 8 _ rfl) rfl rfl h9) (on_stop hc h0 (hk 10 _ rfl) rfl))))
theorem qtake_10F {t1 u : Nat} (hc : cs[c]? = some cl) (hk : HasTake cl on n b) (h0 : pre.length = c) (hw : w.words[on]? = some l) (hv : l[1]? = some u) (h9 : r 9 = 0) (hne : ¬ u = t) : Op 30 w (T cs c (b + 10) (tr5 r n t m t1 q 0) pre said) (5, 1) w (T cs c b (upd (tr5 r n t m t1 q 0) 15 0) pre said) :=
 op_casF (vb := 0) (vc := t) hc (hk 10 _ rfl) hw h9 rfl rfl hv hne (Goes.on1 (st_sameT (vb := 0) (vc := 0) hc h0 (hk 11 _ rfl) rfl rfl h9) (on_stop hc h0 (hk 0 _ rfl) rfl))
theorem qtake_10T {t1 : Nat} {ws : List (List Nat)} (hc : cs[c]? = some cl) (hk : HasTake cl on n b) (h0 : pre.length = c) (hw : w.words[on]? = some l) (hv : l[1]? = some t) (h9 : r 9 = 0) (hws : w.words.set on (l.set 1 t1) = ws) : Op 30 w (T cs c (b + 10) (tr5 r n t m t1 q 0) pre said) (5, 1) ⟨ws, w.nl⟩ (T cs c (b + 12) (upd (tr5 r n t m t1 q 0) 15 1) pre said) :=
 op_casT (vb := 0) (vd := t1) hc (hk 10 _ rfl) hw h9 rfl rfl rfl hv hws (Goes.on1 (st_sameF (vb := 1) (vc := 0) hc h0 (hk 11 _ rfl) (by decide) rfl h9) (on_stop hc h0 (hk 12 _ rfl) rfl))
theorem qtake_12 {t1 tn : Nat} (hc : cs[c]? = some cl) (hk : HasTake cl on n b) (h0 : pre.length = c) (hw : w.words[on]? = some l) (hv : l[2 * m + 3]? = some v) (h9 : r 9 = 0) (hm : 2 * m + 3 < 18446744073709551616) (htn : (t + n) % 18446744073709551616 = tn) : Op 30 w (T cs c (b + 12) (upd (tr5 r n t m t1 q 0) 15 1) pre said) (1, 2 * m + 3) w (T cs c (b + 14) (tr12 r n t m t1 q v tn) pre said) :=
 op_load (vb := 2 * m) hc (hk 12 _ rfl) hw rfl (Nat.mod_eq_of_lt hm) hv (Goes.on1 (st_plus (vb := t) (vc := 0) hc h0 (hk 13 _ rfl) htn rfl h9) (on_stop hc h0 (hk 14 _ rfl) rfl))
theorem qtake_14 {t1 tn : Nat} {ws : List (List Nat)} (hc : cs[c]? = some cl) (hk : HasTake cl on n b) (h0 : pre.length = c) (hw : w.words[on]? = some l) (hm : 2 * m + 2 < 18446744073709551616) (hlt : 2 * m + 2 < l.length) (hws : w.words.set on (l.set (2 * m + 2) tn) = ws) (ho : onF 28 (T cs c (b + 19) (trS r n t m t1 q v tn) pre said) = some t') : Op 30 w (T cs c (b + 14) (tr12 r n t m t1 q v tn) pre said) (2, 2 * m + 2) ⟨ws, w.nl⟩ t' :=
 op_store (vb := 2 * m) (v := tn) hc (hk 14 _ rfl) hw rfl (Nat.mod_eq_of_lt hm) rfl hlt hws (Goes.on1 (st_set hc h0 (hk 15 _ rfl) rfl) (Goes.on1 (goes_jump hc h0 (hk 16 _ rfl)) ho))
theorem qput_has : HasPut (qputCl n v) 0 n 1 := fun i x h => by
 show (_ :: (qputCode 0 n 1 ++ _))[1 + i]? = some x
 rw [Nat.add_comm, List.getElem?_cons_succ, List.getElem?_append_left (List.getElem?_eq_some_iff.1 h).1]
 exact h
theorem qput_on (hc : cs[c]? = some (qputCl n v)) (h0 : pre.length = c) (hv : v < 18446744073709551616) : onF 20 (T cs c 0 (fun _ => 0) pre []) = some (T cs c 1 (upd (fun _ => 0) 0 v) pre []) :=
 Goes.on1 (st_set hc h0 rfl (Nat.mod_eq_of_lt hv)) (on_stop hc h0 rfl rfl)
theorem qput_end {a1 : Nat} (hc : cs[c]? = some (qputCl n v)) (h0 : pre.length = c) (e1 : r 1 = a1) (ho : onF 20 (Bt cs (c + 1) (pre ++ [(true, [a1])])) = some t') : onF 26 (T cs c (1 + 17) r pre []) = some t' :=
 Goes.on1 (st_tell (vb := a1) hc h0 rfl e1) (Goes.on1 (goes_end hc h0 rfl) (onF_more (k := 4) ho))
theorem qtake_has : HasTake (qtakeCl n) 0 n 0 := fun i x h => by
 show (qtakeCode 0 n 0 ++ _)[0 + i]? = some x
 rw [Nat.zero_add, List.getElem?_append_left (List.getElem?_eq_some_iff.1 h).1]
 exact h
theorem qdrain_has : HasTake (qdrainCl n) 0 n 1 := fun i x h => by
 show (_ :: (qtakeCode 0 n 1 ++ _))[1 + i]? = some x
 rw [Nat.add_comm, List.getElem?_cons_succ, List.getElem?_append_left (List.getElem?_eq_some_iff.1 h).1]
 exact h
theorem qtake_on (hc : cs[c]? = some (qtakeCl n)) (h0 : pre.length = c) : onF 20 (T cs c 0 (fun _ => 0) pre []) = some (T cs c 0 (fun _ => 0) pre []) := on_stop hc h0 rfl rfl
theorem qtake_end {a0 a1 : Nat} (hc : cs[c]? = some (qtakeCl n)) (h0 : pre.length = c) (e0 : r 0 = a0) (e1 : r 1 = a1) (ho : onF 20 (Bt cs (c + 1) (pre ++ [(true, [a0, a1])])) = some t') : onF 26 (T cs c (0 + 19) r pre []) = some t' :=
 Goes.on1 (st_tell (vb := a0) hc h0 rfl e0) (Goes.on1 (st_tell (vb := a1) hc h0 rfl e1) (Goes.on1 (goes_end hc h0 rfl) (onF_more (k := 3) ho)))
theorem qdrain_on (hc : cs[c]? = some (qdrainCl n)) (h0 : pre.length = c) (hn : n < 18446744073709551616) : onF 20 (T cs c 0 (fun _ => 0) pre []) = some (T cs c 1 (upd (fun _ => 0) 3 n) pre []) :=
 Goes.on1 (st_set hc h0 rfl (Nat.mod_eq_of_lt hn)) (on_stop hc h0 rfl rfl)
theorem qdrain_none (hc : cs[c]? = some (qdrainCl n)) (h0 : pre.length = c) (e1 : r 1 = 0) (h9 : r 9 = 0) (ho : onF 20 (Bt cs (c + 1) (pre ++ [(true, said)])) = some t') : onF 26 (T cs c (1 + 19) r pre said) = some t' :=
 Goes.on1 (st_sameT (vb := 0) (vc := 0) hc h0 rfl rfl e1 h9) (Goes.on1 (goes_end hc h0 rfl) (onF_more (k := 4) ho))
def drS (r : Nat → Nat) (k : Nat) : Nat → Nat := upd (upd r 4 1) 3 k
theorem qdrain_last (hc : cs[c]? = some (qdrainCl n)) (h0 : pre.length = c) (e0 : r 0 = v) (e1 : r 1 = 1) (h9 : r 9 = 0) (h3 : r 3 = 1) (ho : onF 20 (Bt cs (c + 1) (pre ++ [(true, said ++ [v])])) = some t') : onF 26 (T cs c (1 + 19) r pre said) = some t' :=
 Goes.on1 (st_sameF (vb := 1) (vc := 0) hc h0 rfl (by decide) e1 h9) (Goes.on1 (st_tell (vb := v) hc h0 rfl e0) (Goes.on1 (st_set hc h0 rfl rfl) (Goes.on1 (st_less (v := 0) (vb := 1) (vc := 1) hc h0 rfl rfl h3 rfl) (Goes.on1 (st_belowF (vb := 0) (vc := 0) hc h0 rfl (by decide) h9 rfl) (Goes.on1 (goes_end hc h0 rfl) ho)))))
theorem qdrain_more {k : Nat} (hc : cs[c]? = some (qdrainCl n)) (h0 : pre.length = c) (e0 : r 0 = v) (e1 : r 1 = 1) (h9 : r 9 = 0) (h3 : r 3 = k + 1) (hk : k < 18446744073709551616) (hk0 : 0 < k) : onF 26 (T cs c (1 + 19) r pre said) = some (T cs c 1 (drS r k) pre (said ++ [v])) :=
 Goes.on1 (st_sameF (vb := 1) (vc := 0) hc h0 rfl (by decide) e1 h9) (Goes.on1 (st_tell (vb := v) hc h0 rfl e0) (Goes.on1 (st_set hc h0 rfl rfl) (Goes.on1 (st_less (v := k) (vb := k + 1) (vc := 1) hc h0 rfl (by omega) h3 rfl) (Goes.on1 (st_belowT (vb := 0) (vc := k) hc h0 rfl hk0 h9 rfl) (on_stop hc h0 rfl rfl)))))
end
end Go.PB.Mach
namespace Go.Proofs.Ythghlchcjeocpaa
open Go Go.PB
attribute [local irreducible] Mo Bin Eql Tr Wo Ap Wle
section
structure QueueAt {B : Hand} {gv : Value} (A : Acc B gv) (r b n k : Nat) : Prop where
 hn : n = 2 ^ k
 hk : k ≤ 10
 hdr : ∀ s, Rd [A.C s] r 2 (.slice (some ⟨b, 0, none⟩) n n)
 a0 : A.addr 0 = (r, 0)
 a1 : A.addr 1 = (r, 1)
 a2 : ∀ i : Nat, i < 2 * n → A.addr (2 + i) = (b, i)
section
variable {B : Hand} [Lets B] {gv : Value} {A : Acc B gv} {r b n k : Nat} {L F : List HProp}
theorem there_tr (R : QueueAt A r b n k) {s : A.S} (hh : Has L (A.C s) F) :
  Tr Try.prog B 41 [.pointer (some ⟨r, 0, none⟩)] L (A.x s) fun v L' x' => v = .bool true ∧ L' = L ∧ x' = A.x s := by
 have hr := Rd.of hh (R.hdr s)
 refine tr_of_body Try.func41 rfl Try.ntmps41 (by simp) fun um Q _ hQ => ?_
 simp only [argE, Nat.zero_add, Nat.reduceAdd]
 repeat (first | (apply wo_po; apply mo_load; exact rfl; exact hr; exact rfl) | refine we_seq ?_ | (refine wR ?_; try simp only [oS]) | refine wo_nil ?_ | refine wM ?_ | refine wA ?_ | refine wK ?_ | refine wN ?_ | refine wD ?_ | (apply wo_po; apply mo_bin; exact rfl; exact rfl; apply bin_ne; apply eql_ptr_nil; exact gY) | (apply wo_po; apply mo_bin; exact rfl; exact rfl; apply bin_ne; apply eql_slice_nil; exact gY) | refine we_ret ?_)
 (first | refine or1 Try.func41 Try.results41 hQ rfl ?_ | refine on1 Try.func41 Try.results41 hQ rfl ?_)
 exact ⟨rfl, rfl, rfl⟩
theorem step_tr {op : Int} {w : Nat} {s : A.S} {T : A.S → Prop} (hs : A.step op w s T) (hh : Has L (A.C s) F) :
  Tr Try.prog B 43 [gv, .int .u8 op, .int .i64 w] L (A.x s) fun v L' x' => ∃ s', T s' ∧ v = .tuple #[] ∧ L' = A.C s' :: F ∧ x' = A.x s' := by
 rcases A.gate with ⟨rfl, hg⟩ | ⟨t, p, f, rfl, hm, he, hg⟩
 ·refine tr_of_body Try.func43 rfl Try.ntmps43 (by simp) fun um Q _ hQ => ?_
  simp only [argE, Nat.zero_add, Nat.reduceAdd]
  repeat (first | refine we_seq ?_ | (refine wR ?_; try simp only [oS]) | refine wo_nil ?_ | refine wM ?_ | (apply wo_po; apply mo_bin; exact rfl; exact rfl; apply bin_ne; apply eql_nil_nil; exact gY) | refine wF ?_ | refine we_skip ?_)
  refine at_ent _ (Ent.take hh .refl) ?_
  (first | refine or0 Try.func43 Try.results43 hQ ?_ | refine on0 Try.func43 Try.results43 hQ ?_)
  exact ⟨s, hg _ _ _ _ hs, rfl, rfl, rfl⟩
 ·refine tr_of_body Try.func43 rfl Try.ntmps43 (by simp) fun um Q _ hQ => ?_
  simp only [argE, Nat.zero_add, Nat.reduceAdd]
  repeat (first | (apply wo_po; apply mo_build (pv := [(0, _), (1, _)]); exact rfl; exact .cons rfl (.cons rfl .nil); exact rfl; exact trivial) | refine we_seq ?_ | (refine wR ?_; try simp only [oS]) | refine wo_nil ?_ | refine wM ?_ | (apply wo_po; apply mo_bin; exact rfl; exact rfl; apply bin_ne; apply eql_iface_nil; exact gY) | refine wT ?_)
  refine wo_invoke (args := [_]) rfl (.cons rfl .nil) trivial (hg op w s T L F hs hh) ?_
  rintro v L' x' ⟨s', h1, rfl, rfl, rfl⟩
  repeat (first | refine wo_nil ?_)
  (first | refine or0 Try.func43 Try.results43 hQ ?_ | refine on0 Try.func43 Try.results43 hQ ?_)
  exact ⟨s', h1, rfl, rfl, rfl⟩
def DrawF (A : Acc B gv) (n w whose : Nat) (Q : Option Nat → A.S → Prop) (X : A.S → Prop) (s : A.S) : Prop :=
 A.step 1 w s fun s => A.load w s fun t s => A.step 1 (2 + 2 * (t % n)) s fun s => A.load (2 + 2 * (t % n)) s fun q s =>
  if 9223372036854775808 ≤ (q + 36893488147419103232 - t - whose) % 18446744073709551616 then Q none s
  else if 0 < (q + 36893488147419103232 - t - whose) % 18446744073709551616 then X s
  else A.step 5 w s fun s => A.cas w t ((t + 1) % 18446744073709551616) s fun c s => if c then Q (some t) s else X s
def DrawT (A : Acc B gv) (n w whose : Nat) (s : A.S) (Q : Option Nat → A.S → Prop) : Prop :=
 ∀ X : A.S → Prop, (∀ s, DrawF A n w whose Q X s → X s) → X s
theorem draw_tr (R : QueueAt A r b n k) {w whose : Nat} (hw : w = 0 ∨ w = 1) (hwh : whose ≤ 1) {s : A.S} {G : Option Nat → A.S → Prop} (hs : DrawT A n w whose s G) (hh : Has L (A.C s) F) :
  Tr Try.prog B 42 [.pointer (some ⟨r, 0, none⟩), gv, .int .i64 w, .pointer (some ⟨r, w, none⟩), .int .u64 whose] L (A.x s) fun v' L' x' => ∃ q s', G q s' ∧
   (match q with
    | none => v' = .tuple #[.int .u64 0, .int .i64 0, .bool false]
    | some t => t < 18446744073709551616 ∧ v' = .tuple #[.int .u64 (t : Nat), .int .i64 ((t % n : Nat) : Int), .bool true]) ∧ L' = A.C s' :: F ∧ x' = A.x s' := by
 have hle : n ≤ 1024 := by rw [R.hn]; exact pow_le R.hk
 have hpos : 0 < n := by rw [R.hn]; exact Nat.two_pow_pos k
 have aw : A.addr w = (r, w) := by rcases hw with rfl | rfl; exact R.a0; exact R.a1
 refine tr_of_body Try.func42 rfl Try.ntmps42 (by simp) fun um Q _ hQ => ?_
 simp only [argE, Nat.zero_add, Nat.reduceAdd]
 repeat (first | refine we_seq ?_ | (refine wR ?_; try simp only [oS]) | refine wo_nil ?_ | refine wA ?_ | refine we_label ?_ | refine we_block ?_ | refine we_scope ?_)
 refine we_lfp (DrawF A n w whose G) (fun s => A.C s :: F) A.x s hs [(0, .pointer (some ⟨r, 0, none⟩)), (1, gv), (2, .int .i64 w), (3, .pointer (some ⟨r, w, none⟩)), (4, .int .u64 whose)] ⟨rfl, rfl, rfl, rfl, rfl, trivial⟩ (.take hh .refl) rfl ?_
 intro s hs
 repeat (first | refine we_seq ?_ | (refine wR ?_; try simp only [oS]) | refine wM ?_ | refine we_block ?_)
 refine wo_call (.cons rfl (.cons rfl (.cons rfl .nil))) trivial (step_tr hs .here) ?_
 rintro v1 L1 x1 ⟨s1, h1, rfl, rfl, rfl⟩
 repeat (first | refine we_seq ?_ | (refine wR ?_; try simp only [oS]) | refine wo_nil ?_ | refine wM ?_)
 refine wo_call (.cons rfl .nil) trivial (A.load_ok _ _ _ _ _ _ _ aw h1 .here) ?_
 rintro v1 L1 x1 ⟨t, s2, ht, h2, rfl, rfl, rfl⟩
 have hpow := and_pow2 R.hn R.hk (p := t) (by omega) (by omega)
 rw [Int.toNat_natCast] at hpow
 obtain ⟨m, hm⟩ : ∃ m, t % n = m := ⟨_, rfl⟩
 have hmod : m < n := by rw [← hm]; exact Nat.mod_lt _ hpos
 rw [hm] at hpow h2
 have hr : Rd (A.C s2 :: F) r 2 _ := Rd.of .here (R.hdr s2)
 have hw2 : IntKind.i64.wrap ((2 : Int) + 2 * (m : Int)) = ((2 + 2 * m : Nat) : Int) := by rw [wrap_i64 (by omega) (by omega)]; omega
 repeat (first | (apply wo_po; apply mo_bin; exact rfl; exact rfl; apply bin_and; exact hpow; exact trivial) | (apply wo_po; apply mo_load; exact rfl; exact hr; exact trivial) | (apply wo_po; apply mo_bin; exact rfl; exact rfl; apply bin_mul; exact wrap_i64 (by omega) (by omega); exact trivial) | (apply wo_po; apply mo_bin; exact rfl; exact rfl; apply bin_add; exact hw2; exact trivial) | refine we_seq ?_ | (refine wR ?_; try simp only [oS]) | refine wo_nil ?_ | refine wM ?_ | refine wA ?_ | refine wN ?_ | refine wD ?_ | refine wsub ?_ | refine wE ?_ | (apply wo_po; apply mo_conv; exact rfl; (first | exact wrap_i64 (by omega) (by omega) | exact wrap_u64 (by omega) (by omega)); exact gY))
 refine wo_call (.cons rfl (.cons rfl (.cons rfl .nil))) trivial (step_tr h2 .here) ?_
 rintro v1 L1 x1 ⟨s3, h3, rfl, rfl, rfl⟩
 have hr3 : Rd (A.C s3 :: F) r 2 _ := Rd.of .here (R.hdr s3)
 repeat (first | (apply wo_po; apply mo_load; exact rfl; exact hr3; exact trivial) | (apply wo_po; apply mo_indexAddr (r := 2 * m); exact rfl; exact rfl; omega; omega; omega; exact trivial) | refine we_seq ?_ | (refine wR ?_; try simp only [oS]) | refine wo_nil ?_ | refine wM ?_ | refine wN ?_ | refine wD ?_)
 refine wo_call (.cons rfl .nil) trivial (A.load_ok _ _ _ _ _ _ _ (R.a2 (2 * m) (by omega)) h3 .here) ?_
 rintro v1 L1 x1 ⟨q, s4, hq, h4, rfl, rfl, rfl⟩
 have hsub1 : IntKind.u64.wrap ((q : Int) - (t : Int)) = (((q + 18446744073709551616 - t) % 18446744073709551616 : Nat) : Int) := by rw [wrap_u64_mod]; omega
 have hsub2 : IntKind.u64.wrap ((((q + 18446744073709551616 - t) % 18446744073709551616 : Nat) : Int) - (whose : Int)) = (((q + 36893488147419103232 - t - whose) % 18446744073709551616 : Nat) : Int) := by rw [wrap_u64_mod]; omega
 obtain ⟨d, hd⟩ : ∃ d, (q + 36893488147419103232 - t - whose) % 18446744073709551616 = d := ⟨_, rfl⟩
 obtain ⟨d0, hd0⟩ : ∃ d, (q + 18446744073709551616 - t) % 18446744073709551616 = d := ⟨_, rfl⟩
 rw [hd0] at hsub1 hsub2
 rw [hd] at hsub2 h4
 have hd64 : d < 18446744073709551616 := by rw [← hd]; exact Nat.mod_lt _ (by decide)
 clear hd hd0
 obtain ⟨sd, hsd⟩ : ∃ sd, IntKind.i64.wrap (d : Int) = sd := ⟨_, rfl⟩
 have hsd' := hsd
 rw [wrap_i64_s hd64] at hsd'
 by_cases c1 : 9223372036854775808 ≤ d
 ·rw [if_pos c1] at h4
  have hneg : sd < 0 := by rw [if_neg (by omega)] at hsd'; omega
  clear hsd'
  repeat (first | (apply wo_po; apply mo_bin; exact rfl; exact rfl; apply bin_sub; exact hsub1; exact trivial) | (apply wo_po; apply mo_bin; exact rfl; exact rfl; apply bin_sub; exact hsub2; exact trivial) | (apply wo_po; apply mo_conv; exact rfl; exact hsd; exact trivial) | refine wlssT ?_ | refine we_seq ?_ | (refine wR ?_; try simp only [oS]) | refine wo_nil ?_ | refine wM ?_ | refine wA ?_ | refine wT ?_ | refine we_ret ?_ | refine we_block ?_)
  (first | refine or3 Try.func42 Try.results42 hQ rfl rfl rfl ?_ | refine on3 Try.func42 Try.results42 hQ rfl rfl rfl ?_)
  exact ⟨none, s4, h4, rfl, rfl, rfl⟩
 ·rw [if_neg c1] at h4
  by_cases c2 : 0 < d
  ·rw [if_pos c2] at h4
   have hneg : 0 < sd := by rw [if_pos (by omega)] at hsd'; omega
   clear hsd'
   repeat (first | (apply wo_po; apply mo_bin; exact rfl; exact rfl; apply bin_sub; exact hsub1; exact trivial) | (apply wo_po; apply mo_bin; exact rfl; exact rfl; apply bin_sub; exact hsub2; exact trivial) | (apply wo_po; apply mo_conv; exact rfl; exact hsd; exact trivial) | refine wlssF ?_ | refine wgtrT ?_ | refine we_seq ?_ | (refine wR ?_; try simp only [oS]) | refine wo_nil ?_ | refine wM ?_ | refine wA ?_ | refine wT ?_ | refine wF ?_ | refine we_block ?_ | refine we_exit ?_)
   exact at_again h4 ⟨rfl, rfl, rfl, rfl, rfl, trivial⟩ .refl
  ·rw [if_neg c2] at h4
   have hneg : sd = 0 := by rw [if_pos (by omega)] at hsd'; omega
   clear hsd'
   repeat (first | (apply wo_po; apply mo_bin; exact rfl; exact rfl; apply bin_sub; exact hsub1; exact trivial) | (apply wo_po; apply mo_bin; exact rfl; exact rfl; apply bin_sub; exact hsub2; exact trivial) | (apply wo_po; apply mo_conv; exact rfl; exact hsd; exact trivial) | refine wlssF ?_ | refine wgtrF ?_ | refine we_seq ?_ | (refine wR ?_; try simp only [oS]) | refine wo_nil ?_ | refine wM ?_ | refine wA ?_ | refine wF ?_ | refine we_skip ?_ | refine we_block ?_)
   refine wo_call (.cons rfl (.cons rfl (.cons rfl .nil))) trivial (step_tr h4 .here) ?_
   rintro v1 L1 x1 ⟨s5, h5, rfl, rfl, rfl⟩
   have hadd : IntKind.u64.wrap ((t : Int) + 1) = (((t + 1) % 18446744073709551616 : Nat) : Int) := by rw [wrap_u64_mod]; omega
   repeat (first | (apply wo_po; apply mo_bin; exact rfl; exact rfl; apply bin_add; exact hadd; exact trivial) | refine we_seq ?_ | (refine wR ?_; try simp only [oS]) | refine wo_nil ?_ | refine wM ?_)
   refine wo_call (.cons rfl (.cons rfl (.cons rfl .nil))) trivial (A.cas_ok _ _ _ _ _ _ _ _ _ aw (Nat.mod_lt _ (by decide)) h5 .here) ?_
   rintro v1 L1 x1 ⟨c, s6, h6, rfl, rfl, rfl⟩
   cases c
   ·simp only [Bool.false_eq_true, if_false] at h6
    repeat (first | refine wo_nil ?_ | refine wF ?_ | refine we_skip ?_)
    exact at_again h6 ⟨rfl, rfl, rfl, rfl, rfl, trivial⟩ .refl
   ·repeat (first | refine we_seq ?_ | (refine wR ?_; try simp only [oS]) | refine wo_nil ?_ | refine wM ?_ | refine wA ?_ | refine wT ?_ | refine we_ret ?_)
    (first | refine or3 Try.func42 Try.results42 hQ rfl rfl rfl ?_ | refine on3 Try.func42 Try.results42 hQ rfl rfl rfl ?_)
    exact ⟨some t, s6, by simpa using h6, ⟨ht, by rw [hm]⟩, rfl, rfl⟩
def PutT (A : Acc B gv) (n v : Nat) (s : A.S) (G : Bool → A.S → Prop) : Prop :=
 DrawT A n 0 0 s fun q s => match q with
  | none => G false s
  | some t => A.step 2 (3 + 2 * (t % n)) s fun s => A.store (3 + 2 * (t % n)) v s fun s => A.step 2 (2 + 2 * (t % n)) s fun s => A.store (2 + 2 * (t % n)) ((t + 1) % 18446744073709551616) s (G true)
def TakeT (A : Acc B gv) (n : Nat) (s : A.S) (G : Option Nat → A.S → Prop) : Prop :=
 DrawT A n 1 1 s fun q s => match q with
  | none => G none s
  | some t => A.step 1 (3 + 2 * (t % n)) s fun s => A.load (3 + 2 * (t % n)) s fun v s => A.step 2 (2 + 2 * (t % n)) s fun s => A.store (2 + 2 * (t % n)) ((t + n) % 18446744073709551616) s (G (some v))
theorem put_tr (R : QueueAt A r b n k) {v : Nat} (hv : v < 18446744073709551616) {s : A.S} {G : Bool → A.S → Prop} (hs : PutT A n v s G) (hh : Has L (A.C s) F) :
  Tr Try.prog B 13 [.pointer (some ⟨r, 0, none⟩), gv, .int .u64 v] L (A.x s) fun v' L' x' => ∃ q s', G q s' ∧ v' = .tuple #[.bool q, .int .i64 0] ∧ L' = A.C s' :: F ∧ x' = A.x s' := by
 have hle : n ≤ 1024 := by rw [R.hn]; exact pow_le R.hk
 have hpos : 0 < n := by rw [R.hn]; exact Nat.two_pow_pos k
 unfold PutT at hs
 refine tr_of_body Try.func13 rfl Try.ntmps13 (by simp) fun um Q _ hQ => ?_
 simp only [argE, Nat.zero_add, Nat.reduceAdd]
 repeat (first | refine we_seq ?_ | (refine wR ?_; try simp only [oS]) | refine wo_nil ?_ | refine wM ?_ | refine wA ?_)
 refine wo_call (.cons rfl .nil) trivial (there_tr R hh) ?_
 rintro v1 L1 x1 ⟨rfl, rfl, rfl⟩
 repeat (first | refine we_seq ?_ | (refine wR ?_; try simp only [oS]) | refine wo_nil ?_ | refine wM ?_ | refine wN ?_ | refine wD ?_ | (apply wo_po; apply mo_not; exact rfl; exact gY) | refine wF ?_ | refine we_skip ?_)
 refine wo_call (.cons rfl (.cons rfl (.cons rfl (.cons rfl (.cons rfl .nil))))) trivial (draw_tr (w := 0) (whose := 0) R (.inl rfl) (by omega) hs hh) ?_
 rintro v1 L1 x1 ⟨q, s1, h1, h2, rfl, rfl⟩
 cases q with
 | none =>
  subst h2
  repeat (first | refine we_seq ?_ | (refine wR ?_; try simp only [oS]) | refine wo_nil ?_ | refine wM ?_ | refine wA ?_ | (apply wo_po; apply mo_extract; exact rfl; exact rfl; exact gY) | (apply wo_po; apply mo_not; exact rfl; exact gY) | refine wT ?_ | refine we_ret ?_)
  (first | refine or2 Try.func13 Try.results13 hQ rfl rfl ?_ | refine on2 Try.func13 Try.results13 hQ rfl rfl ?_)
  exact ⟨false, s1, h1, rfl, rfl, rfl⟩
 | some t =>
  obtain ⟨ht, rfl⟩ := h2
  obtain ⟨m, hm⟩ : ∃ m, t % n = m := ⟨_, rfl⟩
  have hmod : m < n := by rw [← hm]; exact Nat.mod_lt _ hpos
  simp only at h1
  rw [hm] at h1 ⊢
  have hw2 : IntKind.i64.wrap ((2 : Int) + 2 * (m : Int)) = ((2 + 2 * m : Nat) : Int) := by rw [wrap_i64 (by omega) (by omega)]; omega
  have hw3 : IntKind.i64.wrap ((3 : Int) + 2 * (m : Int)) = ((3 + 2 * m : Nat) : Int) := by rw [wrap_i64 (by omega) (by omega)]; omega
  have a3 : A.addr (3 + 2 * m) = (b, 2 * m + 1) := by rw [show 3 + 2 * m = 2 + (2 * m + 1) by omega]; exact R.a2 _ (by omega)
  repeat (first | (apply wo_po; apply mo_bin; exact rfl; exact rfl; apply bin_mul; exact wrap_i64 (by omega) (by omega); exact trivial) | (apply wo_po; apply mo_bin; exact rfl; exact rfl; apply bin_add; exact hw3; exact trivial) | refine we_seq ?_ | (refine wR ?_; try simp only [oS]) | refine wo_nil ?_ | refine wM ?_ | refine wA ?_ | (apply wo_po; apply mo_extract; exact rfl; exact rfl; exact gY) | (apply wo_po; apply mo_not; exact rfl; exact gY) | refine wF ?_ | refine we_skip ?_)
  refine wo_call (.cons rfl (.cons rfl (.cons rfl .nil))) trivial (step_tr h1 .here) ?_
  rintro v1 L1 x1 ⟨s3, h3, rfl, rfl, rfl⟩
  have hr3 : Rd (A.C s3 :: F) r 2 _ := Rd.of .here (R.hdr s3)
  repeat (first | (apply wo_po; apply mo_load; exact rfl; exact hr3; exact trivial) | (apply wo_po; apply mo_indexAddr (r := 2 * m); exact rfl; exact rfl; omega; omega; omega; exact trivial) | refine we_seq ?_ | (refine wR ?_; try simp only [oS]) | refine wo_nil ?_ | refine wM ?_ | refine wN ?_ | refine wD ?_)
  refine wo_call (.cons rfl (.cons rfl .nil)) trivial (A.store_ok _ _ _ _ _ _ _ _ a3 hv h3 .here) ?_
  rintro v1 L1 x1 ⟨s4, h4, rfl, rfl, rfl⟩
  repeat (first | (apply wo_po; apply mo_bin; exact rfl; exact rfl; apply bin_mul; exact wrap_i64 (by omega) (by omega); exact trivial) | (apply wo_po; apply mo_bin; exact rfl; exact rfl; apply bin_add; exact hw2; exact trivial) | refine we_seq ?_ | (refine wR ?_; try simp only [oS]) | refine wo_nil ?_ | refine wM ?_)
  refine wo_call (.cons rfl (.cons rfl (.cons rfl .nil))) trivial (step_tr h4 .here) ?_
  rintro v1 L1 x1 ⟨s5, h5, rfl, rfl, rfl⟩
  have hr5 : Rd (A.C s5 :: F) r 2 _ := Rd.of .here (R.hdr s5)
  have hadd : IntKind.u64.wrap ((t : Int) + 1) = (((t + 1) % 18446744073709551616 : Nat) : Int) := by rw [wrap_u64_mod]; omega
  repeat (first | (apply wo_po; apply mo_load; exact rfl; exact hr5; exact trivial) | (apply wo_po; apply mo_indexAddr (r := 2 * m); exact rfl; exact rfl; omega; omega; omega; exact trivial) | (apply wo_po; apply mo_bin; exact rfl; exact rfl; apply bin_add; exact hadd; exact trivial) | refine we_seq ?_ | (refine wR ?_; try simp only [oS]) | refine wo_nil ?_ | refine wM ?_ | refine wN ?_ | refine wD ?_)
  refine wo_call (.cons rfl (.cons rfl .nil)) trivial (A.store_ok _ _ _ _ _ _ _ _ (R.a2 (2 * m) (by omega)) (Nat.mod_lt _ (by decide)) h5 .here) ?_
  rintro v1 L1 x1 ⟨s6, h6, rfl, rfl, rfl⟩
  repeat (first | refine we_seq ?_ | (refine wR ?_; try simp only [oS]) | refine wo_nil ?_ | refine wA ?_ | refine we_ret ?_)
  (first | refine or2 Try.func13 Try.results13 hQ rfl rfl ?_ | refine on2 Try.func13 Try.results13 hQ rfl rfl ?_)
  exact ⟨true, s6, h6, rfl, rfl, rfl⟩
theorem take_tr (R : QueueAt A r b n k) {s : A.S} {G : Option Nat → A.S → Prop} (hs : TakeT A n s G) (hh : Has L (A.C s) F) :
  Tr Try.prog B 14 [.pointer (some ⟨r, 0, none⟩), gv] L (A.x s) fun v' L' x' => ∃ q s', G q s' ∧ q.getD 0 < 18446744073709551616 ∧ v' = .tuple #[.int .u64 (q.getD 0 : Nat), .bool q.isSome, .int .i64 0] ∧ L' = A.C s' :: F ∧ x' = A.x s' := by
 have hle : n ≤ 1024 := by rw [R.hn]; exact pow_le R.hk
 have hpos : 0 < n := by rw [R.hn]; exact Nat.two_pow_pos k
 unfold TakeT at hs
 refine tr_of_body Try.func14 rfl Try.ntmps14 (by simp) fun um Q _ hQ => ?_
 simp only [argE, Nat.zero_add, Nat.reduceAdd]
 repeat (first | refine we_seq ?_ | (refine wR ?_; try simp only [oS]) | refine wo_nil ?_ | refine wM ?_ | refine wA ?_)
 refine wo_call (.cons rfl .nil) trivial (there_tr R hh) ?_
 rintro v1 L1 x1 ⟨rfl, rfl, rfl⟩
 repeat (first | refine we_seq ?_ | (refine wR ?_; try simp only [oS]) | refine wo_nil ?_ | refine wM ?_ | refine wN ?_ | refine wD ?_ | (apply wo_po; apply mo_not; exact rfl; exact gY) | refine wF ?_ | refine we_skip ?_)
 refine wo_call (.cons rfl (.cons rfl (.cons rfl (.cons rfl (.cons rfl .nil))))) trivial (draw_tr (w := 1) (whose := 1) R (.inr rfl) (by omega) hs hh) ?_
 rintro v1 L1 x1 ⟨q, s1, h1, h2, rfl, rfl⟩
 cases q with
 | none =>
  subst h2
  repeat (first | refine we_seq ?_ | (refine wR ?_; try simp only [oS]) | refine wo_nil ?_ | refine wM ?_ | refine wA ?_ | (apply wo_po; apply mo_extract; exact rfl; exact rfl; exact gY) | (apply wo_po; apply mo_not; exact rfl; exact gY) | refine wT ?_ | refine we_ret ?_)
  (first | refine or3 Try.func14 Try.results14 hQ rfl rfl rfl ?_ | refine on3 Try.func14 Try.results14 hQ rfl rfl rfl ?_)
  exact ⟨none, s1, h1, by decide, rfl, rfl, rfl⟩
 | some t =>
  obtain ⟨ht, rfl⟩ := h2
  obtain ⟨m, hm⟩ : ∃ m, t % n = m := ⟨_, rfl⟩
  have hmod : m < n := by rw [← hm]; exact Nat.mod_lt _ hpos
  simp only at h1
  rw [hm] at h1 ⊢
  have hw2 : IntKind.i64.wrap ((2 : Int) + 2 * (m : Int)) = ((2 + 2 * m : Nat) : Int) := by rw [wrap_i64 (by omega) (by omega)]; omega
  have hw3 : IntKind.i64.wrap ((3 : Int) + 2 * (m : Int)) = ((3 + 2 * m : Nat) : Int) := by rw [wrap_i64 (by omega) (by omega)]; omega
  have a3 : A.addr (3 + 2 * m) = (b, 2 * m + 1) := by rw [show 3 + 2 * m = 2 + (2 * m + 1) by omega]; exact R.a2 _ (by omega)
  repeat (first | (apply wo_po; apply mo_bin; exact rfl; exact rfl; apply bin_mul; exact wrap_i64 (by omega) (by omega); exact trivial) | (apply wo_po; apply mo_bin; exact rfl; exact rfl; apply bin_add; exact hw3; exact trivial) | refine we_seq ?_ | (refine wR ?_; try simp only [oS]) | refine wo_nil ?_ | refine wM ?_ | refine wA ?_ | (apply wo_po; apply mo_extract; exact rfl; exact rfl; exact gY) | (apply wo_po; apply mo_not; exact rfl; exact gY) | refine wF ?_ | refine we_skip ?_)
  refine wo_call (.cons rfl (.cons rfl (.cons rfl .nil))) trivial (step_tr h1 .here) ?_
  rintro v1 L1 x1 ⟨s3, h3, rfl, rfl, rfl⟩
  have hr3 : Rd (A.C s3 :: F) r 2 _ := Rd.of .here (R.hdr s3)
  repeat (first | (apply wo_po; apply mo_load; exact rfl; exact hr3; exact trivial) | (apply wo_po; apply mo_indexAddr (r := 2 * m); exact rfl; exact rfl; omega; omega; omega; exact trivial) | refine we_seq ?_ | (refine wR ?_; try simp only [oS]) | refine wo_nil ?_ | refine wM ?_ | refine wN ?_ | refine wD ?_)
  refine wo_call (.cons rfl .nil) trivial (A.load_ok _ _ _ _ _ _ _ a3 h3 .here) ?_
  rintro v1 L1 x1 ⟨v, s4, hv, h4, rfl, rfl, rfl⟩
  repeat (first | (apply wo_po; apply mo_bin; exact rfl; exact rfl; apply bin_mul; exact wrap_i64 (by omega) (by omega); exact trivial) | (apply wo_po; apply mo_bin; exact rfl; exact rfl; apply bin_add; exact hw2; exact trivial) | refine we_seq ?_ | (refine wR ?_; try simp only [oS]) | refine wo_nil ?_ | refine wM ?_ | refine wA ?_)
  refine wo_call (.cons rfl (.cons rfl (.cons rfl .nil))) trivial (step_tr h4 .here) ?_
  rintro v1 L1 x1 ⟨s5, h5, rfl, rfl, rfl⟩
  have hr5 : Rd (A.C s5 :: F) r 2 _ := Rd.of .here (R.hdr s5)
  have hadd : IntKind.u64.wrap ((t : Int) + (n : Int)) = (((t + n) % 18446744073709551616 : Nat) : Int) := by rw [wrap_u64_mod]; omega
  repeat (first | refine we_seq ?_ | refine wo_nil ?_)
  refine we_draw [0, 1, 2, 3, 4, 5, 6, 7, 8, 9, 10, 11, 12, 13, 14, 15] (by kernel_rfl) ?_
  repeat (first | (apply ap_read; exact rfl; exact rfl; exact trivial; apply mo_load; exact rfl; exact hr5) | (apply ap_pure; exact rfl; exact rfl; exact trivial; intro L; apply mo_indexAddr (r := 2 * m); exact rfl; exact rfl; omega; omega; omega) | (apply ap_pure; exact rfl; exact rfl; exact trivial; intro L; apply mo_conv; exact rfl; exact wrap_u64 (by omega) (by omega)) | (apply ap_pure; exact rfl; exact rfl; exact trivial; intro L; apply mo_bin; exact rfl; exact rfl; apply bin_add; exact hadd) | refine aM ?_ | refine aN ?_ | refine aD ?_ | (apply ap_pure; exact rfl; exact rfl; exact gY; intro L; apply mo_len; exact rfl))
  refine ap_callv rfl rfl rfl rfl trivial rfl rfl (.cons rfl (.cons rfl .nil)) (A.store_ok _ _ _ _ _ _ _ _ (R.a2 (2 * m) (by omega)) (Nat.mod_lt _ (by decide)) h5 .here) ?_
  rintro v1 L1 x1 ⟨s6, h6, rfl, rfl, rfl⟩
  refine ap_end ?_
  repeat (first | refine we_seq ?_ | (refine wR ?_; try simp only [oS]) | refine wo_nil ?_ | refine wM ?_ | refine wA ?_ | refine we_ret ?_)
  (first | refine or3 Try.func14 Try.results14 hQ rfl rfl rfl ?_ | refine on3 Try.func14 Try.results14 hQ rfl rfl rfl ?_)
  exact ⟨some v, s6, h6, hv, rfl, rfl, rfl⟩
end
end
section
section
variable {B : Hand} [Lets B] {gv : Value} {A : Acc B gv} {r b n k : Nat} {L F : List HProp}
def DrainT (A : Acc B gv) (n : Nat) : Nat → List Nat → A.S → (List Nat → A.S → Prop) → Prop
 | 0, acc, s, G => G acc s
 | f + 1, acc, s, G => TakeT A n s fun q s => match q with
  | none => G acc s
  | some v => DrainT A n f (acc ++ [v]) s G
def drainInv (A : Acc B gv) (r n : Nat) (F : List HProp) (G : List Nat → A.S → Prop) : Inv (Nat × Value × List Nat × A.S) B.X where
 e := fun i => [(0, .pointer (some ⟨r, 0, none⟩)), (1, gv), (6, i.2.1), (17, .int .i64 n), (18, .int .i64 i.1)]
 L := fun i => A.C i.2.2.2 :: vec 1 i.2.1 (i.2.2.1.map num) :: F
 x := fun i => A.x i.2.2.2
 ok := fun i => i.1 ≤ n ∧ i.2.2.1.length ≤ i.1 ∧ DrainT A n (n - i.1) i.2.2.1 i.2.2.2 G
theorem drain_tr (R : QueueAt A r b n k) {s : A.S} {G : List Nat → A.S → Prop} (hs : DrainT A n n [] s G) (hh : Has L (A.C s) F) :
  Tr Try.prog B 15 [.pointer (some ⟨r, 0, none⟩), gv] L (A.x s) fun v' L' x' => ∃ out s' v, G out s' ∧ v' = .tuple #[v, .int .i64 0] ∧ L' = A.C s' :: vec 1 v (out.map num) :: F ∧ x' = A.x s' := by
 have hle : n ≤ 1024 := by rw [R.hn]; exact pow_le R.hk
 have hpos : 0 < n := by rw [R.hn]; exact Nat.two_pow_pos k
 have hr := Rd.of hh (R.hdr s)
 refine tr_of_body Try.func15 rfl Try.ntmps15 (by simp) fun um Q _ hQ => ?_
 simp only [argE, Nat.zero_add, Nat.reduceAdd]
 repeat (first | refine we_seq ?_ | (refine wR ?_; try simp only [oS]) | refine wo_nil ?_ | refine wM ?_ | refine wA ?_)
 refine wo_call (.cons rfl .nil) trivial (there_tr R hh) ?_
 rintro v1 L1 x1 ⟨rfl, rfl, rfl⟩
 repeat (first | (apply wo_po; apply mo_load; exact rfl; exact hr; exact trivial) | refine we_seq ?_ | (refine wR ?_; try simp only [oS]) | refine wo_nil ?_ | refine wM ?_ | refine wA ?_ | refine wN ?_ | refine wD ?_ | (apply wo_po; apply mo_not; exact rfl; exact gY) | refine wE ?_ | refine wF ?_ | refine we_skip ?_ | refine we_block ?_)
 refine we_star (A.C s :: vec 1 (.slice none 0 0) (([] : List Nat).map num) :: F) (fun h st => star_map (hh.star st) (fun _ y => y) (fun _ y => vec_nil y)) ?_
 refine we_loopN (drainInv A r n F G) (fun i => n - i.1) (0, _, [], s) ⟨by simp, by simp, by simpa using hs⟩ ⟨rfl, rfl, rfl, rfl, rfl, trivial⟩ .refl rfl ?_
 clear hs
 rintro ⟨i, rv, acc, s⟩ ⟨hi, hacc, hs⟩
 dsimp only [drainInv] at hi hs hacc ⊢
 refine we_pure (of_has (.there .here) (vec_shape (by omega))) ?_
 rintro ⟨ra, rl, rc, rfl, hlen, hrc, hra, hra2⟩
 obtain rfl : rl = acc.length := by simpa using hlen.symm
 by_cases hc : i < n
 ·obtain ⟨f, hf⟩ : ∃ f, n - i = f + 1 := ⟨n - i - 1, by omega⟩
  rw [hf] at hs
  repeat (first | refine wlssT ?_ | refine we_seq ?_ | (refine wR ?_; try simp only [oS]) | refine wo_nil ?_ | refine wM ?_ | refine wT ?_ | refine we_skip ?_ | refine we_block ?_)
  refine wo_call (.cons rfl (.cons rfl .nil)) trivial (take_tr R hs .here) ?_
  rintro v L' x' ⟨q, s', h1, hq, rfl, rfl, rfl⟩
  cases q with
  | none =>
   repeat (first | refine we_seq ?_ | (refine wR ?_; try simp only [oS]) | refine wo_nil ?_ | refine wM ?_ | refine wA ?_ | (apply wo_po; apply mo_extract; exact rfl; exact rfl; exact gY) | (apply wo_po; apply mo_not; exact rfl; exact gY) | refine wT ?_ | refine we_ret ?_ | refine we_exit ?_)
   (first | refine or2 Try.func15 Try.results15 hQ rfl rfl ?_ | refine on2 Try.func15 Try.results15 hQ rfl rfl ?_)
   exact ⟨acc, s', _, h1, rfl, rfl, rfl⟩
  | some q =>
   repeat (first | (apply wo_mo; apply mo_buildSlice (vs := [_]); exact rfl; exact .cons rfl .nil; exact rfl; (intro v hv; cases (List.mem_singleton.1 hv); exact rfl); omega; exact trivial) | refine we_seq ?_ | (refine wR ?_; try simp only [oS]) | refine wo_nil ?_ | refine wM ?_ | refine wA ?_ | (apply wo_po; apply mo_extract; exact rfl; exact rfl; exact gY) | (apply wo_po; apply mo_not; exact rfl; exact gY) | refine wF ?_ | refine we_skip ?_)
   rintro v L' ⟨nb, rfl, rfl⟩
   repeat (first | (apply wo_mo; apply mo_append (new := [num q]); exact rfl; exact rfl; exact rfl; exact rfl; exact .there (.there .here); exact rfl; exact .inr ⟨_, _, rfl, Rds.all .here⟩; (intro v hv; cases (List.mem_singleton.1 hv); exact rfl); (simp only [sliceLen]; omega); exact trivial))
   rintro v L' hL
   rw [show acc.map num ++ [num q] = (acc ++ [q]).map num by simp] at hL
   subst hL
   repeat (first | (refine wR ?_; try simp only [oS]) | refine wo_nil ?_ | refine wM ?_ | refine wA ?_ | refine wadd ?_)
   refine at_round (I := drainInv A r n F G) (R := fun i' => n - i'.1 < n - i) (i + 1, v, acc ++ [q], s') (by simp; omega) ⟨by simp; omega, by simp; omega, by rw [show n - (i + 1) = f by omega]; exact h1⟩ ⟨rfl, rfl, rfl, rfl, rfl, trivial⟩ ?_ rfl
   refine .take (.there (.there .here)) (.take .here (.drop .refl))
 ·rw [show n - i = 0 by omega] at hs
  repeat (first | refine wlssF ?_ | refine we_seq ?_ | (refine wR ?_; try simp only [oS]) | refine wo_nil ?_ | refine wM ?_ | refine wA ?_ | refine wF ?_ | refine we_ret ?_ | refine we_exit ?_)
  (first | refine or2 Try.func15 Try.results15 hQ rfl rfl ?_ | refine on2 Try.func15 Try.results15 hQ rfl rfl ?_)
  exact ⟨acc, s, _, hs, rfl, rfl, rfl⟩
end
section
variable {B : Hand} [Lets B] {L F : List HProp} {x : B.X}
def seqs (j : Nat) (w : Nat) : Nat := if 2 ≤ w ∧ w % 2 = 0 ∧ (w - 2) / 2 < j then (w - 2) / 2 else 0
def newInv (x : B.X) (r b n : Nat) (L : List HProp) : Inv (Nat × (Nat → Nat)) B.X where
 e := fun i => [(4, .pointer (some ⟨r, 0, none⟩)), (27, .int .i64 n), (28, .int .i64 i.1), (3, .int .i64 0)]
 L := fun i => wds (twoAddr r b) (2 * n + 2) [(r, 2, .slice (some ⟨b, 0, none⟩) n n)] i.2 :: L
 x := fun _ => x
 ok := fun i => i.1 ≤ n ∧ i.2 = seqs i.1
theorem new_tr {n k : Nat} (hn : n = 2 ^ k) (hk0 : 1 ≤ k) (hk : k ≤ 10) :
  Tr Try.prog B 11 [.int .i64 n] L x fun v L' x' => ∃ r b, v = .tuple #[.pointer (some ⟨r, 0, none⟩), .int .i64 0] ∧ r ≠ b ∧ L' = wds (twoAddr r b) (2 * n + 2) [(r, 2, .slice (some ⟨b, 0, none⟩) n n)] (seqs n) :: L ∧ x' = x := by
 have hle : n ≤ 1024 := by rw [hn]; exact pow_le hk
 have hpos : 2 ≤ n := by have := Nat.pow_le_pow_right (n := 2) (by omega) hk0; omega
 have hand : IntKind.i64.wrap (BitVec.ofInt IntKind.i64.bits (n : Int) &&& BitVec.ofInt IntKind.i64.bits ((n : Int) - 1)).toNat = 0 := by
  have e1 : ((n : Int) - 1) = ((n - 1 : Nat) : Int) := by omega
  have key : ∀ k ∈ List.range 11, (2 ^ k) &&& (2 ^ k - 1) = 0 := by decide +kernel
  rw [e1, and_i64 (by omega) (by omega), hn, key k (by simp; omega)]; rfl
 refine tr_of_body Try.func11 rfl Try.ntmps11 (by simp) fun um Q _ hQ => ?_
 simp only [argE, Nat.zero_add, Nat.reduceAdd]
 repeat (first | (apply wo_po; apply mo_bin; exact rfl; exact rfl; apply bin_and; exact hand; exact gY) | (apply wo_mo; apply mo_make; exact rfl; exact rfl; exact rfl; omega; omega; exact trivial) | refine wlssF ?_ | refine wgtrF ?_ | refine wneqF ?_ | refine we_seq ?_ | (refine wR ?_; try simp only [oS]) | refine wo_nil ?_ | refine wM ?_ | refine wA ?_ | refine wJ ?_ | refine wsub ?_ | refine wF ?_ | refine we_skip ?_)
 rintro v' L' ⟨b, rfl, rfl⟩
 repeat (first | (apply wo_po; apply mo_build (pv := [(2, _)]); exact rfl; exact .cons rfl .nil; exact rfl; exact trivial) | (apply wo_mo; apply mo_box; exact rfl; exact trivial))
 rintro v' L' ⟨r, rfl, rfl⟩
 refine wo_ent (arr r 0 [.int .u64 0, .int .u64 0, .slice (some ⟨b, 0, none⟩) n n] :: arr b 0 (zeros n [.int .u64 0, .int .u64 0]) :: L) .refl ?_
 refine wo_pure (p := r ≠ b) (fun h st => ?_) fun hne => ?_
 ·obtain ⟨n', rfl⟩ : ∃ n', n = n' + 1 := ⟨n - 1, by omega⟩
  exact star_ne (ws := .int .u64 0 :: zeros n' [.int .u64 0, .int .u64 0]) st
 refine wo_star (wds (twoAddr r b) (2 * n + 2) [(r, 2, .slice (some ⟨b, 0, none⟩) n n)] (fun _ => 0) :: L) (fun h st => two_wds (fun i hi => zeros_two hi) st) ?_
 have hhdr : ∀ s : Nat → Nat, Rd (wds (twoAddr r b) (2 * n + 2) [(r, 2, .slice (some ⟨b, 0, none⟩) n n)] s :: L) r 2 (.slice (some ⟨b, 0, none⟩) n n) := fun s => Rd.of .here fun h hs => by
  obtain ⟨h1, h2, s1, hc, _⟩ := hs
  exact ⟨rfl, .inl (s1.o1 _ _ _ (hc.2 (r, 2, .slice (some ⟨b, 0, none⟩) n n) (List.mem_singleton.2 rfl)))⟩
 repeat (first | (apply wo_po; apply mo_load; exact rfl; exact hhdr _; exact trivial) | refine we_seq ?_ | (refine wR ?_; try simp only [oS]) | refine wo_nil ?_ | refine wM ?_ | refine wA ?_ | refine wN ?_ | refine wD ?_ | refine wE ?_ | refine we_block ?_)
 refine we_loopN (newInv x r b n L) (fun i => n - i.1) (0, fun _ => 0) ⟨by simp, by funext w; simp [seqs]⟩ ⟨rfl, rfl, rfl, rfl, trivial⟩ .refl rfl ?_
 rintro ⟨j, s⟩ ⟨hj, hs⟩
 dsimp only [newInv] at hj hs ⊢
 subst hs
 by_cases hc : j < n
 ·repeat (first | (apply wo_po; apply mo_load; exact rfl; exact hhdr _; exact trivial) | (apply wo_po; apply mo_indexAddr (r := 2 * j); exact rfl; exact rfl; omega; omega; omega; exact trivial) | refine wlssT ?_ | refine we_seq ?_ | (refine wR ?_; try simp only [oS]) | refine wo_nil ?_ | refine wM ?_ | refine wA ?_ | refine wN ?_ | refine wD ?_ | (apply wo_po; apply mo_conv; exact rfl; (first | exact wrap_i64 (by omega) (by omega) | exact wrap_u64 (by omega) (by omega)); exact gY) | refine wT ?_ | refine we_skip ?_ | refine we_block ?_)
  refine wo_call (.cons rfl (.cons rfl .nil)) trivial (store_lone (wt_wds (two_apart hne _) .here (w := 2 + 2 * j) (by omega) (by rw [Nat.add_comm]; rfl) (n := j) (by omega))) ?_
  rintro v L' x' ⟨rfl, rfl, rfl⟩
  repeat (first | (refine wR ?_; try simp only [oS]) | refine wo_nil ?_ | refine wM ?_ | refine wadd ?_)
  refine at_round (I := newInv x' r b n L) (R := fun i' => n - i'.1 < n - j) (j + 1, upd (seqs j) (2 + 2 * j) j) (by simp; omega) ⟨by simp; omega, ?_⟩ ⟨rfl, rfl, rfl, rfl, trivial⟩ .refl rfl
  funext w
  simp only [upd, seqs]
  split <;> split <;> (try split) <;> omega
 ·obtain rfl : j = n := by omega
  repeat (first | refine wlssF ?_ | refine we_seq ?_ | (refine wR ?_; try simp only [oS]) | refine wo_nil ?_ | refine wM ?_ | refine wA ?_ | refine wF ?_ | refine we_ret ?_ | refine we_exit ?_)
  (first | refine or2 Try.func11 Try.results11 hQ rfl rfl ?_ | refine on2 Try.func11 Try.results11 hQ rfl rfl ?_)
  exact ⟨r, b, rfl, hne, rfl, rfl⟩
end
end
end Go.Proofs.Ythghlchcjeocpaa
namespace Go.Proofs.Ythghlchcjeocpaa
open Go Go.PB
attribute [local irreducible] Mo Bin Eql Tr Wo Ap
section
def queueAcc {B : Hand} [Lets B] (x : B.X) (r b n : Nat) (h : r ≠ b) : Acc B .nilIface := loneAcc x (twoAddr r b) (2 * n + 2) _ (two_apart h (.slice (some ⟨b, 0, none⟩) n n))
theorem queue_at {B : Hand} [Lets B] {x : B.X} {r b n k : Nat} (h : r ≠ b) (hn : n = 2 ^ k) (hk : k ≤ 10) : QueueAt (queueAcc x r b n h) r b n k where
 hn := hn
 hk := hk
 hdr := fun s h hs => by
  obtain ⟨h1, h2, s1, hc, _⟩ := hs
  exact ⟨rfl, .inl (s1.o1 _ _ _ (hc.2 (r, 2, .slice (some ⟨b, 0, none⟩) n n) (List.mem_singleton.2 rfl)))⟩
 a0 := rfl
 a1 := rfl
 a2 := fun i _ => by show twoAddr r b (2 + i) = _; rw [Nat.add_comm]; rfl
structure RowAt (n : Nat) (s : Nat → Nat) (row : List Nat) : Prop where
 len : row.length ≤ n
 put : s 0 = (s 1 + row.length) % 18446744073709551616
 t : s 1 < 18446744073709551616
 full : ∀ i v, row[i]? = some v → s (2 + 2 * ((s 1 + i) % n)) = (s 1 + i + 1) % 18446744073709551616 ∧ s (3 + 2 * ((s 1 + i) % n)) = v
 free : ∀ i, row.length ≤ i → i < n → s (2 + 2 * ((s 1 + i) % n)) = (s 1 + i) % 18446744073709551616
theorem mod_pow {n k a : Nat} (hn : n = 2 ^ k) (hk : k ≤ 10) : a % 18446744073709551616 % n = a % n := by
 refine Nat.mod_mod_of_dvd a ?_
 rw [hn, show 18446744073709551616 = 2 ^ 64 from rfl]
 exact Nat.pow_dvd_pow 2 (by omega)
theorem mod_inj {n a i j : Nat} (hi : i < n) (hj : j < n) (h : (a + i) % n = (a + j) % n) : i = j := by
 rcases Nat.lt_trichotomy i j with hlt | rfl | hlt
 ·have hd := Nat.sub_mod_eq_zero_of_mod_eq h.symm
  rw [Nat.mod_eq_of_lt (by omega)] at hd
  omega
 ·rfl
 ·have hd := Nat.sub_mod_eq_zero_of_mod_eq h
  rw [Nat.mod_eq_of_lt (by omega)] at hd
  omega
section
variable {B : Hand} [Lets B] {x : B.X} {r b n k : Nat} {h : r ≠ b}
theorem draw_lone {w whose : Nat} (hw : w < 2) {s : Nat → Nat} {G : Option Nat → (Nat → Nat) → Prop} (hn : 0 < n)
  (g : if 9223372036854775808 ≤ (s (2 + 2 * (s w % n)) + 36893488147419103232 - s w - whose) % 18446744073709551616 then G none s
   else (s (2 + 2 * (s w % n)) + 36893488147419103232 - s w - whose) % 18446744073709551616 = 0 ∧ G (some (s w)) (upd s w ((s w + 1) % 18446744073709551616))) :
  DrawT (queueAcc x r b n h) n w whose s G := by
 intro X hX
 have hmod : s w % n < n := Nat.mod_lt _ hn
 refine hX _ ⟨by omega, by omega, ?_⟩
 show if 9223372036854775808 ≤ (s (2 + 2 * (s w % n)) + 36893488147419103232 - s w - whose) % 18446744073709551616 then G none s else _
 split
 ·rename_i hc; rw [if_pos hc] at g; exact g
 ·rename_i hc
  rw [if_neg hc] at g
  rw [if_neg (by rw [g.1]; omega)]
  refine ⟨by omega, ?_⟩
  rw [if_pos rfl]
  simpa using g.2
theorem put_row (hn : n = 2 ^ k) (hk0 : 1 ≤ k) (hk : k ≤ 10) {v : Nat} {s : Nat → Nat} {row : List Nat} (R : RowAt n s row) :
  PutT (queueAcc x r b n h) n v s fun q s' => q = decide (row.length < n) ∧ RowAt n s' (if row.length < n then row ++ [v] else row) := by
 have hle : n ≤ 1024 := by rw [hn]; exact pow_le hk
 have hpos : 2 ≤ n := by have := Nat.pow_le_pow_right (n := 2) (by omega) hk0; omega
 obtain ⟨h1, h2, h3, h4, h5⟩ := R
 have hm : s 0 % n = (s 1 + row.length) % n := by rw [h2, mod_pow hn hk]
 have hmod : s 0 % n < n := Nat.mod_lt _ (by omega)
 refine draw_lone (by omega) (by omega) ?_
 by_cases hf : row.length < n
 ·have hq := h5 row.length (Nat.le_refl _) hf
  rw [← hm, ← h2] at hq
  rw [hq, show (s 0 + 36893488147419103232 - s 0 - 0) % 18446744073709551616 = 0 by omega, if_neg (by omega), if_pos hf]
  refine ⟨rfl, ?_⟩
  obtain ⟨m, hme⟩ : ∃ m, s 0 % n = m := ⟨_, rfl⟩
  simp only
  rw [hme] at hm hmod ⊢
  refine ⟨by omega, by omega, by simp; omega, ?_⟩
  have e0 : ∀ y z, upd (upd (upd s 0 ((s 0 + 1) % 18446744073709551616)) (3 + 2 * m) y) (2 + 2 * m) z 0 = (s 0 + 1) % 18446744073709551616 := fun y z => by rw [upd_other (by omega), upd_other (by omega), upd_same]
  have e1 : ∀ y z, upd (upd (upd s 0 ((s 0 + 1) % 18446744073709551616)) (3 + 2 * m) y) (2 + 2 * m) z 1 = s 1 := fun y z => by rw [upd_other (by omega), upd_other (by omega), upd_other (by omega)]
  refine ⟨by simp; omega, ?_, ?_, ?_, ?_⟩
  ·rw [e0, e1]
   simp only [List.length_append, List.length_cons, List.length_nil]
   omega
  ·rw [e1]; exact h3
  ·intro i u hi
   rw [e1]
   by_cases e : i = row.length
   ·subst e
    rw [← hm]
    have hu : v = u := by simpa using hi
    refine ⟨by rw [upd_same]; omega, ?_⟩
    rw [upd_other (by omega), upd_same, hu]
   ·have hi' : i < row.length := by
     have := (List.getElem?_eq_some_iff.1 hi).1
     simp at this; omega
    rw [List.getElem?_append_left hi'] at hi
    have hne : (s 1 + i) % n ≠ m := fun hx => by
     have := mod_inj (by omega) hf (hx.trans hm)
     omega
    rw [upd_other (by omega), upd_other (by omega), upd_other (by omega), upd_other (by omega), upd_other (by omega), upd_other (by omega)]
    exact h4 i u hi
  ·intro i hi hin
   simp only [List.length_append, List.length_cons, List.length_nil] at hi
   rw [e1]
   have hne : (s 1 + i) % n ≠ m := fun hx => by
    have := mod_inj hin hf (hx.trans hm)
    omega
   rw [upd_other (by omega), upd_other (by omega), upd_other (by omega)]
   exact h5 i (by omega) hin
 ·have hlen : row.length = n := by omega
  obtain ⟨v0, hv0⟩ : ∃ v, row[0]? = some v := ⟨row[0]'(by omega), by simp⟩
  have hq := (h4 0 v0 hv0).1
  rw [Nat.add_zero] at hq
  have hm' : s 0 % n = s 1 % n := by rw [hm, hlen, Nat.add_mod_right]
  rw [hm', hq, if_pos (by rw [h2, hlen]; omega)]
  refine ⟨by simp [hf], ?_⟩
  rw [if_neg hf]
  exact ⟨h1, h2, h3, h4, h5⟩
theorem take_rowG (hn : n = 2 ^ k) (hk0 : 1 ≤ k) (hk : k ≤ 10) {s : Nat → Nat} {row : List Nat} (R : RowAt n s row) {G : Option Nat → (Nat → Nat) → Prop} (g : ∀ s', RowAt n s' row.tail → G row.head? s') :
  TakeT (queueAcc x r b n h) n s G := by
 have hle : n ≤ 1024 := by rw [hn]; exact pow_le hk
 have hpos : 2 ≤ n := by have := Nat.pow_le_pow_right (n := 2) (by omega) hk0; omega
 obtain ⟨h1, h2, h3, h4, h5⟩ := R
 have hmod : s 1 % n < n := Nat.mod_lt _ (by omega)
 refine draw_lone (by omega) (by omega) ?_
 cases row with
 | nil =>
  have hq := h5 0 (by simp) (by omega)
  rw [Nat.add_zero] at hq
  rw [hq, if_pos (by omega)]
  exact g s ⟨h1, h2, h3, h4, h5⟩
 | cons v row =>
  simp only [List.length_cons] at h1 h2
  have hq := h4 0 v rfl
  rw [Nat.add_zero] at hq
  rw [hq.1, if_neg (by omega)]
  refine ⟨by omega, ?_⟩
  obtain ⟨m, hme⟩ : ∃ m, s 1 % n = m := ⟨_, rfl⟩
  simp only
  rw [hme] at hq hmod ⊢
  have ev : upd s 1 ((s 1 + 1) % 18446744073709551616) (3 + 2 * m) = v := by rw [upd_other (by omega)]; exact hq.2
  refine ⟨by omega, by omega, ?_⟩
  ·show G (some (upd s 1 ((s 1 + 1) % 18446744073709551616) (3 + 2 * m))) _
   rw [ev]
   refine g _ ?_
   have e0 : ∀ z, upd (upd s 1 ((s 1 + 1) % 18446744073709551616)) (2 + 2 * m) z 0 = s 0 := fun z => by rw [upd_other (by omega), upd_other (by omega)]
   have e1 : ∀ z, upd (upd s 1 ((s 1 + 1) % 18446744073709551616)) (2 + 2 * m) z 1 = (s 1 + 1) % 18446744073709551616 := fun z => by rw [upd_other (by omega), upd_same]
   have em : ∀ i, ((s 1 + 1) % 18446744073709551616 + i) % n = (s 1 + (i + 1)) % n := fun i => by
    rw [← mod_pow (a := s 1 + (i + 1)) hn hk, ← mod_pow (a := (s 1 + 1) % 18446744073709551616 + i) hn hk]
    congr 1
    omega
   refine ⟨by simp; omega, ?_, ?_, ?_, ?_⟩
   ·rw [e0, e1, List.tail_cons]; omega
   ·rw [e1]; exact Nat.mod_lt _ (by decide)
   ·intro i u hi
    rw [e1, em]
    have hi' := (List.getElem?_eq_some_iff.1 hi).1
    simp only [List.tail_cons] at hi'
    have hne : (s 1 + (i + 1)) % n ≠ m := fun hx => by
     have := mod_inj (i := i + 1) (j := 0) (by omega) (by omega) (hx.trans (by rw [Nat.add_zero]; exact hme.symm))
     omega
    rw [upd_other (by omega), upd_other (by omega), upd_other (by omega), upd_other (by omega)]
    have := h4 (i + 1) u hi
    exact ⟨by rw [this.1]; omega, this.2⟩
   ·intro i hi hin
    rw [e1, em]
    simp only [List.tail_cons] at hi
    by_cases e : i + 1 = n
    ·rw [show (s 1 + (i + 1)) % n = m by rw [e, Nat.add_mod_right, hme], upd_same]
     omega
    ·have hne : (s 1 + (i + 1)) % n ≠ m := fun hx => by
      have := mod_inj (i := i + 1) (j := 0) (by omega) (by omega) (hx.trans (by rw [Nat.add_zero]; exact hme.symm))
      omega
     rw [upd_other (by omega), upd_other (by omega), h5 (i + 1) (by simp; omega) (by omega)]
     omega
theorem take_row (hn : n = 2 ^ k) (hk0 : 1 ≤ k) (hk : k ≤ 10) {s : Nat → Nat} {row : List Nat} (R : RowAt n s row) :
  TakeT (queueAcc x r b n h) n s fun q s' => q = row.head? ∧ RowAt n s' row.tail := take_rowG hn hk0 hk R fun s' h => ⟨rfl, h⟩
theorem drain_row (hn : n = 2 ^ k) (hk0 : 1 ≤ k) (hk : k ≤ 10) : ∀ (f : Nat) {acc : List Nat} {s : Nat → Nat} {row : List Nat}, row.length ≤ f → RowAt n s row →
  DrainT (queueAcc x r b n h) n f acc s fun out s' => out = acc ++ row ∧ RowAt n s' [] := by
 intro f
 induction f with
 | zero =>
  intro acc s row hl R
  cases row with
  | nil => exact ⟨by simp, R⟩
  | cons a l => simp at hl
 | succ f ih =>
  intro acc s row hl R
  refine take_rowG hn hk0 hk R fun s' R' => ?_
  cases row with
  | nil => exact ⟨by simp, R'⟩
  | cons a l =>
   have := ih (acc := acc ++ [a]) (by simpa using hl) R'
   simpa using this
end
end
section
section
variable {n k : Nat}
theorem put_plain (hn : n = 2 ^ k) (hk0 : 1 ≤ k) (hk : k ≤ 10) {v : Nat} {s : Nat → Nat} {row : List Nat} (R : RowAt n s row) :
  if row.length < n then (s (2 + 2 * (s 0 % n)) + 18446744073709551616 - s 0) % 18446744073709551616 = 0 ∧ RowAt n (upd (upd (upd s 0 ((s 0 + 1) % 18446744073709551616)) (3 + 2 * (s 0 % n)) v) (2 + 2 * (s 0 % n)) ((s 0 + 1) % 18446744073709551616)) (row ++ [v])
  else 9223372036854775808 ≤ (s (2 + 2 * (s 0 % n)) + 18446744073709551616 - s 0) % 18446744073709551616 := by
 have hle : n ≤ 1024 := by rw [hn]; exact pow_le hk
 have hpos : 2 ≤ n := by have := Nat.pow_le_pow_right (n := 2) (by omega) hk0; omega
 obtain ⟨h1, h2, h3, h4, h5⟩ := R
 have hm : s 0 % n = (s 1 + row.length) % n := by rw [h2, mod_pow hn hk]
 have hmod : s 0 % n < n := Nat.mod_lt _ (by omega)
 by_cases hf : row.length < n
 ·have hq := h5 row.length (Nat.le_refl _) hf
  rw [← hm, ← h2] at hq
  rw [hq, if_pos hf]
  refine ⟨by omega, ?_⟩
  obtain ⟨m, hme⟩ : ∃ m, s 0 % n = m := ⟨_, rfl⟩
  rw [hme] at hm hmod ⊢
  have e0 : ∀ y z, upd (upd (upd s 0 ((s 0 + 1) % 18446744073709551616)) (3 + 2 * m) y) (2 + 2 * m) z 0 = (s 0 + 1) % 18446744073709551616 := fun y z => by rw [upd_other (by omega), upd_other (by omega), upd_same]
  have e1 : ∀ y z, upd (upd (upd s 0 ((s 0 + 1) % 18446744073709551616)) (3 + 2 * m) y) (2 + 2 * m) z 1 = s 1 := fun y z => by rw [upd_other (by omega), upd_other (by omega), upd_other (by omega)]
  refine ⟨by simp; omega, ?_, ?_, ?_, ?_⟩
  ·rw [e0, e1]
   simp only [List.length_append, List.length_cons, List.length_nil]
   omega
  ·rw [e1]; exact h3
  ·intro i u hi
   rw [e1]
   by_cases e : i = row.length
   ·subst e
    rw [← hm]
    have hu : v = u := by simpa using hi
    refine ⟨by rw [upd_same]; omega, ?_⟩
    rw [upd_other (by omega), upd_same, hu]
   ·have hi' : i < row.length := by
     have := (List.getElem?_eq_some_iff.1 hi).1
     simp at this; omega
    rw [List.getElem?_append_left hi'] at hi
    have hne : (s 1 + i) % n ≠ m := fun hx => by
     have := mod_inj (by omega) hf (hx.trans hm)
     omega
    rw [upd_other (by omega), upd_other (by omega), upd_other (by omega), upd_other (by omega), upd_other (by omega), upd_other (by omega)]
    exact h4 i u hi
  ·intro i hi hin
   simp only [List.length_append, List.length_cons, List.length_nil] at hi
   rw [e1]
   have hne : (s 1 + i) % n ≠ m := fun hx => by
    have := mod_inj hin hf (hx.trans hm)
    omega
   rw [upd_other (by omega), upd_other (by omega), upd_other (by omega)]
   exact h5 i (by omega) hin
 ·rw [if_neg hf]
  have hlen : row.length = n := by omega
  obtain ⟨v0, hv0⟩ : ∃ v, row[0]? = some v := ⟨row[0]'(by omega), by simp⟩
  have hq := (h4 0 v0 hv0).1
  rw [Nat.add_zero] at hq
  have hm' : s 0 % n = s 1 % n := by rw [hm, hlen, Nat.add_mod_right]
  rw [hm', hq, h2, hlen]
  omega
end
end
section
section
variable {B : Hand} [Lets B] {x : B.X} {r b n k nb : Nat} {h : r ≠ b}
def queueAccN (x : B.X) (r b n nb : Nat) (h : r ≠ b) : Acc B (.iface 49 (.pointer (some ⟨nb, 0, none⟩))) := notesAcc x (twoAddr r b) (2 * n + 2) _ (two_apart h (.slice (some ⟨b, 0, none⟩) n n)) nb
theorem queue_at_n (h : r ≠ b) (hn : n = 2 ^ k) (hk : k ≤ 10) : QueueAt (queueAccN x r b n nb h) r b n k where
 hn := hn
 hk := hk
 hdr := fun s h hs => by
  obtain ⟨h1, h2, s1, hc, _⟩ := hs
  obtain ⟨h3, h4, s2, hd, _⟩ := hc
  exact ⟨rfl, .inl (s1.o1 _ _ _ (s2.o1 _ _ _ (hd.2 (r, 2, .slice (some ⟨b, 0, none⟩) n n) (List.mem_singleton.2 rfl))))⟩
 a0 := rfl
 a1 := rfl
 a2 := fun i _ => by show twoAddr r b (2 + i) = _; rw [Nat.add_comm]; rfl
variable {w whose : Nat} {f : Nat → Nat} {tr : List (Int × Nat)} {G : Option Nat → (Nat → Nat) × List (Int × Nat) → Prop} {t m q t1 : Nat}
theorem draw_some (hw : w < 2) (hn : m < n) (htr : tr.length + 3 < 1000000) (ht : f w = t) (hm : t % n = m) (hq : f (2 * m + 2) = q) (hd : (q + 36893488147419103232 - t - whose) % 18446744073709551616 = 0) (ht1 : (t + 1) % 18446744073709551616 = t1)
  (g : G (some t) (upd f w t1, tr ++ [(1, w)] ++ [(1, 2 * m + 2)] ++ [(5, w)])) : DrawT (queueAccN x r b n nb h) n w whose (f, tr) G := by
 intro X hX
 have e2 : 2 + 2 * m = 2 * m + 2 := by omega
 refine hX _ ?_
 refine ⟨by show tr.length < _; omega, by show w < 2 * n + 2; omega, ?_⟩
 refine ⟨by simp; omega, by show 2 + 2 * (f w % n) < 2 * n + 2; rw [ht, hm]; omega, ?_⟩
 dsimp only [queueAccN, notesAcc]
 simp only [ht, hm, e2, hq]
 rw [hd, if_neg (by omega), if_neg (by omega)]
 refine ⟨by simp; omega, by omega, ?_⟩
 rw [if_pos trivial, if_pos trivial, ht1]
 exact g
def callCl (n kd v : Nat) : Mach.Cl := if kd = 0 then Mach.qputCl n v else if kd = 1 then Mach.qtakeCl n else Mach.qdrainCl n
end
end
end Go.Proofs.Ythghlchcjeocpaa
namespace Go.Proofs.Ythghlchcjeocpaa
open Go Go.PB
attribute [local irreducible] Mo Bin Eql Tr Wo Ap Wle
section
section
variable {n j : Nat} {addr : Nat → Nat × Nat} {K : List (Nat × Nat × Value)} {A : Apart addr (2 * n + 2) K} {Z : HProp} {Pv : Nat × Mach.Th → HProp} {hPv : ∀ q h, Star [Pv q] h → Pv q h} {sb says turn fin wg k : Nat} {Pm : HProp}
variable {cs : List Mach.Cl} {cl : Mach.Cl} {c v b v0 v3 : Nat} {pre : List (Bool × List Nat)} {said : List Nat}
theorem put_draw (hn : n = 2 ^ j) (hj0 : 1 ≤ j) (hj : j ≤ 10) (hc : cs[c]? = some cl) (hk : Mach.HasPut cl 0 n b) (h0 : pre.length = c) (hP : ∀ p r said h, Pm h → Pv (k, Mach.T cs c p r pre said) h)
  (hend : ∀ r', r' 1 = 0 → ∃ t', Mach.onF 26 (Mach.T cs c (b + 17) r' pre said) = some t')
  {G : Option Nat → PlS → Prop} (hnone : ∀ r' (s' : PlS), r' 1 = 0 → Mach.onF 26 (Mach.T cs c (b + 17) r' pre said) = some s'.t → (∀ i, i < 2 * n + 2 → s'.f i = s'.g i) → (rowD (2 * n + 2)).ok s'.f → G none s')
  (hsome : ∀ r t m q t1 (s' : PlS), r 9 = 0 → r 0 = v0 → t < 18446744073709551616 → t % n = m → (t + 1) % 18446744073709551616 = t1 → s'.t = Mach.T cs c (b + 12) (upd (Mach.qr9 r n t m q t1) 15 1) pre said → (∀ i, i < 2 * n + 2 → s'.f i = s'.g i) → (rowD (2 * n + 2)).ok s'.f → G (some t) s')
  {r : Nat → Nat} {s : PlS} (h9 : r 9 = 0) (hr0 : r 0 = v0) (ht : s.t = Mach.T cs c b r pre said) (hfg : ∀ i, i < 2 * n + 2 → s.f i = s.g i) :
  DrawT (playAcc (rowD (2 * n + 2)) addr (2 * n + 2) K A Z Pv hPv sb says turn fin wg k Pm) n 0 0 s G := by
 have hle : n ≤ 1024 := by rw [hn]; exact pow_le hj
 have hpos : 2 ≤ n := by have := Nat.pow_le_pow_right (n := 2) (by omega) hj0; omega
 intro X hX
 suffices H : ∀ (N : Nat) (r : Nat → Nat) (s : PlS), s.n < N → r 9 = 0 → r 0 = v0 → s.t = Mach.T cs c b r pre said → (∀ i, i < 2 * n + 2 → s.f i = s.g i) → X s from H (s.n + 1) r s (by omega) h9 hr0 ht hfg
 intro N
 induction N with
 | zero => intro r s hN; omega
 | succ N ih =>
  intro r s hN h9 hr0 ht hfg
  refine hX _ ?_
  unfold DrawF
  refine acc_go (op := 1) rfl row_ok0 hfg (by rw [ht]; exact hP _ _ _) fun f1 ok1 => ?_
  have htl := ok1 0 (by omega)
  obtain ⟨t, ht0⟩ : ∃ t, f1 0 = t := ⟨_, rfl⟩
  rw [ht0] at htl
  obtain ⟨m, hm⟩ : ∃ m, t % n = m := ⟨_, rfl⟩
  have hmod : m < n := by rw [← hm]; exact Nat.mod_lt _ (by omega)
  have hand : (t &&& (n - 1)) % 18446744073709551616 = m := by rw [Mach.qmask_mod hn, hm]; omega
  obtain ⟨t1, ht1⟩ : ∃ t1, (t + 1) % 18446744073709551616 = t1 := ⟨_, rfl⟩
  have e2 : 2 + 2 * m = 2 * m + 2 := by omega
  refine ⟨f1, _, by rw [ht]; exact Mach.qput_0 (w := (rowD (2 * n + 2)).W f1) (l := rowOf (2 * n + 2) f1) hc hk h0 rfl (by rw [rowOf_get (by omega), ht0]) h9 (by omega) hand (by omega), fun m1 hm1 => ⟨by omega, ?_⟩⟩
  simp only [ht0, hm, e2]
  refine acc_go (op := 1) rfl row_ok0 (fun i hi => row_un hi) (hP _ _ _) fun f2 ok2 => ?_
  have hql := ok2 (2 * m + 2) (by omega)
  obtain ⟨q, hq⟩ : ∃ q, f2 (2 * m + 2) = q := ⟨_, rfl⟩
  rw [hq] at hql
  have hvq : (rowOf (2 * n + 2) f2)[2 * m + 2]? = some q := by rw [rowOf_get (by omega), hq]
  have hprog : (q + 36893488147419103232 - t - 0) % 18446744073709551616 = (q + 18446744073709551616 - t) % 18446744073709551616 := by omega
  obtain ⟨d, hd⟩ : ∃ d, (q + 18446744073709551616 - t) % 18446744073709551616 = d := ⟨_, rfl⟩
  rw [hd] at hprog
  by_cases c1 : 9223372036854775808 ≤ d
  ·obtain ⟨t', ho⟩ := hend (Mach.qrN r n t m q d) rfl
   refine ⟨f2, _, Mach.qput_4F (w := (rowD (2 * n + 2)).W f2) (l := rowOf (2 * n + 2) f2) hc hk h0 rfl hvq (by omega) hd c1 ho, fun m2 hm2 => ⟨by omega, ?_⟩⟩
   simp only [hq, hprog]
   rw [if_pos c1]
   exact hnone _ _ (by rfl) ho (fun i hi => row_un hi) ok2
  ·by_cases c2 : d = 0
   ·rw [c2] at hd hprog
    refine ⟨f2, _, Mach.qput_4T (w := (rowD (2 * n + 2)).W f2) (l := rowOf (2 * n + 2) f2) hc hk h0 rfl hvq h9 (by omega) hd ht1, fun m2 hm2 => ⟨by omega, ?_⟩⟩
    simp only [hq, hprog]
    rw [if_neg (by omega), if_neg (by omega)]
    refine acc_go (op := 5) rfl row_ok0 (fun i hi => row_un hi) (hP _ _ _) fun f3 ok3 => ?_
    by_cases c3 : f3 0 = t
    ·refine ⟨upd f3 0 t1, _, Mach.qput_10T (w := (rowD (2 * n + 2)).W f3) (l := rowOf (2 * n + 2) f3) hc hk h0 rfl (by rw [rowOf_get (by omega), c3]) h9 row_set0, fun m3 hm3 => ⟨by omega, ?_⟩⟩
     simp only [c3, ht1]
     rw [if_pos trivial, if_pos trivial]
     exact hsome r t m q t1 _ h9 hr0 htl hm ht1 rfl (fun i hi => row_un hi) (row_upd ok3 (by omega))
    ·refine ⟨f3, _, Mach.qput_10F (w := (rowD (2 * n + 2)).W f3) (l := rowOf (2 * n + 2) f3) hc hk h0 rfl (rowOf_get (by omega)) h9 c3, fun m3 hm3 => ⟨by omega, ?_⟩⟩
     dsimp only at hm1 hm2 hm3
     simp only
     rw [if_neg c3, if_neg (by decide)]
     exact ih (upd (Mach.qr9 r n t m q t1) 15 0) _ (by dsimp only; omega) h9 hr0 rfl fun i hi => row_un hi
   ·refine ⟨f2, _, Mach.qput_4R (w := (rowD (2 * n + 2)).W f2) (l := rowOf (2 * n + 2) f2) hc hk h0 rfl hvq h9 (by omega) hd c1 c2, fun m2 hm2 => ⟨by omega, ?_⟩⟩
    dsimp only at hm1 hm2
    simp only [hq, hprog]
    rw [if_neg c1, if_pos (by omega)]
    exact ih (Mach.qr5 r n t m q d) _ (by dsimp only; omega) h9 hr0 rfl fun i hi => row_un hi
theorem take_draw (hn : n = 2 ^ j) (hj0 : 1 ≤ j) (hj : j ≤ 10) (hc : cs[c]? = some cl) (hk : Mach.HasTake cl 0 n b) (h0 : pre.length = c) (hP : ∀ p r said h, Pm h → Pv (k, Mach.T cs c p r pre said) h)
  (hend : ∀ r', r' 0 = 0 → r' 1 = 0 → r' 9 = 0 → r' 3 = v3 → ∃ t', Mach.onF 26 (Mach.T cs c (b + 19) r' pre said) = some t')
  {G : Option Nat → PlS → Prop} (hnone : ∀ r' (s' : PlS), r' 0 = 0 → r' 1 = 0 → r' 9 = 0 → r' 3 = v3 → Mach.onF 26 (Mach.T cs c (b + 19) r' pre said) = some s'.t → (∀ i, i < 2 * n + 2 → s'.f i = s'.g i) → (rowD (2 * n + 2)).ok s'.f → G none s')
  (hsome : ∀ r t m q t1 (s' : PlS), r 9 = 0 → r 3 = v3 → t < 18446744073709551616 → t % n = m → s'.t = Mach.T cs c (b + 12) (upd (Mach.tr5 r n t m t1 q 0) 15 1) pre said → (∀ i, i < 2 * n + 2 → s'.f i = s'.g i) → (rowD (2 * n + 2)).ok s'.f → G (some t) s')
  {r : Nat → Nat} {s : PlS} (h9 : r 9 = 0) (h3 : r 3 = v3) (ht : s.t = Mach.T cs c b r pre said) (hfg : ∀ i, i < 2 * n + 2 → s.f i = s.g i) :
  DrawT (playAcc (rowD (2 * n + 2)) addr (2 * n + 2) K A Z Pv hPv sb says turn fin wg k Pm) n 1 1 s G := by
 have hle : n ≤ 1024 := by rw [hn]; exact pow_le hj
 have hpos : 2 ≤ n := by have := Nat.pow_le_pow_right (n := 2) (by omega) hj0; omega
 intro X hX
 suffices H : ∀ (N : Nat) (r : Nat → Nat) (s : PlS), s.n < N → r 9 = 0 → r 3 = v3 → s.t = Mach.T cs c b r pre said → (∀ i, i < 2 * n + 2 → s.f i = s.g i) → X s from H (s.n + 1) r s (by omega) h9 h3 ht hfg
 intro N
 induction N with
 | zero => intro r s hN; omega
 | succ N ih =>
  intro r s hN h9 h3 ht hfg
  refine hX _ ?_
  unfold DrawF
  refine acc_go (op := 1) rfl row_ok0 hfg (by rw [ht]; exact hP _ _ _) fun f1 ok1 => ?_
  have htl := ok1 1 (by omega)
  obtain ⟨t, ht0⟩ : ∃ t, f1 1 = t := ⟨_, rfl⟩
  rw [ht0] at htl
  obtain ⟨m, hm⟩ : ∃ m, t % n = m := ⟨_, rfl⟩
  have hmod : m < n := by rw [← hm]; exact Nat.mod_lt _ (by omega)
  have hand : (t &&& (n - 1)) % 18446744073709551616 = m := by rw [Mach.qmask_mod hn, hm]; omega
  obtain ⟨t1, ht1⟩ : ∃ t1, (t + 1) % 18446744073709551616 = t1 := ⟨_, rfl⟩
  have e2 : 2 + 2 * m = 2 * m + 2 := by omega
  refine ⟨f1, _, by rw [ht]; exact Mach.qtake_0 (w := (rowD (2 * n + 2)).W f1) (l := rowOf (2 * n + 2) f1) hc hk h0 rfl (by rw [rowOf_get (by omega), ht0]) h9 (by omega) hand (by omega) ht1, fun m1 hm1 => ⟨by omega, ?_⟩⟩
  simp only [ht0, hm, e2]
  refine acc_go (op := 1) rfl row_ok0 (fun i hi => row_un hi) (hP _ _ _) fun f2 ok2 => ?_
  have hql := ok2 (2 * m + 2) (by omega)
  obtain ⟨q, hq⟩ : ∃ q, f2 (2 * m + 2) = q := ⟨_, rfl⟩
  rw [hq] at hql
  have hvq : (rowOf (2 * n + 2) f2)[2 * m + 2]? = some q := by rw [rowOf_get (by omega), hq]
  have hprog : (q + 36893488147419103232 - t - 1) % 18446744073709551616 = (q + 18446744073709551616 - t1) % 18446744073709551616 := by omega
  obtain ⟨d, hd⟩ : ∃ d, (q + 18446744073709551616 - t1) % 18446744073709551616 = d := ⟨_, rfl⟩
  rw [hd] at hprog
  by_cases c1 : 9223372036854775808 ≤ d
  ·obtain ⟨t', ho⟩ := hend (Mach.trN r n t m t1 q d) rfl rfl h9 h3
   refine ⟨f2, _, Mach.qtake_5F (w := (rowD (2 * n + 2)).W f2) (l := rowOf (2 * n + 2) f2) hc hk h0 rfl hvq (by omega) hd c1 ho, fun m2 hm2 => ⟨by omega, ?_⟩⟩
   simp only [hq, hprog]
   rw [if_pos c1]
   exact hnone (Mach.trN r n t m t1 q d) _ rfl rfl h9 h3 ho (fun i hi => row_un hi) ok2
  ·by_cases c2 : d = 0
   ·rw [c2] at hd hprog
    refine ⟨f2, _, Mach.qtake_5T (w := (rowD (2 * n + 2)).W f2) (l := rowOf (2 * n + 2) f2) hc hk h0 rfl hvq h9 (by omega) hd, fun m2 hm2 => ⟨by omega, ?_⟩⟩
    simp only [hq, hprog]
    rw [if_neg (by omega), if_neg (by omega)]
    refine acc_go (op := 5) rfl row_ok0 (fun i hi => row_un hi) (hP _ _ _) fun f3 ok3 => ?_
    by_cases c3 : f3 1 = t
    ·refine ⟨upd f3 1 t1, _, Mach.qtake_10T (w := (rowD (2 * n + 2)).W f3) (l := rowOf (2 * n + 2) f3) hc hk h0 rfl (by rw [rowOf_get (by omega), c3]) h9 row_set0, fun m3 hm3 => ⟨by omega, ?_⟩⟩
     simp only [c3, ht1]
     rw [if_pos trivial, if_pos trivial]
     exact hsome r t m q t1 _ h9 h3 htl hm rfl (fun i hi => row_un hi) (row_upd ok3 (by omega))
    ·refine ⟨f3, _, Mach.qtake_10F (w := (rowD (2 * n + 2)).W f3) (l := rowOf (2 * n + 2) f3) hc hk h0 rfl (rowOf_get (by omega)) h9 c3, fun m3 hm3 => ⟨by omega, ?_⟩⟩
     dsimp only at hm1 hm2 hm3
     simp only
     rw [if_neg c3, if_neg (by decide)]
     exact ih (upd (Mach.tr5 r n t m t1 q 0) 15 0) _ (by dsimp only; omega) h9 h3 rfl fun i hi => row_un hi
   ·refine ⟨f2, _, Mach.qtake_5R (w := (rowD (2 * n + 2)).W f2) (l := rowOf (2 * n + 2) f2) hc hk h0 rfl hvq h9 (by omega) hd c1 c2, fun m2 hm2 => ⟨by omega, ?_⟩⟩
    dsimp only at hm1 hm2
    simp only [hq, hprog]
    rw [if_neg c1, if_pos (by omega)]
    exact ih (Mach.tr5 r n t m t1 q d) _ (by dsimp only; omega) h9 h3 rfl fun i hi => row_un hi
theorem take_core (hn : n = 2 ^ j) (hj0 : 1 ≤ j) (hj : j ≤ 10) (hc : cs[c]? = some cl) (hk : Mach.HasTake cl 0 n b) (h0 : pre.length = c) (hP : ∀ p r said h, Pm h → Pv (k, Mach.T cs c p r pre said) h)
  (hend : ∀ (q : Option Nat) r', r' 0 = q.getD 0 → r' 1 = yes q.isSome → r' 9 = 0 → r' 3 = v3 → ∃ t', Mach.onF 26 (Mach.T cs c (b + 19) r' pre said) = some t')
  {Q : Option Nat → PlS → Prop} (hQ : ∀ (q : Option Nat) r' (s' : PlS), r' 0 = q.getD 0 → r' 1 = yes q.isSome → r' 9 = 0 → r' 3 = v3 → Mach.onF 26 (Mach.T cs c (b + 19) r' pre said) = some s'.t → (∀ i, i < 2 * n + 2 → s'.f i = s'.g i) → (rowD (2 * n + 2)).ok s'.f → Q q s')
  {r : Nat → Nat} {s : PlS} (h9 : r 9 = 0) (h3 : r 3 = v3) (ht : s.t = Mach.T cs c b r pre said) (hfg : ∀ i, i < 2 * n + 2 → s.f i = s.g i) :
  TakeT (playAcc (rowD (2 * n + 2)) addr (2 * n + 2) K A Z Pv hPv sb says turn fin wg k Pm) n s Q := by
 have hle : n ≤ 1024 := by rw [hn]; exact pow_le hj
 have hpos : 2 ≤ n := by have := Nat.pow_le_pow_right (n := 2) (by omega) hj0; omega
 unfold TakeT
 refine take_draw hn hj0 hj hc hk h0 hP (fun r' e0 e1 e9 e3 => hend none r' e0 e1 e9 e3) (fun r' s' e0 e1 e9 e3 ho a b => ?_) (fun r t m q t1 s e9 e3 htl hm ht hfg ok => ?_) h9 h3 ht hfg
 ·exact hQ none r' s' e0 e1 e9 e3 ho a b
 have hmod : m < n := by rw [← hm]; exact Nat.mod_lt _ (by omega)
 have e2 : 2 + 2 * m = 2 * m + 2 := by omega
 have e4 : 3 + 2 * m = 2 * m + 3 := by omega
 obtain ⟨tn, htn⟩ : ∃ tn, (t + n) % 18446744073709551616 = tn := ⟨_, rfl⟩
 dsimp only
 rw [hm, e2, e4, htn]
 refine acc_go (op := 1) rfl row_ok0 hfg (by rw [ht]; exact hP _ _ _) fun f1 ok1 => ?_
 obtain ⟨v, hv⟩ : ∃ v, f1 (2 * m + 3) = v := ⟨_, rfl⟩
 refine ⟨f1, _, by rw [ht]; exact Mach.qtake_12 (w := (rowD (2 * n + 2)).W f1) (l := rowOf (2 * n + 2) f1) hc hk h0 rfl (by rw [rowOf_get (by omega), hv]) e9 (by omega) htn, fun m1 hm1 => ⟨by omega, ?_⟩⟩
 dsimp only
 rw [hv]
 obtain ⟨t', ho⟩ := hend (some v) (Mach.trS r n t m t1 q v tn) rfl rfl e9 e3
 refine acc_go (op := 2) rfl row_ok0 (fun i hi => row_un hi) (hP _ _ _) fun f2 ok2 => ⟨upd f2 (2 * m + 2) tn, _, Mach.qtake_14 (w := (rowD (2 * n + 2)).W f2) (l := rowOf (2 * n + 2) f2) hc hk h0 rfl (by omega) (by rw [rowOf_len]; omega) row_set0 (Mach.onF_more (k := 2) ho), fun m2 hm2 => ⟨by omega, ?_⟩⟩
 exact hQ (some v) (Mach.trS r n t m t1 q v tn) _ rfl rfl e9 e3 ho (fun i hi => row_un hi) (row_upd ok2 (by rw [← htn]; exact Nat.mod_lt _ (by decide)))
theorem put_plays (hn : n = 2 ^ j) (hj0 : 1 ≤ j) (hj : j ≤ 10) (hv : v < 18446744073709551616) (hc : cs[c]? = some (Mach.qputCl n v)) (h0 : pre.length = c) (hP : ∀ p r said h, Pm h → Pv (k, Mach.T cs c p r pre said) h)
  (nxt : ∀ told, ∃ t', Mach.onF 20 (Mach.Bt cs (c + 1) (pre ++ [(true, told)])) = some t') {s : PlS} (ht : s.t = Mach.T cs c 1 (upd (fun _ => 0) 0 v) pre []) (hfg : ∀ i, i < 2 * n + 2 → s.f i = s.g i)
  {Q : Bool → PlS → Prop} (hQ : ∀ q s', Mach.onF 20 (Mach.Bt cs (c + 1) (pre ++ [(true, [yes q])])) = some s'.t → (∀ i, i < 2 * n + 2 → s'.f i = s'.g i) → (rowD (2 * n + 2)).ok s'.f → Q q s') :
  PutT (playAcc (rowD (2 * n + 2)) addr (2 * n + 2) K A Z Pv hPv sb says turn fin wg k Pm) n v s Q := by
 have hle : n ≤ 1024 := by rw [hn]; exact pow_le hj
 have hpos : 2 ≤ n := by have := Nat.pow_le_pow_right (n := 2) (by omega) hj0; omega
 unfold PutT
 obtain ⟨u0, hu0⟩ := nxt [0]
 obtain ⟨u1, hu1⟩ := nxt [1]
 refine put_draw (v0 := v) hn hj0 hj hc Mach.qput_has h0 hP (fun r' e1 => ⟨u0, Mach.qput_end hc h0 e1 hu0⟩) (fun r' s' e1 ho a b => ?_) (fun r t m q t1 s e9 e0 htl hm ht1 ht hfg ok => ?_) rfl rfl ht hfg
 ·refine hQ false s' ?_ a b
  rw [Mach.qput_end hc h0 e1 hu0] at ho
  rw [← ho]; exact hu0
 ·have hmod : m < n := by rw [← hm]; exact Nat.mod_lt _ (by omega)
  have e2 : 2 + 2 * m = 2 * m + 2 := by omega
  have e4 : 3 + 2 * m = 2 * m + 3 := by omega
  dsimp only
  rw [hm, e2, e4, ht1]
  have ho := Mach.qput_end (r := Mach.qrS r n t m q t1) hc h0 rfl hu1
  refine acc_go (op := 2) rfl row_ok0 hfg (by rw [ht]; exact hP _ _ _) fun f1 ok1 => ⟨upd f1 (2 * m + 3) v, _, by rw [ht]; exact Mach.qput_12 (w := (rowD (2 * n + 2)).W f1) (l := rowOf (2 * n + 2) f1) hc Mach.qput_has h0 rfl e0 (by omega) (by rw [rowOf_len]; omega) row_set0, fun m1 hm1 => ⟨by omega, ?_⟩⟩
  refine acc_go (op := 2) rfl row_ok0 (fun i hi => row_un hi) (hP _ _ _) fun f2 ok2 => ⟨upd f2 (2 * m + 2) t1, _, Mach.qput_13 (w := (rowD (2 * n + 2)).W f2) (l := rowOf (2 * n + 2) f2) hc Mach.qput_has h0 rfl (by omega) (by rw [rowOf_len]; omega) row_set0 ho, fun m2 hm2 => ⟨by omega, ?_⟩⟩
  exact hQ true _ hu1 (fun i hi => row_un hi) (row_upd ok2 (by rw [← ht1]; exact Nat.mod_lt _ (by decide)))
theorem take_plays (hn : n = 2 ^ j) (hj0 : 1 ≤ j) (hj : j ≤ 10) (hc : cs[c]? = some (Mach.qtakeCl n)) (h0 : pre.length = c) (hP : ∀ p r said h, Pm h → Pv (k, Mach.T cs c p r pre said) h)
  (nxt : ∀ told, ∃ t', Mach.onF 20 (Mach.Bt cs (c + 1) (pre ++ [(true, told)])) = some t') {s : PlS} (ht : s.t = Mach.T cs c 0 (fun _ => 0) pre []) (hfg : ∀ i, i < 2 * n + 2 → s.f i = s.g i)
  {Q : Option Nat → PlS → Prop} (hQ : ∀ (q : Option Nat) s', Mach.onF 20 (Mach.Bt cs (c + 1) (pre ++ [(true, [q.getD 0, yes q.isSome])])) = some s'.t → (∀ i, i < 2 * n + 2 → s'.f i = s'.g i) → (rowD (2 * n + 2)).ok s'.f → Q q s') :
  TakeT (playAcc (rowD (2 * n + 2)) addr (2 * n + 2) K A Z Pv hPv sb says turn fin wg k Pm) n s Q := by
 refine take_core (v3 := 0) hn hj0 hj hc Mach.qtake_has h0 hP (fun q r' e0 e1 e9 e3 => ?_) (fun q r' s' e0 e1 e9 e3 ho a b => ?_) rfl rfl ht hfg
 ·obtain ⟨u, hu⟩ := nxt [q.getD 0, yes q.isSome]
  exact ⟨u, Mach.qtake_end hc h0 e0 e1 hu⟩
 ·obtain ⟨u, hu⟩ := nxt [q.getD 0, yes q.isSome]
  refine hQ q s' ?_ a b
  rw [Mach.qtake_end hc h0 e0 e1 hu] at ho
  rw [← ho]; exact hu
def queueAt (n kd v : Nat) (cs : List Mach.Cl) (c : Nat) (pre : List (Bool × List Nat)) : Mach.Th := if kd = 0 then Mach.T cs c 1 (upd (fun _ => 0) 0 v) pre [] else if kd = 1 then Mach.T cs c 0 (fun _ => 0) pre [] else Mach.T cs c 1 (upd (fun _ => 0) 3 n) pre []
theorem queue_on {kd : Nat} (hn : n = 2 ^ j) (hj : j ≤ 10) (hv : v < 18446744073709551616) (hc : cs[c]? = some (callCl n kd v)) (h0 : pre.length = c) : Mach.onF 20 (Mach.Bt cs c pre) = some (queueAt n kd v cs c pre) := by
 have hle : n ≤ 1024 := by rw [hn]; exact pow_le hj
 rw [Mach.on_begin (f := 19) hc h0]
 unfold callCl at hc
 unfold queueAt
 by_cases k0 : kd = 0
 ·rw [if_pos k0] at hc ⊢; exact Mach.qput_on hc h0 hv
 ·rw [if_neg k0] at hc ⊢
  by_cases k1 : kd = 1
  ·rw [if_pos k1] at hc ⊢; exact Mach.qtake_on hc h0
  ·rw [if_neg k1] at hc ⊢; exact Mach.qdrain_on hc h0 (by omega)
def QueueCalls (n : Nat) (cs : List Mach.Cl) : Prop := ∀ (i : Nat) (cl : Mach.Cl), cs[i]? = some cl → ∃ kd v, cl = callCl n kd v ∧ v < 18446744073709551616
theorem queue_next (hn : n = 2 ^ j) (hj : j ≤ 10) (hcs : QueueCalls n cs) (h0 : pre.length = c) : ∃ t', Mach.onF 20 (Mach.Bt cs c pre) = some t' := by
 cases h : cs[c]? with
 | none => exact ⟨_, Mach.on_over (f := 19) h⟩
 | some cl =>
  obtain ⟨kd, v, rfl, hv⟩ := hcs c cl h
  exact ⟨_, queue_on hn hj hv h h0⟩
end
section
variable {n j : Nat} {cs : List Mach.Cl} {cl : Mach.Cl} {c v b v0 v3 : Nat} {pre : List (Bool × List Nat)} {said : List Nat}
theorem put_goodN (hn : n = 2 ^ j) (hj0 : 1 ≤ j) (hj : j ≤ 10) (hv : v < 18446744073709551616) (hc : cs[c]? = some (Mach.qputCl n v)) (h0 : pre.length = c)
  (nxt : ∀ told, ∃ t', Mach.onF 20 (Mach.Bt cs (c + 1) (pre ++ [(true, told)])) = some t' ∧ GoodT (rowD (2 * n + 2)) t') : ∀ (N : Nat) (r : Nat → Nat), r 9 = 0 → r 0 = v → GoodN (rowD (2 * n + 2)) N (Mach.T cs c 1 r pre []) := by
 have hle : n ≤ 1024 := by rw [hn]; exact pow_le hj
 have hpos : 2 ≤ n := by have := Nat.pow_le_pow_right (n := 2) (by omega) hj0; omega
 obtain ⟨u0, hu0, g0⟩ := nxt [0]
 obtain ⟨u1, hu1, g1⟩ := nxt [1]
 have hk := Mach.qput_has (n := n) (v := v)
 intro N
 induction N with
 | zero => exact fun _ _ _ => trivial
 | succ N ih =>
  intro r h9 hr0
  refine goodN_go (m := (1, 0)) row_ok0 fun f1 ok1 => ?_
  have htl := ok1 0 (by omega)
  obtain ⟨t, ht0⟩ : ∃ t, f1 0 = t := ⟨_, rfl⟩
  rw [ht0] at htl
  obtain ⟨m, hm⟩ : ∃ m, t % n = m := ⟨_, rfl⟩
  have hmod : m < n := by rw [← hm]; exact Nat.mod_lt _ (by omega)
  have hand : (t &&& (n - 1)) % 18446744073709551616 = m := by rw [Mach.qmask_mod hn, hm]; omega
  obtain ⟨t1, ht1⟩ : ∃ t1, (t + 1) % 18446744073709551616 = t1 := ⟨_, rfl⟩
  refine ⟨f1, _, Mach.qput_0 (w := (rowD (2 * n + 2)).W f1) (l := rowOf (2 * n + 2) f1) hc hk h0 rfl (by rw [rowOf_get (by omega), ht0]) h9 (by omega) hand (by omega), ok1, ?_⟩
  refine goodN_le (goodN_go (m := (1, 2 * m + 2)) row_ok0 fun f2 ok2 => ?_)
  obtain ⟨q, hq⟩ : ∃ q, f2 (2 * m + 2) = q := ⟨_, rfl⟩
  have hvq : (rowOf (2 * n + 2) f2)[2 * m + 2]? = some q := by rw [rowOf_get (by omega), hq]
  obtain ⟨d, hd⟩ : ∃ d, (q + 18446744073709551616 - t) % 18446744073709551616 = d := ⟨_, rfl⟩
  by_cases c1 : 9223372036854775808 ≤ d
  ·exact ⟨f2, _, Mach.qput_4F (w := (rowD (2 * n + 2)).W f2) (l := rowOf (2 * n + 2) f2) hc hk h0 rfl hvq (by omega) hd c1 (Mach.qput_end hc h0 rfl hu0), ok2, g0 N⟩
  ·by_cases c2 : d = 0
   ·rw [c2] at hd
    refine ⟨f2, _, Mach.qput_4T (w := (rowD (2 * n + 2)).W f2) (l := rowOf (2 * n + 2) f2) hc hk h0 rfl hvq h9 (by omega) hd ht1, ok2, ?_⟩
    refine goodN_le (goodN_go (m := (5, 0)) row_ok0 fun f3 ok3 => ?_)
    by_cases c3 : f3 0 = t
    ·refine ⟨upd f3 0 t1, _, Mach.qput_10T (w := (rowD (2 * n + 2)).W f3) (l := rowOf (2 * n + 2) f3) hc hk h0 rfl (by rw [rowOf_get (by omega), c3]) h9 row_set0, row_upd ok3 (by omega), ?_⟩
     refine goodN_le (goodN_go (m := (2, 2 * m + 3)) row_ok0 fun f4 ok4 => ⟨upd f4 (2 * m + 3) v, _, Mach.qput_12 (w := (rowD (2 * n + 2)).W f4) (l := rowOf (2 * n + 2) f4) hc hk h0 rfl hr0 (by omega) (by rw [rowOf_len]; omega) row_set0, row_upd ok4 hv, ?_⟩)
     exact goodN_le (goodN_go (m := (2, 2 * m + 2)) row_ok0 fun f5 ok5 => ⟨upd f5 (2 * m + 2) t1, _, Mach.qput_13 (w := (rowD (2 * n + 2)).W f5) (l := rowOf (2 * n + 2) f5) hc hk h0 rfl (by omega) (by rw [rowOf_len]; omega) row_set0 (Mach.qput_end hc h0 rfl hu1), row_upd ok5 (by omega), g1 N⟩)
    ·exact ⟨f3, _, Mach.qput_10F (w := (rowD (2 * n + 2)).W f3) (l := rowOf (2 * n + 2) f3) hc hk h0 rfl (rowOf_get (by omega)) h9 c3, ok3, ih (upd (Mach.qr9 r n t m q t1) 15 0) h9 hr0⟩
   ·exact ⟨f2, _, Mach.qput_4R (w := (rowD (2 * n + 2)).W f2) (l := rowOf (2 * n + 2) f2) hc hk h0 rfl hvq h9 (by omega) hd c1 c2, ok2, ih (Mach.qr5 r n t m q d) h9 hr0⟩
theorem take_goodN (hn : n = 2 ^ j) (hj0 : 1 ≤ j) (hj : j ≤ 10) (hc : cs[c]? = some cl) (hk : Mach.HasTake cl 0 n b) (h0 : pre.length = c)
  (hend : ∀ (q : Option Nat) r', r' 0 = q.getD 0 → r' 1 = yes q.isSome → r' 9 = 0 → r' 3 = v3 → ∃ t', Mach.onF 26 (Mach.T cs c (b + 19) r' pre said) = some t' ∧ GoodT (rowD (2 * n + 2)) t') : ∀ (N : Nat) (r : Nat → Nat), r 9 = 0 → r 3 = v3 → GoodN (rowD (2 * n + 2)) N (Mach.T cs c b r pre said) := by
 have hle : n ≤ 1024 := by rw [hn]; exact pow_le hj
 have hpos : 2 ≤ n := by have := Nat.pow_le_pow_right (n := 2) (by omega) hj0; omega
 intro N
 induction N with
 | zero => exact fun _ _ _ => trivial
 | succ N ih =>
  intro r h9 h3
  refine goodN_go (m := (1, 1)) row_ok0 fun f1 ok1 => ?_
  have htl := ok1 1 (by omega)
  obtain ⟨t, ht0⟩ : ∃ t, f1 1 = t := ⟨_, rfl⟩
  rw [ht0] at htl
  obtain ⟨m, hm⟩ : ∃ m, t % n = m := ⟨_, rfl⟩
  have hmod : m < n := by rw [← hm]; exact Nat.mod_lt _ (by omega)
  have hand : (t &&& (n - 1)) % 18446744073709551616 = m := by rw [Mach.qmask_mod hn, hm]; omega
  obtain ⟨t1, ht1⟩ : ∃ t1, (t + 1) % 18446744073709551616 = t1 := ⟨_, rfl⟩
  obtain ⟨tn, htn⟩ : ∃ tn, (t + n) % 18446744073709551616 = tn := ⟨_, rfl⟩
  refine ⟨f1, _, Mach.qtake_0 (w := (rowD (2 * n + 2)).W f1) (l := rowOf (2 * n + 2) f1) hc hk h0 rfl (by rw [rowOf_get (by omega), ht0]) h9 (by omega) hand (by omega) ht1, ok1, ?_⟩
  refine goodN_le (goodN_go (m := (1, 2 * m + 2)) row_ok0 fun f2 ok2 => ?_)
  obtain ⟨q, hq⟩ : ∃ q, f2 (2 * m + 2) = q := ⟨_, rfl⟩
  have hvq : (rowOf (2 * n + 2) f2)[2 * m + 2]? = some q := by rw [rowOf_get (by omega), hq]
  obtain ⟨d, hd⟩ : ∃ d, (q + 18446744073709551616 - t1) % 18446744073709551616 = d := ⟨_, rfl⟩
  by_cases c1 : 9223372036854775808 ≤ d
  ·obtain ⟨t', ho, g⟩ := hend none (Mach.trN r n t m t1 q d) rfl rfl h9 h3
   exact ⟨f2, _, Mach.qtake_5F (w := (rowD (2 * n + 2)).W f2) (l := rowOf (2 * n + 2) f2) hc hk h0 rfl hvq (by omega) hd c1 ho, ok2, g N⟩
  ·by_cases c2 : d = 0
   ·rw [c2] at hd
    refine ⟨f2, _, Mach.qtake_5T (w := (rowD (2 * n + 2)).W f2) (l := rowOf (2 * n + 2) f2) hc hk h0 rfl hvq h9 (by omega) hd, ok2, ?_⟩
    refine goodN_le (goodN_go (m := (5, 1)) row_ok0 fun f3 ok3 => ?_)
    by_cases c3 : f3 1 = t
    ·refine ⟨upd f3 1 t1, _, Mach.qtake_10T (w := (rowD (2 * n + 2)).W f3) (l := rowOf (2 * n + 2) f3) hc hk h0 rfl (by rw [rowOf_get (by omega), c3]) h9 row_set0, row_upd ok3 (by omega), ?_⟩
     refine goodN_le (goodN_go (m := (1, 2 * m + 3)) row_ok0 fun f4 ok4 => ?_)
     obtain ⟨v, hv⟩ : ∃ v, f4 (2 * m + 3) = v := ⟨_, rfl⟩
     refine ⟨f4, _, Mach.qtake_12 (w := (rowD (2 * n + 2)).W f4) (l := rowOf (2 * n + 2) f4) hc hk h0 rfl (by rw [rowOf_get (by omega), hv]) h9 (by omega) htn, ok4, ?_⟩
     obtain ⟨t', ho, g⟩ := hend (some v) (Mach.trS r n t m t1 q v tn) rfl rfl h9 h3
     exact goodN_le (goodN_go (m := (2, 2 * m + 2)) row_ok0 fun f5 ok5 => ⟨upd f5 (2 * m + 2) tn, _, Mach.qtake_14 (w := (rowD (2 * n + 2)).W f5) (l := rowOf (2 * n + 2) f5) hc hk h0 rfl (by omega) (by rw [rowOf_len]; omega) row_set0 (Mach.onF_more (k := 2) ho), row_upd ok5 (by rw [← htn]; exact Nat.mod_lt _ (by decide)), g N⟩)
    ·exact ⟨f3, _, Mach.qtake_10F (w := (rowD (2 * n + 2)).W f3) (l := rowOf (2 * n + 2) f3) hc hk h0 rfl (rowOf_get (by omega)) h9 c3, ok3, ih (upd (Mach.tr5 r n t m t1 q 0) 15 0) h9 h3⟩
   ·exact ⟨f2, _, Mach.qtake_5R (w := (rowD (2 * n + 2)).W f2) (l := rowOf (2 * n + 2) f2) hc hk h0 rfl hvq h9 (by omega) hd c1 c2, ok2, ih (Mach.tr5 r n t m t1 q d) h9 h3⟩
theorem drain_good (hn : n = 2 ^ j) (hj0 : 1 ≤ j) (hj : j ≤ 10) (hc : cs[c]? = some (Mach.qdrainCl n)) (h0 : pre.length = c)
  (nxt : ∀ told, ∃ t', Mach.onF 20 (Mach.Bt cs (c + 1) (pre ++ [(true, told)])) = some t' ∧ GoodT (rowD (2 * n + 2)) t') :
  ∀ (m : Nat) (acc : List Nat) (r : Nat → Nat), m < 18446744073709551615 → r 9 = 0 → r 3 = m + 1 → GoodT (rowD (2 * n + 2)) (Mach.T cs c 1 r pre acc) := by
 intro m
 induction m with
 | zero =>
  intro acc r hm e9 e3 N
  refine take_goodN (v3 := 1) hn hj0 hj hc Mach.qdrain_has h0 (fun q r' e0 e1 e9 e3 => ?_) N r e9 e3
  cases q with
  | none => obtain ⟨u, hu, g⟩ := nxt acc; exact ⟨u, Mach.qdrain_none hc h0 e1 e9 hu, g⟩
  | some v => obtain ⟨u, hu, g⟩ := nxt (acc ++ [v]); exact ⟨u, Mach.qdrain_last hc h0 e0 e1 e9 e3 hu, g⟩
 | succ m ih =>
  intro acc r hm e9 e3 N
  refine take_goodN (v3 := m + 1 + 1) hn hj0 hj hc Mach.qdrain_has h0 (fun q r' e0 e1 e9 e3 => ?_) N r e9 e3
  cases q with
  | none => obtain ⟨u, hu, g⟩ := nxt acc; exact ⟨u, Mach.qdrain_none hc h0 e1 e9 hu, g⟩
  | some v => exact ⟨_, Mach.qdrain_more (k := m + 1) hc h0 e0 e1 e9 e3 (by omega) (by omega), ih (acc ++ [v]) (Mach.drS r' (m + 1)) (by omega) e9 rfl⟩
theorem queue_good (hn : n = 2 ^ j) (hj0 : 1 ≤ j) (hj : j ≤ 10) (hcs : QueueCalls n cs) : ∀ (m c : Nat) (pre : List (Bool × List Nat)), cs.length - c = m → pre.length = c → ∃ t', Mach.onF 20 (Mach.Bt cs c pre) = some t' ∧ GoodT (rowD (2 * n + 2)) t' := by
 have hle : n ≤ 1024 := by rw [hn]; exact pow_le hj
 have hpos : 2 ≤ n := by have := Nat.pow_le_pow_right (n := 2) (by omega) hj0; omega
 intro m
 induction m with
 | zero =>
  intro c pre hm h0
  have h : cs[c]? = none := List.getElem?_eq_none_iff.2 (by omega)
  exact ⟨_, Mach.on_over (f := 19) h, .over rfl⟩
 | succ m ih =>
  intro c pre hm h0
  have hlt : c < cs.length := by omega
  have h : cs[c]? = some cs[c] := List.getElem?_eq_getElem hlt
  obtain ⟨kd, v, e, hv⟩ := hcs c _ h
  rw [e] at h
  refine ⟨_, queue_on hn hj hv h h0, ?_⟩
  have nxt : ∀ told, ∃ t', Mach.onF 20 (Mach.Bt cs (c + 1) (pre ++ [(true, told)])) = some t' ∧ GoodT (rowD (2 * n + 2)) t' := fun told => ih (c + 1) _ (by omega) (by simp [h0])
  unfold queueAt
  unfold callCl at h
  by_cases k0 : kd = 0
  ·rw [if_pos k0] at h ⊢; exact fun N => put_goodN hn hj0 hj hv h h0 nxt N _ rfl rfl
  ·rw [if_neg k0] at h ⊢
   by_cases k1 : kd = 1
   ·rw [if_pos k1] at h ⊢
    refine fun N => take_goodN (v3 := 0) hn hj0 hj h Mach.qtake_has h0 (fun q r' e0 e1 e9 e3 => ?_) N _ rfl rfl
    obtain ⟨u, hu, g⟩ := nxt [q.getD 0, yes q.isSome]
    exact ⟨u, Mach.qtake_end h h0 e0 e1 hu, g⟩
   ·rw [if_neg k1] at h ⊢
    obtain ⟨m, rfl⟩ : ∃ m, n = m + 1 := ⟨n - 1, by omega⟩
    exact drain_good hn hj0 hj h h0 nxt m [] _ (by omega) rfl rfl
theorem queue_begin (hn : n = 2 ^ j) (hj0 : 1 ≤ j) (hj : j ≤ 10) (hcs : QueueCalls n cs) : ∃ t', Mach.onF 20 (Mach.Bt cs 0 []) = some t' ∧ Mach.onF (rowD (2 * n + 2)).fu { calls := cs } = some t' ∧ GoodT (rowD (2 * n + 2)) t' := by
 obtain ⟨t', h1, h2⟩ := queue_good hn hj0 hj hcs cs.length 0 [] (by omega) rfl
 exact ⟨t', h1, Mach.onF_more (k := 10) h1, h2⟩
end
end
end Go.Proofs.Ythghlchcjeocpaa
namespace Go.Proofs.Ythghlchcjeocpaa
open Go Go.PB
attribute [local irreducible] Mo Bin Eql Tr Wo Ap
section
section
variable {B : Hand} [Lets B] {L : List HProp} {x : B.X}
end
variable {B : Hand} [Lets B] {L F : List HProp} {x : B.X} {r b n k : Nat} {s : Nat → Nat} {row : List Nat}
theorem new_lone (hn : n = 2 ^ k) (hk0 : 1 ≤ k) (hk : k ≤ 10) :
  Tr Try.prog B 11 [.int .i64 n] L x fun v L' x' => ∃ r b, ∃ h : r ≠ b, ∃ s, v = .tuple #[.pointer (some ⟨r, 0, none⟩), .int .i64 0] ∧ RowAt n s [] ∧ L' = (queueAcc x r b n h).C s :: L ∧ x' = x := by
 have hle : n ≤ 1024 := by rw [hn]; exact pow_le hk
 refine (new_tr hn hk0 hk).mono ?_
 rintro v L' x' ⟨r, b, rfl, hne, rfl, rfl⟩
 refine ⟨r, b, hne, seqs n, rfl, ⟨by simp, rfl, by show 0 < 18446744073709551616; decide, fun i v hi => by simp at hi, fun i _ hi => ?_⟩, rfl, rfl⟩
 show seqs n (2 + 2 * ((0 + i) % n)) = (0 + i) % 18446744073709551616
 rw [Nat.zero_add, Nat.mod_eq_of_lt hi, Nat.mod_eq_of_lt (by omega)]
 unfold seqs
 rw [if_pos (by omega)]
 omega
theorem put_lone (h : r ≠ b) (hn : n = 2 ^ k) (hk0 : 1 ≤ k) (hk : k ≤ 10) (R : RowAt n s row) {v : Nat} (hv : v < 18446744073709551616) (hh : Has L ((queueAcc x r b n h).C s) F) :
  Tr Try.prog B 13 [.pointer (some ⟨r, 0, none⟩), .nilIface, .int .u64 v] L x fun v' L' x' => ∃ s', v' = .tuple #[.bool (decide (row.length < n)), .int .i64 0] ∧ RowAt n s' (if row.length < n then row ++ [v] else row) ∧ L' = (queueAcc x r b n h).C s' :: F ∧ x' = x :=
 (put_tr (A := queueAcc x r b n h) (queue_at h hn hk) hv (put_row hn hk0 hk R) hh).mono fun v' L' x' ⟨q, s', ⟨h1, h2⟩, h3, h4, h5⟩ => ⟨s', h1 ▸ h3, h2, h4, h5⟩
theorem take_lone (h : r ≠ b) (hn : n = 2 ^ k) (hk0 : 1 ≤ k) (hk : k ≤ 10) (R : RowAt n s row) (hh : Has L ((queueAcc x r b n h).C s) F) :
  Tr Try.prog B 14 [.pointer (some ⟨r, 0, none⟩), .nilIface] L x fun v' L' x' => ∃ s', row.head?.getD 0 < 18446744073709551616 ∧ v' = .tuple #[.int .u64 (row.head?.getD 0 : Nat), .bool row.head?.isSome, .int .i64 0] ∧ RowAt n s' row.tail ∧ L' = (queueAcc x r b n h).C s' :: F ∧ x' = x :=
 (take_tr (A := queueAcc x r b n h) (queue_at h hn hk) (take_row hn hk0 hk R) hh).mono fun v' L' x' ⟨q, s', ⟨h1, h2⟩, h3, h4, h5, h6⟩ => ⟨s', h1 ▸ h3, h1 ▸ h4, h2, h5, h6⟩
theorem drain_lone (h : r ≠ b) (hn : n = 2 ^ k) (hk0 : 1 ≤ k) (hk : k ≤ 10) (R : RowAt n s row) (hh : Has L ((queueAcc x r b n h).C s) F) :
  Tr Try.prog B 15 [.pointer (some ⟨r, 0, none⟩), .nilIface] L x fun v' L' x' => ∃ s' v, v' = .tuple #[v, .int .i64 0] ∧ RowAt n s' [] ∧ L' = (queueAcc x r b n h).C s' :: vec 1 v (row.map num) :: F ∧ x' = x :=
 (drain_tr (A := queueAcc x r b n h) (queue_at h hn hk) (drain_row hn hk0 hk n R.len R) hh).mono fun v' L' x' ⟨out, s', v, ⟨h1, h2⟩, h3, h4, h5⟩ => ⟨s', v, h3, h2, by rw [h4, h1, List.nil_append], h5⟩
theorem works_tr : Tr Try.prog B 9 [] L x fun v L' x' => v = .bool true ∧ L' = L ∧ x' = x := by
 refine Tr.post (R := fun v L' x' => ∃ c, v = .bool true ∧ L' = c :: L ∧ x' = x) ?_ (by rintro v L' x' ⟨c, rfl, rfl, rfl⟩; exact ⟨L, ⟨rfl, rfl, rfl⟩, fun h s => star_drop s⟩)
 refine tr_of_body Try.func9 rfl Try.ntmps9 (by simp) fun um Q _ hQ => ?_
 simp only [argE, Nat.zero_add, Nat.reduceAdd]
 repeat (first | refine we_seq ?_ | (refine wR ?_; try simp only [oS]) | refine wo_nil ?_ | refine wA ?_)
 refine wo_call (.cons rfl .nil) trivial (new_lone (n := 2) (k := 1) rfl (by omega) (by omega)) ?_
 rintro v L' x' ⟨r, b, h, s, rfl, R, rfl, rfl⟩
 repeat (first | refine we_seq ?_ | (refine wR ?_; try simp only [oS]) | refine wo_nil ?_ | refine wM ?_ | refine wA ?_ | (apply wo_po; apply mo_extract; exact rfl; exact rfl; exact gY))
 refine wo_call (.cons rfl (.cons rfl (.cons rfl .nil))) trivial (put_lone (k := 1) (v := 5) h rfl (by omega) (by omega) R (by omega) .here) ?_
 rintro v L' x' ⟨s, rfl, R, rfl, rfl⟩
 repeat (first | refine we_seq ?_ | (refine wR ?_; try simp only [oS]) | refine wo_nil ?_ | refine wM ?_ | refine wA ?_ | (apply wo_po; apply mo_extract; exact rfl; exact rfl; exact gY))
 refine wo_call (.cons rfl (.cons rfl .nil)) trivial (take_lone (k := 1) h rfl (by omega) (by omega) R .here) ?_
 rintro v L' x' ⟨s, _, rfl, R, rfl, rfl⟩
 repeat (first | refine we_seq ?_ | (refine wR ?_; try simp only [oS]) | refine wo_nil ?_ | refine wM ?_ | refine wA ?_ | (apply wo_po; apply mo_extract; exact rfl; exact rfl; exact gY))
 refine wo_call (.cons rfl (.cons rfl .nil)) trivial (take_lone (k := 1) h rfl (by omega) (by omega) R .here) ?_
 rintro v L' x' ⟨s, _, rfl, R, rfl, rfl⟩
 repeat (first | refine weqlT ?_ | refine we_seq ?_ | (refine wR ?_; try simp only [oS]) | refine wo_nil ?_ | refine wM ?_ | refine wA ?_ | refine wK ?_ | (apply wo_po; apply mo_extract; exact rfl; exact rfl; exact gY) | (apply wo_po; apply mo_not; exact rfl; exact gY) | (apply wo_po; apply mo_bin; exact rfl; exact rfl; exact bin_eql; exact gY) | refine we_ret ?_)
 (first | refine or1 Try.func9 Try.results9 hQ rfl ?_ | refine on1 Try.func9 Try.results9 hQ rfl ?_)
 exact ⟨_, rfl, rfl, rfl⟩
structure DoAt (L : List HProp) (a : Option Addr) (l : List (Int × Nat)) : Prop where
 rng : ∀ y ∈ l, (-9223372036854775808 ≤ y.1 ∧ y.1 ≤ 9223372036854775807) ∧ y.2 < 18446744073709551616
 at_ : ∀ i y, l[i]? = some y → ∃ b o, a = some ⟨b, o, none⟩ ∧ Rd L b (o + 2 * i) (.int .i64 y.1) ∧ Rd L b (o + 2 * i + 1) (.int .u64 y.2)
end
section
def RdTr (L : List HProp) (a : Option Addr) (l : List (Nat × (Int × Int))) : Prop := ∀ (i : Nat) t, l[i]? = some t → ∃ b o, a = some ⟨b, o, none⟩ ∧ Rds L b (o + 3 * i) [.int .i64 (t.1 : Nat), .int .u8 t.2.1, .int .i64 t.2.2]
def RdI (L : List HProp) (a : Option Addr) (l : List Nat) : Prop := ∀ (i : Nat) k, l[i]? = some k → ∃ b o, a = some ⟨b, o, none⟩ ∧ Rd L b (o + i) (.int .i64 (k : Nat))
theorem RdTr.there {L : List HProp} {a : Option Addr} {l : List (Nat × (Int × Int))} {d : HProp} (h : RdTr L a l) : RdTr (d :: L) a l := fun i t hi => by
 obtain ⟨b, o, e, r⟩ := h i t hi
 exact ⟨b, o, e, fun j v hj => .there (r j v hj)⟩
theorem RdI.there {L : List HProp} {a : Option Addr} {l : List Nat} {d : HProp} (h : RdI L a l) : RdI (d :: L) a l := fun i t hi => by
 obtain ⟨b, o, e, r⟩ := h i t hi
 exact ⟨b, o, e, .there r⟩
section
variable {B : Hand} [Lets B] {L F : List HProp} {x : B.X}
end
end
end Go.Proofs.Ythghlchcjeocpaa
namespace Go.PB
open Go
section
def Dup (c : HProp) : Prop := ∀ (L : List HProp) (h : Hp), Star (c :: L) h → Star (c :: c :: L) h
theorem dup_fro {b o : Nat} {vs : List Value} : Dup (fro b o vs) := fun L h s => fro_two s
theorem star_tail : ∀ {M L : List HProp} {h : Hp}, Star (M ++ L) h → Star (all L :: M) h
 | [], L, h, s => star_shut (L := []) (by rw [List.append_nil]; exact s)
 | c :: M, L, h, s => star_swap (star_map (L := M ++ L) s (fun _ z => z) fun _ z => star_tail z)
end
end Go.PB
namespace Go.Proofs.Ythghlchcjeocpaa
open Go Go.PB
attribute [local irreducible] Mo Bin Eql Tr Wo Ap Wle
section
def doneOf (t : Mach.Th) : List (List Nat) := (t.ans.filter (·.1)).map (·.2)
end
section
structure ThRo (Ro : HProp) (p8 ib rb gt qb qo nt qc gb gc k r : Nat) (a : Option Addr) (c : Nat) (l : List (Int × Nat)) : Prop where
 h1 : Rd [Ro] p8 0 (.slice (some ⟨qb, qo, none⟩) nt qc)
 h2 : Rd [Ro] qb (qo + k) (.slice a l.length c)
 h3 : ∀ (i : Nat) y, l[i]? = some y → ∃ b o, a = some ⟨b, o, none⟩ ∧ Rds [Ro] b (o + 2 * i) [.int .i64 y.1, .int .u64 (y.2 : Nat)]
 h4 : Rd [Ro] ib 0 (.int .i64 (k : Nat))
 h5 : Rd [Ro] rb 0 (.pointer (some ⟨r, 0, none⟩))
 h6 : Rd [Ro] gt 0 (.slice (some ⟨gb, 0, none⟩) nt gc)
 hk : k < nt
 hl : l.length ≤ 16
 ok : ∀ y ∈ l, (-9223372036854775808 ≤ y.1 ∧ y.1 ≤ 9223372036854775807) ∧ y.2 < 18446744073709551616
section
variable {n j r b gb gd k : Nat} {sb says turn fin wg : Nat}
end
end
end Go.Proofs.Ythghlchcjeocpaa
namespace Go.Proofs.Ythghlchcjeocpaa
open Go Go.PB
attribute [local irreducible] Mo Bin Eql Tr Wo Ap
section
section
variable {B : Hand} [Lets B] {L F G : List HProp} {x : B.X} {n k : Nat}
theorem RowAt.seqs (h2 : 2 ≤ n) (hle : n ≤ 1024) : RowAt n (seqs n) [] := by
 refine ⟨by simp, rfl, by show 0 < 18446744073709551616; decide, fun i v hi => by simp at hi, fun i _ hi => ?_⟩
 show Go.Proofs.Ythghlchcjeocpaa.seqs n (2 + 2 * ((0 + i) % n)) = (0 + i) % 18446744073709551616
 rw [Nat.zero_add, Nat.mod_eq_of_lt hi, Nat.mod_eq_of_lt (by omega)]
 unfold Go.Proofs.Ythghlchcjeocpaa.seqs
 rw [if_pos (by omega)]
 omega
theorem and_self_pow {m : Nat} (h1 : 2 ≤ m) (h2 : m ≤ 1024) : (m &&& (m - 1) = 0) ↔ ∃ k, 1 ≤ k ∧ k ≤ 10 ∧ m = 2 ^ k := by
 constructor
 ·intro h
  have key : ∀ m ∈ List.range 1025, m &&& (m - 1) = 0 → m = 0 ∨ m = 1 ∨ ∃ k ∈ List.range 11, 1 ≤ k ∧ m = 2 ^ k := by decide +kernel
  rcases key m (by simp; omega) h with h0 | h0 | ⟨k, hk, h0, h3⟩
  ·omega
  ·omega
  ·exact ⟨k, h0, by simp at hk; omega, h3⟩
 ·rintro ⟨k, _, hk, rfl⟩
  have key : ∀ k ∈ List.range 11, (2 ^ k) &&& (2 ^ k - 1) = 0 := by decide +kernel
  exact key k (by simp; omega)
theorem new_nopow {n : Int} (h : ¬ ∃ k : Nat, 1 ≤ k ∧ k ≤ 10 ∧ n = ((2 ^ k : Nat) : Int)) :
  Tr Try.prog B 11 [.int .i64 n] L x fun v L' x' => v = .tuple #[.pointer none, .int .i64 2] ∧ L' = L ∧ x' = x := by
 by_cases c1 : n < 2
 ·refine tr_of_body Try.func11 rfl Try.ntmps11 (by simp) fun um Q _ hQ => ?_
  simp only [argE, Nat.zero_add, Nat.reduceAdd]
  repeat (first | refine wlssT ?_ | refine we_seq ?_ | (refine wR ?_; try simp only [oS]) | refine wo_nil ?_ | refine wM ?_ | refine wA ?_ | (apply wo_no; exact rfl) | refine wK ?_ | refine wT ?_ | refine we_ret ?_)
  (first | refine or2 Try.func11 Try.results11 hQ rfl rfl ?_ | refine on2 Try.func11 Try.results11 hQ rfl rfl ?_)
  exact ⟨rfl, rfl, rfl⟩
 by_cases c2 : 1024 < n
 ·refine tr_of_body Try.func11 rfl Try.ntmps11 (by simp) fun um Q _ hQ => ?_
  simp only [argE, Nat.zero_add, Nat.reduceAdd]
  repeat (first | refine wlssF ?_ | refine wgtrT ?_ | refine we_seq ?_ | (refine wR ?_; try simp only [oS]) | refine wo_nil ?_ | refine wM ?_ | refine wA ?_ | (apply wo_no; exact rfl) | refine wK ?_ | refine wJ ?_ | refine wT ?_ | refine we_ret ?_)
  (first | refine or2 Try.func11 Try.results11 hQ rfl rfl ?_ | refine on2 Try.func11 Try.results11 hQ rfl rfl ?_)
  exact ⟨rfl, rfl, rfl⟩
 obtain ⟨n, rfl⟩ : ∃ m : Nat, n = m := ⟨n.toNat, by omega⟩
 have hand : ¬ IntKind.i64.wrap (BitVec.ofInt IntKind.i64.bits (n : Int) &&& BitVec.ofInt IntKind.i64.bits ((n : Int) - 1)).toNat = 0 := by
  have e1 : ((n : Int) - 1) = ((n - 1 : Nat) : Int) := by omega
  rw [e1, and_i64 (by omega) (by omega)]
  intro h0
  obtain ⟨k, k1, k2, e⟩ := (and_self_pow (by omega) (by omega)).1 (show n &&& (n - 1) = 0 by omega)
  exact h ⟨k, k1, k2, by rw [e]⟩
 obtain ⟨q, hq⟩ : ∃ q, IntKind.i64.wrap (BitVec.ofInt IntKind.i64.bits (n : Int) &&& BitVec.ofInt IntKind.i64.bits ((n : Int) - 1)).toNat = q := ⟨_, rfl⟩
 rw [hq] at hand
 refine tr_of_body Try.func11 rfl Try.ntmps11 (by simp) fun um Q _ hQ => ?_
 simp only [argE, Nat.zero_add, Nat.reduceAdd]
 repeat (first | (apply wo_po; apply mo_bin; exact rfl; exact rfl; apply bin_and; exact hq; exact gY) | refine wlssF ?_ | refine wgtrF ?_ | refine wneqT ?_ | refine we_seq ?_ | (refine wR ?_; try simp only [oS]) | refine wo_nil ?_ | refine wM ?_ | refine wA ?_ | refine wJ ?_ | refine wsub ?_ | refine wT ?_ | refine we_ret ?_)
 (first | refine or2 Try.func11 Try.results11 hQ rfl rfl ?_ | refine on2 Try.func11 Try.results11 hQ rfl rfl ?_)
 exact ⟨rfl, rfl, rfl⟩
end
end
end Go.Proofs.Ythghlchcjeocpaa
namespace Go.Proofs.Ythghlchcjeocpaa
open Go Go.PB
attribute [local irreducible] Mo Bin Eql Tr Wo Ap Wle
section
theorem startF_keep {g : Game} : ∀ {ts : List (Thr g)} {s : g.σ}, (∀ t ∈ ts, ∀ s, (t.ini s).1 = s) → (startF ts s).1 = s
 | [], s, _ => rfl
 | t :: ts, s, h => by
  show (startF ts (t.ini s).1).1 = s
  rw [h t (by simp) s]
  exact startF_keep fun u hu => h u (by simp [hu])
section
variable {D : Wds} {U : (Nat → Nat) → HProp} {Pv : Nat × Mach.Th → HProp} {F : List HProp}
theorem rel_step {p : PS (mG D U Pv)} {k : Int} (h : ∃ st, Rel p st) : ∃ st, Rel (takeF p k).1 st := by
 obtain ⟨st, h⟩ := h
 by_cases h0 : k < 0
 ·have ht : takeF p k = (p, false) := by unfold takeF; rw [if_pos h0]
  rw [ht]; exact ⟨st, h⟩
 ·obtain ⟨n, rfl⟩ : ∃ n : Nat, k = n := ⟨k.toNat, by omega⟩
  obtain ⟨st', _, h2, _⟩ := take_rel h n
  exact ⟨st', h2⟩
theorem rel_start {ts : List (Thr (mG D U Pv))} {cc : List (List Mach.Cl)} {s0 : (mG D U Pv).σ} (hb : Begins D U Pv 0 ts cc) (h0 : D.ok s0) : ∃ st, Rel (D := D) (U := U) (Pv := Pv) ⟨(startF ts s0).1, (startF ts s0).2, []⟩ st := by
 obtain ⟨l, h1, h2, h3, h4, h5⟩ := begin_rel ts cc 0 s0 hb
 exact ⟨⟨D.W s0, l, []⟩, ⟨congrArg D.W h4.symm, (startF_len ts (show (mG D U Pv).σ from s0)).trans h2.symm, fun k => (h5 k).trans (by rw [Nat.zero_add]), rfl, Nat.zero_le _, h3, (show D.ok (startF ts (show (mG D U Pv).σ from s0)).1 from h4.symm ▸ h0)⟩⟩
theorem rel_cut {p : PS (mG D U Pv)} {st : Mach.St} (h : Rel p st) {n : Nat} (hn : n = st.l.length) : cutN (mG D U Pv) p.qs n = Mach.St.cut st := by
 subst hn
 unfold cutN Mach.St.cut
 apply List.filter_congr
 intro k _
 have hq := h.qs k
 cases hl : st.l[k]? with
 | none => rw [hl] at hq; rw [hq]; rfl
 | some t =>
  rw [hl] at hq
  rw [hq]
  show ((mPlan D (k, t)).isSome) = !t.over
  unfold mPlan
  cases ho : t.over <;> simp [ho]
theorem pv_list {qs : List (Nat × Mach.Th)} {l : List Mach.Th} (hq : ∀ k : Nat, qs[k]? = (l[k]?).map fun t => (k, t)) : qs.map Pv = l.mapIdx fun k t => Pv (k, t) := by
 apply List.ext_getElem?
 intro k
 rw [List.getElem?_map, List.getElem?_mapIdx, hq k]
 cases l[k]? <;> rfl
theorem mplays_tr {oa ta : Option Addr} {on oc tn tc : Nat} {order : List Int} {ts : List (Thr (mG D U Pv))} {cc : List (List Mach.Cl)} {s0 : (mG D U Pv).σ} (hb : Begins D U Pv 0 ts cc) (h0 : D.ok s0) (hini : ∀ t ∈ ts, ∀ s, (t.ini s).1 = s) (hts : ∀ t ∈ ts, ThrOk (mG D U Pv) t.ini t.fv t.M) (h1 : 0 < ts.length) (h16 : ts.length ≤ 16) (hor : order.length ≤ 16384)
  (hrt : RdsO F ta tn (ts.map Thr.fv)) (hro : RdsO F oa on (order.map fun k => .int .i64 k)) :
  Tr Try.prog mT 32 [.slice oa on oc, .slice ta tn tc] (U s0 :: all (ts.map Thr.M) :: F) .idle fun v L' x' =>
   ∃ tv cv st f', v = .tuple #[.agg #[tv, cv], .int .i64 0] ∧ x' = .idle ∧ Mach.play D.fu 16385 (D.W s0) (order.map fun k => if k < 0 then none else some k.toNat) cc = some st ∧ st.w = D.W f' ∧ st.tr.length ≤ 16384 ∧ st.l.length = cc.length ∧
    L' = vec 3 tv (trCP (st.tr.map fun e => (e.1, mkII e.2))) :: vec 1 cv (cutC (Mach.St.cut st)) :: U f' :: all (st.l.mapIdx fun k t => Pv (k, t)) :: F := by
 obtain ⟨st, hp, hr, hl⟩ := play_rel (o := order) hb h0
 refine Tr.mono (plays_tr (g := mG D U Pv) (order := order) (ts := ts) (s0 := s0) (fun p => ∃ st, Rel p st) (fun j hj => ?_) (rel_start hb h0) (fun p k h => rel_step h) (fun p ⟨st, h⟩ _ => h.ok) (fun _ _ z => z) hts h1 h16 hor hrt hro) ?_
 ·have e : (startF (ts.take j) s0).1 = s0 := startF_keep fun t ht => hini t (List.mem_of_mem_take ht)
  rw [e]; exact h0
 ·rintro v L' x' ⟨tv, cv, rfl, rfl, rfl⟩
  refine ⟨tv, cv, st, (playF ts s0 order).s, rfl, rfl, hp, hr.w, hr.le, hl, ?_⟩
  rw [hr.tr, rel_cut hr (by rw [hl, hb.len])]
  exact congrArg (fun z => vec 3 tv (trCP (st.tr.map fun e => (e.1, mkII e.2))) :: vec 1 cv (cutC (Mach.St.cut st)) :: U (playF ts s0 order).s :: all z :: F) (pv_list (Pv := Pv) hr.qs)
end
end
end Go.Proofs.Ythghlchcjeocpaa
namespace Go.Proofs.Ythghlchcjeocpaa
open Go Go.PB
attribute [local irreducible] Mo Bin Eql Tr Wo Ap
section
section
variable {B : Hand} [Lets B] {L F : List HProp} {x : B.X} {v0 : Option Addr} {gv : Value} {v : Nat}
def NoQueue (L : List HProp) (v : Option Addr) : Prop := v = none ∨ ∃ r, v = some ⟨r, 0, none⟩ ∧ Rd L r 2 (.slice none 0 0)
theorem there_nil (h : NoQueue L v0) : Tr Try.prog B 41 [.pointer v0] L x fun v L' x' => v = .bool false ∧ L' = L ∧ x' = x := by
 rcases h with rfl | ⟨r, rfl, hr⟩
 ·refine tr_of_body Try.func41 rfl Try.ntmps41 (by simp) fun um Q _ hQ => ?_
  simp only [argE, Nat.zero_add, Nat.reduceAdd]
  repeat (first | refine we_seq ?_ | (refine wR ?_; try simp only [oS]) | refine wo_nil ?_ | refine wM ?_ | refine wA ?_ | (apply wo_no; exact rfl) | refine wJ ?_ | (apply wo_po; apply mo_bin; exact rfl; exact rfl; apply bin_ne; apply eql_ptr_nil; exact gY) | refine we_ret ?_)
  (first | refine or1 Try.func41 Try.results41 hQ rfl ?_ | refine on1 Try.func41 Try.results41 hQ rfl ?_)
  exact ⟨rfl, rfl, rfl⟩
 ·refine tr_of_body Try.func41 rfl Try.ntmps41 (by simp) fun um Q _ hQ => ?_
  simp only [argE, Nat.zero_add, Nat.reduceAdd]
  repeat (first | (apply wo_po; apply mo_load; exact rfl; exact hr; exact rfl) | refine we_seq ?_ | (refine wR ?_; try simp only [oS]) | refine wo_nil ?_ | refine wM ?_ | refine wA ?_ | refine wK ?_ | refine wN ?_ | refine wD ?_ | (apply wo_po; apply mo_bin; exact rfl; exact rfl; apply bin_ne; apply eql_ptr_nil; exact gY) | (apply wo_po; apply mo_bin; exact rfl; exact rfl; apply bin_ne; apply eql_slice_nil; exact gY) | refine we_ret ?_)
  (first | refine or1 Try.func41 Try.results41 hQ rfl ?_ | refine on1 Try.func41 Try.results41 hQ rfl ?_)
  exact ⟨rfl, rfl, rfl⟩
theorem put_nil (h : NoQueue L v0) : Tr Try.prog B 13 [.pointer v0, gv, .int .u64 (v : Nat)] L x fun v L' x' => v = .tuple #[.bool false, .int .i64 1] ∧ L' = L ∧ x' = x := by
 refine tr_of_body Try.func13 rfl Try.ntmps13 (by simp) fun um Q _ hQ => ?_
 simp only [argE, Nat.zero_add, Nat.reduceAdd]
 repeat (first | refine we_seq ?_ | (refine wR ?_; try simp only [oS]) | refine wo_nil ?_ | refine wM ?_ | refine wA ?_)
 refine wo_call (.cons rfl .nil) trivial (there_nil h) ?_
 rintro v1 L1 x1 ⟨rfl, rfl, rfl⟩
 repeat (first | refine we_seq ?_ | (refine wR ?_; try simp only [oS]) | refine wo_nil ?_ | refine wA ?_ | (apply wo_po; apply mo_not; exact rfl; exact gY) | refine wT ?_ | refine we_ret ?_)
 (first | refine or2 Try.func13 Try.results13 hQ rfl rfl ?_ | refine on2 Try.func13 Try.results13 hQ rfl rfl ?_)
 exact ⟨rfl, rfl, rfl⟩
theorem take_nil (h : NoQueue L v0) : Tr Try.prog B 14 [.pointer v0, gv] L x fun v L' x' => v = .tuple #[.int .u64 0, .bool false, .int .i64 1] ∧ L' = L ∧ x' = x := by
 refine tr_of_body Try.func14 rfl Try.ntmps14 (by simp) fun um Q _ hQ => ?_
 simp only [argE, Nat.zero_add, Nat.reduceAdd]
 repeat (first | refine we_seq ?_ | (refine wR ?_; try simp only [oS]) | refine wo_nil ?_ | refine wM ?_ | refine wA ?_)
 refine wo_call (.cons rfl .nil) trivial (there_nil h) ?_
 rintro v1 L1 x1 ⟨rfl, rfl, rfl⟩
 repeat (first | refine we_seq ?_ | (refine wR ?_; try simp only [oS]) | refine wo_nil ?_ | refine wA ?_ | (apply wo_po; apply mo_not; exact rfl; exact gY) | refine wT ?_ | refine we_ret ?_)
 (first | refine or3 Try.func14 Try.results14 hQ rfl rfl rfl ?_ | refine on3 Try.func14 Try.results14 hQ rfl rfl rfl ?_)
 exact ⟨rfl, rfl, rfl⟩
theorem drain_nil (h : NoQueue L v0) : Tr Try.prog B 15 [.pointer v0, gv] L x fun v L' x' => v = .tuple #[.slice none 0 0, .int .i64 1] ∧ L' = L ∧ x' = x := by
 refine tr_of_body Try.func15 rfl Try.ntmps15 (by simp) fun um Q _ hQ => ?_
 simp only [argE, Nat.zero_add, Nat.reduceAdd]
 repeat (first | refine we_seq ?_ | (refine wR ?_; try simp only [oS]) | refine wo_nil ?_ | refine wM ?_ | refine wA ?_)
 refine wo_call (.cons rfl .nil) trivial (there_nil h) ?_
 rintro v1 L1 x1 ⟨rfl, rfl, rfl⟩
 repeat (first | refine we_seq ?_ | (refine wR ?_; try simp only [oS]) | refine wo_nil ?_ | refine wA ?_ | (apply wo_po; apply mo_not; exact rfl; exact gY) | refine wT ?_ | refine we_ret ?_)
 (first | refine or2 Try.func15 Try.results15 hQ rfl rfl ?_ | refine on2 Try.func15 Try.results15 hQ rfl rfl ?_)
 exact ⟨rfl, rfl, rfl⟩
theorem slots_nil (h : NoQueue L v0) : Tr Try.prog B 18 [.pointer v0] L x fun v L' x' => v = .int .i64 0 ∧ L' = L ∧ x' = x := by
 rcases h with rfl | ⟨r, rfl, hr⟩
 ·refine tr_of_body Try.func18 rfl Try.ntmps18 (by simp) fun um Q _ hQ => ?_
  simp only [argE, Nat.zero_add, Nat.reduceAdd]
  repeat (first | refine we_seq ?_ | (refine wR ?_; try simp only [oS]) | refine wo_nil ?_ | refine wM ?_ | refine wA ?_ | (apply wo_po; apply mo_bin; exact rfl; exact rfl; apply bin_eq; apply eql_ptr_nil; exact gY) | refine wT ?_ | refine we_ret ?_)
  (first | refine or1 Try.func18 Try.results18 hQ rfl ?_ | refine on1 Try.func18 Try.results18 hQ rfl ?_)
  exact ⟨rfl, rfl, rfl⟩
 ·refine tr_of_body Try.func18 rfl Try.ntmps18 (by simp) fun um Q _ hQ => ?_
  simp only [argE, Nat.zero_add, Nat.reduceAdd]
  repeat (first | (apply wo_po; apply mo_load; exact rfl; exact hr; exact trivial) | refine we_seq ?_ | (refine wR ?_; try simp only [oS]) | refine wo_nil ?_ | refine wM ?_ | refine wA ?_ | refine wN ?_ | refine wD ?_ | (apply wo_po; apply mo_bin; exact rfl; exact rfl; apply bin_eq; apply eql_ptr_nil; exact gY) | refine wE ?_ | refine wF ?_ | refine we_ret ?_ | refine we_skip ?_)
  (first | refine or1 Try.func18 Try.results18 hQ rfl ?_ | refine on1 Try.func18 Try.results18 hQ rfl ?_)
  exact ⟨rfl, rfl, rfl⟩
end
end
section
def intC (l : List Int) : List Value := l.map fun k => .int .i64 k
section
variable {B : Hand} [Lets B] {L F : List HProp} {x : B.X}
end
end
end Go.Proofs.Ythghlchcjeocpaa
namespace Go.Proofs.Ythghlchcjeocpaa
open Go Go.PB
attribute [local irreducible] Mo Bin Eql Tr Wo Ap Wle
attribute [local instance] Pass.of_no
section
def seenOf (t : Mach.Th) : Bool := match doneOf t with
 | [[_, y]] => decide (y = 1)
 | _ => true
def knPv (sn : Nat) (q : Nat × Mach.Th) : HProp := fun h => Star (if q.1 = 1 then [arr sn 0 [.bool (seenOf q.2)]] else []) h
theorem knPv_up {sn : Nat} : ∀ q h, Star [knPv sn q] h → knPv sn q h := fun q h st => by
 have s1 : Star ((if q.1 = 1 then [arr sn 0 [.bool (seenOf q.2)]] else []) ++ []) h := star_open (M := if q.1 = 1 then [arr sn 0 [.bool (seenOf q.2)]] else []) st
 rw [List.append_nil] at s1
 exact s1
section
variable {r b sn : Nat} {sb says turn fin wg : Nat}
abbrev knZ : HProp := all []
abbrev knG (r b sn : Nat) : Game := wG (rowD 6) (twoAddr r b) 6 [(r, 2, .slice (some ⟨b, 0, none⟩) 2 2)] knZ (knPv sn)
abbrev knAcc (r b sn : Nat) (h : r ≠ b) (sb says turn fin wg k : Nat) (Pm : HProp) : Acc tH (gateV sb) := playAcc (rowD 6) (twoAddr r b) 6 [(r, 2, .slice (some ⟨b, 0, none⟩) 2 2)] (two_apart h (.slice (some ⟨b, 0, none⟩) 2 2)) knZ (knPv sn) knPv_up sb says turn fin wg k Pm
theorem kn_at (h : r ≠ b) {k : Nat} {Pm : HProp} : QueueAt (knAcc r b sn h sb says turn fin wg k Pm) r b 2 1 where
 hn := rfl
 hk := by omega
 hdr := fun s h hs => by
  obtain ⟨h1, h2, s1, hc, _⟩ := hs
  obtain ⟨h3, h4, s2, hd, _⟩ := hc
  exact ⟨rfl, .inl (s1.o1 _ _ _ (s2.o1 _ _ _ (hd.2 (r, 2, .slice (some ⟨b, 0, none⟩) 2 2) (List.mem_singleton.2 rfl))))⟩
 a0 := rfl
 a1 := rfl
 a2 := fun i _ => by show twoAddr r b (2 + i) = _; rw [Nat.add_comm]; rfl
theorem kn_put (h : r ≠ b) {t4 : Nat} {t0 : Mach.Th} (ht0 : Mach.onF 20 (Mach.Bt [Mach.qputCl 2 5] 0 []) = some t0) :
  ThrOk (knG r b sn) (fun s => (s, ((0, t0) : Nat × Mach.Th))) (.func (.func 38) #[] #[.pointer (some ⟨t4, 0, none⟩)]) (all [fro t4 0 [.pointer (some ⟨r, 0, none⟩)]]) where
 run := by
  refine ⟨_, _, _, rfl, inferInstance, fun sb says turn fin wg (s : Nat → Nat) m F hok => ?_⟩
  show Tr Try.prog tH _ [gateV sb, .pointer (some ⟨t4, 0, none⟩)] _ (tx (knG r b sn) says turn fin wg (.busy s ((0, t0) : Nat × Mach.Th) m)) _
  refine tr_star ((knAcc r b sn h sb says turn fin wg 0 (all [])).C ⟨s, s, t0, m⟩ :: fro t4 0 [.pointer (some ⟨r, 0, none⟩)] :: F) (fun hp st => ?_) ?_
  ·have s1 : Star (wds (twoAddr r b) 6 [(r, 2, .slice (some ⟨b, 0, none⟩) 2 2)] s :: knZ :: seatR sb says turn fin :: all [fro t4 0 [.pointer (some ⟨r, 0, none⟩)]] :: F) hp := star_open (M := [_, _]) st
   have s2 : Star (fro t4 0 [.pointer (some ⟨r, 0, none⟩)] :: wds (twoAddr r b) 6 [(r, 2, .slice (some ⟨b, 0, none⟩) 2 2)] s :: knZ :: seatR sb says turn fin :: F) hp := star_open (M := [_]) (Ent.star (.take (.there (.there (.there .here))) .refl) s1)
   have s3 : Star (all [] :: fro t4 0 [.pointer (some ⟨r, 0, none⟩)] :: wds (twoAddr r b) 6 [(r, 2, .slice (some ⟨b, 0, none⟩) 2 2)] s :: knZ :: seatR sb says turn fin :: F) hp := star_shut (M := []) s2
   exact star_shut (M := [_, _, _, _]) (Ent.star (.take (.there (.there .here)) (.take (.there (.there .here)) (.take (.there (.there .here)) (.take .here .refl)))) s3)
  have hcs : QueueCalls 2 [Mach.qputCl 2 5] := fun i cl hi => by
   cases i with
   | zero => cases hi; exact ⟨0, 5, rfl, by omega⟩
   | succ i => simp at hi
  have hP : ∀ p r' said hp, all [] hp → knPv sn (0, Mach.T [Mach.qputCl 2 5] 0 p r' [] said) hp := fun p r' said hp z => z
  have hput := put_plays (n := 2) (j := 1) (addr := twoAddr r b) (K := [(r, 2, .slice (some ⟨b, 0, none⟩) 2 2)]) (A := two_apart h (.slice (some ⟨b, 0, none⟩) 2 2)) (Z := knZ) (Pv := knPv sn) (hPv := knPv_up) (sb := sb) (says := says) (turn := turn) (fin := fin) (wg := wg) (k := 0) (Pm := all []) (cs := [Mach.qputCl 2 5]) (c := 0) (v := 5) (pre := []) rfl (by omega) (by omega) (by omega) rfl rfl hP
   (fun told => queue_next (j := 1) rfl (by omega) hcs rfl) (s := ⟨s, s, t0, m⟩) (Option.some.inj (ht0.symm.trans (queue_on (cs := [Mach.qputCl 2 5]) (c := 0) (pre := []) (n := 2) (j := 1) (kd := 0) (v := 5) rfl (by omega) (by omega) rfl rfl))) (fun _ _ => rfl)
   (Q := fun q s' => Mach.onF 20 (Mach.Bt [Mach.qputCl 2 5] 1 [(true, [yes q])]) = some s'.t ∧ (∀ i, i < 6 → s'.f i = s'.g i)) (fun q s' a b' _ => ⟨a, b'⟩)
  have hr4 : Rd ((knAcc r b sn h sb says turn fin wg 0 (all [])).C ⟨s, s, t0, m⟩ :: fro t4 0 [.pointer (some ⟨r, 0, none⟩)] :: F) t4 0 (.pointer (some ⟨r, 0, none⟩)) := .there (Rd.fro (k := 0) rfl rfl)
  refine tr_of_body Try.func38 rfl Try.ntmps38 (by simp) fun um Q _ hQ => ?_
  simp only [argE, Nat.zero_add, Nat.reduceAdd]
  repeat (first | (apply wo_po; apply mo_load; exact rfl; exact hr4; exact trivial) | (refine wR ?_; try simp only [oS]) | refine wM ?_)
  refine wo_call (.cons rfl (.cons rfl (.cons rfl .nil))) trivial (put_tr (A := knAcc r b sn h sb says turn fin wg 0 (all [])) (v := 5) (kn_at h) (by omega) hput .here) ?_
  rintro w L' x' ⟨q, s', ⟨hon, hfg⟩, rfl, rfl, rfl⟩
  repeat (first | refine wo_nil ?_)
  (first | refine or0 Try.func38 Try.results38 hQ ?_ | refine on0 Try.func38 Try.results38 hQ ?_)
  rw [Mach.on_over (f := 19) rfl] at hon
  have hst := (Option.some.inj hon).symm
  refine ⟨s'.g, ((0, s'.t) : Nat × Mach.Th), s'.n, rfl, ?_, fun hp st => ?_⟩
  ·show mPlan _ (0, s'.t) = none
   unfold mPlan
   rw [if_pos (by rw [hst])]
  ·have s1 : Star (wds (twoAddr r b) 6 [(r, 2, .slice (some ⟨b, 0, none⟩) 2 2)] s'.f :: knZ :: seatR sb says turn fin :: all [] :: fro t4 0 [.pointer (some ⟨r, 0, none⟩)] :: F) hp := star_open (M := [_, _, _, _]) st
   have s2 := star_shut (M := [_, _]) (star_map s1 (wds_congr hfg) fun _ z => z)
   exact star_map s2 (fun _ z => z) fun hq z => star_map z (fun _ z => z) fun hq z => star_map z (fun hq z => z) fun hq z => star_drop z
theorem kn_take (h : r ≠ b) {t4 : Nat} {t0 : Mach.Th} (ht0 : Mach.onF 20 (Mach.Bt [Mach.qtakeCl 2] 0 []) = some t0) :
  ThrOk (knG r b sn) (fun s => (s, ((1, t0) : Nat × Mach.Th))) (.func (.func 39) #[] #[.pointer (some ⟨t4, 0, none⟩), .pointer (some ⟨sn, 0, none⟩)]) (all [fro t4 0 [.pointer (some ⟨r, 0, none⟩)], arr sn 0 [.bool true]]) where
 run := by
  refine ⟨_, _, _, rfl, inferInstance, fun sb says turn fin wg (s : Nat → Nat) m F hok => ?_⟩
  show Tr Try.prog tH _ [gateV sb, .pointer (some ⟨t4, 0, none⟩), .pointer (some ⟨sn, 0, none⟩)] _ (tx (knG r b sn) says turn fin wg (.busy s ((1, t0) : Nat × Mach.Th) m)) _
  refine tr_star ((knAcc r b sn h sb says turn fin wg 1 (arr sn 0 [.bool true])).C ⟨s, s, t0, m⟩ :: fro t4 0 [.pointer (some ⟨r, 0, none⟩)] :: F) (fun hp st => ?_) ?_
  ·have s1 : Star (wds (twoAddr r b) 6 [(r, 2, .slice (some ⟨b, 0, none⟩) 2 2)] s :: knZ :: seatR sb says turn fin :: all [fro t4 0 [.pointer (some ⟨r, 0, none⟩)], arr sn 0 [.bool true]] :: F) hp := star_open (M := [_, _]) st
   have s2 : Star (fro t4 0 [.pointer (some ⟨r, 0, none⟩)] :: arr sn 0 [.bool true] :: wds (twoAddr r b) 6 [(r, 2, .slice (some ⟨b, 0, none⟩) 2 2)] s :: knZ :: seatR sb says turn fin :: F) hp := star_open (M := [_, _]) (Ent.star (.take (.there (.there (.there .here))) .refl) s1)
   exact star_shut (M := [_, _, _, _]) (Ent.star (.take (.there (.there .here)) (.take (.there (.there .here)) (.take (.there (.there .here)) (.take (.there .here) .refl)))) s2)
  have hcs : QueueCalls 2 [Mach.qtakeCl 2] := fun i cl hi => by
   cases i with
   | zero => cases hi; exact ⟨1, 0, rfl, by omega⟩
   | succ i => simp at hi
  have hP : ∀ p r' said hp, arr sn 0 [.bool true] hp → knPv sn (1, Mach.T [Mach.qtakeCl 2] 0 p r' [] said) hp := fun p r' said hp z => star_one z
  have htake := take_plays (n := 2) (j := 1) (addr := twoAddr r b) (K := [(r, 2, .slice (some ⟨b, 0, none⟩) 2 2)]) (A := two_apart h (.slice (some ⟨b, 0, none⟩) 2 2)) (Z := knZ) (Pv := knPv sn) (hPv := knPv_up) (sb := sb) (says := says) (turn := turn) (fin := fin) (wg := wg) (k := 1) (Pm := arr sn 0 [.bool true]) (cs := [Mach.qtakeCl 2]) (c := 0) (pre := []) rfl (by omega) (by omega) rfl rfl hP
   (fun told => queue_next (j := 1) rfl (by omega) hcs rfl) (s := ⟨s, s, t0, m⟩) (Option.some.inj (ht0.symm.trans (queue_on (cs := [Mach.qtakeCl 2]) (c := 0) (pre := []) (n := 2) (j := 1) (kd := 1) (v := 0) rfl (by omega) (by omega) rfl rfl))) (fun _ _ => rfl)
   (Q := fun q s' => Mach.onF 20 (Mach.Bt [Mach.qtakeCl 2] 1 [(true, [q.getD 0, yes q.isSome])]) = some s'.t ∧ (∀ i, i < 6 → s'.f i = s'.g i)) (fun q s' a b' _ => ⟨a, b'⟩)
  have hr4 : Rd ((knAcc r b sn h sb says turn fin wg 1 (arr sn 0 [.bool true])).C ⟨s, s, t0, m⟩ :: fro t4 0 [.pointer (some ⟨r, 0, none⟩)] :: F) t4 0 (.pointer (some ⟨r, 0, none⟩)) := .there (Rd.fro (k := 0) rfl rfl)
  refine tr_of_body Try.func39 rfl Try.ntmps39 (by simp) fun um Q _ hQ => ?_
  simp only [argE, Nat.zero_add, Nat.reduceAdd]
  repeat (first | (apply wo_po; apply mo_load; exact rfl; exact hr4; exact trivial) | (refine wR ?_; try simp only [oS]) | refine wM ?_)
  refine wo_call (.cons rfl (.cons rfl .nil)) trivial (take_tr (A := knAcc r b sn h sb says turn fin wg 1 (arr sn 0 [.bool true])) (kn_at h) htake .here) ?_
  rintro w L' x' ⟨q, s', ⟨hon, hfg⟩, hq, rfl, rfl, rfl⟩
  refine wo_star (arr sn 0 [.bool true] :: wds (twoAddr r b) 6 [(r, 2, .slice (some ⟨b, 0, none⟩) 2 2)] s'.f :: knZ :: seatR sb says turn fin :: F) (fun hp st => ?_) ?_
  ·have s1 : Star (wds (twoAddr r b) 6 [(r, 2, .slice (some ⟨b, 0, none⟩) 2 2)] s'.f :: knZ :: seatR sb says turn fin :: arr sn 0 [.bool true] :: fro t4 0 [.pointer (some ⟨r, 0, none⟩)] :: F) hp := star_open (M := [_, _, _, _]) st
   exact Ent.star (.take (.there (.there (.there .here))) (.take .here (.take .here (.take .here (.drop .refl))))) s1
  repeat (first | refine wS ?_ | refine wo_nil ?_ | refine wM ?_ | (apply wo_po; apply mo_extract; exact rfl; exact rfl; exact gY))
  (first | refine or0 Try.func39 Try.results39 hQ ?_ | refine on0 Try.func39 Try.results39 hQ ?_)
  rw [Mach.on_over (f := 19) rfl] at hon
  have hst := (Option.some.inj hon).symm
  refine ⟨s'.g, ((1, s'.t) : Nat × Mach.Th), s'.n, rfl, ?_, fun hp st => ?_⟩
  ·show mPlan _ (1, s'.t) = none
   unfold mPlan
   rw [if_pos (by rw [hst])]
  ·have s1 : Star (wds (twoAddr r b) 6 [(r, 2, .slice (some ⟨b, 0, none⟩) 2 2)] s'.f :: knZ :: seatR sb says turn fin :: arr sn 0 [.bool q.isSome] :: F) hp := Ent.star (.take (.there .here) (.take (.there .here) (.take (.there .here) (.take .here .refl)))) st
   have s2 := star_shut (M := [_, _]) (star_map s1 (wds_congr hfg) fun _ z => z)
   have e : seenOf s'.t = q.isSome := by rw [hst]; cases q <;> rfl
   refine star_map s2 (fun _ z => z) fun hq z => star_map z (fun _ z => z) fun hq z => star_map z (fun hq z => ?_) fun _ z => z
   show Star [arr sn 0 [.bool (seenOf s'.t)]] hq
   rw [e]; exact star_one z
end
theorem rd_lift {L : List HProp} : ∀ (M : List HProp) {b o : Nat} {v : Value}, Rd L b o v → Rd (M ++ L) b o v
 | [], b, o, v, h => h
 | c :: M, b, o, v, h => .there (rd_lift M h)
theorem kn_play {st : Mach.St} (h : Mach.play 30 16385 ⟨[rowOf 6 (seqs 2)], 1⟩ [some 0, some 0, some 0, some 1, some 1, some 0, some 0] [[Mach.qputCl 2 5], [Mach.qtakeCl 2]] = some st) : st.tr.length = 7 ∧ st.w.words = [[1, 0, 1, 5, 1, 0]] ∧ st.l.map (·.ans) = [[(true, [1])], [(true, [0, 0])]] := by
 have e : (Mach.play 30 16385 ⟨[rowOf 6 (seqs 2)], 1⟩ [some 0, some 0, some 0, some 1, some 1, some 0, some 0] [[Mach.qputCl 2 5], [Mach.qtakeCl 2]]).map (fun st => (st.tr.length, st.w.words, st.l.map (·.ans))) = some (7, [[1, 0, 1, 5, 1, 0]], [[(true, [1])], [(true, [0, 0])]]) := by kernel_rfl
 rw [h] at e
 simp only [Option.map_some, Option.some.injEq, Prod.mk.injEq] at e
 exact e
def knMs : List (Int × Nat) := [(1, 0), (1, 2), (5, 0), (2, 3), (2, 2)]
def knOrd : List Int := [0, 0, 0, 1, 1, 0, 0]
def knWs : List Int := [0, 1, 2, 3, 1024, 2048, -2]
def knEs : List Int := [2, 2, 0, 2, 0, 2, 2]
section
variable {B : Hand} [Lets B] {L F G : List HProp} {x : B.X} {r b nb : Nat}
theorem new_any {L : List HProp} {w e : Int} (h : (w = 2 ∨ w = 1024) ∧ e = 0 ∨ (w = 0 ∨ w = 1 ∨ w = 3 ∨ w = 2048 ∨ w = -2) ∧ e = 2) :
  Tr Try.prog B 11 [.int .i64 w] L x fun v L' x' => (∃ p, v = .tuple #[.pointer p, .int .i64 e]) ∧ x' = x ∧ ∀ h, Star L' h → Star L h := by
 rcases h with ⟨hw, rfl⟩ | ⟨hw, rfl⟩
 ·have : ∃ k : Nat, 1 ≤ k ∧ k ≤ 10 ∧ w = ((2 ^ k : Nat) : Int) := by rcases hw with rfl | rfl; exact ⟨1, by omega, by omega, rfl⟩; exact ⟨10, by omega, by omega, rfl⟩
  obtain ⟨k, k1, k2, rfl⟩ := this
  refine (new_tr (n := 2 ^ k) rfl k1 k2).mono ?_
  rintro v L' x' ⟨r, b, rfl, _, rfl, rfl⟩
  exact ⟨⟨_, rfl⟩, rfl, fun h s => star_drop s⟩
 ·refine (new_nopow (n := w) ?_).mono ?_
  ·rintro ⟨k, k1, k2, e⟩
   have key : ∀ k ∈ List.range 11, 1 ≤ k → ¬ ((2 ^ k : Nat) = 0 ∨ (2 ^ k : Nat) = 1 ∨ (2 ^ k : Nat) = 3 ∨ (2 ^ k : Nat) = 2048) := by decide
   have hk := key k (by simp; omega) k1
   clear key
   generalize (2 ^ k : Nat) = m at hk e
   omega
  ·rintro v L' x' ⟨rfl, rfl, rfl⟩
   exact ⟨⟨_, rfl⟩, rfl, fun h s => s⟩
def knF1 : Nat → Nat := upd (upd (upd (seqs 2) 0 1) 3 5) 2 1
theorem kn_row1 : RowAt 2 knF1 [5] := by
 have hp := put_plain (n := 2) (k := 1) (v := 5) rfl (by omega) (by omega) (RowAt.seqs (n := 2) (by omega) (by omega))
 rw [if_pos (by decide)] at hp
 exact hp.2
theorem kn_first {h : r ≠ b} : PutT (queueAccN x r b 2 nb h) 2 5 (seqs 2, []) fun q s' => q = true ∧ s' = (knF1, [(1, 0), (1, 2), (5, 0), (2, 3), (2, 2)]) := by
 refine draw_some (t := 0) (m := 0) (q := 0) (t1 := 1) (by omega) (by omega) (by decide) rfl rfl rfl (by decide) rfl ?_
 dsimp only
 exact ⟨by decide, by decide, ⟨by decide, by decide, rfl, rfl⟩⟩
theorem first_tr (h : r ≠ b) (hh : Has L (notesC nb []) G) (hw : Has G (wds (twoAddr r b) 6 [(r, 2, .slice (some ⟨b, 0, none⟩) 2 2)] (seqs 2)) F) :
  Tr Try.prog B 13 [.pointer (some ⟨r, 0, none⟩), .iface 49 (.pointer (some ⟨nb, 0, none⟩)), .int .u64 (5 : Nat)] L x fun v L' x' => v = .tuple #[.bool true, .int .i64 0] ∧ L' = notesC nb [(1, 0), (1, 2), (5, 0), (2, 3), (2, 2)] :: wds (twoAddr r b) 6 [(r, 2, .slice (some ⟨b, 0, none⟩) 2 2)] knF1 :: F ∧ x' = x := by
 refine Tr.post (R := fun v L' x' => v = .tuple #[.bool true, .int .i64 0] ∧ x' = x ∧ ∀ h', Star L' h' → Star (notesC nb [(1, 0), (1, 2), (5, 0), (2, 3), (2, 2)] :: wds (twoAddr r b) 6 [(r, 2, .slice (some ⟨b, 0, none⟩) 2 2)] knF1 :: F) h') ?_
  (by rintro v L' x' ⟨rfl, rfl, hs⟩; exact ⟨_, ⟨rfl, rfl, rfl⟩, hs⟩)
 refine tr_star ((queueAccN x r b 2 nb h).C (seqs 2, []) :: F) (fun hp st => ?_) ?_
 ·have s1 : Star (wds (twoAddr r b) 6 [(r, 2, .slice (some ⟨b, 0, none⟩) 2 2)] (seqs 2) :: notesC nb [] :: F) hp := star_swap (star_map (hh.star st) (fun _ z => z) fun _ z => hw.star z)
  exact star_shut (M := [_, _]) s1
 refine (put_tr (A := queueAccN x r b 2 nb h) (k := 1) (queue_at_n h rfl (by omega)) (by omega) kn_first .here).mono ?_
 rintro v L' x' ⟨q, s', ⟨rfl, rfl⟩, rfl, rfl, rfl⟩
 refine ⟨rfl, rfl, fun h' s => ?_⟩
 exact star_swap (star_open (M := [_, _]) s)
end
section
variable {r b sn t4 fb ob2 : Nat} {u0 u1 : Mach.Th} {R : List HProp} {h : Hp}
def knV0 (t4 : Nat) : Value := .func (.func 38) #[] #[.pointer (some ⟨t4, 0, none⟩)]
def knV1 (t4 sn : Nat) : Value := .func (.func 39) #[] #[.pointer (some ⟨t4, 0, none⟩), .pointer (some ⟨sn, 0, none⟩)]
def knTs (r b sn t4 : Nat) (u0 u1 : Mach.Th) : List (Thr (knG r b sn)) := [⟨knV0 t4, fun s => (s, ((0, u0) : Nat × Mach.Th)), all [fro t4 0 [.pointer (some ⟨r, 0, none⟩)]]⟩, ⟨knV1 t4 sn, fun s => (s, ((1, u1) : Nat × Mach.Th)), all [fro t4 0 [.pointer (some ⟨r, 0, none⟩)], arr sn 0 [.bool true]]⟩]
theorem kn_cs0 : QueueCalls 2 [Mach.qputCl 2 5] := fun i cl hi => by
 cases i with
 | zero => cases hi; exact ⟨0, 5, rfl, by omega⟩
 | succ i => simp at hi
theorem kn_cs1 : QueueCalls 2 [Mach.qtakeCl 2] := fun i cl hi => by
 cases i with
 | zero => cases hi; exact ⟨1, 0, rfl, by omega⟩
 | succ i => simp at hi
theorem seqs_ok {n : Nat} (h : n ≤ 1024) : (rowD (2 * n + 2)).ok (seqs n) := fun i hi => by
 unfold seqs
 split <;> omega
theorem kn_deal (st : Star (fro t4 0 [.pointer (some ⟨r, 0, none⟩)] :: arr fb 0 [knV0 t4, knV1 t4 sn] :: arr ob2 0 (intC knOrd) :: arr sn 0 [.bool true] :: wds (twoAddr r b) 6 [(r, 2, .slice (some ⟨b, 0, none⟩) 2 2)] (seqs 2) :: R) h) :
  Star (all [wds (twoAddr r b) 6 [(r, 2, .slice (some ⟨b, 0, none⟩) 2 2)] (seqs 2), knZ] :: all ((knTs r b sn t4 u0 u1).map Thr.M) :: fro t4 0 [.pointer (some ⟨r, 0, none⟩)] :: arr fb 0 [knV0 t4, knV1 t4 sn] :: arr ob2 0 (intC knOrd) :: R) h := by
 have s2 := Ent.star (.take (.there (.there (.there (.there .here)))) .refl) st
 have s3 := dup_fro _ _ (dup_fro _ _ (Ent.star (.take (.there .here) .refl) s2))
 have s5 := star_shut (M := [_, _]) (Ent.star (.take .here (.take (.there (.there (.there (.there (.there .here))))) .refl)) s3)
 have s6 := star_shut (M := [_]) (Ent.star (.take (.there .here) .refl) s5)
 have s7 := star_shut (M := [_, _]) s6
 have s8 : Star (knZ :: _) h := star_shut (M := []) s7
 exact star_shut (M := [_, _]) (Ent.star (.take (.there (.there (.there .here))) (.take .here .refl)) s8)
theorem kn_after {ta tb : Mach.Th} {f' : Nat → Nat} {c1 c2 c3 c4 : HProp} (hs : seenOf tb = false) (s : Star (c1 :: c2 :: all [wds (twoAddr r b) 6 [(r, 2, .slice (some ⟨b, 0, none⟩) 2 2)] f', knZ] :: all ([ta, tb].mapIdx fun k t => knPv sn (k, t)) :: fro t4 0 [.pointer (some ⟨r, 0, none⟩)] :: c3 :: c4 :: R) h) :
  Star (arr sn 0 [.bool false] :: wds (twoAddr r b) 6 [(r, 2, .slice (some ⟨b, 0, none⟩) 2 2)] f' :: fro t4 0 [.pointer (some ⟨r, 0, none⟩)] :: R) h := by
 have s1 := star_open (M := [_, _]) (Ent.star (.take (.there (.there .here)) .refl) s)
 have s2 := star_open (M := [_, _]) (Ent.star (.take (.there (.there (.there (.there .here)))) .refl) s1)
 have s3 : Star (all [arr sn 0 [.bool (seenOf tb)]] :: _) h := Ent.star (.take (.there .here) .refl) s2
 have s4 := star_open (M := [_]) s3
 rw [hs] at s4
 exact Ent.star (.take .here (.take (.there .here) (.take (.there (.there (.there (.there .here)))) (.drop (.drop (.drop (.drop (.drop (.drop .refl))))))))) s4
theorem kn_row {f' : Nat → Nat} (hf : rowOf 6 f' = [1, 0, 1, 5, 1, 0]) : RowAt 2 f' [5] := by
 have key : ∀ i, i < 6 → ([1, 0, 1, 5, 1, 0] : List Nat)[i]? = some (f' i) := fun i hi => by rw [← hf, rowOf_get hi]
 have g0 : f' 0 = 1 := (Option.some.inj (key 0 (by omega))).symm
 have g1 : f' 1 = 0 := (Option.some.inj (key 1 (by omega))).symm
 have g2 : f' 2 = 1 := (Option.some.inj (key 2 (by omega))).symm
 have g3 : f' 3 = 5 := (Option.some.inj (key 3 (by omega))).symm
 have g4 : f' 4 = 1 := (Option.some.inj (key 4 (by omega))).symm
 refine ⟨by decide, by rw [g0, g1]; rfl, by omega, fun i v hi => ?_, fun i h1 h2 => ?_⟩
 ·match i, hi with
  | 0, hi => cases hi; rw [g1]; exact ⟨g2, g3⟩
  | i + 1, hi => simp at hi
 ·obtain rfl : i = 1 := by simp at h1; omega
  rw [g1]; exact g4
end
theorem kn_marks {M R : List HProp} {mb : Nat} : RdM (M ++ arr mb 0 (List.map (fun x => x.cells.toList) (List.map (fun m => Value.agg #[.int .u8 m.1, .int .i64 (m.2 : Nat)]) knMs)).flatten :: R) (some ⟨mb, 0, none⟩) knMs := fun i m hi => ⟨mb, 0, rfl, fun j v hj => rd_lift M (by
 have hj2 : j < 2 := by simpa using (List.getElem?_eq_some_iff.1 hj).1
 have e : (knMs.map mark2).flatten[2 * i + j]? = some v := (flat_get (f := mark2) (k := 2) (fun _ => rfl) _ _ _ _ hi hj2).trans hj
 exact Rd.row (k := 2 * i + j) e (by omega))⟩
def knInv (wb : Nat) : PB.Inv (Nat × Value) MX where
 e := fun i => [(11, .bool true), (12, i.2), (92, .slice (some ⟨wb, 0, none⟩) 7 7), (93, .int .i64 7), (94, .int .i64 (i.1 : Nat))]
 L := fun i => [vec 1 i.2 ((knEs.take i.1).map fun k => .int .i64 k), fro wb 0 (knWs.map fun k => .int .i64 k)]
 x := fun _ => .idle
 ok := fun i => i.1 ≤ 7
set_option maxRecDepth 20000 in
set_option maxHeartbeats 4000000 in
theorem qknown_tr {L : List HProp} : Tr Try.prog mT 8 [] L .idle fun v L' x' => v = .bool true ∧ x' = .idle := by
 refine tr_of_body Try.func8 rfl Try.ntmps8 (by simp) fun um Q _ hQ => ?_
 simp only [argE, Nat.zero_add, Nat.reduceAdd]
 repeat (first | refine we_seq ?_ | (refine wR ?_; try simp only [oS]) | refine wo_nil ?_ | refine wM ?_ | refine wA ?_)
 refine wo_call (.cons rfl (.cons rfl (.cons rfl .nil))) trivial (put_nil (v := 1) (.inl rfl)) ?_
 rintro v L' x' ⟨rfl, rfl, rfl⟩
 repeat (first | refine we_seq ?_ | (refine wR ?_; try simp only [oS]) | refine wo_nil ?_ | refine wM ?_ | refine wA ?_ | (apply wo_po; apply mo_extract; exact rfl; exact rfl; exact gY))
 refine wo_call (.cons rfl (.cons rfl .nil)) trivial (take_nil (.inl rfl)) ?_
 rintro v L' x' ⟨rfl, rfl, rfl⟩
 repeat (first | refine we_seq ?_ | (refine wR ?_; try simp only [oS]) | refine wo_nil ?_ | refine wM ?_ | refine wA ?_ | (apply wo_po; apply mo_extract; exact rfl; exact rfl; exact gY))
 refine wo_call (.cons rfl (.cons rfl .nil)) trivial (drain_nil (.inl rfl)) ?_
 rintro v L' x' ⟨rfl, rfl, rfl⟩
 repeat (first | (apply wo_po; apply mo_build (pv := []); exact rfl; exact .nil; exact rfl; exact gY) | (apply wo_mo; apply mo_box; exact rfl; exact gY) | refine we_seq ?_ | (refine wR ?_; try simp only [oS]) | refine wo_nil ?_ | refine wM ?_ | refine wA ?_ | (apply wo_po; apply mo_extract; exact rfl; exact rfl; exact gY))
 rintro v' L' ⟨q1, rfl, rfl⟩
 refine wo_call (.cons rfl (.cons rfl (.cons rfl .nil))) trivial (put_nil (v := 1) (.inr ⟨q1, rfl, Rd.row (k := 2) rfl rfl⟩)) ?_
 rintro v L' x' ⟨rfl, rfl, rfl⟩
 repeat (first | refine weqlT ?_ | refine we_seq ?_ | (refine wR ?_; try simp only [oS]) | refine wo_nil ?_ | refine wM ?_ | refine wA ?_ | refine wK ?_ | (apply wo_po; apply mo_extract; exact rfl; exact rfl; exact gY))
 refine wo_call (.cons rfl .nil) rfl (slots_nil (.inl rfl)) ?_
 rintro v L' x' ⟨rfl, rfl, rfl⟩
 repeat (first | (apply wo_po; apply mo_build (pv := []); exact rfl; exact .nil; exact rfl; exact gY) | (apply wo_mo; apply mo_box; exact rfl; exact gY) | refine weqlT ?_ | refine wM ?_ | refine wK ?_)
 rintro v' L' ⟨q2, rfl, rfl⟩
 refine wo_call (.cons rfl .nil) rfl (slots_nil (.inr ⟨q2, rfl, Rd.row (k := 2) rfl rfl⟩)) ?_
 rintro v L' x' ⟨rfl, rfl, rfl⟩
 repeat (first | (apply wo_mo; apply mo_buildSlice (sz := 1) (vs := knWs.map fun k => .int .i64 k); exact rfl; (repeat (first | exact EvL.nil | apply EvL.cons rfl)); exact rfl; (intro v hv; obtain ⟨k, _, rfl⟩ := List.mem_map.1 hv; rfl); omega; exact trivial) | refine weqlT ?_ | refine we_seq ?_ | (refine wR ?_; try simp only [oS]) | refine wo_nil ?_ | refine wA ?_ | refine wK ?_)
 rintro v' L' ⟨wb, rfl, rfl⟩
 refine wo_frz (b := wb) (o := 0) .here ?_
 refine wo_star [vec 1 (.slice none 0 0) [], fro wb 0 (knWs.map fun k => .int .i64 k)] (fun h st => ?_) ?_
 ·have st' : Star ([fro wb 0 (knWs.map fun k => .int .i64 k)] ++ _) h := st
  exact vec_nil (star_drop (star_tail st'))
 repeat (first | refine wo_nil ?_ | refine wM ?_ | refine wE ?_ | refine we_block ?_)
 refine we_loopN (knInv wb) (fun i => 7 - i.1) (0, .slice none 0 0) (by show 0 ≤ 7; omega) ⟨rfl, rfl, rfl, rfl, rfl, trivial⟩ .refl rfl ?_
 rintro ⟨i, ev⟩ hi
 replace hi : i ≤ 7 := hi
 simp only [knInv]
 refine we_pure (of_has .here (vec_shape (by omega))) ?_
 rintro ⟨ea, en, ec, rfl, hen, _, hez, hey⟩
 have hen : en = i := by simp [knEs] at hen; omega
 subst hen
 by_cases hlt : en < 7
 ·obtain ⟨w, e, hw, he, hwe⟩ : ∃ w e, knWs[en]? = some w ∧ knEs[en]? = some e ∧ ((w = 2 ∨ w = 1024) ∧ e = 0 ∨ (w = 0 ∨ w = 1 ∨ w = 3 ∨ w = 2048 ∨ w = -2) ∧ e = 2) := by
   have : en = 0 ∨ en = 1 ∨ en = 2 ∨ en = 3 ∨ en = 4 ∨ en = 5 ∨ en = 6 := by omega
   rcases this with rfl | rfl | rfl | rfl | rfl | rfl | rfl <;> exact ⟨_, _, rfl, rfl, by decide⟩
  have r1 : Rd [vec 1 (.slice ea en ec) ((knEs.take en).map fun k => .int .i64 k), fro wb 0 (knWs.map fun k => .int .i64 k)] wb (0 + en) (.int .i64 w) := .there (Rd.fro (k := en) (by rw [List.getElem?_map, hw]; rfl) rfl)
  repeat (first | (apply wo_po; apply mo_index1; exact rfl; exact rfl; omega; exact trivial) | (apply wo_po; apply mo_load; exact rfl; exact r1; exact trivial) | refine wlssT ?_ | refine we_seq ?_ | (refine wR ?_; try simp only [oS]) | refine wo_nil ?_ | refine wM ?_ | refine wA ?_ | refine wT ?_ | refine we_skip ?_ | refine we_block ?_)
  refine wo_call (.cons rfl .nil) trivial (new_any hwe) ?_
  rintro v L' x' ⟨⟨p, rfl⟩, rfl, hst⟩
  refine wo_star _ hst ?_
  repeat (first | (apply wo_mo; apply mo_buildSlice (sz := 1) (vs := [.int .i64 e]); exact rfl; exact .cons rfl .nil; exact rfl; (intro v hv; cases (List.mem_singleton.1 hv); rfl); omega; exact trivial) | (refine wR ?_; try simp only [oS]) | refine wo_nil ?_ | refine wM ?_ | refine wA ?_ | (apply wo_po; apply mo_extract; exact rfl; exact rfl; exact gY))
  rintro v' L' ⟨sb, rfl, rfl⟩
  repeat (first | (apply wo_mo; apply mo_append (sz := 1) (new := [.int .i64 e]); exact rfl; exact rfl; exact rfl; exact rfl; exact (.there .here); exact rfl; exact .inr ⟨_, _, rfl, Rds.all .here⟩; (intro v hv; cases (List.mem_singleton.1 hv); rfl); (simp only [sliceLen]; omega); exact trivial))
  rintro v' L' rfl
  repeat (first | (refine wR ?_; try simp only [oS]) | refine wo_nil ?_ | refine wM ?_ | refine wA ?_ | refine wadd ?_)
  refine at_roundS (B := mT) (I := knInv wb) (R := fun j => 7 - j.1 < 7 - en) (en + 1, v') (by show 7 - (en + 1) < 7 - en; omega) (show en + 1 ≤ 7 by omega) ⟨rfl, rfl, rfl, rfl, rfl, trivial⟩ (fun h st => ?_) rfl
  show Star [vec 1 v' ((knEs.take (en + 1)).map fun k => .int .i64 k), fro wb 0 (knWs.map fun k => .int .i64 k)] h
  rw [List.take_add_one, he, List.map_append]
  exact Ent.star (.take .here (.drop .refl)) st
 obtain rfl : en = 7 := by omega
 cases ea with
 | none => have := hez rfl; omega
 | some ad =>
 obtain ⟨eb, eo, sp⟩ := ad
 cases hey _ rfl
 have hre : ∀ {F : List HProp} (i : Nat) (k : Int), knEs[i]? = some k → Rd (vec 1 (.slice (some ⟨eb, eo, none⟩) 7 ec) ((knEs.take 7).map fun k => .int .i64 k) :: F) eb (eo + i) (.int .i64 k) := fun i k hk => rd_vec .here (by rw [List.getElem?_map]; show Option.map _ (knEs[i]?) = _; rw [hk]; rfl)
 repeat (first | (apply wo_po; apply mo_indexAddr; exact rfl; exact rfl; omega; omega; exact rfl; exact gY) | (apply wo_po; apply mo_load; exact rfl; (first | exact hre 0 _ rfl | exact hre 1 _ rfl | exact hre 2 _ rfl | exact hre 3 _ rfl | exact hre 4 _ rfl | exact hre 5 _ rfl | exact hre 6 _ rfl); exact gY) | refine wlssF ?_ | refine weqlT ?_ | refine we_seq ?_ | (refine wR ?_; try simp only [oS]) | refine wo_nil ?_ | refine wM ?_ | refine wA ?_ | refine wK ?_ | refine wF ?_ | refine we_exit ?_)
 refine wo_call (.cons rfl .nil) trivial (new_tr (n := 2) (k := 1) rfl (by omega) (by omega)) ?_
 rintro v1 L2 x1 ⟨r, b, rfl, hne, rfl, rfl⟩
 repeat (first | refine we_seq ?_ | (refine wR ?_; try simp only [oS]) | refine wo_nil ?_ | refine wM ?_ | refine wA ?_ | (apply wo_po; apply mo_extract; exact rfl; exact rfl; exact gY))
 refine wo_call .nil trivial new_notes_tr ?_
 rintro v1 L1 x1 ⟨nb, rfl, rfl, rfl⟩
 repeat (first | (apply wo_po; apply mo_makeInterface; exact rfl; exact trivial) | refine we_seq ?_ | (refine wR ?_; try simp only [oS]) | refine wo_nil ?_ | refine wM ?_ | refine wA ?_)
 refine wo_call (.cons rfl (.cons rfl (.cons rfl .nil))) trivial (first_tr hne .here .here) ?_
 rintro v1 L1 x1 ⟨rfl, rfl, rfl⟩
 repeat (first | refine we_seq ?_ | (refine wR ?_; try simp only [oS]) | refine wo_nil ?_ | refine wM ?_ | refine wA ?_ | (apply wo_po; apply mo_extract; exact rfl; exact rfl; exact gY))
 refine wo_call (.cons rfl .nil) trivial (marks_tr (marks := knMs) (by decide) .here) ?_
 rintro fv L1 x1 ⟨rfl, rfl⟩
 repeat (first | refine we_seq ?_ | (refine wR ?_; try simp only [oS]) | refine wo_nil ?_ | refine wM ?_ | refine wA ?_)
 refine wo_call (.cons rfl (.cons rfl (.cons rfl .nil))) trivial (put_lone (k := 1) (v := 6) hne rfl (by omega) (by omega) kn_row1 (by omega) (.there (.there .here))) ?_
 rintro v1 L1 x1 ⟨s1, rfl, R1, rfl, rfl⟩
 rw [if_pos (by decide)] at R1
 repeat (first | refine we_seq ?_ | (refine wR ?_; try simp only [oS]) | refine wo_nil ?_ | refine wM ?_ | refine wA ?_ | (apply wo_po; apply mo_extract; exact rfl; exact rfl; exact gY))
 refine wo_call (.cons rfl (.cons rfl (.cons rfl .nil))) trivial (put_lone (k := 1) (v := 7) hne rfl (by omega) (by omega) R1 (by omega) .here) ?_
 rintro v1 L1 x1 ⟨s2, rfl, R2, rfl, rfl⟩
 rw [if_neg (by decide)] at R2
 repeat (first | refine we_seq ?_ | (refine wR ?_; try simp only [oS]) | refine wo_nil ?_ | refine wM ?_ | refine wA ?_ | (apply wo_po; apply mo_extract; exact rfl; exact rfl; exact gY))
 refine wo_call (.cons rfl (.cons rfl .nil)) trivial (take_lone (k := 1) hne rfl (by omega) (by omega) R2 .here) ?_
 rintro v1 L1 x1 ⟨s3, _, rfl, R3, rfl, rfl⟩
 repeat (first | refine we_seq ?_ | (refine wR ?_; try simp only [oS]) | refine wo_nil ?_ | refine wM ?_ | refine wA ?_ | (apply wo_po; apply mo_extract; exact rfl; exact rfl; exact gY))
 refine wo_call (.cons rfl (.cons rfl (.cons rfl .nil))) trivial (put_lone (k := 1) (v := 7) hne rfl (by omega) (by omega) R3 (by omega) .here) ?_
 rintro v1 L1 x1 ⟨s4, rfl, R4, rfl, rfl⟩
 rw [if_pos (by decide)] at R4
 repeat (first | refine we_seq ?_ | (refine wR ?_; try simp only [oS]) | refine wo_nil ?_ | refine wM ?_ | refine wA ?_ | (apply wo_po; apply mo_extract; exact rfl; exact rfl; exact gY))
 refine wo_call (.cons rfl (.cons rfl .nil)) trivial (drain_lone (k := 1) hne rfl (by omega) (by omega) R4 .here) ?_
 rintro v1 L1 x1 ⟨s5, dv, rfl, R5, rfl, rfl⟩
 refine wo_pure (of_has (.there .here) (vec_shape (by omega))) ?_
 rintro ⟨da, dn, dc, rfl, hdn, _, hdz, hdy⟩
 obtain rfl : dn = 2 := by simp at hdn; omega
 cases da with
 | none => have := hdz rfl; omega
 | some ad =>
 obtain ⟨db, dq, sp2⟩ := ad
 cases hdy _ rfl
 have hrd0 : ∀ {c : HProp} {F : List HProp}, Rd (c :: vec 1 (.slice (some ⟨db, dq, none⟩) 2 dc) ((([5] ++ [6]).tail ++ [7] : List Nat).map num) :: F) db (dq + 0) (num 6) := fun {c F} => rd_vec (.there .here) rfl
 have hrd1 : ∀ {c : HProp} {F : List HProp}, Rd (c :: vec 1 (.slice (some ⟨db, dq, none⟩) 2 dc) ((([5] ++ [6]).tail ++ [7] : List Nat).map num) :: F) db (dq + 1) (num 7) := fun {c F} => rd_vec (.there .here) rfl
 repeat (first | (apply wo_po; apply mo_indexAddr; exact rfl; exact rfl; omega; omega; exact rfl; exact gY) | (apply wo_po; apply mo_load; exact rfl; (first | exact hrd0 | exact hrd1); exact gY) | (apply wo_po; apply mo_buildV; (repeat (first | exact EvL.nil | apply EvL.cons rfl)); exact rfl; exact gY) | (apply wo_mo; apply mo_buildSlice (sz := 2) (vs := knMs.map fun m => .agg #[.int .u8 m.1, .int .i64 (m.2 : Nat)]); exact rfl; (repeat (first | exact EvL.nil | apply EvL.cons rfl)); exact rfl; (intro v hv; obtain ⟨k, _, rfl⟩ := List.mem_map.1 hv; rfl); omega; exact trivial) | refine weqlT ?_ | refine we_seq ?_ | (refine wR ?_; try simp only [oS]) | refine wo_nil ?_ | refine wM ?_ | refine wA ?_ | refine wK ?_ | (apply wo_po; apply mo_extract; exact rfl; exact rfl; exact gY) | (apply wo_po; apply mo_not; exact rfl; exact gY) | (apply wo_po; apply mo_bin; exact rfl; exact rfl; exact bin_eql; exact gY) | refine wE ?_)
 rintro v' L' ⟨mb, rfl, rfl⟩
 refine wo_pure (of_has (.there (.there (.there .here))) (vec_shape (by omega))) ?_
 rintro ⟨fa, fn, fc, rfl, hfn, _, hfz, hfy⟩
 obtain rfl : fn = 5 := by rw [flat_len (k := 2) (fun _ => rfl)] at hfn; simp [knMs] at hfn; omega
 repeat (first | refine we_seq ?_ | (refine wR ?_; try simp only [oS]) | refine wo_nil ?_ | refine wA ?_)
 refine wo_call (.cons rfl .nil) trivial (new_tr (n := 2) (k := 1) rfl (by omega) (by omega)) ?_
 rintro v1 L2 x1 ⟨r2, b2, rfl, hne2, rfl, rfl⟩
 repeat (first | (apply wo_mo; apply mo_alloc; exact trivial) | refine wM ?_ | (apply wo_po; apply mo_extract; exact rfl; exact rfl; exact gY))
 rintro v' L' ⟨t4, rfl, rfl⟩
 repeat (first | refine wS ?_ | (apply wo_mo; apply mo_alloc; exact trivial) | refine we_seq ?_ | (refine wR ?_; try simp only [oS]) | refine wo_nil ?_ | refine wA ?_)
 rintro v' L' ⟨sn, rfl, rfl⟩
 repeat (first | refine wS ?_ | (apply wo_mo; apply mo_buildSlice (sz := 1) (vs := knOrd.map fun k => .int .i64 k); exact rfl; (repeat (first | exact EvL.nil | apply EvL.cons rfl)); exact rfl; (intro v hv; obtain ⟨k, _, rfl⟩ := List.mem_map.1 hv; rfl); omega; exact trivial) | refine we_seq ?_ | (refine wR ?_; try simp only [oS]) | refine wo_nil ?_)
 rintro v' L' ⟨ob2, rfl, rfl⟩
 repeat (first | (apply wo_po; apply mo_makeFunc (first := []) (cap := [_]) (vf := []); exact .nil; exact .cons rfl .nil; exact trivial) | (apply wo_po; apply mo_makeFunc (first := []) (cap := [_, _]) (vf := []); exact .nil; exact .cons rfl (.cons rfl .nil); exact trivial) | (apply wo_mo; apply mo_buildSlice (sz := 1) (vs := [knV0 t4, knV1 t4 sn]); exact rfl; exact .cons rfl (.cons rfl .nil); exact rfl; (intro v hv; simp only [List.mem_cons, List.not_mem_nil, or_false] at hv; rcases hv with rfl | rfl <;> rfl); omega; exact trivial))
 rintro v' L' ⟨fb, rfl, rfl⟩
 refine wo_frz (b := t4) (o := 0) (.there (.there (.there .here))) ?_
 obtain ⟨u0, p1, p2, p3⟩ := queue_begin (n := 2) (j := 1) rfl (by omega) (by omega) kn_cs0
 obtain ⟨u1, z1, z2, z3⟩ := queue_begin (n := 2) (j := 1) rfl (by omega) (by omega) kn_cs1
 have hbeg : Begins (rowD 6) (fun f => all [wds (twoAddr r2 b2) 6 [(r2, 2, .slice (some ⟨b2, 0, none⟩) 2 2)] f, knZ]) (knPv sn) 0 (knTs r2 b2 sn t4 u0 u1) [[Mach.qputCl 2 5], [Mach.qtakeCl 2]] := {
  len := rfl
  ini := fun k t c ht hc => by
   match k, ht, hc with
   | 0, ht, hc => cases ht; cases hc; exact ⟨u0, p2, p3, fun s => rfl⟩
   | 1, ht, hc => cases ht; cases hc; exact ⟨u1, z2, z3, fun s => rfl⟩
   | k + 2, ht, hc => simp at hc }
 have hini : ∀ t ∈ knTs r2 b2 sn t4 u0 u1, ∀ s, (t.ini s).1 = s := fun t ht s => by
  simp only [knTs, List.mem_cons, List.not_mem_nil, or_false] at ht
  rcases ht with rfl | rfl <;> rfl
 have hok : ∀ t ∈ knTs r2 b2 sn t4 u0 u1, ThrOk (knG r2 b2 sn) t.ini t.fv t.M := fun t ht => by
  simp only [knTs, List.mem_cons, List.not_mem_nil, or_false] at ht
  rcases ht with rfl | rfl
  ·exact kn_put hne2 p1
  ·exact kn_take hne2 z1
 refine wo_star _ (fun h st => kn_deal (u0 := u0) (u1 := u1) st) ?_
 refine wo_call (.cons rfl (.cons rfl .nil)) trivial (mplays_tr (D := rowD 6) (order := knOrd) (ts := knTs r2 b2 sn t4 u0 u1) (cc := [[Mach.qputCl 2 5], [Mach.qtakeCl 2]]) (s0 := (seqs 2 : Nat → Nat)) hbeg (seqs_ok (n := 2) (by omega)) hini hok (by show 0 < 2; omega) (by show 2 ≤ 16; omega) (by decide)
  (⟨rfl, .inr ⟨fb, 0, rfl, fun i v hi => .there (Rd.row hi rfl)⟩⟩ : RdsO _ (some ⟨fb, 0, none⟩) 2 ((knTs r2 b2 sn t4 u0 u1).map Thr.fv)) (⟨rfl, .inr ⟨ob2, 0, rfl, fun i v hi => .there (.there (Rd.row hi rfl))⟩⟩ : RdsO _ (some ⟨ob2, 0, none⟩) 7 (intC knOrd))) ?_
 rintro v1 L1 x1 ⟨tv, cv, st, f', rfl, rfl, hplay, hw, htr, hstl, rfl⟩
 obtain ⟨k1, k2, k3⟩ := kn_play (st := st) hplay
 have hf : rowOf 6 f' = [1, 0, 1, 5, 1, 0] := by
  rw [hw] at k2
  have k2' : [rowOf 6 f'] = [[1, 0, 1, 5, 1, 0]] := k2
  simpa using k2'
 have R := kn_row hf
 obtain ⟨ta, tb, hl⟩ : ∃ ta tb, st.l = [ta, tb] := by
  have h2 : st.l.length = 2 := hstl
  match hs : st.l, h2 with
  | [ta, tb], _ => exact ⟨ta, tb, rfl⟩
 rw [hl] at k3
 simp only [List.map_cons, List.map_nil, List.cons.injEq, and_true] at k3
 have hseen : seenOf tb = false := by unfold seenOf doneOf; rw [k3.2]; rfl
 refine wo_pure (of_has .here (vec_shape (by omega))) ?_
 rintro ⟨a1, n1, c1, rfl, hn1, _⟩
 obtain rfl : n1 = 7 := by rw [trCP_len] at hn1; simp at hn1; omega
 refine wo_pure (of_has (.there .here) (vec_shape (by omega))) ?_
 rintro ⟨a2, n2, c2, rfl, _⟩
 rw [hl]
 refine wo_star _ (fun h s => kn_after hseen s) ?_
 repeat (first | (apply wo_mo; apply mo_alloc; exact trivial) | refine wM ?_ | (apply wo_po; apply mo_extract; exact rfl; exact rfl; exact gY))
 rintro v' L' ⟨t7, rfl, rfl⟩
 have hr4 : ∀ {c1 c2 c3 : HProp} {M : List HProp}, Rd (c1 :: c2 :: c3 :: fro t4 0 [.pointer (some ⟨r2, 0, none⟩)] :: M) t4 0 (.pointer (some ⟨r2, 0, none⟩)) := fun {_ _ _ _} => rd_lift [_, _, _] (Rd.fro (k := 0) rfl rfl)
 repeat (first | (apply wo_pm; apply mo_storeA (b := t7) (c := 0) (k := 0) (a := 0) (vs := [.slice none 0 0, .slice none 0 0]); exact rfl; exact rfl; exact rfl; (intro w hw; simp [Value.cells] at hw; rcases hw with rfl | rfl <;> rfl); exact rfl; exact Nat.le_refl 2; exact .here; exact trivial) | (apply wo_po; apply mo_load; exact rfl; exact hr4; exact trivial) | refine we_seq ?_ | (refine wR ?_; try simp only [oS]) | refine wo_nil ?_ | refine wA ?_)
 refine wo_call (.cons rfl (.cons rfl .nil)) trivial (take_lone (B := mT) (x := MX.idle) (n := 2) (k := 1) hne2 rfl (by omega) (by omega) R (.there (.there .here))) ?_
 rintro v1 L1 x1 ⟨s', _, rfl, R', rfl, rfl⟩
 repeat (first | refine we_seq ?_ | (refine wR ?_; try simp only [oS]) | refine wo_nil ?_ | refine wM ?_ | refine wA ?_ | (apply wo_po; apply mo_extract; exact rfl; exact rfl; exact gY))
 refine wo_call .nil rfl works_tr ?_
 rintro v1 L1 x1 ⟨rfl, rfl, rfl⟩
 repeat (first | refine wM ?_ | refine wK ?_)
 refine wo_call (.cons rfl (.cons rfl .nil)) rfl (same_marks_tr (l := knMs) (l' := knMs) rfl rfl (by omega) (RdM.vec (.there (.there (.there (.there (.there (.there (.there .here))))))) hfy (fun e => (by have := hfz e; omega))) (kn_marks (M := [_, _, _, _]))) ?_
 rintro v1 L1 x1 ⟨rfl, rfl, rfl⟩
 rw [decide_eq_true (rfl : knMs = knMs)]
 repeat (first | refine weqlT ?_ | refine wo_nil ?_ | refine wM ?_ | refine wA ?_ | refine wK ?_ | refine wD ?_ | (apply wo_po; apply mo_not; exact rfl; exact gY) | refine wL ?_ | (apply wo_po; apply mo_bin; exact rfl; exact rfl; exact bin_eql; exact gY) | refine wE ?_ | refine we_ret ?_)
 (first | refine or1 Try.func8 Try.results8 hQ rfl ?_ | refine on1 Try.func8 Try.results8 hQ rfl ?_)
 exact ⟨rfl, rfl⟩
end
end Go.Proofs.Ythghlchcjeocpaa
namespace Go.PB
open Go.Conc Go.Conc.Lib Go.ConcR.Gen
open Go.ConcR (KK stA smA rd wr mk DC0)
def WgAt (ty : TypeId) (wg : Nat) (w : World) (st sm : Int) : Prop := ∃ f : Nat × Nat, w.heap[wg]? = some (.cells #[.int .u64 st, .int .u32 sm] ty f) ∧ w.frozen? ⟨wg, 0, none⟩ = false ∧ w.frozen? ⟨wg, 1, none⟩ = false
section
variable {ty : TypeId} {wg : Nat} {w w' : World} {st sm : Int}
theorem WgAt.cellSt (h : WgAt ty wg w st sm) : w.cell? (stA wg) = some (.int .u64 st) := by obtain ⟨f, h, _⟩ := h; simp [World.cell?, stA, h]
theorem WgAt.cellSm (h : WgAt ty wg w st sm) : w.cell? (smA wg) = some (.int .u32 sm) := by obtain ⟨f, h, _⟩ := h; simp [World.cell?, smA, h]
theorem WgAt.thaw (h : WgAt ty wg w st sm) (n : Nat) (hn : n < 2 := by decide) : w.frozen? ⟨wg, n, none⟩ = false := by
 obtain ⟨f, _, h0, h1⟩ := h
 rcases n with _ | _ | n
 ·exact h0
 ·exact h1
 ·omega
theorem WgAt.unique {st' sm' : Int} (h : WgAt ty wg w st sm) (h' : WgAt ty wg w st' sm') : st = st' ∧ sm = sm' := by
 obtain ⟨f, h, _⟩ := h
 obtain ⟨f', h', _⟩ := h'
 rw [h] at h'
 simp at h'
 exact ⟨h'.1.1, h'.1.2⟩
theorem WgAt.setSt (h : WgAt ty wg w st sm) (v : Int) : WgAt ty wg (w.setCell (stA wg) (.int .u64 v)) v sm := by
 obtain ⟨f, h, h0, h1⟩ := h
 refine ⟨f, ?_, by rw [frozen_setCell]; exact h0, by rw [frozen_setCell]; exact h1⟩
 simp [World.setCell, stA, Array.getElem?_modify, h]
theorem WgAt.setSm (h : WgAt ty wg w st sm) (v : Int) : WgAt ty wg (w.setCell (smA wg) (.int .u32 v)) st v := by
 obtain ⟨f, h, h0, h1⟩ := h
 refine ⟨f, ?_, by rw [frozen_setCell]; exact h0, by rw [frozen_setCell]; exact h1⟩
 simp [World.setCell, smA, Array.getElem?_modify, h]
theorem WgAt.of_heap (h : WgAt ty wg w st sm) (e : w'.heap[wg]? = w.heap[wg]?) : WgAt ty wg w' st sm := by
 obtain ⟨f, h, h0, h1⟩ := h
 have hf : ∀ o, w'.frozen? ⟨wg, o, none⟩ = w.frozen? ⟨wg, o, none⟩ := fun o => by unfold World.frozen?; rw [e]
 exact ⟨f, e.trans h, (hf 0).trans h0, (hf 1).trans h1⟩
def WgLive (ty : TypeId) (Wg : Nat) (w : World) : Prop := ∃ st sm, WgAt ty Wg w st sm
end
def RL (ty : TypeId) (Wg : Nat) (w w₁ : World) : Prop := WgLive ty Wg w → WgLive ty Wg w₁
theorem live_cell {ty : TypeId} {Wg : Nat} {w : World} (h : WgLive ty Wg w) : ∃ v, w.cell? ⟨Wg, 0, none⟩ = some v := let ⟨_, _, x⟩ := h; ⟨_, WgAt.cellSt x⟩
section
variable (P : Program) (ty : TypeId) (Wg : Nat)
def Zg (Stop : Goroutine → World → Prop) (m : Nat) (g : Goroutine) (w : World) : Prop := Goes P false (RL ty Wg) DC0 Stop m g w
def Z4 (g : Goroutine) (w : World) : Prop :=
 g.status = .running ∧ mayWake P g = true ∧ (WgAt ty Wg w 0 0 → ∃ g' q, stepG P false g w = .go g' (w.setCell (smA Wg) (.int .u32 1)) (semEvents (smA Wg)) ∧ QuitsD P q 1 g')
def Z3 (g : Goroutine) (w : World) : Prop :=
 g.status = .running ∧ (WgAt ty Wg w 1 0 → ∃ g' m, stepG P false g w = .go g' (w.setCell (stA Wg) (.int .u64 0)) #[wr (stA Wg)] ∧ Zg P ty Wg (Z4 P ty Wg) m g' (w.setCell (stA Wg) (.int .u64 0)))
def Z2 (g : Goroutine) (w : World) : Prop :=
 g.status = .running ∧ (WgAt ty Wg w 1 0 → ∃ g' m, stepG P false g w = .go g' w #[rd (stA Wg)] ∧ Zg P ty Wg (Z3 P ty Wg) m g' w)
def Z1 (g : Goroutine) (w : World) : Prop :=
 g.status = .running ∧ ∀ v wt : Nat, wt ≤ 1 → v < 2147483647 → WgAt ty Wg w ((v + 1) * KK + wt) 0 →
  ∃ g', stepG P false g w = .go g' (w.setCell (stA Wg) (.int .u64 (v * KK + wt))) #[rd (stA Wg), wr (stA Wg)] ∧
   ((v = 0 ∧ wt = 1) → ∃ m, Zg P ty Wg (Z2 P ty Wg) m g' (w.setCell (stA Wg) (.int .u64 (v * KK + wt)))) ∧ (¬ (v = 0 ∧ wt = 1) → ∃ q, QuitsD P q 1 g')
def ZK (g : Goroutine) (w : World) : Prop :=
 g.status = .running ∧ ∃ g' m, stepG P false g w = .go g' w #[mk .disable] ∧ Zg P ty Wg (Z1 P ty Wg) m g' w
def ZR (g : Goroutine) (w : World) : Prop :=
 g.status = .running ∧ ∃ g' m, stepG P false g w = .go g' w #[mk (.releaseMerge (stA Wg))] ∧ Zg P ty Wg (ZK P ty Wg) m g' w
end
end Go.PB
namespace Go.PB
open Go.Conc Go.Conc.Lib Go.ConcR.Gen
open Go.ConcR (KK stA smA rd wr mk DC0)
theorem quits_more {P : Program} : ∀ {n d : Nat} {g : Goroutine}, QuitsD P n d g → QuitsD P (n + 1) d g
 | 0, _, _, h => .inl h
 | _ + 1, _, _, h => h.imp id fun ⟨hs, g', es, hm, hst, hq⟩ => ⟨hs, g', es, hm, hst, quits_more hq⟩
theorem quits_mono {P : Program} {n n' d : Nat} {g : Goroutine} (h : QuitsD P n d g) (hn : n ≤ n') : QuitsD P n' d g := by
 induction hn with
 | refl => exact h
 | step _ ih => exact quits_more ih
set_option maxRecDepth 100000 in
set_option maxHeartbeats 8000000 in
theorem add_goes [Go.ConcR.Payload] {P : Program} {L : WgLink} (H : WgLib P L) {Wg : Nat} {b₀ : Frame} {a₀ : Act} {ops₀ : Array Oper} {i₀ : Nat} {rest₀ : List Nat} {k₀ : List Item} {cs : List Frame} {qt : Nat}
  (hT : QuitsD P qt 0 (G (b₀.at (a₀.put ((ops₀[i₀]?).bind (·.dst)) (.tuple #[])) (.inRegion ops₀ rest₀ :: k₀)) cs)) (w : World) (hK : WgLive L.tWg Wg w) :
  Zg P L.tWg Wg (ZR P L.tWg Wg) 20 (G ((Go.Conc.base L.add).at ⟨#[.pointer (some ⟨Wg, 0, none⟩), .int .i64 (-1)] ++ Array.replicate 115 undef, []⟩ [.code (body_add L)]) (b₀.at a₀ (.inRegion ops₀ (i₀ :: rest₀) :: k₀) :: cs)) w := by
 lib_facts
 simp only [body_add, addFn, Option.getD_some, Array.replicate_succ, Array.replicate_zero]
 unfold Zg
 have key : ∀ {w w₁ : World}, WgLive L.tWg Wg w → RL L.tWg Wg w w₁ → WgLive L.tWg Wg w₁ := fun h r => r h
 walk_nrm
 repeat (first | u_c stepG_seq key hK | u_c stepG_region_end key hK | u_c stepG_skip key hK | u_reg key hK | u_skip key hK | u_op key hK | u_cond true key hK | u_cond false key hK | u_c stepG_ret' key hK | u_c stepG_block key hK | u_c stepG_loop key hK | u_c stepG_end key hK | u_defer key hK | u_leave1 H.f_uAdd key hK | u_leave1 H.f_uLoad key hK | u_leave0 H.f_uStore key hK | u_call H.f_uAdd (nm_uAdd L) uAddFn key hK | u_call H.f_uLoad (nm_uLoad L) uLoadFn key hK | u_call H.f_uStore (nm_uStore L) uStoreFn key hK | u_bub key hK)
 u_conv H.underlying_tWgP H.room_tWg (live_cell hK).choose_spec key hK
 refine Goes.stop (fun w₁ h₁ => ?_)
 replace hK := key hK h₁
 clear h₁
 refine ⟨rfl, _, 30, stepG_markAt .releaseMerge (by simp) rfl rfl (by k_ne) rfl H.f_relMerge (x_relMerge_n L) (x_relMerge_b L) (x_relMerge_x L) (x_relMerge_f L) (by simp [Act.eval, stA]), ?_⟩
 unfold Zg
 walk_nrm
 repeat (first | u_c stepG_seq key hK | u_c stepG_region_end key hK | u_c stepG_skip key hK | u_reg key hK | u_skip key hK | u_op key hK | u_cond true key hK | u_cond false key hK | u_c stepG_ret' key hK | u_c stepG_block key hK | u_c stepG_loop key hK | u_c stepG_end key hK | u_defer key hK | u_leave1 H.f_uAdd key hK | u_leave1 H.f_uLoad key hK | u_leave0 H.f_uStore key hK | u_call H.f_uAdd (nm_uAdd L) uAddFn key hK | u_call H.f_uLoad (nm_uLoad L) uLoadFn key hK | u_call H.f_uStore (nm_uStore L) uStoreFn key hK | u_bub key hK)
 refine Goes.stop (fun w₁ h₁ => ?_)
 replace hK := key hK h₁
 clear h₁
 refine ⟨rfl, _, 80, stepG_mark0 .disable (by simp) rfl rfl (by k_ne) rfl H.f_disable (x_disable_n L) (x_disable_b L) (x_disable_x L) (x_disable_f L), ?_⟩
 unfold Zg
 walk_nrm
 repeat (first | u_c stepG_seq key hK | u_c stepG_region_end key hK | u_c stepG_skip key hK | u_reg key hK | u_skip key hK | u_op key hK | u_cond true key hK | u_cond false key hK | u_c stepG_ret' key hK | u_c stepG_block key hK | u_c stepG_loop key hK | u_c stepG_end key hK | u_defer key hK | u_leave1 H.f_uAdd key hK | u_leave1 H.f_uLoad key hK | u_leave0 H.f_uStore key hK | u_call H.f_uAdd (nm_uAdd L) uAddFn key hK | u_call H.f_uLoad (nm_uLoad L) uLoadFn key hK | u_call H.f_uStore (nm_uStore L) uStoreFn key hK | u_bub key hK)
 refine Goes.stop (fun w₁ h₁ => ?_)
 clear h₁ hK
 refine ⟨rfl, fun v wt hwt hv hw => ?_⟩
 have e0 : IntKind.u64.wrap (KK + 18446744069414584320) = 0 := by decide
 have e1 : IntKind.u64.wrap (KK + 1 + 18446744069414584320) = 1 := by decide
 rcases Nat.eq_zero_or_pos v with rfl | hvp <;> (obtain rfl | rfl : wt = 0 ∨ wt = 1 := by omega)
 ·-- nobody is left, nobody waits
  replace hw : WgAt L.tWg Wg w₁ KK 0 := by simpa using hw
  have z : ((0 : Nat) : Int) * KK + ((0 : Nat) : Int) = 0 := by simp
  rw [z]
  refine ⟨_, (stepG_add_atomic rfl rfl (by k_ne) rfl H.f_addU64 (x_addU64_n L) (x_addU64_b L) (x_addU64_x L) .u64 (x_addU64_f L) rfl rfl (WgAt.cellSt hw) (WgAt.thaw hw 0)).trans (by rw [e0]; rfl), fun hl => absurd hl.2 (by decide), fun _ => ⟨qt + 200, ?_⟩⟩
  clear hw
  walk_nrm
  q_val (.int .u64 0)
  q_c stepG_region_end
  q_c stepG_ret'
  q_leave1 H.f_uAdd
  q_val (.int .u64 0)
  q_c stepG_region_end
  q_c stepG_seq
  q_c stepG_seq
  q_reg
  q_val (.int .u64 0)
  q_val (.int .u64 0)
  q_val (.bool false)
  q_val (.bool false)
  q_skip
  q_skip
  q_val (.bool false)
  q_c stepG_region_end
  q_cond false
  q_c stepG_skip
  q_c stepG_seq
  q_reg
  q_val (.int .u64 0)
  q_val (.int .u64 0)
  q_val (.int .i32 0)
  q_val (.int .i32 0)
  q_c stepG_region_end
  q_c stepG_seq
  q_reg
  q_val (.int .u64 0)
  q_val (.int .u64 0)
  q_val (.int .u32 0)
  q_val (.int .u32 0)
  q_c stepG_region_end
  q_c stepG_seq
  q_c stepG_seq
  q_reg
  q_val (.bool true)
  q_val (.int .i64 (-1))
  q_val (.bool false)
  q_val (.bool false)
  q_val (.bool false)
  q_skip
  q_skip
  q_skip
  q_skip
  q_val (.bool false)
  q_c stepG_region_end
  q_cond false
  q_c stepG_skip
  q_c stepG_seq
  q_c stepG_seq
  q_reg
  q_val (.int .i32 0)
  q_val (.bool false)
  q_c stepG_region_end
  q_cond false
  q_c stepG_skip
  q_c stepG_seq
  q_c stepG_seq
  q_reg
  q_val (.int .u32 0)
  q_val (.bool false)
  q_val (.bool false)
  q_skip
  q_skip
  q_val (.bool false)
  q_val (.bool false)
  q_skip
  q_skip
  q_skip
  q_skip
  q_val (.bool false)
  q_c stepG_region_end
  q_cond false
  q_c stepG_skip
  q_c stepG_seq
  q_c stepG_seq
  q_reg
  q_val (.int .i32 0)
  q_val (.bool false)
  q_val (.bool false)
  q_val (.int .u32 0)
  q_val (.bool true)
  q_val (.bool true)
  q_c stepG_region_end
  q_cond true
  q_c stepG_ret'
  q_enable
  q_leave0 H.f_add
  exact quits_mono hT (by omega)
 ·-- nobody is left, the starter waits: the last one
  replace hw : WgAt L.tWg Wg w₁ (KK + 1) 0 := by simpa using hw
  have z : ((0 : Nat) : Int) * KK + ((1 : Nat) : Int) = 1 := by simp
  rw [z]
  refine ⟨_, (stepG_add_atomic rfl rfl (by k_ne) rfl H.f_addU64 (x_addU64_n L) (x_addU64_b L) (x_addU64_x L) .u64 (x_addU64_f L) rfl rfl (WgAt.cellSt hw) (WgAt.thaw hw 0)).trans (by rw [e1]; rfl), fun _ => ⟨150, ?_⟩, fun hl => absurd ⟨rfl, rfl⟩ hl⟩
  have hK : WgLive L.tWg Wg (w₁.setCell (stA Wg) (.int .u64 1)) := ⟨_, _, WgAt.setSt hw 1⟩
  clear hw
  unfold Zg
  walk_nrm
  u_op key hK
  u_c stepG_region_end key hK
  u_c stepG_ret' key hK
  u_leave1 H.f_uAdd key hK
  u_op key hK
  u_c stepG_region_end key hK
  u_c stepG_seq key hK
  u_c stepG_seq key hK
  u_reg key hK
  u_op key hK
  u_op key hK
  u_op key hK
  u_op key hK
  u_skip key hK
  u_skip key hK
  u_op key hK
  u_c stepG_region_end key hK
  u_cond false key hK
  u_c stepG_skip key hK
  u_c stepG_seq key hK
  u_reg key hK
  u_op key hK
  u_op key hK
  u_op key hK
  u_op key hK
  u_c stepG_region_end key hK
  u_c stepG_seq key hK
  u_reg key hK
  u_op key hK
  u_op key hK
  u_op key hK
  u_op key hK
  u_c stepG_region_end key hK
  u_c stepG_seq key hK
  u_c stepG_seq key hK
  u_reg key hK
  u_op key hK
  u_op key hK
  u_op key hK
  u_op key hK
  u_op key hK
  u_skip key hK
  u_skip key hK
  u_skip key hK
  u_skip key hK
  u_op key hK
  u_c stepG_region_end key hK
  u_cond false key hK
  u_c stepG_skip key hK
  u_c stepG_seq key hK
  u_c stepG_seq key hK
  u_reg key hK
  u_op key hK
  u_op key hK
  u_c stepG_region_end key hK
  u_cond false key hK
  u_c stepG_skip key hK
  u_c stepG_seq key hK
  u_c stepG_seq key hK
  u_reg key hK
  u_op key hK
  u_op key hK
  u_op key hK
  u_op key hK
  u_op key hK
  u_op key hK
  u_op key hK
  u_skip key hK
  u_skip key hK
  u_skip key hK
  u_skip key hK
  u_op key hK
  u_c stepG_region_end key hK
  u_cond false key hK
  u_c stepG_skip key hK
  u_c stepG_seq key hK
  u_c stepG_seq key hK
  u_reg key hK
  u_op key hK
  u_op key hK
  u_op key hK
  u_op key hK
  u_op key hK
  u_op key hK
  u_c stepG_region_end key hK
  u_cond false key hK
  u_c stepG_skip key hK
  u_c stepG_seq key hK
  u_c stepG_seq key hK
  u_reg key hK
  u_op key hK
  u_op key hK
  u_op key hK
  u_call H.f_uLoad (nm_uLoad L) uLoadFn key hK
  u_c stepG_seq key hK
  u_reg key hK
  u_op key hK
  u_c stepG_region_end key hK
  u_c stepG_seq key hK
  u_reg key hK
  u_op key hK
  u_op key hK
  u_op key hK
  refine Goes.stop (fun w₂ h₂ => ?_)
  clear h₂ hK
  refine ⟨rfl, fun hw => ⟨_, 60, stepG_load_atomic rfl rfl (by k_ne) rfl H.f_loadU64 (x_loadU64_n L) (x_loadU64_b L) (x_loadU64_x L) .u64 (x_loadU64_f L) rfl (WgAt.cellSt hw), ?_⟩⟩
  have hK : WgLive L.tWg Wg w₂ := ⟨_, _, hw⟩
  clear hw
  unfold Zg
  walk_nrm
  u_op key hK
  u_c stepG_region_end key hK
  u_c stepG_ret' key hK
  u_leave1 H.f_uLoad key hK
  u_op key hK
  u_op key hK
  u_c stepG_region_end key hK
  u_cond false key hK
  u_c stepG_skip key hK
  u_c stepG_seq key hK
  u_reg key hK
  u_op key hK
  u_op key hK
  u_op key hK
  u_call H.f_uStore (nm_uStore L) uStoreFn key hK
  u_reg key hK
  u_op key hK
  u_op key hK
  u_op key hK
  u_op key hK
  refine Goes.stop (fun w₃ h₃ => ?_)
  clear h₃ hK
  refine ⟨rfl, fun hw => ⟨_, 60, stepG_store_atomic rfl rfl (by k_ne) rfl H.f_storeU64 (x_storeU64_n L) (x_storeU64_b L) (x_storeU64_x L) (x_storeU64_f L) rfl rfl (WgAt.cellSt hw) (WgAt.thaw hw 0), ?_⟩⟩
  have hK : WgLive L.tWg Wg (w₃.setCell (stA Wg) (.int .u64 0)) := ⟨_, _, WgAt.setSt hw 0⟩
  clear hw
  unfold Zg
  walk_nrm
  u_c stepG_region_end key hK
  u_c stepG_end key hK
  u_leave0 H.f_uStore key hK
  u_c stepG_region_end key hK
  u_c stepG_seq key hK
  u_c stepG_seq key hK
  u_reg key hK
  u_op key hK
  u_c stepG_region_end key hK
  u_cond false key hK
  u_c stepG_skip key hK
  u_c stepG_block key hK
  u_c stepG_loop key hK
  u_c stepG_seq key hK
  u_c stepG_seq key hK
  u_reg key hK
  u_op key hK
  u_op key hK
  u_c stepG_region_end key hK
  u_cond true key hK
  u_c stepG_skip key hK
  u_c stepG_seq key hK
  u_c stepG_block key hK
  u_reg key hK
  u_op key hK
  u_op key hK
  u_op key hK
  refine Goes.stop (fun w₄ h₄ => ?_)
  clear h₄ hK
  refine ⟨rfl, mayWake_entry rfl rfl H.f_semrelease (x_semrelease_b L), fun hw => ⟨_, qt + 40, (stepG_semrelease rfl rfl (by k_ne) rfl H.f_semrelease (x_semrelease_n L) (x_semrelease_b L) (x_semrelease_x L) (x_semrelease_f L) (by simp [Act.eval, smA]) (WgAt.cellSm hw) (WgAt.thaw hw 1)).trans (by rfl), ?_⟩⟩
  clear hw
  walk_nrm
  q_c stepG_region_end
  q_c stepG_inBlock
  q_reg
  q_val (.int .u32 1)
  q_val (.int .u32 0)
  q_val (.int .u32 0)
  q_c stepG_region_end
  q_c stepG_inLoop
  q_c stepG_seq
  q_c stepG_seq
  q_reg
  q_val (.int .u32 0)
  q_val (.bool false)
  q_c stepG_region_end
  q_cond false
  q_exit
  q_c stepG_end
  q_enable
  q_leave0 H.f_add
  exact quits_mono hT (by omega)
 ·-- some are left, nobody waits
  replace hw : WgAt L.tWg Wg w₁ (((v : Nat) + 1) * KK + 0) 0 := by simpa using hw
  have z : ((v : Nat) : Int) * KK + ((0 : Nat) : Int) = (v : Int) * KK + 0 := by simp
  rw [z]
  have eS : IntKind.u64.wrap (((v : Nat) + 1) * KK + 0 + 18446744069414584320) = (v : Int) * KK + 0 := by rw [IntKind.wrap_u64]; simp only [KK]; omega
  obtain ⟨S, hS⟩ : ∃ S : Int, S = (v : Int) * KK + 0 := ⟨_, rfl⟩
  rw [← hS] at eS ⊢
  have a1 : S / 4294967296 = (v : Int) := by rw [hS]; simp only [KK]; omega
  have a2 : 0 ≤ S ∧ S < 9223372036854775808 := by rw [hS]; simp only [KK]; omega
  have b1 : bits .and .u64 S 2147483648 = 0 := by rw [hS]; have := Go.ConcN.st_flag v 0 (by omega) (by omega); simpa [KK] using this
  have b2 : bits .and .u64 S 2147483647 = 0 := by rw [hS]; have := Go.ConcN.st_waiters v 0 (by omega) (by omega); simpa [KK] using this
  clear hS z
  refine ⟨_, (stepG_add_atomic rfl rfl (by k_ne) rfl H.f_addU64 (x_addU64_n L) (x_addU64_b L) (x_addU64_x L) .u64 (x_addU64_f L) rfl rfl (WgAt.cellSt hw) (WgAt.thaw hw 0)).trans (by rw [eS]; rfl), fun hl => absurd hl.1 (by omega), fun _ => ⟨qt + 150, ?_⟩⟩
  clear hw
  walk_nrm
  q_vn (.int .u64 S)
  q_c stepG_region_end
  q_c stepG_ret'
  q_leave1 H.f_uAdd
  q_vn (.int .u64 S)
  q_c stepG_region_end
  q_c stepG_seq
  q_c stepG_seq
  q_reg
  q_vn (.int .u64 S)
  q_vn (.int .u64 0)
  q_vn (.bool false)
  q_vn (.bool false)
  q_skip
  q_skip
  q_vn (.bool false)
  q_c stepG_region_end
  q_cond false
  q_c stepG_skip
  q_c stepG_seq
  q_reg
  q_vn (.int .u64 S)
  q_vn (.int .u64 (v:Int))
  q_vn (.int .i32 (v:Int))
  q_vn (.int .i32 (v:Int))
  q_c stepG_region_end
  q_c stepG_seq
  q_reg
  q_vn (.int .u64 S)
  q_vn (.int .u64 0)
  q_vn (.int .u32 0)
  q_vn (.int .u32 0)
  q_c stepG_region_end
  q_c stepG_seq
  q_c stepG_seq
  q_reg
  q_vn (.bool true)
  q_vn (.int .i64 (-1))
  q_vn (.bool false)
  q_vn (.bool false)
  q_vn (.bool false)
  q_skip
  q_skip
  q_skip
  q_skip
  q_vn (.bool false)
  q_c stepG_region_end
  q_cond false
  q_c stepG_skip
  q_c stepG_seq
  q_c stepG_seq
  q_reg
  q_vn (.int .i32 (v:Int))
  q_vn (.bool false)
  q_c stepG_region_end
  q_cond false
  q_c stepG_skip
  q_c stepG_seq
  q_c stepG_seq
  q_reg
  q_vn (.int .u32 0)
  q_vn (.bool false)
  q_vn (.bool false)
  q_skip
  q_skip
  q_vn (.bool false)
  q_vn (.bool false)
  q_skip
  q_skip
  q_skip
  q_skip
  q_vn (.bool false)
  q_c stepG_region_end
  q_cond false
  q_c stepG_skip
  q_c stepG_seq
  q_c stepG_seq
  q_reg
  q_vn (.int .i32 (v:Int))
  q_vn (.bool true)
  q_vn (.bool true)
  q_skip
  q_skip
  q_vn (.bool true)
  q_c stepG_region_end
  q_cond true
  q_c stepG_ret'
  q_enable
  q_leave0 H.f_add
  exact quits_mono hT (by omega)
 ·-- some are left, the starter waits
  replace hw : WgAt L.tWg Wg w₁ (((v : Nat) + 1) * KK + 1) 0 := by simpa using hw
  have z : ((v : Nat) : Int) * KK + ((1 : Nat) : Int) = (v : Int) * KK + 1 := by simp
  rw [z]
  have eS : IntKind.u64.wrap (((v : Nat) + 1) * KK + 1 + 18446744069414584320) = (v : Int) * KK + 1 := by rw [IntKind.wrap_u64]; simp only [KK]; omega
  obtain ⟨S, hS⟩ : ∃ S : Int, S = (v : Int) * KK + 1 := ⟨_, rfl⟩
  rw [← hS] at eS ⊢
  have a1 : S / 4294967296 = (v : Int) := by rw [hS]; simp only [KK]; omega
  have a2 : 0 ≤ S ∧ S < 9223372036854775808 := by rw [hS]; simp only [KK]; omega
  have b1 : bits .and .u64 S 2147483648 = 0 := by rw [hS]; have := Go.ConcN.st_flag v 1 (by omega) (by omega); simpa [KK] using this
  have b2 : bits .and .u64 S 2147483647 = 1 := by rw [hS]; have := Go.ConcN.st_waiters v 1 (by omega) (by omega); simpa [KK] using this
  clear hS z
  refine ⟨_, (stepG_add_atomic rfl rfl (by k_ne) rfl H.f_addU64 (x_addU64_n L) (x_addU64_b L) (x_addU64_x L) .u64 (x_addU64_f L) rfl rfl (WgAt.cellSt hw) (WgAt.thaw hw 0)).trans (by rw [eS]; rfl), fun hl => absurd hl.1 (by omega), fun _ => ⟨qt + 150, ?_⟩⟩
  clear hw
  walk_nrm
  q_vn (.int .u64 S)
  q_c stepG_region_end
  q_c stepG_ret'
  q_leave1 H.f_uAdd
  q_vn (.int .u64 S)
  q_c stepG_region_end
  q_c stepG_seq
  q_c stepG_seq
  q_reg
  q_vn (.int .u64 S)
  q_vn (.int .u64 0)
  q_vn (.bool false)
  q_vn (.bool false)
  q_skip
  q_skip
  q_vn (.bool false)
  q_c stepG_region_end
  q_cond false
  q_c stepG_skip
  q_c stepG_seq
  q_reg
  q_vn (.int .u64 S)
  q_vn (.int .u64 (v:Int))
  q_vn (.int .i32 (v:Int))
  q_vn (.int .i32 (v:Int))
  q_c stepG_region_end
  q_c stepG_seq
  q_reg
  q_vn (.int .u64 S)
  q_vn (.int .u64 1)
  q_vn (.int .u32 1)
  q_vn (.int .u32 1)
  q_c stepG_region_end
  q_c stepG_seq
  q_c stepG_seq
  q_reg
  q_vn (.bool true)
  q_vn (.int .i64 (-1))
  q_vn (.bool false)
  q_vn (.bool false)
  q_vn (.bool false)
  q_skip
  q_skip
  q_skip
  q_skip
  q_vn (.bool false)
  q_c stepG_region_end
  q_cond false
  q_c stepG_skip
  q_c stepG_seq
  q_c stepG_seq
  q_reg
  q_vn (.int .i32 (v:Int))
  q_vn (.bool false)
  q_c stepG_region_end
  q_cond false
  q_c stepG_skip
  q_c stepG_seq
  q_c stepG_seq
  q_reg
  q_vn (.int .u32 1)
  q_vn (.bool true)
  q_vn (.bool true)
  q_vn (.int .i64 (-1))
  q_vn (.bool false)
  q_vn (.bool false)
  q_vn (.bool false)
  q_skip
  q_skip
  q_skip
  q_skip
  q_vn (.bool false)
  q_c stepG_region_end
  q_cond false
  q_c stepG_skip
  q_c stepG_seq
  q_c stepG_seq
  q_reg
  q_vn (.int .i32 (v:Int))
  q_vn (.bool true)
  q_vn (.bool true)
  q_skip
  q_skip
  q_vn (.bool true)
  q_c stepG_region_end
  q_cond true
  q_c stepG_ret'
  q_enable
  q_leave0 H.f_add
  exact quits_mono hT (by omega)
end Go.PB
namespace Go.PB
open Go.Conc Go.Conc.Lib Go.ConcR.Gen
open Go.ConcR (KK stA smA rd wr mk DC0)
set_option maxRecDepth 100000 in
theorem add_goes2 [Go.ConcR.Payload] {P : Program} {L : WgLink} (H : WgLib P L) {Wg : Nat} {b₀ : Frame} {a₀ : Act} {ops₀ : Array Oper} {i₀ : Nat} {rest₀ : List Nat} {k₀ : List Item} {cs : List Frame} {qt : Nat}
  (hT : QuitsD P qt 0 (G (b₀.at (a₀.put ((ops₀[i₀]?).bind (·.dst)) (.tuple #[])) (.inRegion ops₀ rest₀ :: k₀)) cs)) (w : World) (hK : WgLive L.tWg Wg w) :
  Zg P L.tWg Wg (ZR P L.tWg Wg) 20 (G ((Go.Conc.base L.add).at ⟨#[.pointer (some ⟨Wg, 0, none⟩), .int .i64 (-1), undef, undef, undef, undef, undef, undef, undef, undef, undef, undef, undef, undef, undef, undef, undef, undef, undef, undef, undef, undef, undef, undef, undef, undef, undef, undef, undef, undef, undef, undef, undef, undef, undef, undef, undef, undef, undef, undef, undef, undef, undef, undef, undef, undef, undef, undef, undef, undef, undef, undef, undef, undef, undef, undef, undef, undef, undef, undef, undef, undef, undef, undef, undef, undef, undef, undef, undef, undef, undef, undef, undef, undef, undef, undef, undef, undef, undef, undef, undef, undef, undef, undef, undef, undef, undef, undef, undef, undef, undef, undef, undef, undef, undef, undef, undef, undef, undef, undef, undef, undef, undef, undef, undef, undef, undef, undef, undef, undef, undef, undef, undef, undef, undef, undef, undef], []⟩ [.code (body_add L)]) (b₀.at a₀ (.inRegion ops₀ (i₀ :: rest₀) :: k₀) :: cs)) w := by
 have e : (#[.pointer (some ⟨Wg, 0, none⟩), .int .i64 (-1), undef, undef, undef, undef, undef, undef, undef, undef, undef, undef, undef, undef, undef, undef, undef, undef, undef, undef, undef, undef, undef, undef, undef, undef, undef, undef, undef, undef, undef, undef, undef, undef, undef, undef, undef, undef, undef, undef, undef, undef, undef, undef, undef, undef, undef, undef, undef, undef, undef, undef, undef, undef, undef, undef, undef, undef, undef, undef, undef, undef, undef, undef, undef, undef, undef, undef, undef, undef, undef, undef, undef, undef, undef, undef, undef, undef, undef, undef, undef, undef, undef, undef, undef, undef, undef, undef, undef, undef, undef, undef, undef, undef, undef, undef, undef, undef, undef, undef, undef, undef, undef, undef, undef, undef, undef, undef, undef, undef, undef, undef, undef, undef, undef, undef, undef] : Array Value) = #[.pointer (some ⟨Wg, 0, none⟩), .int .i64 (-1)] ++ Array.replicate 115 undef := by kernel_rfl
 rw [e]
 exact add_goes H hT w hK
set_option maxHeartbeats 8000000 in
set_option maxRecDepth 100000 in
theorem done_goes [Go.ConcR.Payload] {P : Program} {L : WgLink} (H : WgLib P L) {Wg : Nat} {c : Frame} {cs : List Frame} {qt : Nat} (hcm : c.mode = .returning) (hT : QuitsD P qt 0 (G c cs)) (w : World) (hK : WgLive L.tWg Wg w) :
  Zg P L.tWg Wg (ZR P L.tWg Wg) 23 (G ((baseD L.done).at ⟨#[.pointer (some ⟨Wg, 0, none⟩), undef, undef, undef], []⟩ [.code (body_done L)]) (c :: cs)) w := by
 lib_facts
 have hA := @add_goes2 _ P L H Wg
 unfold Zg at hA ⊢
 have key : ∀ {w w₁ : World}, WgLive L.tWg Wg w → RL L.tWg Wg w w₁ → WgLive L.tWg Wg w₁ := fun h r => r h
 simp only [body_done, body_add, doneFn, addFn, Option.getD_some] at hA ⊢
 u_reg key hK
 u_op key hK
 u_in key hK
 refine goes_call rfl rfl (by k_ne) rfl H.f_add (nm_add L) rfl ⟨by u_nil, ?_⟩
 walk_nrmf addFn
 refine hA (qt := qt + 3) ?_ _ hK
 q_c stepG_region_end
 q_c stepG_end
 exact QuitsD.leaveD rfl rfl H.f_done rfl hcm hT
theorem done_enter {P : Program} {L : WgLink} (H : WgLib P L) {v : Value} : Frame.enter P L.done #[v] .deferred = (baseD L.done).at ⟨#[v, undef, undef, undef], []⟩ [.code (body_done L)] := by
 simp [Frame.enter, H.f_done, body_done, doneFn]
 rfl
end Go.PB
