/-
  FOUNDATION, PART 8. Rows of cells written at once; slices that the thread owns ('vec'): append, slicing. No program is in sight.
  FOUNDATION, PART 9. Slicing; functions without a body (sync/atomic); calls through an interface; deferred calls. No program is in sight.
-/
import Derived.Test.YtabbkjciifnehaaFg
set_option linter.unusedVariables false
set_option linter.unusedSimpArgs false
namespace Go.PB

/-- vs with ws laid over it from place k on -/
def over (vs : List Value) (k : Nat) (ws : List Value) : List Value := vs.take k ++ ws ++ vs.drop (k + ws.length)

theorem over_cons {vs ws : List Value} {k : Nat} {w : Value} (h : k + (ws.length + 1) ≤ vs.length) : over (vs.set k w) (k + 1) ws = over vs k (w :: ws) := by
  unfold over
  apply List.ext_getElem?
  intro i
  simp only [List.getElem?_append, List.length_append, List.length_take, List.getElem?_take, List.getElem?_drop, List.getElem?_set, List.length_set, List.getElem?_cons, List.length_cons]
  rw [show min (k + 1) vs.length = k + 1 by omega, show min k vs.length = k by omega]
  by_cases h1 : i < k
  · simp [h1, show i < k + 1 by omega, show i < k + 1 + ws.length by omega, show i < k + (ws.length + 1) by omega, show k ≠ i by omega]
  · by_cases h2 : i = k
    · subst h2; simp [show i < vs.length by omega, show i < i + 1 + ws.length by omega]
    · by_cases h3 : i < k + 1 + ws.length
      · simp [h1, h3, show ¬ i < k + 1 by omega, show i < k + (ws.length + 1) by omega, show ¬ i - k = 0 by omega, show i - k - 1 = i - (k + 1) by omega]
      · simp [h1, h3, show ¬ i < k + (ws.length + 1) by omega, show k + 1 + ws.length + (i - (k + 1 + ws.length)) = k + (ws.length + 1) + (i - (k + (ws.length + 1))) by omega, show k ≠ k + (ws.length + 1) + (i - (k + (ws.length + 1))) by omega]

theorem over_length {vs ws : List Value} {k : Nat} (h : k + ws.length ≤ vs.length) : (over vs k ws).length = vs.length := by
  simp [over]; omega

section
variable {P : Program} {e : Env} {L : List HProp} {ty : TypeId} {M : Mark → Prop}

theorem wpS_storeCells {b o : Nat} {Q : Unit → Hp → Prop} {X : Value → Hp → Prop} : ∀ (ws : List Value) (vs : List Value) (k i : Nat) (a : Nat) (h : Hp), (∀ w ∈ ws, one w = true) → k + ws.length ≤ vs.length → a + i = o + k → Star (arr b o vs :: L) h →
    (∀ h', Star (arr b o (over vs k ws) :: L) h' → Q () h') → wpS P M (storeCells ⟨b, a, none⟩ ws i) h Q X := by
  intro ws
  induction ws with
  | nil =>
    intro vs k i a h _ _ _ s q
    exact q h (by simpa [over] using s)
  | cons w ws ih =>
    intro vs k i a h h1 hk ha s q
    simp only [List.length_cons] at hk
    show wpS P M (Sem.bind (store (Addr.add ⟨b, a, none⟩ i) w) fun _ => storeCells ⟨b, a, none⟩ ws (i + 1)) h Q X
    rw [add_none, ha]
    obtain ⟨hs1, hs2⟩ := star_store (k := k) (v := w) (by omega) s
    refine wpS_bind _ _ (wpS_store1 (h1 w (by simp)) hs1 ?_)
    refine ih (vs.set k w) (k + 1) (i + 1) a _ (fun u hu => h1 u (by simp [hu])) (by simp; omega) (by omega) hs2 fun h' s' => q h' ?_
    rwa [over_cons (by omega)] at s'

/-- a store of a value of several cells -/
theorem mo_storeA {t n : Nat} {o x : Operand} {b c a k : Nat} {v : Value} {vs : List Value} {L' : List HProp} [sz : Siz P t n] (ha : ev e o = some (.pointer (some ⟨b, a, none⟩))) (hx : ev e x = some v) (hv : v.cells.size = n) (h1 : ∀ w ∈ v.cells.toList, one w = true) (hc : a = c + k) (hk : k + n ≤ vs.length) (f : Foc L (arr b c vs) (arr b c (over vs k v.cells.toList)) L') : Mo P e (.store t o x) ty L fun v' L1 => v' = undef ∧ L1 = L' := by
  intro M _ _ tt h Q X ag s q
  show wpS P M (Sem.bind (Instr.storeAt t (evT tt o) (evT tt x)) fun _ => pure .skip) h Q X
  rw [ag.ev ha, ag.ev hx]
  show wpS P M (Sem.bind (storeVar t ⟨b, a, none⟩ v) fun _ => pure .skip) h Q X
  refine wpS_bind _ _ ?_
  show wpS P M (Sem.bind (sizeOf t) fun n => if v.cells.size ≠ n then (do stuck "storeVar: the value has not the size of the variable"; storeCells ⟨b, a, none⟩ v.cells.toList) else storeCells ⟨b, a, none⟩ v.cells.toList) h _ X
  refine wpS_sizeOf sz.ok ?_
  rw [if_neg (by simp [hv])]
  obtain ⟨R, f1, f2⟩ := f.out
  refine wpS_storeCells v.cells.toList vs k 0 a h h1 (by simp [hv]; omega) (by omega) (f1.star s) fun h' s' => ?_
  exact q undef L' h' _ (.inr ⟨rfl, rfl⟩) ⟨rfl, rfl⟩ (f2 s')

/-- A SLICE THAT THE THREAD OWNS, elements of sz cells: its value, its cells. -/
def vec (sz : Nat) (v : Value) (cs : List Value) : HProp := fun h =>
  (v = .slice none 0 0 ∧ cs = []) ∨ ∃ b o n c sp, v = .slice (some ⟨b, o, none⟩) n c ∧ cs.length = n * sz ∧ n ≤ c ∧ sp.length = (c - n) * sz ∧ arr b o (cs ++ sp) h

theorem vec_nil {sz : Nat} {h : Hp} (s : Star L h) : Star (vec sz (.slice none 0 0) [] :: L) h :=
  ⟨⟨fun _ _ => none, fun _ _ => none, fun _ => none, fun _ => none⟩, h, ⟨fun _ _ _ e => by simp at e, fun _ _ _ e => e, fun _ _ _ e => by simp at e, fun _ _ _ e => e, fun _ _ => .inl rfl, fun _ _ e => by simp at e, fun _ _ e => e, fun _ => .inl rfl, fun _ _ e => by simp at e, fun _ _ e => e⟩, .inl ⟨rfl, rfl⟩, s⟩

theorem vec_out {sz : Nat} {v : Value} {cs : List Value} {h : Hp} (s : Star (vec sz v cs :: L) h) :
    (v = .slice none 0 0 ∧ cs = [] ∧ Star L h) ∨ ∃ b o n c sp, v = .slice (some ⟨b, o, none⟩) n c ∧ cs.length = n * sz ∧ n ≤ c ∧ sp.length = (c - n) * sz ∧ Star (arr b o (cs ++ sp) :: L) h := by
  obtain ⟨h1, h2, s1, hv, hL⟩ := s
  rcases hv with ⟨h3, h4⟩ | ⟨b, o, n, c, sp, h3, h4, h5, h6, h7⟩
  · exact .inl ⟨h3, h4, star_drop (c := fun _ => True) ⟨h1, h2, s1, trivial, hL⟩⟩
  · exact .inr ⟨b, o, n, c, sp, h3, h4, h5, h6, h1, h2, s1, h7, hL⟩

theorem vec_in {sz b o n c : Nat} {cs sp : List Value} {h : Hp} (h1 : cs.length = n * sz) (h2 : n ≤ c) (h3 : sp.length = (c - n) * sz) (s : Star (arr b o (cs ++ sp) :: L) h) : Star (vec sz (.slice (some ⟨b, o, none⟩) n c) cs :: L) h :=
  star_map s (fun _ a => .inr ⟨b, o, n, c, sp, rfl, h1, h2, h3, a⟩) (fun _ x => x)

/-- the whole of a new block -/
theorem vec_new {sz b n : Nat} {cs : List Value} {h : Hp} (h1 : cs.length = n * sz) (s : Star (arr b 0 cs :: L) h) : Star (vec sz (.slice (some ⟨b, 0, none⟩) n n) cs :: L) h :=
  vec_in (sp := []) h1 (Nat.le_refl _) (by simp) (by simpa using s)

/-- the value of a slice as its length and address -/
def sliceLen : Value → Nat
  | .slice _ n _ => n
  | _ => 0

theorem growBy_le (m : Nat) : ∀ r c, c < m → Builtin.growBy m r c ≤ m + (m + 768) / 4 := by
  intro r
  induction r with
  | zero => intro c h; simp only [Builtin.growBy]; omega
  | succ r ih =>
    intro c h
    simp only [Builtin.growBy]
    rw [if_neg (by omega)]
    by_cases h2 : c + (c + 768) / 4 < m
    · exact ih _ h2
    · cases r with
      | zero => simp only [Builtin.growBy]; omega
      | succ r => simp only [Builtin.growBy]; rw [if_pos (by omega)]; omega

theorem nextcap_le {m c : Nat} (h : c < m) : Builtin.nextslicecap m c ≤ m + m / 4 + 1024 := by
  unfold Builtin.nextslicecap
  split
  · omega
  · split
    · omega
    · have := growBy_le m 4 c h; omega

theorem zeroCells_eq (z : Array Value) (n : Nat) : (Builtin.zeroCells z n).toList = zeros n z.toList := by
  unfold Builtin.zeroCells; exact range_zeros n z

theorem wpS_choose {α : Type} {qq : Question} {k : Nat → Sem α} {h : Hp} {Q : α → Hp → Prop} {X : Value → Hp → Prop} (hq : qq.forced = false) (w : ∀ t, wpS P M (k (qq.cut t)) h Q X) : wpS P M (Sem.bind (choose qq) k) h Q X := by
  show wpS P M (.choose qq fun n => k n) h Q X
  unfold wpS
  rw [if_neg (by rw [hq]; simp)]
  exact w

/-- append(s, x...): s is owned; x's cells can be read. -/
theorem mo_append {st xt el by_ sz : Nat} {so xo : Operand} {sv : Value} {cs new : List Value} {xb : Option Addr} {xn xc : Nat} {R : List HProp} {zv : Value} {xe : Nat}
    [p : SlT P st el] [px : SlT P xt xe] [b : Byt P el by_] [s : Siz P el sz] [z : Zer P el zv] (hz : zv.cells.size = sz) (hby : (by_ == 0) = false)
    (hs : ev e so = some sv) (hx : ev e xo = some (.slice xb xn xc)) (hv : Has L (vec sz sv cs) R)
    (hnew : new.length = xn * sz) (hrd : xn = 0 ∨ ∃ xbb xo', xb = some ⟨xbb, xo', none⟩ ∧ Rds L xbb xo' new) (h1 : ∀ w ∈ new, one w = true)
    (hroom : ((sliceLen sv + xn) + (sliceLen sv + xn) / 4 + 1024) * by_ ≤ 281474976710656) :
    Mo P e (.call ⟨.builtin .append, #[so, xo], #[st, xt]⟩) ty L fun v' L' => L' = vec sz v' (cs ++ new) :: R := by
  intro M hM _ tt h Q X ag st0 q
  show wpS P M (Sem.bind (Builtin.append_ #[st, xt] ty (#[so, xo].map (evT tt))) fun v => pure (.value v)) h Q X
  rw [show #[so, xo].map (evT tt) = #[evT tt so, evT tt xo] by simp, ag.ev hs, ag.ev hx]
  refine wpS_bind _ _ ?_
  -- what is read
  have hread : ∀ (M : Mark → Prop) (Q : Array Value → Hp → Prop) X, Q new.toArray h → wpS P M (Builtin.firstCells sz xn (.slice xb xn xc)) h Q X := by
    intro M Q X hq
    rcases hrd with h3 | ⟨xbb, xo', h2, h3⟩
    · subst h3
      have : new = [] := List.length_eq_zero_iff.1 (by simpa using hnew)
      subst this
      cases xb with
      | none => exact hq
      | some y =>
        show wpS P M (loadCells y (0 * sz)) h Q X
        rw [Nat.zero_mul]
        exact hq
    · subst h2
      exact wpS_loadCells (b := xbb) (o := xo') hnew.symm (fun j v hj => h3 j v hj h st0) hq
  have hsv := vec_out (hv.star st0)
  have key : ∀ (base : Option Addr) (n c : Nat), sv = .slice base n c →
      wpS P M (Builtin.append_ #[st, xt] ty #[sv, .slice xb xn xc]) h (fun a h => Q (.value a) h) X := by
    intro base n c hsv0
    have hbase : base = none ∧ n = 0 ∧ c = 0 ∧ cs = [] ∧ Star R h ∨ ∃ bb o sp, base = some ⟨bb, o, none⟩ ∧ cs.length = n * sz ∧ n ≤ c ∧ sp.length = (c - n) * sz ∧ Star (arr bb o (cs ++ sp) :: R) h := by
      rcases hsv with ⟨h2, h3, h4⟩ | ⟨b', o', n', c', sp, h2, h3, h4, h5, h6⟩
      · rw [hsv0] at h2; injection h2 with e1 e2 e3; exact .inl ⟨e1, e2, e3, h3, h4⟩
      · rw [hsv0] at h2; injection h2 with e1 e2 e3; subst e1; subst e2; subst e3; exact .inr ⟨b', o', sp, rfl, h3, h4, h5, h6⟩
    rw [hsv0] at hroom ⊢
    simp only [sliceLen] at hroom
    unfold Builtin.append_
    have ht : #[st, xt][0]? = some st := rfl
    have ht2 : #[st, xt][1]? = some xt := rfl
    simp only [ht, ht2]
    have e0 : #[Value.slice base n c, Value.slice xb xn xc][0]? = some (Value.slice base n c) := rfl
    have e1 : #[Value.slice base n c, Value.slice xb xn xc][1]? = some (Value.slice xb xn xc) := rfl
    simp only [e0, e1]
    refine wpS_underlying p.ok ?_
    refine wpS_sizeOf s.ok ?_
    simp only [bind_assoc, pure_bind]
    refine wpS_underlying px.ok ?_
    simp only [Bool.false_eq_true, if_false, Bool.not_false, if_true, Builtin.lenOf, pure_bind]
    have hlc : ∀ bb o, base = some ⟨bb, o, none⟩ → cs.length = n * sz := by
      intro bb o hb
      rcases hbase with ⟨h2, _⟩ | ⟨_, _, _, _, h3, _⟩
      · rw [h2] at hb; cases hb
      · exact h3
    have hmul : (n + xn) * sz = n * sz + xn * sz := Nat.add_mul ..
    by_cases hfit : n + xn ≤ c
    · rw [if_pos hfit]
      refine wpS_bind _ _ (hread _ _ _ ?_)
      rcases hbase with ⟨h2, h3, h4, h5, h6⟩ | ⟨bb, o, sp, h2, h3, h4, h5, h6⟩
      · subst h2; subst h3; subst h4; subst h5
        have : xn = 0 := by omega
        subst this
        have : new = [] := List.length_eq_zero_iff.1 (by simpa using hnew)
        subst this
        exact q _ _ h _ (.inl rfl) rfl (vec_nil h6)
      · subst h2
        have hsp : (c - n) * sz = (c - (n + xn)) * sz + xn * sz := by rw [← Nat.add_mul]; congr 1; omega
        show wpS P M (Sem.bind (storeCells (Addr.add ⟨bb, o, none⟩ (n * sz)) new.toArray.toList) fun _ => pure (Value.slice (some ⟨bb, o, none⟩) (n + xn) c)) h _ X
        rw [add_none]
        refine wpS_bind _ _ (wpS_storeCells new (cs ++ sp) (n * sz) 0 (o + n * sz) h h1 (by simp; omega) rfl h6 fun h' s' => ?_)
        refine q _ _ h' _ (.inl rfl) rfl ?_
        have hov : over (cs ++ sp) (n * sz) new = (cs ++ new) ++ sp.drop (xn * sz) := by
          unfold over
          rw [List.take_append_of_le_length (by omega), List.take_of_length_le (by omega), hnew, ← h3, List.drop_append]
          rw [List.drop_of_length_le (by omega)]
          simp
        rw [hov] at s'
        exact vec_in (by simp; omega) hfit (by simp; omega) s'
    · rw [if_neg hfit]
      refine wpS_bytes b.ok fun i hi => ?_
      have hnext := nextcap_le (m := n + xn) (c := c) (by omega)
      have hprod : Builtin.nextslicecap (n + xn) c * by_ ≤ 281474976710656 := Nat.le_trans (Nat.mul_le_mul_right _ hnext) hroom
      have hby' : by_ ≠ 0 := by simpa using hby
      rw [if_neg (by rintro ⟨_, h | h⟩; exact h; exact hby' (hi.symm.trans h))]
      refine wpS_bytes b.ok fun i2 hi2 => ?_
      rw [hi2, if_neg (by omega)]
      refine wpS_choose rfl fun tt' => ?_
      obtain ⟨nc, hnc, hge⟩ : ∃ nc, (Question.appendCap (n + xn) c el).cut tt' = nc ∧ n + xn ≤ nc := ⟨_, rfl, by simp [Question.cut]⟩
      rw [hnc]
      refine wpS_bytes b.ok fun i3 hi3 => ?_
      refine wpS_bind _ _ (wpS_askRoom hM ?_)
      have hold : ∀ (M : Mark → Prop) (Q : Array Value → Hp → Prop) X, Q cs.toArray h → wpS P M (Builtin.firstCells sz n (.slice base n c)) h Q X := by
        intro M Q X hq
        rcases hbase with ⟨h2, h3, h4, h5, h6⟩ | ⟨bb, o, sp, h2, h3, h4, h5, h6⟩
        · subst h2; subst h5; exact hq
        · subst h2
          refine wpS_loadCells (b := bb) (o := o) h3.symm (fun j v hj => ?_) hq
          exact Rd.row (k := j) (by rw [List.getElem?_append_left (List.getElem?_eq_some_iff.1 hj).1]; exact hj) rfl h h6
      have hcl : cs.length = n * sz := by
        rcases hbase with ⟨h2, h3, h4, h5, h6⟩ | ⟨bb, o, sp, h2, h3, h4, h5, h6⟩
        · subst h3; subst h5; simp
        · exact h3
      have hR : Star R h := star_drop (hv.star st0)
      refine wpS_bind _ _ (hold _ _ _ ?_)
      refine wpS_bind _ _ (hread _ _ _ ?_)
      refine wpS_zeroValue z.ok ?_
      refine wpS_bind _ _ (wpS_newRow hR fun b' h' s' => ?_)
      refine q _ _ h' _ (.inl rfl) rfl ?_
      simp only [Array.toList_append, zeroCells_eq] at s'
      exact vec_in (sp := zeros (nc - (n + xn)) zv.cells.toList) (by simp; omega) hge (by rw [zeros_length, Array.length_toList, hz]) s'
  rcases hsv with ⟨h2, _, _⟩ | ⟨_, _, _, _, _, h2, _⟩
  · exact key _ _ _ h2
  · exact key _ _ _ h2

end
end Go.PB

set_option linter.unusedVariables false
set_option linter.unusedSimpArgs false
namespace Go.PB

section
variable {P : Program} {e : Env} {L : List HProp} {ty : TypeId}

/-- a bound of a slice expression: left out, or a number -/
inductive Bd (e : Env) : Option Operand → Nat → Nat → Prop
  | no {n : Nat} : Bd e none n n
  | yes {o : Operand} {n m : Nat} {k : IntKind} {j : Int} : ev e o = some (.int k j) → j = m → Bd e (some o) n m

theorem wpS_sliceBound {M : Mark → Prop} {k : IntKind} {j : Int} {m y : Nat} {c : BoundsCode} {h : Hp} {Q : Nat → Hp → Prop} {X : Value → Hp → Prop} (hj : j = m) (hm : m ≤ y) (q : Q m h) : wpS P M (Instr.sliceBound (.int k j) y c) h Q X := by
  subst hj
  show wpS P M (if 0 ≤ (m : Int) ∧ (m : Int) ≤ (y : Int) then pure (m : Int).toNat else _) h Q X
  rw [if_pos ⟨by omega, by omega⟩]
  exact q

/-- x[lo:hi] of a slice -/
theorem mo_slice {t el sz : Nat} {o : Operand} {lo hi : Option Operand} {a : Option Addr} {n c l u : Nat} [p : SlT P t el] [s : Siz P el sz] (hx : ev e o = some (.slice a n c)) (hl : Bd e lo 0 l) (hu : Bd e hi n u) (h1 : l ≤ u) (h2 : u ≤ c) :
    Mo P e (.slice t o lo hi none) ty L fun v' L' => v' = .slice (if c = l then a else a.map (·.add (l * sz))) (u - l) (c - l) ∧ L' = L := by
  intro M _ _ tt h Q X ag st q
  show wpS P M (Sem.bind (Instr.sliceAt t (evT tt o) (lo.map (evT tt)) (hi.map (evT tt)) none) fun v => pure (.value v)) h Q X
  rw [ag.ev hx]
  refine wpS_bind _ _ ?_
  unfold Instr.sliceAt
  refine wpS_underlying p.ok ?_
  show wpS P M (Instr.slice t (.slice a n c) (lo.map (evT tt)) (hi.map (evT tt)) none) h _ X
  unfold Instr.slice
  refine wpS_underlying p.ok ?_
  show wpS P M (Sem.bind (Instr.sliceBounds true n c (lo.map (evT tt)) (hi.map (evT tt)) none) fun b => Sem.bind (sizeOf el) fun size => pure (Value.slice (if b.2.2 = b.1 then a else a.map (·.add (b.1 * size))) (b.2.1 - b.1) (b.2.2 - b.1))) h _ X
  refine wpS_bind _ _ ?_
  have fin : wpS P M (Sem.bind (sizeOf el) fun size => pure (Value.slice (if c = l then a else a.map (·.add (l * size))) (u - l) (c - l))) h (fun a h => wpS P M (pure (Next.value a)) h Q X) X :=
    wpS_sizeOf s.ok (q _ L h _ (.inl rfl) ⟨rfl, rfl⟩ st)
  have low : ∀ (R : Nat × Nat × Nat → Hp → Prop), R (l, u, c) h → wpS P M (match lo.map (evT tt) with | some v => Sem.bind (Instr.sliceBound v u .sliceB) fun l => pure (l, u, c) | none => pure (0, u, c)) h R X := by
    intro R hR
    cases hl with
    | no => exact hR
    | yes he hj => simp only [Option.map_some]; rw [ag.ev he]; exact wpS_bind _ _ (wpS_sliceBound hj h1 hR)
  unfold Instr.sliceBounds
  simp only [pure_bind]
  cases hu with
  | no =>
    cases hl with
    | no => exact fin
    | yes he hj => simp only [Option.map_some, Option.map_none, pure_bind]; rw [ag.ev he]; exact wpS_bind _ _ (wpS_sliceBound hj h1 fin)
  | yes he hj =>
    simp only [Option.map_some]; rw [ag.ev he]
    refine wpS_bind _ _ (wpS_sliceBound hj h2 ?_)
    cases hl with
    | no => exact fin
    | yes he hj => simp only [Option.map_some]; rw [ag.ev he]; exact wpS_bind _ _ (wpS_sliceBound hj h1 fin)

/-- an owned slice, cut ahead: x[l:] -/
theorem vec_cut {sz l n c : Nat} {a : Option Addr} {cs : List Value} {h : Hp} (s : Star (vec sz (.slice a n c) cs :: L) h) (hl : l ≤ n) : Star (vec sz (.slice (if c = l then a else a.map (·.add (l * sz))) (n - l) (c - l)) (cs.drop (l * sz)) :: L) h := by
  rcases vec_out s with ⟨h1, h2, h3⟩ | ⟨b, o, n', c', sp, h1, h2, h3, h4, h5⟩
  · injection h1 with e1 e2 e3; subst e1; subst e2; subst e3; subst h2
    have : l = 0 := by omega
    subst this
    simpa using vec_nil h3
  · injection h1 with e1 e2 e3; subst e1; subst e2; subst e3
    have hd : ∀ (k : Nat), k ≤ cs.length → Star (arr b (o + k) (cs.drop k ++ sp) :: L) h := by
      intro k hk
      refine star_map h5 (fun h' a i v hi => ?_) (fun _ x => x)
      have : (cs ++ sp)[k + i]? = some v := by
        rw [← hi]
        by_cases hlt : k + i < cs.length
        · rw [List.getElem?_append_left hlt, List.getElem?_append_left (by simp; omega)]; simp
        · rw [List.getElem?_append_right (by omega), List.getElem?_append_right (by simp; omega)]; congr 1; simp; omega
      have := a _ _ this
      rwa [← Nat.add_assoc] at this
    have hle : l * sz ≤ cs.length := by rw [h2]; exact Nat.mul_le_mul_right _ hl
    have e1 : (cs.drop (l * sz)).length = (n - l) * sz := by rw [List.length_drop, h2, Nat.sub_mul]
    have e2 : sp.length = (c - l - (n - l)) * sz := by rw [h4]; congr 1; omega
    by_cases hc : c = l
    · rw [if_pos hc]
      have hn : n = l := by omega
      have hnil : cs.drop (l * sz) = [] := List.length_eq_zero_iff.1 (by rw [e1, hn]; simp)
      have hspn : sp = [] := List.length_eq_zero_iff.1 (by rw [h4, hc, hn]; simp)
      rw [hnil]
      refine vec_in (sp := []) (by simp [show n - l = 0 by omega]) (by omega) (by simp [show c - l - (n - l) = 0 by omega]) ?_
      exact star_map h5 (fun _ _ i v hi => by simp at hi) (fun _ x => x)
    · rw [if_neg hc]
      simp only [Option.map_some, add_none]
      exact vec_in e1 (by omega) e2 (hd _ hle)

/- ---- functions without a body ---- -/
class Exn (P : Program) (f : Nat) (en : outParam (Array Value → Sem Value)) : Prop where
  ok : ∃ fn, P.funcs[f]? = some fn ∧ (fn.name == "runtime.NumGoroutine") = false ∧ fn.body.isNone = true ∧ Extern.findNext fn = none ∧ Extern.find fn = some en

theorem callFunc_ext {M : Mark → Prop} {f : Nat} {en : Array Value → Sem Value} [x : Exn P f en] {args : Array Value} {h : Hp} {Q : Next → Hp → Prop} {X : Value → Hp → Prop} (hM : M (.extern f)) (w : wpS P M (en args) h (fun v h => Q (.value v) h) X) : wpS P M (callFunc f args) h Q X := by
  obtain ⟨fn, hg, hn, hb, h1, h2⟩ := x.ok
  show wpS P M ((match P.funcs[f]? with
    | none => stuck "call: no such function"
    | some fn =>
      if fn.name == "runtime.NumGoroutine" then pure .numGoroutine
      else if fn.body.isNone then (do
        mark (.extern f)
        if let some e := Extern.findNext fn then return ← e args
        match Extern.find fn with
        | some e => pure (.value (← e args))
        | none =>
          if fn.name.endsWith ".init" && !fn.name.startsWith "(" && !fn.name.startsWith "gosem." then pure (.value (.tuple #[]))
          else unsupported (.extern fn.name))
      else pure (.enter f args) : Sem Next)) h Q X
  rw [hg]
  simp only [hn, hb, if_neg Bool.false_ne_true, if_true, h1, h2]
  refine ⟨hM, ?_⟩
  show wpS P M (Sem.bind (en args) fun v => pure (.value v)) h Q X
  exact wpS_bind _ _ w

theorem mo_ext {f : Nat} {en : Array Value → Sem Value} [x : Exn P f en] {args : List Operand} {vs : List Value} {tys : Array TypeId} {R : Value → List HProp → Prop} (ha : EvL e args vs)
    (hw : ∀ (M : Mark → Prop) h (Q : Value → Hp → Prop) X, Star L h → (∀ v L' h', R v L' → Star L' h' → Q v h') → wpS P M (en vs.toArray) h Q X) : Mo P e (.call ⟨.value (.func f), args.toArray, tys⟩) ty L R := by
  intro M _ hM t h Q X ag s q
  have hargs := ha.evT ag
  have hex : execOp (evT t) (opOf (.call ⟨.value (.func f), args.toArray, tys⟩) ty) = callFunc f vs.toArray := by
    show callFunc f ((#[] ++ args.toArray.map (evT t)) ++ #[]) = _
    rw [List.map_toArray, hargs]; simp
  rw [hex]
  exact callFunc_ext (hM f) (hw M h _ X s fun v L' h' r s' => q v L' h' _ (.inl rfl) r s')

open Extern.Atomic in
theorem wpS_read {M : Mark → Prop} {k : IntKind} {b o : Nat} {n : Int} {h : Hp} {Q : Value → Hp → Prop} {X : Value → Hp → Prop} (hc : h.can ⟨b, o, none⟩ (.int k n)) (q : Q (.int k n) h) : wpS P M (read (.int k) ⟨b, o, none⟩) h Q X := by
  refine ⟨_, hc, ?_⟩
  show wpS P M (if k = k then pure (Value.int k n) else _) h Q X
  rw [if_pos rfl]
  exact q

open Extern.Atomic in
theorem at_loadI {k : IntKind} {b o : Nat} {n : Int} (hr : Rd L b o (.int k n)) : ∀ (M : Mark → Prop) h (Q : Value → Hp → Prop) X, Star L h → (∀ v L' h', (v = .int k n ∧ L' = L) → Star L' h' → Q v h') → wpS P M (loadT (.int k) [Value.pointer (some ⟨b, o, none⟩)].toArray) h Q X := by
  intro M h Q X s q
  exact wpS_read (hr h s) (q _ L h ⟨rfl, rfl⟩ s)

open Extern.Atomic in
theorem at_storeI {b o : Nat} {v : Value} {L1 : List HProp} (hv : one v = true) (hw : Wt L b o v L1) : ∀ (M : Mark → Prop) h (Q : Value → Hp → Prop) X, Star L h → (∀ v L' h', (v = .tuple #[] ∧ L' = L1) → Star L' h' → Q v h') → wpS P M (storeT [Value.pointer (some ⟨b, o, none⟩), v].toArray) h Q X := by
  intro M h Q X s q
  obtain ⟨h1, h2⟩ := hw h s
  show wpS P M (Sem.bind (store ⟨b, o, none⟩ v .atomic) fun _ => pure none_) h Q X
  refine wpS_bind _ _ ?_
  cases v <;> first | exact ⟨rfl, h1, q _ L1 _ ⟨rfl, rfl⟩ h2⟩ | cases hv

open Extern.Atomic in
theorem wpS_touches {M : Mark → Prop} {b o : Nat} {h : Hp} {Q : Bool → Hp → Prop} {X : Value → Hp → Prop} (hb : (h.own b o).isSome = true) (q : Q false h) : wpS P M (touchesFrozen ⟨b, o, none⟩) h Q X := by
  refine ⟨.inl ⟨o, .inl hb⟩, fun t n _ _ => ?_⟩
  intro q' hq
  have : q' = false := hq hb
  subst this
  exact q

open Extern.Atomic in
/-- compare-and-swap on an integer -/
theorem at_casI {k : IntKind} {b o : Nat} {n x y : Int} {L1 : List HProp} (hr : Rd L b o (.int k n)) (hw : Wt L b o (.int k y) L1) : ∀ (M : Mark → Prop) h (Q : Value → Hp → Prop) X, Star L h → (∀ v L' h', (v = .bool (decide (n = x)) ∧ L' = if n = x then L1 else L) → Star L' h' → Q v h') → wpS P M (casT (.int k) [Value.pointer (some ⟨b, o, none⟩), .int k x, .int k y].toArray) h Q X := by
  intro M h Q X s q
  obtain ⟨h1, h2⟩ := hw h s
  show wpS P M (Sem.bind (touchesFrozen ⟨b, o, none⟩) fun fz => if fz then _ else _) h Q X
  refine wpS_bind _ _ (wpS_touches h1 ?_)
  rw [if_neg (by simp)]
  refine wpS_bind _ _ (wpS_read (hr h s) ?_)
  show wpS P M (if (n == x) = true then Sem.bind (store ⟨b, o, none⟩ (.int k y) .atomic) fun _ => pure (Value.bool (n == x)) else pure (Value.bool (n == x))) h Q X
  by_cases hx : n = x
  · rw [if_pos (by simpa using hx)]
    exact ⟨rfl, h1, q _ L1 _ ⟨by simp [hx], by rw [if_pos hx]⟩ h2⟩
  · rw [if_neg (by simpa using hx)]
    exact q _ L _ ⟨by simp [hx], by rw [if_neg hx]⟩ s

open Extern.Atomic in
/-- Add on an integer -/
theorem at_addI {k : IntKind} {b o : Nat} {n y r : Int} {L1 : List HProp} (hr : Rd L b o (.int k n)) (hn : k.wrap (n + y) = r) (hw : Wt L b o (.int k r) L1) : ∀ (M : Mark → Prop) h (Q : Value → Hp → Prop) X, Star L h → (∀ v L' h', (v = .int k r ∧ L' = L1) → Star L' h' → Q v h') → wpS P M (update (Op.intArith .add) k true [Value.pointer (some ⟨b, o, none⟩), .int k y].toArray) h Q X := by
  intro M h Q X s q
  obtain ⟨h1, h2⟩ := hw h s
  show wpS P M (Sem.bind (read (.int k) ⟨b, o, none⟩) fun old => Sem.bind (asInt old) fun a => Sem.bind (Op.intArith .add k a y) fun new => Sem.bind (store ⟨b, o, none⟩ new .atomic) fun _ => pure new) h Q X
  refine wpS_bind _ _ (wpS_read (hr h s) ?_)
  subst hn
  exact ⟨rfl, h1, q _ L1 _ ⟨rfl, rfl⟩ h2⟩

open Extern.Atomic in
/-- Swap on an integer -/
theorem at_swapI {k : IntKind} {b o : Nat} {n y : Int} {L1 : List HProp} (hr : Rd L b o (.int k n)) (hw : Wt L b o (.int k y) L1) : ∀ (M : Mark → Prop) h (Q : Value → Hp → Prop) X, Star L h → (∀ v L' h', (v = .int k n ∧ L' = L1) → Star L' h' → Q v h') → wpS P M (swapT (.int k) [Value.pointer (some ⟨b, o, none⟩), .int k y].toArray) h Q X := by
  intro M h Q X s q
  obtain ⟨h1, h2⟩ := hw h s
  show wpS P M (Sem.bind (read (.int k) ⟨b, o, none⟩) fun old => Sem.bind (store ⟨b, o, none⟩ (.int k y) .atomic) fun _ => pure old) h Q X
  refine wpS_bind _ _ (wpS_read (hr h s) ?_)
  exact ⟨rfl, h1, q _ L1 _ ⟨rfl, rfl⟩ h2⟩

/- ---- calls through an interface; deferred calls ---- -/
/-- type t, a pointer type, has the method, as function f, with a pointer receiver -/
class Met (P : Program) (t : Nat) (name : String) (f : outParam Nat) : Prop where
  ok : (P.info? t).bind (fun i => (i.methods.find? (·.name == name)).bind fun m => if m.path.isEmpty then m.func else none) = some (f, true)
  ptr : (match P.underlying t with | some (.pointer _) => true | _ => false) = true

end

section
variable {P : Program} {B : Hand} {kd : CallKind} {n : Nat} {K : Post B} {e : Env} {z : Z} {L : List HProp} {x : B.X}

theorem wpS_method {M : Mark → Prop} {fuel t f : Nat} {name : String} {v : Value} {h : Hp} {Q : FuncId × Value → Hp → Prop} {X : Value → Hp → Prop} [m : Met P t name f] (q : Q (f, v) h) : wpS P M (method (fuel + 1) t v name) h Q X := by
  have h1 := m.ok
  have h2 := m.ptr
  cases hi : P.info? t with
  | none => rw [hi] at h1; cases h1
  | some i =>
    rw [hi] at h1
    simp only [Option.bind_some] at h1
    cases hm : i.methods.find? (·.name == name) with
    | none => rw [hm] at h1; cases h1
    | some md =>
      rw [hm] at h1
      simp only [Option.bind_some] at h1
      split at h1
      · rename_i hp
        cases hu : P.underlying t with
        | none => rw [hu] at h2; cases h2
        | some d =>
          rw [hu] at h2
          cases d with
          | pointer el =>
            unfold method
            refine wpS_typeInfo hi ?_
            simp only [hm]
            have hpath : md.path.toList = [] := by have := Array.isEmpty_iff.1 hp; rw [this]
            rw [hpath]
            show wpS P M (match md.func with | none => _ | some (f, pr) => _) h Q X
            rw [h1]
            show wpS P M (Sem.bind (receiverAt t (.val v) true _) fun r => pure (f, r)) h Q X
            refine wpS_bind _ _ ?_
            unfold receiverAt
            exact wpS_underlying hu q
          | _ => cases h2
      · cases h1

/-- A CALL THROUGH AN INTERFACE. -/
theorem wo_invoke {l : List OpG} {d : Option Nat} {ro : Operand} {t : Nat} {rv : Value} {name : String} {f : Nat} {args : List Operand} {vs : List Value} {tys : Array TypeId} {ty : TypeId} {g : Option (Nat × Bool)} {R : Value → List HProp → B.X → Prop}
    (hr : ev e ro = some (.iface t rv)) [m : Met P t name f] (ha : EvL e args vs) (hg : gYes e g) [en : Ent' P f] [pk : Pass K z] (tr : Tr P B f (rv :: vs) L x R) (k : ∀ v L' x', R v L' x' → Wo P B kd n l K (setE d v e) z L' x') :
    Wo P B kd n (⟨d, .call ⟨.invoke ro name, args.toArray, tys⟩, ty, g⟩ :: l) K e z L x := by
  intro ops idx h1 h2 tt h a1 a2 a3
  obtain ⟨i, idx', oo, rfl, h3, h4, h5, h6, h7, h8⟩ := map_head h1
  refine wr_op h4 (wanted_yes a1 a2 h8 hg) ?_
  rw [execOp_of _ h6 h7]
  have hargs := ha.evT a2
  show wpS P B.mark (invoke (.fn (.method name) #[]) (#[evT tt ro] ++ args.toArray.map (evT tt))) h _ _
  have he : (#[evT tt ro] ++ args.toArray.map (evT tt)) = (.iface t rv :: vs).toArray := by
    rw [List.map_toArray, hargs, a2.ev hr]
    apply Array.ext'
    simp
  rw [he]
  have he2 : ((Value.iface t rv :: vs).toArray.extract 1 (Value.iface t rv :: vs).toArray.size) = vs.toArray := by
    apply Array.ext'
    simp
  show wpS P B.mark (callMethod (.iface t rv) name ((Value.iface t rv :: vs).toArray.extract 1 (Value.iface t rv :: vs).toArray.size)) h _ _
  rw [he2]
  show wpS P B.mark (Sem.bind (method (P.types.size + Made.depth) t rv name) fun fr => callFunc fr.1 (#[fr.2] ++ vs.toArray)) h _ _
  refine wpS_bind _ _ ?_
  have hd : 0 < Made.depth := by decide
  have hfuel : P.types.size + Made.depth = (P.types.size + (Made.depth - 1)) + 1 := by omega
  rw [hfuel]
  refine wpS_method (wpS_callFunc en.ok ?_)
  have hsame : #[rv] ++ vs.toArray = (rv :: vs).toArray := by simp
  rw [hsame]
  refine tr h .run _ a3 (fun v L' x' h' r s => ⟨rfl, ?_⟩) (fun ch h' x' hc => ⟨rfl, pk.ok ch tt h' x' hc⟩)
  exact k v L' x' r ops idx' h3 (dOk_tail h2) _ h' ((setDst_size oo tt v).trans a1) (a2.setE h5 (by rw [a1]; exact dOk_head h2) v) s

end

end Go.PB
