/-
  FOUNDATION, PART 10. A region that draws its order: it is walked once, in an order of mine; what only reads is promised, what acts is met when all that is left hangs on it. No program is in sight.
  FOUNDATION, PART 11. The walk of a drawn region ('Ap'): an order of mine ('ord'); what only reads is promised ('ap_promise'), what acts is met ('ap_loud', 'ap_call'), the end ('ap_end'). No program is in sight.
  FOUNDATION, PART 12. Small arithmetic: wrapping, masks. No program is in sight.
-/
import Derived.Test.YtabbkjciifnehaaFi
set_option linter.unusedVariables false
set_option linter.unusedSimpArgs false
namespace Go.PB

/-- what must be done ahead of operation i, in a mode -/
def edgesM (m : Region.Mode) (ops : Array Oper) (i : Nat) : List Nat := match ops[i]? with | some o => (o.after.toList.filter fun e => Region.binds m e).map (·.on) | none => []
/-- in every mode -/
def edges (ops : Array Oper) (i : Nat) : List Nat := edgesM .any ops i
def edgesOk (ops : Array Oper) : Bool := (List.range ops.size).all fun i => (edges ops i).all fun j => decide (j < i)

theorem edges_sub {ops : Array Oper} {i j : Nat} (m : Region.Mode) (h : j ∈ edges ops i) : j ∈ edgesM m ops i := by
  unfold edges edgesM at h
  unfold edgesM
  cases ho : ops[i]? with
  | none => rw [ho] at h; simp at h
  | some o =>
    rw [ho] at h
    simp only [List.mem_map, List.mem_filter] at h ⊢
    obtain ⟨e, ⟨h1, h2⟩, h3⟩ := h
    refine ⟨e, ⟨h1, ?_⟩, h3⟩
    unfold Region.binds at h2 ⊢
    split <;> simp_all

/-- a whole order that the mode allows -/
structure Wit (m : Region.Mode) (ops : Array Oper) (w : List Nat) : Prop where
  all : ∀ i, i < ops.size → i ∈ w
  lt : ∀ i ∈ w, i < ops.size
  resp : ∀ pre i post, w = pre ++ i :: post → ∀ j ∈ edgesM m ops i, j ∈ pre
def witB (m : Region.Mode) (ops : Array Oper) : List Nat → List Nat → Bool
  | _, [] => true
  | pre, i :: post => ((edgesM m ops i).all fun j => pre.contains j) && witB m ops (i :: pre) post
theorem witB_ok {m : Region.Mode} {ops : Array Oper} : ∀ {w pre : List Nat}, witB m ops pre w = true → ∀ p i post, w = p ++ i :: post → ∀ j ∈ edgesM m ops i, j ∈ p ∨ j ∈ pre := by
  intro w
  induction w with
  | nil => intro pre _ p i post h; simp at h
  | cons a w ih =>
    intro pre h p i post hs j hj
    simp only [witB, Bool.and_eq_true, List.all_eq_true, List.contains_eq_mem, decide_eq_true_eq] at h
    cases p with
    | nil => simp only [List.nil_append, List.cons.injEq] at hs; obtain ⟨rfl, rfl⟩ := hs; exact .inr (h.1 j hj)
    | cons b p =>
      simp only [List.cons_append, List.cons.injEq] at hs
      obtain ⟨rfl, rfl⟩ := hs
      rcases ih h.2 p i post rfl j hj with h1 | h1
      · exact .inl (by simp [h1])
      · rcases List.mem_cons.1 h1 with rfl | h1
        · exact .inl (by simp)
        · exact .inr h1
def witOk (m : Region.Mode) (ops : Array Oper) (w : List Nat) : Bool := ((List.range ops.size).all fun i => w.contains i) && (w.all fun i => decide (i < ops.size)) && witB m ops [] w
theorem witOk_ok {m : Region.Mode} {ops : Array Oper} {w : List Nat} (h : witOk m ops w = true) : Wit m ops w := by
  simp only [witOk, Bool.and_eq_true, List.all_eq_true, List.mem_range, List.contains_eq_mem, decide_eq_true_eq] at h
  exact ⟨h.1.1, h.1.2, fun pre i post hs j hj => (witB_ok h.2 pre i post hs j hj).resolve_right (by simp)⟩

theorem nodup_len : ∀ (l m : List Nat), l.Nodup → (∀ x ∈ l, x ∈ m) → l.length ≤ m.length := by
  intro l
  induction l with
  | nil => intro m _ _; simp
  | cons a l ih =>
    intro m hn hs
    have ha := hs a (by simp)
    have hn' := List.nodup_cons.1 hn
    have := ih (m.erase a) hn'.2 fun x hx => (List.mem_erase_of_ne (show x ≠ a from fun e => hn'.1 (by rw [← e]; exact hx))).2 (hs x (by simp [hx]))
    rw [List.length_erase_of_mem ha] at this
    have : 0 < m.length := List.length_pos_of_mem ha
    simp; omega

theorem nodup_full {l : List Nat} {n : Nat} (hn : l.Nodup) (hs : ∀ x ∈ l, x < n) (hl : n ≤ l.length) {i : Nat} (hi : i < n) : i ∈ l := by
  apply Classical.byContradiction
  intro hno
  have := nodup_len l ((List.range n).erase i) hn fun x hx => (List.mem_erase_of_ne (show x ≠ i from fun e => hno (by rw [← e]; exact hx))).2 (by simpa using hs x hx)
  rw [List.length_erase_of_mem (by simpa using hi)] at this
  simp at this; omega

theorem nodup_rev {l : List Nat} (h : l.Nodup) : l.reverse.Nodup := by
  rw [List.nodup_iff_pairwise_ne] at h ⊢
  rw [List.pairwise_reverse]
  exact h.imp fun h e => h e.symm

/- ---- the orders that the model may take ---- -/
structure LinInv (m : Region.Mode) (ops : Array Oper) (listed : Array Bool) (acc : List Nat) : Prop where
  sz : listed.size = ops.size
  mem : ∀ i, i < ops.size → (listed.getD i true = true ↔ i ∈ acc)
  lt : ∀ i ∈ acc, i < ops.size
  nd : acc.Nodup
  resp : ∀ pre i post, acc.reverse = pre ++ i :: post → ∀ j ∈ edges ops i, j ∈ pre

theorem first_not {w acc : List Nat} (h : ∃ i ∈ w, i ∉ acc) : ∃ pre i post, w = pre ++ i :: post ∧ i ∉ acc ∧ ∀ j ∈ pre, j ∈ acc := by
  induction w with
  | nil => obtain ⟨i, hi, _⟩ := h; simp at hi
  | cons a w ih =>
    by_cases ha : a ∈ acc
    · obtain ⟨i, hi, hn⟩ := h
      have : ∃ i ∈ w, i ∉ acc := by
        rcases List.mem_cons.1 hi with rfl | hi
        · exact absurd ha hn
        · exact ⟨i, hi, hn⟩
      obtain ⟨pre, i, post, h1, h2, h3⟩ := ih this
      refine ⟨a :: pre, i, post, by rw [h1]; rfl, h2, fun j hj => ?_⟩
      rcases List.mem_cons.1 hj with rfl | hj
      · exact ha
      · exact h3 j hj
    · exact ⟨[], a, w, rfl, ha, by simp⟩

theorem ready_iff {m : Region.Mode} {ops : Array Oper} {listed : Array Bool} {i : Nat} (hi : i < ops.size) :
    (((ops[i]?).map (·.after.all fun e => !Region.binds m e || listed.getD e.on false)).getD false = true) ↔ ∀ j ∈ edgesM m ops i, listed.getD j false = true := by
  have ho : ops[i]? = some ops[i] := by simp [hi]
  unfold edgesM
  rw [ho]
  simp only [Option.map_some, Option.getD_some]
  rw [Array.all_eq_true_iff_forall_mem]
  constructor
  · intro h j hj
    simp only [List.mem_map, List.mem_filter] at hj
    obtain ⟨e, ⟨h1, h2⟩, rfl⟩ := hj
    have := h e (by simpa using h1)
    rw [h2] at this
    simpa using this
  · intro h e he
    cases hb : Region.binds m e with
    | false => rfl
    | true =>
      have := h e.on (by simp only [List.mem_map, List.mem_filter]; exact ⟨e, ⟨by simpa using he, hb⟩, rfl⟩)
      simp [this]

theorem getD_true {listed : Array Bool} {j : Nat} (h : listed.getD j false = true) : listed.getD j true = true ∧ j < listed.size := by
  simp only [Array.getD_eq_getD_getElem?] at h ⊢
  cases hj : listed[j]? with
  | none => rw [hj] at h; cases h
  | some b => rw [hj] at h; exact ⟨h, (Array.getElem?_eq_some_iff.1 hj).1⟩

theorem lin_go {m : Region.Mode} {ops : Array Oper} {w : List Nat} (hw : Wit m ops w) : ∀ fuel t listed acc, LinInv m ops listed acc → acc.length + fuel = ops.size →
    ∃ idx, Region.linearise.go m ops fuel t listed acc = idx ∧ idx.Nodup ∧ (∀ i, i < ops.size ↔ i ∈ idx) ∧ ∀ pre i post, idx = pre ++ i :: post → ∀ j ∈ edges ops i, j ∈ pre := by
  intro fuel
  induction fuel with
  | zero =>
    intro t listed acc inv hl
    refine ⟨acc.reverse, rfl, nodup_rev inv.nd, fun i => ⟨fun hi => ?_, fun hi => inv.lt i (by simpa using hi)⟩, inv.resp⟩
    simpa using nodup_full inv.nd inv.lt (by omega) hi
  | succ fuel ih =>
    intro t listed acc inv hl
    unfold Region.linearise.go
    generalize hrs : (List.range ops.size).filter (fun i => !listed.getD i true && ((ops[i]?).map (·.after.all fun e => !Region.binds m e || listed.getD e.on false)).getD false) = rs
    have hlist : ∀ j, j ∈ acc → listed.getD j false = true := by
      intro j hj
      have hlt := inv.lt j hj
      have h3 := (inv.mem j hlt).2 hj
      have hs : j < listed.size := by rw [inv.sz]; exact hlt
      simp only [Array.getD_eq_getD_getElem?] at h3 ⊢
      simpa [hs] using h3
    -- some operation is ready
    have hne : rs ≠ [] := by
      have hex : ∃ i, i < ops.size ∧ i ∉ acc := by
        apply Classical.byContradiction
        intro hno
        have : ∀ i, i < ops.size → i ∈ acc := fun i hi => Classical.byContradiction fun h => hno ⟨i, hi, h⟩
        have := nodup_len (List.range ops.size) acc List.nodup_range (fun x hx => this x (by simpa using hx))
        simp at this; omega
      obtain ⟨i0, hi0, hn0⟩ := hex
      obtain ⟨pre, i, post, h1, hn, h3⟩ := first_not ⟨i0, hw.all i0 hi0, hn0⟩
      have hi : i < ops.size := hw.lt i (by rw [h1]; simp)
      have : i ∈ rs := by
        rw [← hrs, List.mem_filter]
        refine ⟨by simpa using hi, ?_⟩
        have h1' : listed.getD i true = false := by
          cases h : listed.getD i true with
          | false => rfl
          | true => exact absurd ((inv.mem i hi).1 h) hn
        rw [h1', (ready_iff hi).2 (fun j hj => hlist j (h3 j (hw.resp pre i post h1 j hj)))]
        rfl
      intro h; rw [h] at this; simp at this
    have hlt : t % rs.length < rs.length := Nat.mod_lt _ (List.length_pos_iff.2 hne)
    have hget : rs[t % rs.length]? = some rs[t % rs.length] := by simp [hlt]
    simp only [hrs]
    rw [hget]
    generalize hi : rs[t % rs.length] = i at *
    have hmem : i ∈ rs := by rw [← hi]; exact List.getElem_mem hlt
    rw [← hrs, List.mem_filter] at hmem
    obtain ⟨hir, hcond⟩ := hmem
    have hisz : i < ops.size := by simpa using hir
    simp only [Bool.and_eq_true, Bool.not_eq_true'] at hcond
    have hnot : i ∉ acc := fun h => by have := (inv.mem i hisz).2 h; rw [hcond.1] at this; cases this
    have hedge : ∀ j ∈ edges ops i, j ∈ acc := by
      intro j hj
      have h1 := getD_true ((ready_iff hisz).1 hcond.2 j (edges_sub m hj))
      exact (inv.mem j (by rw [← inv.sz]; exact h1.2)).1 h1.1
    refine ih (t / rs.length) (listed.setIfInBounds i true) (i :: acc) ⟨by simp [inv.sz], ?_, ?_, ?_, ?_⟩ (by simp; omega)
    · intro k hk
      by_cases hki : k = i
      · subst hki; simp [Array.getD_eq_getD_getElem?, inv.sz, hisz]
      · have : (listed.setIfInBounds i true).getD k true = listed.getD k true := by
          simp only [Array.getD_eq_getD_getElem?]
          rw [Array.getElem?_setIfInBounds_ne (fun e => hki e.symm)]
        rw [this, inv.mem k hk]
        simp [hki]
    · intro k hk
      rcases List.mem_cons.1 hk with rfl | hk
      · exact hisz
      · exact inv.lt k hk
    · exact List.nodup_cons.2 ⟨hnot, inv.nd⟩
    · intro pre k post hsplit j hj
      simp only [List.reverse_cons] at hsplit
      rcases List.append_eq_append_iff.1 hsplit with ⟨as, h1, h2⟩ | ⟨bs, h1, h2⟩
      · cases as with
        | nil =>
          simp only [List.nil_append, List.cons.injEq] at h2
          obtain ⟨rfl, _⟩ := h2
          rw [h1]; simpa using hedge j hj
        | cons a as => simp at h2
      · cases bs with
        | nil =>
          simp only [List.nil_append, List.cons.injEq] at h2
          obtain ⟨rfl, _⟩ := h2
          simp only [List.append_nil] at h1
          rw [← h1]; simpa using hedge j hj
        | cons a bs =>
          simp only [List.cons_append, List.cons.injEq] at h2
          obtain ⟨rfl, _⟩ := h2
          exact inv.resp pre k bs h1 j hj

theorem linearise_ok {m : Region.Mode} {ops : Array Oper} {w : List Nat} (hw : Wit m ops w) (t : Nat) :
    (Region.linearise m ops t).Nodup ∧ (∀ i, i < ops.size ↔ i ∈ Region.linearise m ops t) ∧ ∀ pre i post, Region.linearise m ops t = pre ++ i :: post → ∀ j ∈ edges ops i, j ∈ pre := by
  unfold Region.linearise
  obtain ⟨idx, h1, h2⟩ := lin_go hw ops.size t (Array.replicate ops.size false) [] ⟨by simp, by intro i hi; simp [Array.getD_eq_getD_getElem?, hi], by simp, by simp, by intro pre i post h; simp at h⟩ (by simp)
  rw [h1]; exact h2

/-- the check of all modes -/
def modesOk (ops : Array Oper) : Bool := edgesOk ops && witOk .any ops (List.range ops.size) && (!Region.departs ops || (witOk .text ops (List.range ops.size) && witOk .gc ops (Region.linearise .gc ops 0)))

/-- every order that may be drawn is one of all operations, each behind those that it hangs on -/
theorem schedule_ok {ops : Array Oper} (hok : modesOk ops = true) (mixed : Bool) (t : Nat) :
    (Region.schedule mixed ops t).Nodup ∧ (∀ i, i < ops.size ↔ i ∈ Region.schedule mixed ops t) ∧ ∀ pre i post, Region.schedule mixed ops t = pre ++ i :: post → ∀ j ∈ edges ops i, j ∈ pre := by
  simp only [modesOk, Bool.and_eq_true, Bool.or_eq_true, Bool.not_eq_true'] at hok
  obtain ⟨⟨_, h1⟩, h2⟩ := hok
  unfold Region.schedule
  split
  · exact linearise_ok (witOk_ok h1) t
  · rename_i hm
    simp only [Bool.or_eq_true, Bool.not_eq_true', not_or] at hm
    rcases h2 with h2 | ⟨h2, h3⟩
    · exact absurd h2 hm.2
    · split
      · exact linearise_ok (witOk_ok h2) _
      · exact linearise_ok (witOk_ok h3) _

theorem edge_lt {ops : Array Oper} (hok : edgesOk ops = true) {i j : Nat} (hj : j ∈ edges ops i) : j < i := by
  by_cases hi : i < ops.size
  · simp only [edgesOk, List.all_eq_true, List.mem_range, decide_eq_true_eq] at hok
    exact hok i hi j hj
  · unfold edges edgesM at hj
    rw [Array.getElem?_eq_none (by omega)] at hj
    simp at hj

end Go.PB

set_option linter.unusedVariables false
set_option linter.unusedSimpArgs false
namespace Go.PB

def dstOf (ops : Array Oper) (i : Nat) : Option Nat := (ops[i]?).bind (·.dst)
def readsOf (n : Nat) (ops : Array Oper) (i : Nat) : List Nat := match ops[i]? with
  | none => []
  | some o => (o.op.operands.toList.filterMap fun | .tmp t => some t | _ => none) ++ (match o.guard with | some (j, _) => [(dstOf ops j).getD n] | none => [])
def guardOf (n : Nat) (ops : Array Oper) (o : Oper) : Option (Nat × Bool) := o.guard.map fun (j, w) => (((ops[j]?).bind (·.dst)).getD n, w)
def nodupB : List Nat → Bool
  | [] => true
  | a :: l => !l.contains a && nodupB l
/-- the check of an order, for the kernel to reckon -/
def okOrd (n : Nat) (ops : Array Oper) (ord : List Nat) : Bool :=
  modesOk ops && ((List.range ops.size).all fun i => ord.contains i) && (ord.all fun i => decide (i < ops.size)) && nodupB ord &&
  ((List.range ops.size).all fun i => match dstOf ops i with | none => true | some d => decide (d < n) && (List.range ops.size).all fun j => j == i || !(dstOf ops j == some d)) &&
  ((List.range ops.size).all fun i => (readsOf n ops i).all fun s => (List.range ops.size).all fun j => !(dstOf ops j == some s) || (if (ord.takeWhile fun q => !(q == i)).contains j then (edges ops i).contains j else !(j == i) && (edges ops j).contains i))

structure OkO (n : Nat) (ops : Array Oper) (ord : List Nat) : Prop where
  md : modesOk ops = true
  ed : edgesOk ops = true
  all : ∀ i, i < ops.size → i ∈ ord
  lt : ∀ i ∈ ord, i < ops.size
  nd : ord.Nodup
  dn : ∀ i d, dstOf ops i = some d → d < n
  dd : ∀ i j d, dstOf ops i = some d → dstOf ops j = some d → i = j
  rd : ∀ i s j, i < ops.size → s ∈ readsOf n ops i → dstOf ops j = some s → (j ∈ (ord.takeWhile fun q => !(q == i)) ∧ j ∈ edges ops i) ∨ (j ∉ (ord.takeWhile fun q => !(q == i)) ∧ j ≠ i ∧ i ∈ edges ops j)

theorem dstOf_lt {ops : Array Oper} {i d : Nat} (h : dstOf ops i = some d) : i < ops.size := by
  unfold dstOf at h
  cases ho : ops[i]? with
  | none => rw [ho] at h; cases h
  | some o => exact (Array.getElem?_eq_some_iff.1 ho).1

theorem nodupB_ok : ∀ {l : List Nat}, nodupB l = true → l.Nodup := by
  intro l
  induction l with
  | nil => intro _; simp
  | cons a l ih =>
    intro h
    simp only [nodupB, Bool.and_eq_true, Bool.not_eq_true', List.contains_eq_mem, decide_eq_false_iff_not] at h
    exact List.nodup_cons.2 ⟨h.1, ih h.2⟩

theorem okOrd_ok {n : Nat} {ops : Array Oper} {ord : List Nat} (h : okOrd n ops ord = true) : OkO n ops ord := by
  simp only [okOrd, Bool.and_eq_true, List.all_eq_true, List.mem_range, List.contains_eq_mem, decide_eq_true_eq, Bool.not_eq_true'] at h
  obtain ⟨⟨⟨⟨⟨h1, h3⟩, h4⟩, h5⟩, h6⟩, h7⟩ := h
  have h2 : edgesOk ops = true := by simp only [modesOk, Bool.and_eq_true] at h1; exact h1.1.1
  refine ⟨h1, h2, h3, h4, nodupB_ok h5, fun i d hd => ?_, fun i j d hi hj => ?_, fun i s j hi hs hj => ?_⟩
  · have := h6 i (dstOf_lt hd)
    rw [hd] at this
    simp only [Bool.and_eq_true, decide_eq_true_eq] at this
    exact this.1
  · have := h6 i (dstOf_lt hi)
    rw [hi] at this
    simp only [Bool.and_eq_true, List.all_eq_true, List.mem_range] at this
    have := this.2 j (dstOf_lt hj)
    rw [hj] at this
    simp only [beq_self_eq_true, Bool.not_true, Bool.or_false, beq_iff_eq] at this
    exact this.symm
  · have := h7 i hi s hs j (dstOf_lt hj)
    rw [hj] at this
    simp only [beq_self_eq_true, Bool.not_true, Bool.false_or] at this
    split at this
    · rename_i hm; exact .inl ⟨hm, by simpa using this⟩
    · rename_i hm
      simp only [Bool.and_eq_true, Bool.not_eq_true', beq_eq_false_iff_ne, decide_eq_true_eq] at this
      exact .inr ⟨hm, this⟩

/-- an operation that has been promised: its number, its value, what it reads, whether it is so whatever the memory -/
structure Pn where
  i : Nat
  v : Value
  e : Env
  st : Bool

structure InvA (n : Nat) (ops : Array Oper) (R : List Nat) (Pd : List Pn) (e : Env) (idx : List Nat) (t : Array Value) : Prop where
  sz : t.size = n
  nd : idx.Nodup
  lt : ∀ i ∈ idx, i < ops.size
  sub : ∀ i ∈ idx, i ∈ R ∨ ∃ p ∈ Pd, p.i = i
  all : ∀ i ∈ R, i ∈ idx
  dj : ∀ p ∈ Pd, p.i ∉ R
  pu : ∀ p ∈ Pd, ∀ q ∈ Pd, p.i = q.i → p = q
  resp : ∀ pre i post, idx = pre ++ i :: post → ∀ j ∈ edges ops i, j ∉ post
  dn : ∀ m, m < ops.size → m ∉ idx → ∀ j ∈ edges ops m, j ∉ idx
  envok : ∀ s v, lk e s = some v → (∃ p ∈ Pd, p.i ∈ idx ∧ dstOf ops p.i = some s ∧ p.v = v) ∨ (t[s]? = some v ∧ ∀ p ∈ Pd, p.i ∈ idx → dstOf ops p.i ≠ some s)
  pok : ∀ q ∈ Pd, q.i ∈ idx → ∀ s v, lk q.e s = some v → (∃ p ∈ Pd, p.i ∈ idx ∧ p.i ∈ edges ops q.i ∧ dstOf ops p.i = some s ∧ p.v = v) ∨ (t[s]? = some v ∧ ∀ j ∈ idx, dstOf ops j = some s → q.i ∈ edges ops j)

section
variable {n : Nat} {ops : Array Oper} {ord R : List Nat} {Pd : List Pn} {e : Env}

/-- one that has been promised is done -/
theorem InvA.pend (ok : OkO n ops ord) {i : Nat} {idx : List Nat} {t : Array Value} {o : Oper} (I : InvA n ops R Pd e (i :: idx) t) (ho : ops[i]? = some o) {p : Pn} (hp : p ∈ Pd) (hpi : p.i = i) :
    Agree p.e t ∧ InvA n ops R Pd e idx (setDst o t p.v) := by
  subst hpi
  have hnd := List.nodup_cons.1 I.nd
  have hnotpost : ∀ j ∈ edges ops p.i, j ∉ idx := I.resp [] p.i idx rfl
  have hdst : dstOf ops p.i = o.dst := by simp [dstOf, ho]
  have hne : ∀ j ∈ edges ops p.i, j ≠ p.i := fun j hj h => by have := edge_lt ok.ed hj; omega
  have hset : ∀ s, dstOf ops p.i ≠ some s → (setDst o t p.v)[s]? = t[s]? := by
    intro s hs
    rw [hdst] at hs
    unfold setDst
    cases hd : o.dst with
    | none => rfl
    | some d => rw [hd] at hs; rw [Array.getElem?_setIfInBounds_ne (by intro h; exact hs (by rw [h]))]
  have hsame : ∀ s, dstOf ops p.i = some s → (setDst o t p.v)[s]? = some p.v := by
    intro s hs
    have hlt := ok.dn _ _ hs
    rw [hdst] at hs
    unfold setDst
    rw [hs]
    simp [I.sz, hlt]
  refine ⟨?_, ⟨(setDst_size o t p.v).trans I.sz, hnd.2, fun j hj => I.lt j (by simp [hj]), fun j hj => I.sub j (by simp [hj]), ?_, I.dj, I.pu, ?_, ?_, ?_, ?_⟩⟩
  · intro s v hs
    rcases I.pok p hp (by simp) s v hs with ⟨p', hp', h1, h2, h3, h4⟩ | ⟨h1, _⟩
    · rcases List.mem_cons.1 h1 with h | h
      · exact absurd h (hne _ h2)
      · exact absurd h (hnotpost _ h2)
    · exact h1
  · intro j hj
    have := I.all j hj
    rcases List.mem_cons.1 this with h | h
    · exact absurd hj (h ▸ I.dj p hp)
    · exact h
  · intro pre j post h
    exact I.resp (p.i :: pre) j post (by rw [h]; rfl)
  · intro m hm hnot j hj hji
    by_cases h : m = p.i
    · subst h; exact hnotpost j hj hji
    · exact I.dn m hm (by simp [h, hnot]) j hj (by simp [hji])
  · intro s v hs
    rcases I.envok s v hs with ⟨p', hp', h1, h2, h3⟩ | ⟨h1, h2⟩
    · rcases List.mem_cons.1 h1 with h | h
      · have : p' = p := I.pu p' hp' p hp h
        subst this
        refine .inr ⟨by rw [hsame s h2, h3], fun q hq hqi hqd => ?_⟩
        have := ok.dd _ _ _ h2 hqd
        rw [← this] at hqi
        exact hnd.1 hqi
      · exact .inl ⟨p', hp', h, h2, h3⟩
    · exact .inr ⟨by rw [hset s (h2 p hp (by simp))]; exact h1, fun q hq hqi => h2 q hq (by simp [hqi])⟩
  · intro q hq hqi s v hs
    rcases I.pok q hq (by simp [hqi]) s v hs with ⟨p', hp', h1, h2, h3, h4⟩ | ⟨h1, h2⟩
    · rcases List.mem_cons.1 h1 with h | h
      · have : p' = p := I.pu p' hp' p hp h
        subst this
        refine .inr ⟨by rw [hsame s h3, h4], fun j hj hjd => ?_⟩
        have := ok.dd _ _ _ h3 hjd
        rw [← this] at hj
        exact absurd hj hnd.1
      · exact .inl ⟨p', hp', h, h2, h3, h4⟩
    · refine .inr ⟨?_, fun j hj hjd => h2 j (by simp [hj]) hjd⟩
      rw [hset s ?_]
      · exact h1
      · intro hd
        exact hnotpost _ (h2 p.i (by simp) hd) hqi

/-- one hangs on the other, through whatever others -/
def anc (ops : Array Oper) : Nat → Nat → List Nat
  | 0, _ => []
  | f + 1, j => edges ops j ++ (edges ops j).flatMap (anc ops f)

theorem InvA.anc_out (ok : OkO n ops ord) {idx : List Nat} {t : Array Value} (I : InvA n ops R Pd e idx t) : ∀ f m, m < ops.size → m ∉ idx → ∀ j ∈ anc ops f m, j ∉ idx := by
  intro f
  induction f with
  | zero => intro m _ _ j hj; simp [anc] at hj
  | succ f ih =>
    intro m hm hn j hj
    simp only [anc, List.mem_append, List.mem_flatMap] at hj
    rcases hj with hj | ⟨k, hk, hj⟩
    · exact I.dn m hm hn j hj
    · exact ih k (by have := edge_lt ok.ed hk; omega) (I.dn m hm hn k hk) j hj

theorem anc_lt (hok : edgesOk ops = true) : ∀ f m, ∀ j ∈ anc ops f m, j < m := by
  intro f
  induction f with
  | zero => intro m j hj; simp [anc] at hj
  | succ f ih =>
    intro m j hj
    simp only [anc, List.mem_append, List.mem_flatMap] at hj
    rcases hj with hj | ⟨k, hk, hj⟩
    · exact edge_lt hok hj
    · have := edge_lt hok hk; have := ih k j hj; omega

/-- whoever is first hangs on nobody that is left -/
theorem InvA.first (ok : OkO n ops ord) {i : Nat} {idx : List Nat} {t : Array Value} (I : InvA n ops R Pd e (i :: idx) t) {f j : Nat} (hj : j ∈ anc ops f i) : j ∉ i :: idx := by
  have hlt := anc_lt ok.ed f i j hj
  cases f with
  | zero => simp [anc] at hj
  | succ f =>
    simp only [anc, List.mem_append, List.mem_flatMap] at hj
    have hout : ∀ k ∈ edges ops i, k ∉ i :: idx := by
      intro k hk hm
      rcases List.mem_cons.1 hm with h | h
      · have := edge_lt ok.ed hk; omega
      · exact I.resp [] i idx rfl k hk h
    rcases hj with hj | ⟨k, hk, hj⟩
    · exact hout j hj
    · refine I.anc_out ok f k ?_ (hout k hk) j hj
      have := edge_lt ok.ed hk
      have := I.lt i (by simp)
      omega

end

section
variable {P : Program} {B : Hand} {kd : CallKind} {n : Nat} {ops : Array Oper} {ord R : List Nat} {Pd : List Pn} {K : Post B} {e : Env} {z : Z} {L : List HProp} {x : B.X}

/-- it holds of a promised operation -/
def PdOk (P : Program) (n : Nat) (ops : Array Oper) (L : List HProp) (p : Pn) : Prop :=
  ∃ o, ops[p.i]? = some o ∧ ((gYes p.e (guardOf n ops o) ∧ (if p.st = true then ∀ L, Mo P p.e o.op o.type L (fun v' L' => v' = p.v ∧ L' = L) else Mo P p.e o.op o.type L (fun v' L' => v' = p.v ∧ L' = L))) ∨
    (∃ g w, guardOf n ops o = some (g, w) ∧ lk p.e g = some (.bool (!w)) ∧ p.v = undef))

theorem PdOk.mo {p : Pn} (h : PdOk P n ops L p) : ∃ o, ops[p.i]? = some o ∧ ((gYes p.e (guardOf n ops o) ∧ Mo P p.e o.op o.type L (fun v' L' => v' = p.v ∧ L' = L)) ∨
    (∃ g w, guardOf n ops o = some (g, w) ∧ lk p.e g = some (.bool (!w)) ∧ p.v = undef)) := by
  obtain ⟨o, h1, h2⟩ := h
  refine ⟨o, h1, ?_⟩
  rcases h2 with ⟨h2, h3⟩ | h2
  · left
    refine ⟨h2, ?_⟩
    split at h3
    · exact h3 L
    · exact h3
  · exact .inr h2

variable (P B kd n) in
/-- THE TRANSFORMER OF A DRAWN REGION: R: what is left, in my order; Pd: what has been promised. -/
def Ap (ops : Array Oper) (ord R : List Nat) (Pd : List Pn) (K : Post B) (e : Env) (z : Z) (L : List HProp) (x : B.X) : Prop :=
  (∃ pre, ord = pre ++ R ∧ ∀ p ∈ Pd, p.i ∈ pre) → OkO n ops ord → (∀ p ∈ Pd, PdOk P n ops L p) → ∀ idx t h, InvA n ops R Pd e idx t → Star L h → Wr P B kd ops idx K t z h x

theorem wanted_yes' {t : Array Value} {oo : Oper} {e : Env} (ht : t.size = n) (a : Agree e t) (hy : gYes e (guardOf n ops oo)) : Region.wanted oo (yielded ops t) = true := wanted_yes ht a rfl hy
theorem wanted_no' {t : Array Value} {oo : Oper} {e : Env} {g : Nat} {w : Bool} (ht : t.size = n) (a : Agree e t) (hg : guardOf n ops oo = some (g, w)) (hy : lk e g = some (.bool (!w))) : Region.wanted oo (yielded ops t) = false := wanted_no ht a hg.symm hy

/-- a quiet step -/
theorem wr_quiet [Lets B] {i : Nat} {idx : List Nat} {t : Array Value} {h : Hp} {o : Oper} {e : Env} {v : Value} (ho : ops[i]? = some o) (hw : Region.wanted o (yielded ops t) = true) (a : Agree e t) (m : Mo P e o.op o.type L (fun v' L' => v' = v ∧ L' = L)) (s : Star L h)
    (k : ∀ h', Star L h' → Wr P B kd ops idx K (setDst o t v) z h' x) : Wr P B kd ops (i :: idx) K t z h x := by
  refine wr_op ho hw ?_
  rw [execOp_of (op := o.op) (ty := o.type) _ rfl rfl]
  refine m _ Lets.noRoom Lets.ext t h _ _ a s fun v' L' h' nx hnx hr hs => ?_
  obtain ⟨rfl, rfl⟩ := hr
  rcases hnx with rfl | ⟨rfl, rfl⟩
  · exact k h' hs
  · exact k h' hs

/-- promised operations are done till one comes that has not been promised -/
theorem ap_run [Lets B] (ok : OkO n ops ord) (hpd : ∀ p ∈ Pd, PdOk P n ops L p) (hnil : ∀ t h, InvA n ops R Pd e [] t → Star L h → Wr P B kd ops [] K t z h x)
    (H : ∀ i idx t h, i ∈ R → InvA n ops R Pd e (i :: idx) t → Star L h → Wr P B kd ops (i :: idx) K t z h x) : ∀ idx t h, InvA n ops R Pd e idx t → Star L h → Wr P B kd ops idx K t z h x := by
  intro idx
  induction idx with
  | nil => exact hnil
  | cons i idx ih =>
    intro t h I s
    rcases I.sub i (by simp) with hi | ⟨p, hp, hpi⟩
    · exact H i idx t h hi I s
    · obtain ⟨o, ho, hm⟩ := (hpd p hp).mo
      rw [hpi] at ho
      obtain ⟨ha, I'⟩ := I.pend ok ho hp hpi
      rcases hm with ⟨hg, hm⟩ | ⟨g, w, hg, hl, hv⟩
      · exact wr_quiet ho (wanted_yes' I.sz ha hg) ha hm s fun h' s' => ih _ _ I' s'
      · rw [hv] at I'
        exact wr_skip ho (wanted_no' I.sz ha hg hl) (ih _ _ I' s)

theorem ap_end [Lets B] (w : At n e L fun t h => K .normal t z h x) : Ap P B kd n ops ord [] Pd K e z L x := by
  intro _ ok hpd
  refine ap_run ok hpd (fun t h I s => ?_) (fun i _ _ _ hi => by simp at hi)
  refine wr_nil (w t h I.sz (fun i v hi => ?_) s)
  rcases I.envok i v hi with ⟨p, _, h1, _⟩ | ⟨h1, _⟩
  · simp at h1
  · exact h1

/-- what an operation reads, out of the slots -/
def resE (ks : List Nat) (e : Env) : Env := ks.filterMap fun s => (lk e s).map fun v => (s, v)

theorem lk_resE {ks : List Nat} {e : Env} {s : Nat} {v : Value} (h : lk (resE ks e) s = some v) : s ∈ ks ∧ lk e s = some v := by
  induction ks with
  | nil => simp [resE, lk] at h
  | cons k ks ih =>
    unfold resE at h
    rw [List.filterMap_cons] at h
    cases hk : lk e k with
    | none =>
      rw [hk] at h
      obtain ⟨h1, h2⟩ := ih h
      exact ⟨by simp [h1], h2⟩
    | some u =>
      rw [hk] at h
      simp only [Option.map_some, lk] at h
      split at h
      · rename_i e1; subst e1; injection h with h; subst h; exact ⟨by simp, hk⟩
      · obtain ⟨h1, h2⟩ := ih h; exact ⟨by simp [h1], h2⟩

theorem takeWhile_pre {pre R : List Nat} {i : Nat} (hn : (pre ++ i :: R).Nodup) : (pre ++ i :: R).takeWhile (fun q => !(q == i)) = pre := by
  induction pre with
  | nil => simp
  | cons a pre ih =>
    simp only [List.cons_append, List.nodup_cons] at hn
    have : a ≠ i := fun h => hn.1 (by simp [h])
    simp [List.takeWhile_cons, this, ih hn.2]

/-- the next operation of my order is promised -/
theorem ap_promise_gen {i : Nat} {v : Value} {o : Oper} {st : Bool} (ho : ops[i]? = some o) (hok : PdOk P n ops L ⟨i, v, resE (readsOf n ops i) e, st⟩)
    (k : Ap P B kd n ops ord R (⟨i, v, resE (readsOf n ops i) e, st⟩ :: Pd) K (setE o.dst v e) z L x) : Ap P B kd n ops ord (i :: R) Pd K e z L x := by
  rintro ⟨pre, hpre, hin⟩ ok hpd idx t h I s
  have hnd : (pre ++ i :: R).Nodup := hpre ▸ ok.nd
  have hnd2 : i ∉ R := (List.nodup_cons.1 (List.nodup_append.1 hnd).2.1).1
  have hipre : i ∉ pre := fun h => (List.nodup_append.1 hnd).2.2 i h i (by simp) rfl
  have hilt : i < ops.size := (Array.getElem?_eq_some_iff.1 ho).1
  have htw : ord.takeWhile (fun q => !(q == i)) = pre := by rw [hpre]; exact takeWhile_pre hnd
  have hdst : dstOf ops i = o.dst := by simp [dstOf, ho]
  have hiidx : i ∈ idx := I.all i (by simp)
  refine k ⟨pre ++ [i], by rw [hpre]; simp, ?_⟩ ok ?_ idx t h ?_ s
  · intro p hp
    rcases List.mem_cons.1 hp with rfl | hp
    · simp
    · simp [hin p hp]
  · intro p hp
    rcases List.mem_cons.1 hp with rfl | hp
    · exact hok
    · exact hpd p hp
  · refine ⟨I.sz, I.nd, I.lt, ?_, fun j hj => I.all j (by simp [hj]), ?_, ?_, I.resp, I.dn, ?_, ?_⟩
    · intro j hj
      rcases I.sub j hj with h1 | ⟨p, hp, h1⟩
      · rcases List.mem_cons.1 h1 with rfl | h1
        · exact .inr ⟨_, List.mem_cons_self, rfl⟩
        · exact .inl h1
      · exact .inr ⟨p, by simp [hp], h1⟩
    · intro p hp
      rcases List.mem_cons.1 hp with rfl | hp
      · exact hnd2
      · exact fun hh => I.dj p hp (by simp [hh])
    · intro p hp q hq hpq
      rcases List.mem_cons.1 hp with rfl | hp' <;> rcases List.mem_cons.1 hq with rfl | hq'
      · rfl
      · exact absurd (hin q hq') (by rw [← hpq]; exact hipre)
      · exact absurd (hin p hp') (by rw [hpq]; exact hipre)
      · exact I.pu p hp' q hq' hpq
    · intro s u hs
      by_cases hsd : o.dst = some s
      · have : u = v := by rw [hsd] at hs; simp [setE, lk] at hs; exact hs.symm
        subst this
        exact .inl ⟨_, List.mem_cons_self, hiidx, hdst.trans hsd, rfl⟩
      · have hs' : lk e s = some u := by
          cases hd : o.dst with
          | none => rw [hd] at hs; exact hs
          | some d => rw [hd] at hs hsd; simp only [setE, lk] at hs; rw [if_neg (by intro h; exact hsd (by rw [h]))] at hs; exact hs
        rcases I.envok s u hs' with ⟨p, hp, h1, h2, h3⟩ | ⟨h1, h2⟩
        · exact .inl ⟨p, by simp [hp], h1, h2, h3⟩
        · refine .inr ⟨h1, fun p hp hpi => ?_⟩
          rcases List.mem_cons.1 hp with rfl | hp
          · rw [hdst]; exact hsd
          · exact h2 p hp hpi
    · intro q hq hqi s u hs
      rcases List.mem_cons.1 hq with rfl | hq
      · obtain ⟨hr, hl⟩ := lk_resE hs
        simp only at hqi hs ⊢
        rcases I.envok s u hl with ⟨p, hp, h1, h2, h3⟩ | ⟨h1, h2⟩
        · left
          refine ⟨p, by simp [hp], h1, ?_, h2, h3⟩
          rcases ok.rd i s p.i hilt hr h2 with ⟨_, h4⟩ | ⟨h4, _⟩
          · exact h4
          · rw [htw] at h4; exact absurd (hin p hp) h4
        · refine .inr ⟨h1, fun j hj hjd => ?_⟩
          rcases ok.rd i s j hilt hr hjd with ⟨h4, _⟩ | ⟨_, _, h4⟩
          · rw [htw] at h4
            rcases I.sub j hj with h5 | ⟨p, hp, rfl⟩
            · exact absurd rfl ((List.nodup_append.1 hnd).2.2 j h4 j h5)
            · exact absurd hjd (h2 p hp hj)
          · exact h4
      · rcases I.pok q hq hqi s u hs with ⟨p, hp, h1, h2, h3, h4⟩ | h1
        · exact .inl ⟨p, by simp [hp], h1, h2, h3, h4⟩
        · exact .inr h1

def nth : List Oper → Nat → Option Oper
  | [], _ => none
  | o :: _, 0 => some o
  | _ :: l, i + 1 => nth l i
theorem nth_ok {l : List Oper} {i : Nat} : nth l i = l[i]? := by
  induction l generalizing i with
  | nil => rfl
  | cons a l ih => cases i with
    | zero => rfl
    | succ i => simpa [nth] using ih
theorem nth_at {i : Nat} {o : Oper} (h : nth ops.toList i = some o) : ops[i]? = some o := by rw [nth_ok] at h; simpa using h

/-- PROMISED, whatever the memory -/
theorem ap_pure {i : Nat} {v : Value} {o : Oper} {d : Option Nat} (ho : nth ops.toList i = some o) (hd : o.dst = d) (hg : gYes (resE (readsOf n ops i) e) (guardOf n ops o)) (m : ∀ L, Mo P (resE (readsOf n ops i) e) o.op o.type L fun v' L' => v' = v ∧ L' = L)
    (k : Ap P B kd n ops ord R (⟨i, v, resE (readsOf n ops i) e, true⟩ :: Pd) K (setE d v e) z L x) : Ap P B kd n ops ord (i :: R) Pd K e z L x := by
  subst hd
  have ho := nth_at ho
  exact ap_promise_gen ho ⟨o, ho, .inl ⟨hg, by rw [if_pos rfl]; exact m⟩⟩ k
/-- PROMISED, with this memory -/
theorem ap_read {i : Nat} {v : Value} {o : Oper} {d : Option Nat} (ho : nth ops.toList i = some o) (hd : o.dst = d) (hg : gYes (resE (readsOf n ops i) e) (guardOf n ops o)) (m : Mo P (resE (readsOf n ops i) e) o.op o.type L fun v' L' => v' = v ∧ L' = L)
    (k : Ap P B kd n ops ord R (⟨i, v, resE (readsOf n ops i) e, false⟩ :: Pd) K (setE d v e) z L x) : Ap P B kd n ops ord (i :: R) Pd K e z L x := by
  subst hd
  have ho := nth_at ho
  exact ap_promise_gen ho ⟨o, ho, .inl ⟨hg, by rw [if_neg (by simp)]; exact m⟩⟩ k
/-- its guard is not met -/
theorem ap_no {i : Nat} {o : Oper} {d : Option Nat} {g : Nat} {w : Bool} (ho : nth ops.toList i = some o) (hd : o.dst = d) (hg : guardOf n ops o = some (g, w)) (hl : lk (resE (readsOf n ops i) e) g = some (.bool (!w)))
    (k : Ap P B kd n ops ord R (⟨i, undef, resE (readsOf n ops i) e, true⟩ :: Pd) K (setE d undef e) z L x) : Ap P B kd n ops ord (i :: R) Pd K e z L x := by
  subst hd
  have ho := nth_at ho
  exact ap_promise_gen ho ⟨o, ho, .inr ⟨g, w, hg, hl, rfl⟩⟩ k

/-- what is still promised behind an operation that acts -/
def pdKeep (ops : Array Oper) (i : Nat) (Pd : List Pn) : List Pn := Pd.filter fun p => !(anc ops ops.size i).contains p.i

theorem InvA.loud (ok : OkO n ops ord) {i : Nat} {idx : List Nat} {t : Array Value} {o : Oper} {pre : List Nat} (hpre : ord = pre ++ i :: R) (hin : ∀ p ∈ Pd, p.i ∈ pre) (I : InvA n ops (i :: R) Pd e (i :: idx) t) (ho : ops[i]? = some o) (v : Value) :
    Agree (resE (readsOf n ops i) e) t ∧ InvA n ops R (pdKeep ops i Pd) (setE o.dst v e) idx (setDst o t v) := by
  have hnd : (pre ++ i :: R).Nodup := hpre ▸ ok.nd
  have hnd2 : i ∉ R := (List.nodup_cons.1 (List.nodup_append.1 hnd).2.1).1
  have hipre : i ∉ pre := fun h => (List.nodup_append.1 hnd).2.2 i h i (by simp) rfl
  have hilt : i < ops.size := (Array.getElem?_eq_some_iff.1 ho).1
  have htw : ord.takeWhile (fun q => !(q == i)) = pre := by rw [hpre]; exact takeWhile_pre hnd
  have hdst : dstOf ops i = o.dst := by simp [dstOf, ho]
  have hidx := List.nodup_cons.1 I.nd
  have hfirst : ∀ j ∈ anc ops ops.size i, j ∉ i :: idx := fun j hj => I.first ok hj
  have hedge : ∀ j ∈ edges ops i, j ∉ i :: idx := by
    intro j hj
    refine hfirst j ?_
    cases hs : ops.size with
    | zero => omega
    | succ f => simp [anc, hj]
  have hkeep : ∀ p ∈ Pd, p.i ∈ idx → p ∈ pdKeep ops i Pd := by
    intro p hp hpi
    simp only [pdKeep, List.mem_filter, Bool.not_eq_true', List.contains_eq_mem, decide_eq_false_iff_not]
    exact ⟨hp, fun h => hfirst _ h (by simp [hpi])⟩
  have hsub : ∀ p ∈ pdKeep ops i Pd, p ∈ Pd := fun p hp => (List.mem_filter.1 hp).1
  have hset : ∀ s, o.dst ≠ some s → (setDst o t v)[s]? = t[s]? := by
    intro s hs
    unfold setDst
    cases hd : o.dst with
    | none => rfl
    | some d => rw [hd] at hs; rw [Array.getElem?_setIfInBounds_ne (by intro h; exact hs (by rw [h]))]
  have hsame : ∀ s, o.dst = some s → (setDst o t v)[s]? = some v := by
    intro s hs
    have hlt := ok.dn i s (by rw [hdst]; exact hs)
    unfold setDst
    rw [hs]
    simp [I.sz, hlt]
  have hpne : ∀ p ∈ Pd, p.i ≠ i := fun p hp h => hipre (h ▸ hin p hp)
  refine ⟨?_, ⟨(setDst_size o t v).trans I.sz, hidx.2, fun j hj => I.lt j (by simp [hj]), ?_, ?_, ?_, fun p hp q hq => I.pu p (hsub p hp) q (hsub q hq), ?_, ?_, ?_, ?_⟩⟩
  · intro s u hs
    obtain ⟨hr, hl⟩ := lk_resE hs
    rcases I.envok s u hl with ⟨p, hp, h1, h2, h3⟩ | ⟨h1, _⟩
    · rcases ok.rd i s p.i hilt hr h2 with ⟨_, h4⟩ | ⟨h4, _⟩
      · exact absurd h1 (hedge _ h4)
      · rw [htw] at h4; exact absurd (hin p hp) h4
    · exact h1
  · intro j hj
    rcases I.sub j (by simp [hj]) with h1 | ⟨p, hp, h1⟩
    · rcases List.mem_cons.1 h1 with rfl | h1
      · exact absurd hj hidx.1
      · exact .inl h1
    · exact .inr ⟨p, hkeep p hp (h1 ▸ hj), h1⟩
  · intro j hj
    rcases List.mem_cons.1 (I.all j (by simp [hj])) with rfl | h
    · exact absurd hj hnd2
    · exact h
  · intro p hp hh
    exact I.dj p (hsub p hp) (by simp [hh])
  · intro pr j post h
    exact I.resp (i :: pr) j post (by rw [h]; rfl)
  · intro m hm hnot j hj hji
    by_cases h : m = i
    · subst h; exact hedge j hj (by simp [hji])
    · exact I.dn m hm (by simp [h, hnot]) j hj (by simp [hji])
  · intro s u hs
    by_cases hsd : o.dst = some s
    · have : u = v := by rw [hsd] at hs; simp [setE, lk] at hs; exact hs.symm
      subst this
      refine .inr ⟨hsame s hsd, fun p hp hpi hpd => ?_⟩
      exact hpne p (hsub p hp) (ok.dd _ _ s hpd (by rw [hdst]; exact hsd))
    · have hs' : lk e s = some u := by
        cases hd : o.dst with
        | none => rw [hd] at hs; exact hs
        | some d => rw [hd] at hs hsd; simp only [setE, lk] at hs; rw [if_neg (by intro h; exact hsd (by rw [h]))] at hs; exact hs
      rcases I.envok s u hs' with ⟨p, hp, h1, h2, h3⟩ | ⟨h1, h2⟩
      · rcases List.mem_cons.1 h1 with h | h
        · exact absurd h (hpne p hp)
        · exact .inl ⟨p, hkeep p hp h, h, h2, h3⟩
      · exact .inr ⟨by rw [hset s hsd]; exact h1, fun p hp hpi => h2 p (hsub p hp) (by simp [hpi])⟩
  · intro q hq hqi s u hs
    rcases I.pok q (hsub q hq) (by simp [hqi]) s u hs with ⟨p, hp, h1, h2, h3, h4⟩ | ⟨h1, h2⟩
    · rcases List.mem_cons.1 h1 with h | h
      · exact absurd h (hpne p hp)
      · exact .inl ⟨p, hkeep p hp h, h, h2, h3, h4⟩
    · refine .inr ⟨?_, fun j hj hjd => h2 j (by simp [hj]) hjd⟩
      rw [hset s ?_]
      · exact h1
      · intro hd
        exact hedge _ (h2 i (by simp) (by rw [hdst]; exact hd)) (by simp [hqi])

/-- promises that ask nothing of the chunks hold on -/
theorem pd_still {Pd' : List Pn} {L L' : List HProp} (hst : (Pd'.all (·.st)) = true) : ∀ p ∈ Pd', PdOk P n ops L p → PdOk P n ops L' p := by
  intro p hp ⟨o', h1, h2⟩
  have hs := (List.all_eq_true.1 hst) p hp
  refine ⟨o', h1, ?_⟩
  rcases h2 with ⟨h2, h3⟩ | h2
  · rw [if_pos hs] at h3 ⊢; exact .inl ⟨h2, h3⟩
  · exact .inr h2

/-- the frame of both ways to meet an operation that acts -/
theorem ap_loud_gen [Lets B] {i : Nat} {o : Oper} (ho : ops[i]? = some o) (hdom : (R.all fun j => (anc ops ops.size j).contains i) = true) (hg : gYes (resE (readsOf n ops i) e) (guardOf n ops o))
    (w : ∀ idx t h, t.size = n → Agree (resE (readsOf n ops i) e) t → Star L h → Region.wanted o (yielded ops t) = true →
      (∀ v L' x' h', Star L' h' → (∀ p ∈ pdKeep ops i Pd, PdOk P n ops L p → PdOk P n ops L' p) → Ap P B kd n ops ord R (pdKeep ops i Pd) K (setE o.dst v e) z L' x' → Wr P B kd ops idx K (setDst o t v) z h' x') → Wr P B kd ops (i :: idx) K t z h x) : Ap P B kd n ops ord (i :: R) Pd K e z L x := by
  rintro ⟨pre, hpre, hin⟩ ok hpd
  refine ap_run ok hpd (fun t h I s => ?_) (fun j idx t h hj I s => ?_)
  · have := I.all i (by simp); simp at this
  · have hji : j = i := by
      rcases List.mem_cons.1 hj with h1 | h1
      · exact h1
      · have := (List.all_eq_true.1 hdom) j h1
        simp only [List.contains_eq_mem, decide_eq_true_eq] at this
        exact absurd (I.all i (by simp)) (I.first ok this)
    subst hji
    obtain ⟨ha, _⟩ := I.loud ok hpre hin ho undef
    refine w idx t h I.sz ha s (wanted_yes' I.sz ha hg) fun v L' x' h' s' hst hap => ?_
    obtain ⟨_, I'⟩ := I.loud ok hpre hin ho v
    refine hap ⟨pre ++ [j], by rw [hpre]; simp, fun p hp => by simp [hin p (List.mem_filter.1 hp).1]⟩ ok (fun p hp => hst p hp (hpd p (List.mem_filter.1 hp).1)) idx _ h' I' s'

/-- AN OPERATION THAT ACTS. -/
theorem ap_loud [Lets B] {i : Nat} {o : Oper} {d : Option Nat} {Pd' : List Pn} {Q : Value → List HProp → Prop} (ho : nth ops.toList i = some o) (hd : o.dst = d) (hdom : (R.all fun j => (anc ops ops.size j).contains i) = true) (hpd' : pdKeep ops i Pd = Pd') (hst : (Pd'.all (·.st)) = true) (hg : gYes (resE (readsOf n ops i) e) (guardOf n ops o))
    (m : Mo P (resE (readsOf n ops i) e) o.op o.type L Q) (k : ∀ v L', Q v L' → Ap P B kd n ops ord R Pd' K (setE d v e) z L' x) : Ap P B kd n ops ord (i :: R) Pd K e z L x := by
  subst hd
  subst hpd'
  have ho := nth_at ho
  refine ap_loud_gen ho hdom hg fun idx t h ht ha s hw kk => ?_
  refine wr_op ho hw ?_
  rw [execOp_of (op := o.op) (ty := o.type) _ rfl rfl]
  refine m _ Lets.noRoom Lets.ext t h _ _ ha s fun v' L' h' nx hnx hr hs => ?_
  have := kk v' L' x h' hs (pd_still hst) (k v' L' hr)
  rcases hnx with rfl | ⟨rfl, rfl⟩
  · exact this
  · exact this

/-- AN OPERATION THAT ACTS, while reads are still promised: they are promised anew. -/
theorem ap_loudR [Lets B] {i : Nat} {o : Oper} {d : Option Nat} {Pd' : List Pn} {Q : Value → List HProp → Prop} (ho : nth ops.toList i = some o) (hd : o.dst = d) (hdom : (R.all fun j => (anc ops ops.size j).contains i) = true) (hpd' : pdKeep ops i Pd = Pd') (hg : gYes (resE (readsOf n ops i) e) (guardOf n ops o))
    (m : Mo P (resE (readsOf n ops i) e) o.op o.type L Q) (hre : ∀ v L', Q v L' → ∀ p ∈ Pd', p.st = true ∨ ∃ o, nth ops.toList p.i = some o ∧ gYes p.e (guardOf n ops o) ∧ Mo P p.e o.op o.type L' (fun v' L1 => v' = p.v ∧ L1 = L'))
    (k : ∀ v L', Q v L' → Ap P B kd n ops ord R Pd' K (setE d v e) z L' x) : Ap P B kd n ops ord (i :: R) Pd K e z L x := by
  subst hd
  subst hpd'
  have ho := nth_at ho
  refine ap_loud_gen ho hdom hg fun idx t h ht ha s hw kk => ?_
  refine wr_op ho hw ?_
  rw [execOp_of (op := o.op) (ty := o.type) _ rfl rfl]
  refine m _ Lets.noRoom Lets.ext t h _ _ ha s fun v' L' h' nx hnx hr hs => ?_
  have := kk v' L' x h' hs (fun p hp hk => by
    by_cases hs : p.st = true
    · exact pd_still (Pd' := [p]) (by simp [hs]) p (by simp) hk
    · rcases hre v' L' hr p hp with h | ⟨o, h1, h2, h3⟩
      · exact absurd h hs
      · exact ⟨o, nth_at h1, .inl ⟨h2, by rw [if_neg hs]; exact h3⟩⟩) (k v' L' hr)
  rcases hnx with rfl | ⟨rfl, rfl⟩
  · exact this
  · exact this

/-- A CALL of a function of the program. -/
theorem ap_callv [Lets B] {i : Nat} {Pd' : List Pn} {d : Option Nat} {fo : Operand} {args : List Operand} {tys : Array TypeId} {ty : TypeId} {pos : String} {aft : Array Edge} {gd : Option (Nat × Bool)} {fv : Value} {f : FuncId} {first cap vs : List Value} {Q : Value → List HProp → B.X → Prop} (ho : nth ops.toList i = some ⟨d, .call ⟨.value fo, args.toArray, tys⟩, ty, pos, aft, gd⟩)
    (hdom : (R.all fun j => (anc ops ops.size j).contains i) = true) (hpd' : pdKeep ops i Pd = Pd') (hst : (Pd'.all (·.st)) = true) (hg : gYes (resE (readsOf n ops i) e) (guardOf n ops ⟨d, .call ⟨.value fo, args.toArray, tys⟩, ty, pos, aft, gd⟩))
    (hf : ev (resE (readsOf n ops i) e) fo = some fv) (hc : callee? fv = some (f, first, cap)) (hargs : EvL (resE (readsOf n ops i) e) args vs) [en : Ent' P f] [pk : Pass K z] (m : Tr P B f (first ++ vs ++ cap) L x Q)
    (k : ∀ v L' x', Q v L' x' → Ap P B kd n ops ord R Pd' K (setE d v e) z L' x') : Ap P B kd n ops ord (i :: R) Pd K e z L x := by
  subst hpd'
  have ho := nth_at ho
  refine ap_loud_gen ho hdom hg fun idx t h ht ha s hw kk => ?_
  refine wr_op ho hw ?_
  have hfv : evT t fo = fv := ha.ev hf
  have hav := hargs.evT ha
  have hex : execOp (evT t) ⟨d, .call ⟨.value fo, args.toArray, tys⟩, ty, pos, aft, gd⟩ = callFunc f (first ++ vs ++ cap).toArray := by
    show (do let d ← resolve (evT t) ⟨.value fo, args.toArray, tys⟩ ty; invoke d.target d.args : Sem Next) = _
    cases fv with
    | func fn fi ca =>
      cases fn with
      | func g =>
        simp only [callee?, Option.some.injEq, Prod.mk.injEq] at hc
        obtain ⟨rfl, rfl, rfl⟩ := hc
        simp only [resolve, hfv, Deferred.ofValue, List.map_toArray, hav]
        show callFunc g ((fi ++ vs.toArray) ++ ca) = _
        congr 1
        apply Array.ext'
        simp
      | _ => cases hc
    | _ => cases hc
  rw [hex]
  refine wpS_callFunc en.ok ?_
  refine m h .run _ s (fun v L' x' h' r s' => ⟨rfl, ?_⟩) (fun ch h' x' hc => ⟨rfl, pk.ok ch t h' x' hc⟩)
  exact kk v L' x' h' s' (pd_still hst) (k v L' x' r)

/-- A DRAWN REGION, in an order of mine. -/
theorem we_draw {id : Nat} (ord : List Nat) (hok : okOrd n ops ord = true) (w : Ap P B kd n ops ord ord [] K e z L x) : We P B kd n (.region id ops true) K e z L x := by
  intro t h a1 a2 a3
  have ok := okOrd_ok hok
  refine wc_region_draw fun q => ?_
  obtain ⟨h1, h2, h3⟩ := schedule_ok ok.md (P.follows .mixedOrders) q
  generalize Region.schedule (P.follows .mixedOrders) ops q = idx at h1 h2 h3
  refine w ⟨[], rfl, fun p hp => by simp at hp⟩ ok (fun p hp => by simp at hp) idx t h ⟨a1, h1, fun i hi => (h2 i).2 hi, fun i hi => .inl (ok.all i ((h2 i).2 hi)), fun i hi => (h2 i).1 (ok.lt i hi), fun p hp => by simp at hp, fun p hp => by simp at hp, ?_, ?_, ?_, fun p hp => by simp at hp⟩ a3
  · intro pre i post hs j hj hjp
    have := h3 pre i post hs j hj
    rw [hs] at h1
    exact (List.nodup_append.1 h1).2.2 j this j (by simp [hjp]) rfl
  · intro m hm hno
    exact absurd ((h2 m).1 hm) hno
  · intro s v hs
    exact .inr ⟨a2 s v hs, fun p hp => by simp at hp⟩

end
end Go.PB

set_option linter.unusedVariables false
set_option linter.unusedSimpArgs false
namespace Go.PB

theorem wrap_u64 {n : Int} (h1 : 0 ≤ n) (h2 : n < 18446744073709551616) : IntKind.u64.wrap n = n := by
  unfold IntKind.wrap IntKind.signed IntKind.bits
  simp only [Bool.false_and, Bool.false_eq_true, if_false]
  omega

theorem wrap_u64_mod (n : Int) : IntKind.u64.wrap n = n % 18446744073709551616 := by
  unfold IntKind.wrap IntKind.signed IntKind.bits
  simp only [Bool.false_and, Bool.false_eq_true, if_false]
  rfl

theorem pow_le {k : Nat} (hk : k ≤ 10) : 2 ^ k ≤ 1024 := Nat.le_trans (Nat.pow_le_pow_right (by omega) hk) (by decide)

theorem bv_and64 {a b : Nat} (ha : a < 18446744073709551616) (hb : b < 18446744073709551616) : (BitVec.ofInt 64 (a : Int) &&& BitVec.ofInt 64 (b : Int)).toNat = a &&& b := by
  rw [BitVec.ofInt_natCast, BitVec.ofInt_natCast, BitVec.toNat_and, BitVec.toNat_ofNat, BitVec.toNat_ofNat, Nat.mod_eq_of_lt (by omega), Nat.mod_eq_of_lt (by omega)]

theorem and_u64 {a b : Nat} (ha : a < 18446744073709551616) (hb : b < 18446744073709551616) : IntKind.u64.wrap (BitVec.ofInt IntKind.u64.bits (a : Int) &&& BitVec.ofInt IntKind.u64.bits (b : Int)).toNat = ((a &&& b : Nat) : Int) := by
  show IntKind.u64.wrap (((BitVec.ofInt 64 (a : Int) &&& BitVec.ofInt 64 (b : Int)).toNat : Nat) : Int) = _
  rw [bv_and64 ha hb]
  have : a &&& b ≤ a := Nat.and_le_left
  exact wrap_u64 (by omega) (by omega)

theorem and_i64 {a b : Nat} (ha : a < 9223372036854775808) (hb : b < 9223372036854775808) : IntKind.i64.wrap (BitVec.ofInt IntKind.i64.bits (a : Int) &&& BitVec.ofInt IntKind.i64.bits (b : Int)).toNat = ((a &&& b : Nat) : Int) := by
  show IntKind.i64.wrap (((BitVec.ofInt 64 (a : Int) &&& BitVec.ofInt 64 (b : Int)).toNat : Nat) : Int) = _
  rw [bv_and64 (by omega) (by omega)]
  have : a &&& b ≤ a := Nat.and_le_left
  exact wrap_i64 (by omega) (by omega)

/-- a mask of 2^k slots -/
theorem and_pow2 {p : Int} {n k : Nat} (hn : n = 2 ^ k) (hk : k ≤ 10) (h0 : 0 ≤ p) (h1 : p < 18446744073709551616) : IntKind.u64.wrap (BitVec.ofInt IntKind.u64.bits p &&& BitVec.ofInt IntKind.u64.bits ((n : Int) - 1)).toNat = ((p.toNat % n : Nat) : Int) := by
  have hpos : 0 < n := by subst hn; exact Nat.two_pow_pos k
  have hle := pow_le hk
  obtain ⟨q, rfl⟩ : ∃ q : Nat, p = q := ⟨p.toNat, by omega⟩
  have e1 : ((n : Int) - 1) = ((n - 1 : Nat) : Int) := by omega
  rw [e1, and_u64 (by omega) (by omega), hn, Nat.and_two_pow_sub_one_eq_mod, Int.toNat_natCast]

theorem wrap_i64_s {n : Nat} (h : n < 18446744073709551616) : IntKind.i64.wrap (n : Int) = if n < 9223372036854775808 then (n : Int) else (n : Int) - 18446744073709551616 := by
  unfold IntKind.wrap IntKind.signed IntKind.bits
  simp only [Bool.true_and, decide_eq_true_eq]
  split <;> split <;> omega

/- comparisons that are decided -/
theorem bin_lssT {P : Program} {xt : TypeId} {x y : Operand} {k : IntKind} {a b : Int} (h : a < b) : Bin P .lss xt x y (.int k a) (.int k b) (.bool true) := by
  have t := bin_lss (P := P) (xt := xt) (x := x) (y := y) (k := k) (a := a) (b := b)
  rwa [decide_eq_true h] at t
theorem bin_lssF {P : Program} {xt : TypeId} {x y : Operand} {k : IntKind} {a b : Int} (h : ¬ (a < b)) : Bin P .lss xt x y (.int k a) (.int k b) (.bool false) := by
  have t := bin_lss (P := P) (xt := xt) (x := x) (y := y) (k := k) (a := a) (b := b)
  rwa [decide_eq_false h] at t
theorem bin_leqT {P : Program} {xt : TypeId} {x y : Operand} {k : IntKind} {a b : Int} (h : a ≤ b) : Bin P .leq xt x y (.int k a) (.int k b) (.bool true) := by
  have t := bin_leq (P := P) (xt := xt) (x := x) (y := y) (k := k) (a := a) (b := b)
  rwa [decide_eq_true h] at t
theorem bin_leqF {P : Program} {xt : TypeId} {x y : Operand} {k : IntKind} {a b : Int} (h : ¬ (a ≤ b)) : Bin P .leq xt x y (.int k a) (.int k b) (.bool false) := by
  have t := bin_leq (P := P) (xt := xt) (x := x) (y := y) (k := k) (a := a) (b := b)
  rwa [decide_eq_false h] at t
theorem bin_gtrT {P : Program} {xt : TypeId} {x y : Operand} {k : IntKind} {a b : Int} (h : b < a) : Bin P .gtr xt x y (.int k a) (.int k b) (.bool true) := by
  have t := bin_gtr (P := P) (xt := xt) (x := x) (y := y) (k := k) (a := a) (b := b)
  rwa [decide_eq_true h] at t
theorem bin_gtrF {P : Program} {xt : TypeId} {x y : Operand} {k : IntKind} {a b : Int} (h : ¬ (b < a)) : Bin P .gtr xt x y (.int k a) (.int k b) (.bool false) := by
  have t := bin_gtr (P := P) (xt := xt) (x := x) (y := y) (k := k) (a := a) (b := b)
  rwa [decide_eq_false h] at t
theorem bin_geqT {P : Program} {xt : TypeId} {x y : Operand} {k : IntKind} {a b : Int} (h : b ≤ a) : Bin P .geq xt x y (.int k a) (.int k b) (.bool true) := by
  have t := bin_geq (P := P) (xt := xt) (x := x) (y := y) (k := k) (a := a) (b := b)
  rwa [decide_eq_true h] at t
theorem bin_geqF {P : Program} {xt : TypeId} {x y : Operand} {k : IntKind} {a b : Int} (h : ¬ (b ≤ a)) : Bin P .geq xt x y (.int k a) (.int k b) (.bool false) := by
  have t := bin_geq (P := P) (xt := xt) (x := x) (y := y) (k := k) (a := a) (b := b)
  rwa [decide_eq_false h] at t
theorem bin_eqlT {P : Program} {xt : TypeId} {x y : Operand} {k : IntKind} {a b : Int} (h : a = b) : Bin P .eql xt x y (.int k a) (.int k b) (.bool true) := by
  have t := bin_eql (P := P) (xt := xt) (x := x) (y := y) (k := k) (a := a) (b := b)
  rwa [decide_eq_true h] at t
theorem bin_eqlF {P : Program} {xt : TypeId} {x y : Operand} {k : IntKind} {a b : Int} (h : ¬ (a = b)) : Bin P .eql xt x y (.int k a) (.int k b) (.bool false) := by
  have t := bin_eql (P := P) (xt := xt) (x := x) (y := y) (k := k) (a := a) (b := b)
  rwa [decide_eq_false h] at t
theorem bin_neqT {P : Program} {xt : TypeId} {x y : Operand} {k : IntKind} {a b : Int} (h : ¬ (a = b)) : Bin P .neq xt x y (.int k a) (.int k b) (.bool true) := by
  have t := bin_neq (P := P) (xt := xt) (x := x) (y := y) (k := k) (a := a) (b := b)
  rwa [decide_eq_false h] at t
theorem bin_neqF {P : Program} {xt : TypeId} {x y : Operand} {k : IntKind} {a b : Int} (h : a = b) : Bin P .neq xt x y (.int k a) (.int k b) (.bool false) := by
  have t := bin_neq (P := P) (xt := xt) (x := x) (y := y) (k := k) (a := a) (b := b)
  rwa [decide_eq_true h] at t

end Go.PB
