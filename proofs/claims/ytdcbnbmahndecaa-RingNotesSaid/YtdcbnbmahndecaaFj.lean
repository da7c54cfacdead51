/-
  FOUNDATION, PART 10. A region that draws its order: it is walked once, in an order of mine; what only reads is promised, what acts is met when all that is left hangs on it. No program is in sight.
-/
import Derived.Test.YtdcbnbmahndecaaFi
set_option linter.unusedVariables false
set_option linter.unusedSimpArgs false
namespace Go.PB

/-- what must be done ahead of operation i, in a mode -/
def edgesM (m : Region.Mode) (ops : Array Oper) (i : Nat) : List Nat := match ops[i]? with | some o => (o.after.toList.filter fun e => Region.binds m e).map (·.on) | none => []
/-- in every mode -/
def edges (ops : Array Oper) (i : Nat) : List Nat := edgesM .any ops i
def edgesOk (ops : Array Oper) : Bool := (List.range ops.size).all fun i => (edges ops i).all fun j => decide (j < i)

theorem edges_sub {ops : Array Oper} {i j : Nat} (m : Region.Mode) (h : j ∈ edges ops i) : j ∈ edgesM m ops i := by
  unfold edges edgesM at h
  unfold edgesM
  cases ho : ops[i]? with
  | none => rw [ho] at h; simp at h
  | some o =>
    rw [ho] at h
    simp only [List.mem_map, List.mem_filter] at h ⊢
    obtain ⟨e, ⟨h1, h2⟩, h3⟩ := h
    refine ⟨e, ⟨h1, ?_⟩, h3⟩
    unfold Region.binds at h2 ⊢
    split <;> simp_all

/-- a whole order that the mode allows -/
structure Wit (m : Region.Mode) (ops : Array Oper) (w : List Nat) : Prop where
  all : ∀ i, i < ops.size → i ∈ w
  lt : ∀ i ∈ w, i < ops.size
  resp : ∀ pre i post, w = pre ++ i :: post → ∀ j ∈ edgesM m ops i, j ∈ pre
def witB (m : Region.Mode) (ops : Array Oper) : List Nat → List Nat → Bool
  | _, [] => true
  | pre, i :: post => ((edgesM m ops i).all fun j => pre.contains j) && witB m ops (i :: pre) post
theorem witB_ok {m : Region.Mode} {ops : Array Oper} : ∀ {w pre : List Nat}, witB m ops pre w = true → ∀ p i post, w = p ++ i :: post → ∀ j ∈ edgesM m ops i, j ∈ p ∨ j ∈ pre := by
  intro w
  induction w with
  | nil => intro pre _ p i post h; simp at h
  | cons a w ih =>
    intro pre h p i post hs j hj
    simp only [witB, Bool.and_eq_true, List.all_eq_true, List.contains_eq_mem, decide_eq_true_eq] at h
    cases p with
    | nil => simp only [List.nil_append, List.cons.injEq] at hs; obtain ⟨rfl, rfl⟩ := hs; exact .inr (h.1 j hj)
    | cons b p =>
      simp only [List.cons_append, List.cons.injEq] at hs
      obtain ⟨rfl, rfl⟩ := hs
      rcases ih h.2 p i post rfl j hj with h1 | h1
      · exact .inl (by simp [h1])
      · rcases List.mem_cons.1 h1 with rfl | h1
        · exact .inl (by simp)
        · exact .inr h1
def witOk (m : Region.Mode) (ops : Array Oper) (w : List Nat) : Bool := ((List.range ops.size).all fun i => w.contains i) && (w.all fun i => decide (i < ops.size)) && witB m ops [] w
theorem witOk_ok {m : Region.Mode} {ops : Array Oper} {w : List Nat} (h : witOk m ops w = true) : Wit m ops w := by
  simp only [witOk, Bool.and_eq_true, List.all_eq_true, List.mem_range, List.contains_eq_mem, decide_eq_true_eq] at h
  exact ⟨h.1.1, h.1.2, fun pre i post hs j hj => (witB_ok h.2 pre i post hs j hj).resolve_right (by simp)⟩

theorem nodup_len : ∀ (l m : List Nat), l.Nodup → (∀ x ∈ l, x ∈ m) → l.length ≤ m.length := by
  intro l
  induction l with
  | nil => intro m _ _; simp
  | cons a l ih =>
    intro m hn hs
    have ha := hs a (by simp)
    have hn' := List.nodup_cons.1 hn
    have := ih (m.erase a) hn'.2 fun x hx => (List.mem_erase_of_ne (show x ≠ a from fun e => hn'.1 (by rw [← e]; exact hx))).2 (hs x (by simp [hx]))
    rw [List.length_erase_of_mem ha] at this
    have : 0 < m.length := List.length_pos_of_mem ha
    simp; omega

theorem nodup_full {l : List Nat} {n : Nat} (hn : l.Nodup) (hs : ∀ x ∈ l, x < n) (hl : n ≤ l.length) {i : Nat} (hi : i < n) : i ∈ l := by
  apply Classical.byContradiction
  intro hno
  have := nodup_len l ((List.range n).erase i) hn fun x hx => (List.mem_erase_of_ne (show x ≠ i from fun e => hno (by rw [← e]; exact hx))).2 (by simpa using hs x hx)
  rw [List.length_erase_of_mem (by simpa using hi)] at this
  simp at this; omega

theorem nodup_rev {l : List Nat} (h : l.Nodup) : l.reverse.Nodup := by
  rw [List.nodup_iff_pairwise_ne] at h ⊢
  rw [List.pairwise_reverse]
  exact h.imp fun h e => h e.symm

/- ---- the orders that the model may take ---- -/
structure LinInv (m : Region.Mode) (ops : Array Oper) (listed : Array Bool) (acc : List Nat) : Prop where
  sz : listed.size = ops.size
  mem : ∀ i, i < ops.size → (listed.getD i true = true ↔ i ∈ acc)
  lt : ∀ i ∈ acc, i < ops.size
  nd : acc.Nodup
  resp : ∀ pre i post, acc.reverse = pre ++ i :: post → ∀ j ∈ edges ops i, j ∈ pre

theorem first_not {w acc : List Nat} (h : ∃ i ∈ w, i ∉ acc) : ∃ pre i post, w = pre ++ i :: post ∧ i ∉ acc ∧ ∀ j ∈ pre, j ∈ acc := by
  induction w with
  | nil => obtain ⟨i, hi, _⟩ := h; simp at hi
  | cons a w ih =>
    by_cases ha : a ∈ acc
    · obtain ⟨i, hi, hn⟩ := h
      have : ∃ i ∈ w, i ∉ acc := by
        rcases List.mem_cons.1 hi with rfl | hi
        · exact absurd ha hn
        · exact ⟨i, hi, hn⟩
      obtain ⟨pre, i, post, h1, h2, h3⟩ := ih this
      refine ⟨a :: pre, i, post, by rw [h1]; rfl, h2, fun j hj => ?_⟩
      rcases List.mem_cons.1 hj with rfl | hj
      · exact ha
      · exact h3 j hj
    · exact ⟨[], a, w, rfl, ha, by simp⟩

theorem ready_iff {m : Region.Mode} {ops : Array Oper} {listed : Array Bool} {i : Nat} (hi : i < ops.size) :
    (((ops[i]?).map (·.after.all fun e => !Region.binds m e || listed.getD e.on false)).getD false = true) ↔ ∀ j ∈ edgesM m ops i, listed.getD j false = true := by
  have ho : ops[i]? = some ops[i] := by simp [hi]
  unfold edgesM
  rw [ho]
  simp only [Option.map_some, Option.getD_some]
  rw [Array.all_eq_true_iff_forall_mem]
  constructor
  · intro h j hj
    simp only [List.mem_map, List.mem_filter] at hj
    obtain ⟨e, ⟨h1, h2⟩, rfl⟩ := hj
    have := h e (by simpa using h1)
    rw [h2] at this
    simpa using this
  · intro h e he
    cases hb : Region.binds m e with
    | false => rfl
    | true =>
      have := h e.on (by simp only [List.mem_map, List.mem_filter]; exact ⟨e, ⟨by simpa using he, hb⟩, rfl⟩)
      simp [this]

theorem getD_true {listed : Array Bool} {j : Nat} (h : listed.getD j false = true) : listed.getD j true = true ∧ j < listed.size := by
  simp only [Array.getD_eq_getD_getElem?] at h ⊢
  cases hj : listed[j]? with
  | none => rw [hj] at h; cases h
  | some b => rw [hj] at h; exact ⟨h, (Array.getElem?_eq_some_iff.1 hj).1⟩

theorem lin_go {m : Region.Mode} {ops : Array Oper} {w : List Nat} (hw : Wit m ops w) : ∀ fuel t listed acc, LinInv m ops listed acc → acc.length + fuel = ops.size →
    ∃ idx, Region.linearise.go m ops fuel t listed acc = idx ∧ idx.Nodup ∧ (∀ i, i < ops.size ↔ i ∈ idx) ∧ ∀ pre i post, idx = pre ++ i :: post → ∀ j ∈ edges ops i, j ∈ pre := by
  intro fuel
  induction fuel with
  | zero =>
    intro t listed acc inv hl
    refine ⟨acc.reverse, rfl, nodup_rev inv.nd, fun i => ⟨fun hi => ?_, fun hi => inv.lt i (by simpa using hi)⟩, inv.resp⟩
    simpa using nodup_full inv.nd inv.lt (by omega) hi
  | succ fuel ih =>
    intro t listed acc inv hl
    unfold Region.linearise.go
    generalize hrs : (List.range ops.size).filter (fun i => !listed.getD i true && ((ops[i]?).map (·.after.all fun e => !Region.binds m e || listed.getD e.on false)).getD false) = rs
    have hlist : ∀ j, j ∈ acc → listed.getD j false = true := by
      intro j hj
      have hlt := inv.lt j hj
      have h3 := (inv.mem j hlt).2 hj
      have hs : j < listed.size := by rw [inv.sz]; exact hlt
      simp only [Array.getD_eq_getD_getElem?] at h3 ⊢
      simpa [hs] using h3
    -- some operation is ready
    have hne : rs ≠ [] := by
      have hex : ∃ i, i < ops.size ∧ i ∉ acc := by
        apply Classical.byContradiction
        intro hno
        have : ∀ i, i < ops.size → i ∈ acc := fun i hi => Classical.byContradiction fun h => hno ⟨i, hi, h⟩
        have := nodup_len (List.range ops.size) acc List.nodup_range (fun x hx => this x (by simpa using hx))
        simp at this; omega
      obtain ⟨i0, hi0, hn0⟩ := hex
      obtain ⟨pre, i, post, h1, hn, h3⟩ := first_not ⟨i0, hw.all i0 hi0, hn0⟩
      have hi : i < ops.size := hw.lt i (by rw [h1]; simp)
      have : i ∈ rs := by
        rw [← hrs, List.mem_filter]
        refine ⟨by simpa using hi, ?_⟩
        have h1' : listed.getD i true = false := by
          cases h : listed.getD i true with
          | false => rfl
          | true => exact absurd ((inv.mem i hi).1 h) hn
        rw [h1', (ready_iff hi).2 (fun j hj => hlist j (h3 j (hw.resp pre i post h1 j hj)))]
        rfl
      intro h; rw [h] at this; simp at this
    have hlt : t % rs.length < rs.length := Nat.mod_lt _ (List.length_pos_iff.2 hne)
    have hget : rs[t % rs.length]? = some rs[t % rs.length] := by simp [hlt]
    simp only [hrs]
    rw [hget]
    generalize hi : rs[t % rs.length] = i at *
    have hmem : i ∈ rs := by rw [← hi]; exact List.getElem_mem hlt
    rw [← hrs, List.mem_filter] at hmem
    obtain ⟨hir, hcond⟩ := hmem
    have hisz : i < ops.size := by simpa using hir
    simp only [Bool.and_eq_true, Bool.not_eq_true'] at hcond
    have hnot : i ∉ acc := fun h => by have := (inv.mem i hisz).2 h; rw [hcond.1] at this; cases this
    have hedge : ∀ j ∈ edges ops i, j ∈ acc := by
      intro j hj
      have h1 := getD_true ((ready_iff hisz).1 hcond.2 j (edges_sub m hj))
      exact (inv.mem j (by rw [← inv.sz]; exact h1.2)).1 h1.1
    refine ih (t / rs.length) (listed.setIfInBounds i true) (i :: acc) ⟨by simp [inv.sz], ?_, ?_, ?_, ?_⟩ (by simp; omega)
    · intro k hk
      by_cases hki : k = i
      · subst hki; simp [Array.getD_eq_getD_getElem?, inv.sz, hisz]
      · have : (listed.setIfInBounds i true).getD k true = listed.getD k true := by
          simp only [Array.getD_eq_getD_getElem?]
          rw [Array.getElem?_setIfInBounds_ne (fun e => hki e.symm)]
        rw [this, inv.mem k hk]
        simp [hki]
    · intro k hk
      rcases List.mem_cons.1 hk with rfl | hk
      · exact hisz
      · exact inv.lt k hk
    · exact List.nodup_cons.2 ⟨hnot, inv.nd⟩
    · intro pre k post hsplit j hj
      simp only [List.reverse_cons] at hsplit
      rcases List.append_eq_append_iff.1 hsplit with ⟨as, h1, h2⟩ | ⟨bs, h1, h2⟩
      · cases as with
        | nil =>
          simp only [List.nil_append, List.cons.injEq] at h2
          obtain ⟨rfl, _⟩ := h2
          rw [h1]; simpa using hedge j hj
        | cons a as => simp at h2
      · cases bs with
        | nil =>
          simp only [List.nil_append, List.cons.injEq] at h2
          obtain ⟨rfl, _⟩ := h2
          simp only [List.append_nil] at h1
          rw [← h1]; simpa using hedge j hj
        | cons a bs =>
          simp only [List.cons_append, List.cons.injEq] at h2
          obtain ⟨rfl, _⟩ := h2
          exact inv.resp pre k bs h1 j hj

theorem linearise_ok {m : Region.Mode} {ops : Array Oper} {w : List Nat} (hw : Wit m ops w) (t : Nat) :
    (Region.linearise m ops t).Nodup ∧ (∀ i, i < ops.size ↔ i ∈ Region.linearise m ops t) ∧ ∀ pre i post, Region.linearise m ops t = pre ++ i :: post → ∀ j ∈ edges ops i, j ∈ pre := by
  unfold Region.linearise
  obtain ⟨idx, h1, h2⟩ := lin_go hw ops.size t (Array.replicate ops.size false) [] ⟨by simp, by intro i hi; simp [Array.getD_eq_getD_getElem?, hi], by simp, by simp, by intro pre i post h; simp at h⟩ (by simp)
  rw [h1]; exact h2

/-- the check of all modes -/
def modesOk (ops : Array Oper) : Bool := edgesOk ops && witOk .any ops (List.range ops.size) && (!Region.departs ops || (witOk .text ops (List.range ops.size) && witOk .gc ops (Region.linearise .gc ops 0)))

/-- every order that may be drawn is one of all operations, each behind those that it hangs on -/
theorem schedule_ok {ops : Array Oper} (hok : modesOk ops = true) (mixed : Bool) (t : Nat) :
    (Region.schedule mixed ops t).Nodup ∧ (∀ i, i < ops.size ↔ i ∈ Region.schedule mixed ops t) ∧ ∀ pre i post, Region.schedule mixed ops t = pre ++ i :: post → ∀ j ∈ edges ops i, j ∈ pre := by
  simp only [modesOk, Bool.and_eq_true, Bool.or_eq_true, Bool.not_eq_true'] at hok
  obtain ⟨⟨_, h1⟩, h2⟩ := hok
  unfold Region.schedule
  split
  · exact linearise_ok (witOk_ok h1) t
  · rename_i hm
    simp only [Bool.or_eq_true, Bool.not_eq_true', not_or] at hm
    rcases h2 with h2 | ⟨h2, h3⟩
    · exact absurd h2 hm.2
    · split
      · exact linearise_ok (witOk_ok h2) _
      · exact linearise_ok (witOk_ok h3) _

theorem edge_lt {ops : Array Oper} (hok : edgesOk ops = true) {i j : Nat} (hj : j ∈ edges ops i) : j < i := by
  by_cases hi : i < ops.size
  · simp only [edgesOk, List.all_eq_true, List.mem_range, decide_eq_true_eq] at hok
    exact hok i hi j hj
  · unfold edges edgesM at hj
    rw [Array.getElem?_eq_none (by omega)] at hj
    simp at hj

end Go.PB
