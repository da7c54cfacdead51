/-
  FOUNDATION, PART 6. One law for each kind of operation that reads, writes or makes memory; owned slices ('vec'). No program is in sight.
-/
import Derived.Test.YtdcbnbmahndecaaFe
set_option linter.unusedVariables false
set_option linter.unusedSimpArgs false
namespace Go.PB

section
variable {P : Program} {e : Env} {L : List HProp} {ty : TypeId}

/-- what may be written: with v at (b, o) L is L' -/
def Wt (L : List HProp) (b o : Nat) (v : Value) (L' : List HProp) : Prop := ∀ h, Star L h → (h.own b o).isSome = true ∧ Star L' (h.set b o v)

theorem Wt.row {b o k n : Nat} {vs : List Value} {v : Value} {L L' : List HProp} (hk : k < vs.length) (hn : n = o + k) (f : Foc L (arr b o vs) (arr b o (vs.set k v)) L') : Wt L b n v L' := by
  intro h s
  obtain ⟨R, h1, h2⟩ := f.out
  subst hn
  obtain ⟨a, b⟩ := star_store (v := v) hk (h1.star s)
  exact ⟨a, h2 b⟩

theorem Wt.row0 {b k : Nat} {vs : List Value} {v : Value} {L L' : List HProp} (f : Foc L (arr b 0 vs) (arr b 0 (vs.set k v)) L') (hk : k < vs.length) : Wt L b k v L' := Wt.row hk (Nat.zero_add k).symm f

/-- several cells in one row -/
def Rds (L : List HProp) (b o : Nat) (vs : List Value) : Prop := ∀ (i : Nat) v, vs[i]? = some v → Rd L b (o + i) v

theorem Rds.row {b o k : Nat} {vs ws : List Value} {L R : List HProp} (f : Has L (arr b o vs) R) (hw : ∀ (i : Nat) v, ws[i]? = some v → vs[k + i]? = some v) : Rds L b (o + k) ws :=
  fun i v hi => Rd.of f (Rd.row (hw i v hi) (by omega))

theorem Rds.all {b o : Nat} {vs : List Value} {L R : List HProp} (f : Has L (arr b o vs) R) : Rds L b o vs := by
  have := Rds.row (k := 0) (ws := vs) f (fun i v h => by simpa using h)
  simpa using this

section
variable {M : Mark → Prop}

theorem wpS_load {h : Hp} {b o : Nat} {v : Value} {Q : Value → Hp → Prop} {X : Value → Hp → Prop} (hc : h.can ⟨b, o, none⟩ v) (q : Q v h) : wpS P M (load ⟨b, o, none⟩) h Q X := ⟨v, hc, q⟩

theorem wpS_loadCellsFrom {h : Hp} {b o : Nat} {Q : Array Value → Hp → Prop} {X : Value → Hp → Prop} : ∀ (vs : List Value) (i : Nat) (acc : Array Value), (∀ (j : Nat) v, vs[j]? = some v → h.can ⟨b, o + (i + j), none⟩ v) → Q (acc ++ vs.toArray) h →
    wpS P M (loadCellsFrom ⟨b, o, none⟩ i vs.length acc) h Q X := by
  intro vs
  induction vs with
  | nil =>
    intro i acc _ q
    have q' : Q acc h := by simpa using q
    exact q'
  | cons v vs ih =>
    intro i acc hc q
    show wpS P M (Sem.bind (load (Addr.add ⟨b, o, none⟩ i)) fun v => loadCellsFrom ⟨b, o, none⟩ (i + 1) vs.length (acc.push v)) h Q X
    rw [add_none]
    refine wpS_bind _ _ (wpS_load (hc 0 v rfl) ?_)
    refine ih (i + 1) (acc.push v) (fun j w hw => ?_) (by simpa using q)
    have := hc (j + 1) w (by simpa using hw)
    rwa [show i + 1 + j = i + (j + 1) by omega]

theorem wpS_loadCells {h : Hp} {b o n : Nat} {vs : List Value} {Q : Array Value → Hp → Prop} {X : Value → Hp → Prop} (hn : n = vs.length) (hc : ∀ (j : Nat) v, vs[j]? = some v → h.can ⟨b, o + j, none⟩ v) (q : Q vs.toArray h) : wpS P M (loadCells ⟨b, o, none⟩ n) h Q X := by
  subst hn
  exact wpS_loadCellsFrom vs 0 #[] (fun j v hv => by simpa using hc j v hv) (by simpa using q)

/-- the cells of a value that lies in one cell -/
def one : Value → Bool
  | .agg _ | .tuple _ => false
  | _ => true

theorem wpS_store1 {h : Hp} {b o : Nat} {v : Value} {Q : Unit → Hp → Prop} {X : Value → Hp → Prop} (hv : one v = true) (ho : (h.own b o).isSome = true) (q : Q () (h.set b o v)) : wpS P M (store ⟨b, o, none⟩ v) h Q X := by
  cases v <;> first | exact ⟨rfl, ho, q⟩ | cases hv

theorem one_cells {v : Value} (hv : one v = true) : v.cells = #[v] := by cases v <;> first | rfl | cases hv
end

/- ---- loads ---- -/
theorem mo_load {t : TypeId} {o : Operand} {b c : Nat} {v : Value} [p : Scal P t] (ha : ev e o = some (.pointer (some ⟨b, c, none⟩))) (hr : Rd L b c v) : Mo P e (.load t o) ty L fun v' L' => v' = v ∧ L' = L := by
  intro M _ _ tt h Q X ag s q
  show wpS P M (Sem.bind (Instr.loadAt t (evT tt o)) fun v => pure (.value v)) h Q X
  rw [ag.ev ha]
  show wpS P M (Sem.bind (loadVar t ⟨b, c, none⟩) fun v => pure (.value v)) h Q X
  refine wpS_bind _ _ ?_
  show wpS P M (Sem.bind (isAgg t) _) h _ X
  refine wpS_isAgg p.ok ?_
  exact wpS_load (hr h s) (q v L h _ (.inl rfl) ⟨rfl, rfl⟩ s)

theorem mo_loadA {t : TypeId} {o : Operand} {b c n : Nat} {vs : List Value} [p : AggT P t] [sz : Siz P t n] (ha : ev e o = some (.pointer (some ⟨b, c, none⟩))) (hn : n = vs.length) (hr : Rds L b c vs) : Mo P e (.load t o) ty L fun v' L' => v' = .agg vs.toArray ∧ L' = L := by
  intro M _ _ tt h Q X ag s q
  show wpS P M (Sem.bind (Instr.loadAt t (evT tt o)) fun v => pure (.value v)) h Q X
  rw [ag.ev ha]
  show wpS P M (Sem.bind (loadVar t ⟨b, c, none⟩) fun v => pure (.value v)) h Q X
  refine wpS_bind _ _ ?_
  show wpS P M (Sem.bind (isAgg t) _) h _ X
  refine wpS_isAgg p.ok ?_
  rw [if_pos rfl]
  show wpS P M (Sem.bind (sizeOf t) fun n => Sem.bind (loadCells ⟨b, c, none⟩ n) fun x => pure (Value.agg x)) h _ X
  refine wpS_sizeOf sz.ok (wpS_bind _ _ (wpS_loadCells hn (fun j v hv => hr j v hv h s) ?_))
  exact q _ L h _ (.inl rfl) ⟨rfl, rfl⟩ s

/- ---- stores ---- -/
theorem wpS_storeVar1 {M : Mark → Prop} {t : TypeId} {b c : Nat} {v : Value} {h : Hp} {Q : Unit → Hp → Prop} {X : Value → Hp → Prop} (sz : szOf P t = some 1) (hv : one v = true) (ho : (h.own b c).isSome = true) (q : Q () (h.set b c v)) : wpS P M (storeVar t ⟨b, c, none⟩ v) h Q X := by
  have hc := one_cells hv
  show wpS P M (Sem.bind (sizeOf t) fun n => if v.cells.size ≠ n then (do stuck "storeVar: the value has not the size of the variable"; storeCells ⟨b, c, none⟩ v.cells.toList) else storeCells ⟨b, c, none⟩ v.cells.toList) h Q X
  refine wpS_sizeOf sz ?_
  rw [hc]
  show wpS P M (Sem.bind (store (Addr.add ⟨b, c, none⟩ 0) v) fun _ => pure ()) h Q X
  rw [add_none]
  exact wpS_bind _ _ (wpS_store1 hv ho q)

theorem mo_store {t : TypeId} {o x : Operand} {b c : Nat} {v : Value} {L' : List HProp} [sz : Siz P t 1] (ha : ev e o = some (.pointer (some ⟨b, c, none⟩))) (hx : ev e x = some v) (hv : one v = true) (hw : Wt L b c v L') : Mo P e (.store t o x) ty L fun v' L1 => v' = undef ∧ L1 = L' := by
  intro M _ _ tt h Q X ag s q
  show wpS P M (Sem.bind (Instr.storeAt t (evT tt o) (evT tt x)) fun _ => pure .skip) h Q X
  rw [ag.ev ha, ag.ev hx]
  show wpS P M (Sem.bind (storeVar t ⟨b, c, none⟩ v) fun _ => pure .skip) h Q X
  obtain ⟨h1, h2⟩ := hw h s
  exact wpS_bind _ _ (wpS_storeVar1 sz.ok hv h1 (q undef L' _ _ (.inr ⟨rfl, rfl⟩) ⟨rfl, rfl⟩ h2))

/- ---- new memory ---- -/
theorem wpS_newRow {M : Mark → Prop} {t : TypeId} {c : Array Value} {h : Hp} {Q : Addr → Hp → Prop} {X : Value → Hp → Prop} (s : Star L h) (q : ∀ b h', Star (arr b 0 c.toList :: L) h' → Q ⟨b, 0, none⟩ h') : wpS P M (newRow t c) h Q X :=
  fun b hf => q b _ (star_new hf s)

theorem mo_box {t : TypeId} {o : Operand} {v : Value} (hx : ev e o = some v) : Mo P e (.box t o) ty L fun v' L' => ∃ b, v' = .pointer (some ⟨b, 0, none⟩) ∧ L' = arr b 0 v.cells.toList :: L := by
  intro M _ _ tt h Q X ag s q
  show wpS P M (Sem.bind (Sem.bind (newVar t (evT tt o)) fun a => pure (.pointer (some a))) fun v => pure (.value v)) h Q X
  rw [ag.ev hx]
  refine wpS_bind _ _ (wpS_bind _ _ (wpS_newRow s fun b h' s' => ?_))
  exact q _ _ h' _ (.inl rfl) ⟨b, rfl, rfl⟩ s'

theorem mo_alloc {t : TypeId} {zv : Value} [zr : Zer P t zv] : Mo P e (.alloc t) ty L fun v' L' => ∃ b, v' = .pointer (some ⟨b, 0, none⟩) ∧ L' = arr b 0 zv.cells.toList :: L := by
  intro M _ _ tt h Q X ag s q
  show wpS P M (Sem.bind (Instr.alloc t true (.tuple #[])) fun v => pure (.value v)) h Q X
  refine wpS_bind _ _ ?_
  show wpS P M (Sem.bind (zeroValue t) fun zero => Sem.bind (newVar t zero) fun a => pure (Value.pointer (some a))) h _ X
  refine wpS_zeroValue zr.ok (wpS_bind _ _ (wpS_newRow s fun b h' s' => ?_))
  exact q _ _ h' _ (.inl rfl) ⟨b, rfl, rfl⟩ s'

theorem mo_build {t : TypeId} {parts : Array (Nat × Operand)} {pv : List (Nat × Value)} {ps : Array (Nat × Nat)} {z cells : Array Value} [p : StT P t ps z] (hp : parts.toList.map (·.1) = pv.map (·.1)) (hv : EvL e (parts.toList.map (·.2)) (pv.map (·.2))) (hf : Instr.fill (ps[·]?) z pv = some cells) : Mo P e (.build t parts) ty L fun v' L' => v' = .agg cells ∧ L' = L := by
  intro M _ _ tt h Q X ag s q
  have hparts : (parts.map fun (i, x) => (i, evT tt x)) = pv.toArray := by
    apply Array.ext'
    simp only [Array.toList_map]
    have h2 := hv.evT ag
    have key : ∀ (l : List (Nat × Operand)) (r : List (Nat × Value)), l.map (·.1) = r.map (·.1) → (l.map (·.2)).map (evT tt) = r.map (·.2) → l.map (fun (q : Nat × Operand) => (q.1, evT tt q.2)) = r := by
      intro l
      induction l with
      | nil => intro r h1 _; cases r with | nil => rfl | cons _ _ => cases h1
      | cons a l ih =>
        intro r h1 h2
        cases r with
        | nil => cases h1
        | cons c r =>
          simp only [List.map_cons, List.cons.injEq] at h1 h2 ⊢
          exact ⟨by rw [h1.1, h2.1], ih r h1.2 h2.2⟩
    exact key _ _ hp h2
  have hz := p.zero
  have ho := p.ok
  show wpS P M (Sem.bind (Instr.build t (parts.map fun (i, x) => (i, evT tt x))) fun v => pure (.value v)) h Q X
  rw [hparts]
  refine wpS_bind _ _ ?_
  cases hz0 : zeroOf P t with
  | none => rw [hz0] at hz; cases hz
  | some zv =>
    rw [hz0] at hz
    simp only [Option.map_some, Option.some.injEq] at hz
    cases hu : P.underlying t with
    | none => rw [hu] at ho; cases ho
    | some d =>
      rw [hu] at ho
      cases d with
      | struct fs =>
        simp only at ho
        show wpS P M (Sem.bind (zeroValue t) fun z0 => Sem.bind (underlying t) fun d => _) h _ X
        refine wpS_zeroValue hz0 (wpS_underlying hu ?_)
        have key : ∀ (M : Mark → Prop) (Q : Array (Nat × Nat) → Hp → Prop) X, Q ps h → wpS P M (fs.mapM fun f => do pure (f.offset, ← sizeOf f.type) : Sem (Array (Nat × Nat))) h Q X := by
          intro M Q X hq
          rw [Array.mapM_eq_foldlM, ← Array.foldlM_toList]
          rw [Array.mapM_eq_foldlM, ← Array.foldlM_toList] at ho
          have gen : ∀ (l : List Field) (acc ps : Array (Nat × Nat)), List.foldlM (fun (bs : Array (Nat × Nat)) (x : Field) => bs.push <$> ((szOf P x.type).map fun z => (x.offset, z))) acc l = some ps → Q ps h →
              wpS P M (List.foldlM (fun (bs : Array (Nat × Nat)) (f : Field) => bs.push <$> (do pure (f.offset, ← sizeOf f.type) : Sem (Nat × Nat))) acc l) h Q X := by
            intro l
            induction l with
            | nil => intro acc ps h1 hq; simp only [List.foldlM_nil, Option.pure_def, Option.some.injEq] at h1; subst h1; exact hq
            | cons f l ih =>
              intro acc ps h1 hq
              simp only [List.foldlM_cons] at h1
              cases hs : szOf P f.type with
              | none => rw [hs] at h1; simp at h1
              | some z =>
                rw [hs] at h1
                simp only [Option.map_some, Option.map_eq_map, Option.bind_eq_bind, Option.bind_some] at h1
                simp only [List.foldlM_cons]
                refine wpS_bind (Sem.bind (Sem.bind (sizeOf f.type) fun z => pure (f.offset, z)) (Sem.pure ∘ acc.push)) _ ?_
                refine wpS_bind _ _ (wpS_bind _ _ ?_)
                have := wpS_sizeOf (P := P) (M := M) (k := Sem.pure) (h := h) (X := X) (Q := fun z h => wpS P M (List.foldlM (fun (bs : Array (Nat × Nat)) (f : Field) => bs.push <$> (do pure (f.offset, ← sizeOf f.type) : Sem (Nat × Nat))) (acc.push (f.offset, z)) l) h Q X) hs (ih _ _ h1 hq)
                rw [sem_bind_pure] at this
                exact this
          exact gen _ _ _ ho hq
        show wpS P M (Sem.bind (fs.mapM fun f => do pure (f.offset, ← sizeOf f.type) : Sem (Array (Nat × Nat))) fun places => _) h _ X
        refine wpS_bind _ _ (key _ _ _ ?_)
        subst hz
        simp only [hf]
        exact q _ L h _ (.inl rfl) ⟨rfl, rfl⟩ s
      | _ => cases ho

end
end Go.PB
