/-
  FOUNDATION, PART 7. Slices that the thread owns ('vec'): make, append, slicing, slice literals. No program is in sight.
-/
import Derived.Test.YtdcbnbmahndecaaFf
set_option linter.unusedVariables false
set_option linter.unusedSimpArgs false
namespace Go.PB

/-- n copies of a row of cells -/
def zeros (n : Nat) (c : List Value) : List Value := (List.replicate n c).flatten

theorem zeros_length (n : Nat) (c : List Value) : (zeros n c).length = n * c.length := by simp [zeros]

theorem range_zeros (n : Nat) (z : Array Value) : ((Array.range (n * z.size)).map (z[· % z.size]!)).toList = zeros n z.toList := by
  rw [Array.toList_map, Array.toList_range]
  induction n with
  | zero => simp [zeros]
  | succ n ih =>
    rw [show (n + 1) * z.size = n * z.size + z.size by rw [Nat.add_mul]; simp, List.range_add, List.map_append, ih]
    simp only [zeros, List.replicate_succ', List.flatten_append, List.flatten_cons, List.flatten_nil, List.append_nil]
    congr 1
    rw [List.map_map]
    apply List.ext_getElem
    · simp
    · intro i h1 h2
      simp only [List.getElem_map, List.getElem_range, Function.comp]
      have hi : i < z.size := by simpa using h2
      rw [Nat.mul_add_mod_self_right, Nat.mod_eq_of_lt hi]
      simp [hi]

section
variable {P : Program} {e : Env} {L : List HProp} {ty : TypeId} {M : Mark → Prop}

theorem wpS_askRoom {n : Nat} {h : Hp} {Q : Unit → Hp → Prop} {X : Value → Hp → Prop} (m : M .noRoom) (q : Q () h) : wpS P M (askRoom n) h Q X := by
  unfold askRoom
  split
  · exact ⟨m, q⟩
  · exact q

theorem wpS_bytes {t : TypeId} {b : Nat} {α : Type} {k : TypeInfo → Sem α} {h : Hp} {Q : α → Hp → Prop} {X : Value → Hp → Prop} (hb : bytesOf P t = some b) (w : ∀ i : TypeInfo, i.bytes = b → wpS P M (k i) h Q X) : wpS P M (Sem.bind (typeInfo t) k) h Q X := by
  unfold bytesOf at hb
  cases hi : P.info? t with
  | none => rw [hi] at hb; cases hb
  | some i =>
    rw [hi] at hb
    simp only [Option.map_some, Option.some.injEq] at hb
    exact wpS_typeInfo hi (w i hb)

theorem wrap_i64 {n : Int} (h1 : -9223372036854775808 ≤ n) (h2 : n ≤ 9223372036854775807) : IntKind.i64.wrap n = n := by
  unfold IntKind.wrap IntKind.signed IntKind.bits
  simp only [Bool.true_and, decide_eq_true_eq]
  split <;> omega

/-- make([]T, n) -/
theorem mo_make {t el by_ sz : Nat} {o o' : Operand} {k k' : IntKind} {n : Nat} {zv : Value} [p : SlT P t el] [b : Byt P el by_] [s : Siz P el sz] [z : Zer P el zv] (hx : ev e o = some (.int k n)) (hy : ev e o' = some (.int k' n)) (hsz : zv.cells.size = sz) (hn : n ≤ 9223372036854775807) (hb : by_ * n ≤ 281474976710656) : Mo P e (.makeSlice t o o') ty L fun v' L' => ∃ b, v' = .slice (some ⟨b, 0, none⟩) n n ∧ L' = arr b 0 (zeros n zv.cells.toList) :: L := by
  intro M hM _ tt h Q X ag st q
  show wpS P M (Sem.bind (Instr.makeSlice t (evT tt o) (evT tt o')) fun v => pure (.value v)) h Q X
  rw [ag.ev hx, ag.ev hy]
  refine wpS_bind _ _ ?_
  have hw : IntKind.i64.wrap (n : Int) = n := wrap_i64 (by omega) (by omega)
  unfold Instr.makeSlice
  refine wpS_underlying p.ok ?_
  simp only [asInt, asIntOf, pure_bind, bind_assoc]
  refine wpS_bytes b.ok fun i hi => ?_
  simp only [hw, hi]
  have hc : (decide ((n : Int) < 0) || decide ((by_ : Int) * (n : Int) > 2 ^ 48) || decide ((n : Int) < 0) || decide ((n : Int) > (n : Int))) = false := by
    have h1 : ¬ ((by_ : Int) * (n : Int) > 2 ^ 48) := by
      obtain ⟨m, hm⟩ : ∃ m, by_ * n = m := ⟨_, rfl⟩
      rw [← Int.natCast_mul, hm]
      rw [hm] at hb
      omega
    simp [h1]
    omega
  rw [if_neg (by rw [hc]; simp)]
  simp only [Int.toNat_natCast, pure_bind]
  refine wpS_bind _ _ (wpS_askRoom hM ?_)
  refine wpS_sizeOf s.ok ?_
  have fin : ∀ zc : Array Value, (n * sz ≠ 0 → zc = zv.cells) → wpS P M (Sem.bind (newRow el ((Array.range (n * sz)).map (zc[· % zc.size]!))) fun a => pure (Value.slice (some a) n n)) h (fun a h => wpS P M (pure (Next.value a)) h Q X) X := by
    intro zc hzc
    refine wpS_bind _ _ (wpS_newRow st fun bb h' s' => ?_)
    refine q _ _ h' _ (.inl rfl) ⟨bb, rfl, rfl⟩ ?_
    by_cases h0 : n * sz = 0
    · have e1 : (zeros n zv.cells.toList) = [] := List.length_eq_zero_iff.1 (by rw [zeros_length, Array.length_toList, hsz, h0])
      have e2 : ((Array.range (n * sz)).map (zc[· % zc.size]!)).toList = [] := by rw [h0]; simp
      rw [e1]; rw [e2] at s'; exact s'
    · rw [hzc h0, ← hsz, range_zeros] at s'; exact s'
  by_cases h0 : n * sz = 0
  · rw [if_pos h0]; exact fin #[] (fun h => absurd h0 h)
  · rw [if_neg h0]
    refine wpS_zeroValue z.ok ?_
    exact fin _ (fun _ => rfl)

/- ---- slice literals ---- -/
theorem fold_set (cs : List Value) : ∀ (j0 off : Nat) (A : Array Value), off + j0 + cs.length ≤ A.size →
    ((cs.zipIdx j0).foldl (fun (a : Array Value) (p : Value × Nat) => a.setIfInBounds (off + p.2) p.1) A).toList = A.toList.take (off + j0) ++ cs ++ A.toList.drop (off + j0 + cs.length) := by
  induction cs with
  | nil => intro j0 off A _; simp
  | cons c cs ih =>
    intro j0 off A h
    simp only [List.length_cons] at h
    simp only [List.zipIdx_cons, List.foldl_cons]
    rw [ih (j0 + 1) off _ (by simp; omega)]
    simp only [Array.toList_setIfInBounds, List.length_cons]
    have hlt : off + j0 < A.toList.length := by simp; omega
    apply List.ext_getElem?
    intro i
    simp only [List.getElem?_append, List.length_append, List.length_take, List.getElem?_take, List.getElem?_drop, List.getElem?_set, List.length_set, List.getElem?_cons, List.length_cons]
    have e1 : min (off + (j0 + 1)) A.toList.length = off + j0 + 1 := by omega
    have e2 : min (off + j0) A.toList.length = off + j0 := by omega
    rw [e1, e2]
    by_cases h1 : i < off + j0
    · simp [h1, show i < off + j0 + 1 + cs.length by omega, show i < off + j0 + 1 by omega, show i < off + (j0 + 1) by omega, show i < off + j0 + (cs.length + 1) by omega, show off + j0 ≠ i by omega]
    · by_cases h2 : i = off + j0
      · subst h2
        have hlt' : off + j0 < A.size := by simpa using hlt
        simp [hlt', show off + j0 < off + j0 + 1 + cs.length by omega]
      · by_cases h3 : i < off + j0 + 1 + cs.length
        · simp [h1, h3, show ¬ i < off + j0 + 1 by omega, show i < off + j0 + (cs.length + 1) by omega, show ¬ i - (off + j0) = 0 by omega, show i - (off + j0) - 1 = i - (off + j0 + 1) by omega]
        · simp [h1, h3, show ¬ i < off + j0 + (cs.length + 1) by omega, show off + (j0 + 1) + cs.length + (i - (off + j0 + 1 + cs.length)) = off + j0 + (cs.length + 1) + (i - (off + j0 + (cs.length + 1))) by omega, show off + j0 ≠ off + j0 + (cs.length + 1) + (i - (off + j0 + (cs.length + 1))) by omega]

theorem fill_all (sz : Nat) : ∀ (vs : List Value) (k : Nat) (A : Array Value), (∀ v ∈ vs, v.cells.size = sz) → k * sz + vs.length * sz ≤ A.size →
    ∃ C, Instr.fill (fun i => some (i * sz, sz)) A ((vs.zipIdx k).map fun p => (p.2, p.1)) = some C ∧ C.toList = A.toList.take (k * sz) ++ (vs.map (·.cells.toList)).flatten ++ A.toList.drop (k * sz + vs.length * sz) := by
  intro vs
  induction vs with
  | nil => intro k A _ _; exact ⟨A, rfl, by simp⟩
  | cons v vs ih =>
    intro k A hv hA
    have hs : v.cells.size = sz := hv v (by simp)
    have e1 : (vs.length + 1) * sz = vs.length * sz + sz := by rw [Nat.add_mul]; simp
    have e2 : (k + 1) * sz = k * sz + sz := by rw [Nat.add_mul]; simp
    simp only [List.length_cons] at hA
    have hf := fold_set v.cells.toList 0 (k * sz) A (by simp [hs]; omega)
    simp only [Nat.add_zero, Array.length_toList, hs] at hf
    have hsize : (v.cells.zipIdx.foldl (fun cs (c, j) => cs.setIfInBounds (k * sz + j) c) A) = (v.cells.toList.zipIdx.foldl (fun (a : Array Value) (p : Value × Nat) => a.setIfInBounds (k * sz + p.2) p.1) A) := by
      rw [← Array.foldl_toList]; simp
    have hlen : (v.cells.toList.zipIdx.foldl (fun (a : Array Value) (p : Value × Nat) => a.setIfInBounds (k * sz + p.2) p.1) A).size = A.size := by
      rw [← Array.length_toList, hf]; simp; omega
    obtain ⟨C, hC, hCl⟩ := ih (k + 1) (v.cells.toList.zipIdx.foldl (fun (a : Array Value) (p : Value × Nat) => a.setIfInBounds (k * sz + p.2) p.1) A) (fun u hu => hv u (by simp [hu])) (by rw [hlen]; omega)
    refine ⟨C, ?_, ?_⟩
    · simp only [List.zipIdx_cons, List.map_cons, Instr.fill]
      rw [if_neg (by simp [hs]; omega), hsize]
      exact hC
    · rw [hCl, hf, e2]
      simp only [List.map_cons, List.flatten_cons, List.length_cons]
      have l1 : (A.toList.take (k * sz) ++ v.cells.toList).length = k * sz + sz := by simp [hs]; omega
      rw [List.take_append_of_le_length (by omega), List.take_of_length_le (by omega), List.drop_append, l1]
      rw [List.drop_of_length_le (l := A.toList.take (k * sz) ++ v.cells.toList) (by omega), List.drop_drop]
      simp only [List.nil_append, List.append_assoc]
      congr 4
      omega

theorem parts_eq {parts : Array (Nat × Operand)} {vs : List Value} {n : Nat} {tt : Array Value} (hp : parts.toList.map (·.1) = List.range n) (hev : (parts.toList.map (·.2)).map (evT tt) = vs) :
    vs.length = n ∧ (parts.map fun (p : Nat × Operand) => (p.1, evT tt p.2)) = ((vs.zipIdx 0).map fun p => (p.2, p.1)).toArray := by
  have hlen : vs.length = n := by
    have h1 : (parts.toList.map (·.1)).length = n := by rw [hp]; simp
    have h2 : ((parts.toList.map (·.2)).map (evT tt)).length = vs.length := by rw [hev]
    simp at h1 h2; omega
  refine ⟨hlen, ?_⟩
  apply Array.ext'
  simp only [Array.toList_map]
  apply List.ext_getElem?
  intro i
  have h1 : (parts.toList.map (·.1))[i]? = (List.range n)[i]? := by rw [hp]
  have h2 : ((parts.toList.map (·.2)).map (evT tt))[i]? = vs[i]? := by rw [hev]
  simp only [List.getElem?_map, List.getElem?_zipIdx, Nat.zero_add] at h1 h2 ⊢
  cases hpi : parts.toList[i]? with
  | none => rw [hpi] at h2; simp only [Option.map_none] at h2; rw [← h2]; rfl
  | some q =>
    rw [hpi] at h1 h2
    simp only [Option.map_some] at h1 h2 ⊢
    rw [← h2]
    have hi : i < n := by
      have := (List.getElem?_eq_some_iff.1 h1.symm).1; simpa using this
    simp only [List.getElem?_range hi, Option.some.injEq] at h1
    simp [h1]

theorem mo_buildSlice {t el sz n : Nat} {parts : Array (Nat × Operand)} {vs : List Value} {zv : Value} [p : SlT P t el] [s : Siz P el sz] [z : Zer P el zv] (hp : parts.toList.map (·.1) = List.range n) (hv : EvL e (parts.toList.map (·.2)) vs) (hz : zv.cells.size = sz) (hs : ∀ v ∈ vs, v.cells.size = sz) (hn : n * sz ≤ 16777216) : Mo P e (.buildSlice t n parts) ty L fun v' L' => ∃ b, v' = .slice (some ⟨b, 0, none⟩) n n ∧ L' = arr b 0 (vs.map (·.cells.toList)).flatten :: L := by
  intro M _ _ tt h Q X ag st q
  obtain ⟨hlen, hparts⟩ := parts_eq hp (hv.evT ag)
  show wpS P M (Sem.bind (Instr.buildSlice t n (parts.map fun (p : Nat × Operand) => (p.1, evT tt p.2))) fun v => pure (.value v)) h Q X
  rw [hparts]
  refine wpS_bind _ _ ?_
  unfold Instr.buildSlice
  refine wpS_underlying p.ok ?_
  refine wpS_sizeOf s.ok ?_
  rw [if_neg (by omega)]
  simp only [pure_bind]
  have fin : ∀ A : Array Value, A.size = n * sz → ∃ C, Instr.fill (fun i => some (i * sz, sz)) A ((vs.zipIdx 0).map fun p => (p.2, p.1)) = some C ∧ wpS P M (Sem.bind (newRow el C) fun a => pure (Value.slice (some a) n n)) h (fun a h => wpS P M (pure (Next.value a)) h Q X) X := by
    intro A hA
    obtain ⟨C, hC, hCl⟩ := fill_all sz vs 0 A hs (by rw [hA, hlen]; simp)
    refine ⟨C, hC, ?_⟩
    refine wpS_bind _ _ (wpS_newRow st fun bb h' s' => ?_)
    refine q _ _ h' _ (.inl rfl) ⟨bb, rfl, rfl⟩ ?_
    rw [hCl] at s'
    simp only [Nat.zero_mul, List.take_zero, List.nil_append, Nat.zero_add] at s'
    rw [List.drop_of_length_le (by simp [hA, hlen])] at s'
    simpa using s'
  by_cases h0 : n * sz = 0
  · rw [if_pos h0]
    obtain ⟨C, hC, w⟩ := fin ((Array.range (n * sz)).map (fun x => (#[] : Array Value)[x % (#[] : Array Value).size]!)) (by simp only [Array.size_map, Array.size_range])
    simp only [hC]
    exact w
  · rw [if_neg h0]
    refine wpS_zeroValue z.ok ?_
    obtain ⟨C, hC, w⟩ := fin ((Array.range (n * sz)).map (fun x => zv.cells[x % zv.cells.size]!)) (by simp only [Array.size_map, Array.size_range])
    simp only [hC]
    exact w

end
end Go.PB
