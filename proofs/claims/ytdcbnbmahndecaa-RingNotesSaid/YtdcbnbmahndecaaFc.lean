/-
  FOUNDATION, PART 3. Assertions on a thread's part of memory: lists of chunks that lie apart ('Star'), rows of cells ('arr'), finding, taking, dropping chunks. No program is in sight.
-/
import Derived.Test.YtdcbnbmahndecaaFb
set_option linter.unusedVariables false
set_option linter.unusedSimpArgs false
namespace Go.PB

abbrev HProp := Hp → Prop

/-- h1 and h2 are parts of h that share nothing which may be written. -/
structure Split (h h1 h2 : Hp) : Prop where
  r1 : ∀ b o v, h1.ro b o = some v → h.ro b o = some v
  r2 : ∀ b o v, h2.ro b o = some v → h.ro b o = some v
  o1 : ∀ b o v, h1.own b o = some v → h.own b o = some v
  o2 : ∀ b o v, h2.own b o = some v → h.own b o = some v
  od : ∀ b o, h1.own b o = none ∨ h2.own b o = none
  b1 : ∀ b v, h1.obj b = some v → h.obj b = some v
  b2 : ∀ b v, h2.obj b = some v → h.obj b = some v
  bd : ∀ b, h1.obj b = none ∨ h2.obj b = none

def Star : List HProp → Hp → Prop
  | [], _ => True
  | c :: L, h => ∃ h1 h2, Split h h1 h2 ∧ c h1 ∧ Star L h2

theorem Split.swap {h h1 h2 : Hp} (s : Split h h1 h2) : Split h h2 h1 :=
  ⟨s.r2, s.r1, s.o2, s.o1, fun b o => (s.od b o).symm, s.b2, s.b1, fun b => (s.bd b).symm⟩

/-- what two parts have together -/
def Hp.join (h1 h2 : Hp) : Hp := ⟨fun b o => (h1.own b o).or (h2.own b o), fun b o => (h1.ro b o).or (h2.ro b o), fun b => (h1.obj b).or (h2.obj b)⟩

theorem or_some {α : Type} {a b : Option α} {v : α} (h : a.or b = some v) : a = some v ∨ (a = none ∧ b = some v) := by
  cases a with
  | none => exact .inr ⟨rfl, by simpa using h⟩
  | some x => exact .inl (by simpa using h)

/-- (c with d) with L: c with (d with L) -/
theorem Split.assoc {h h1 h2 h3 h4 : Hp} (s : Split h h1 h2) (t : Split h2 h3 h4) : Split h h3 (h1.join h4) ∧ Split (h1.join h4) h1 h4 := by
  have none_o : ∀ b o v, h3.own b o = some v → h1.own b o = none := fun b o v e => (s.od b o).resolve_right (by rw [t.o1 _ _ _ e]; simp)
  have none_b : ∀ b v, h3.obj b = some v → h1.obj b = none := fun b v e => (s.bd b).resolve_right (by rw [t.b1 _ _ e]; simp)
  have none_o4 : ∀ b o v, h4.own b o = some v → h1.own b o = none := fun b o v e => (s.od b o).resolve_right (by rw [t.o2 _ _ _ e]; simp)
  have none_b4 : ∀ b v, h4.obj b = some v → h1.obj b = none := fun b v e => (s.bd b).resolve_right (by rw [t.b2 _ _ e]; simp)
  refine ⟨⟨fun _ _ _ e => s.r2 _ _ _ (t.r1 _ _ _ e), fun b o v e => ?_, fun _ _ _ e => s.o2 _ _ _ (t.o1 _ _ _ e), fun b o v e => ?_, fun b o => ?_, fun _ _ e => s.b2 _ _ (t.b1 _ _ e), fun b v e => ?_, fun b => ?_⟩, ⟨fun b o v e => ?_, fun b o v e => ?_, fun b o v e => ?_, fun b o v e => ?_, fun b o => ?_, fun b v e => ?_, fun b v e => ?_, fun b => ?_⟩⟩
  · rcases or_some e with e | ⟨_, e⟩
    · exact s.r1 _ _ _ e
    · exact s.r2 _ _ _ (t.r2 _ _ _ e)
  · rcases or_some e with e | ⟨_, e⟩
    · exact s.o1 _ _ _ e
    · exact s.o2 _ _ _ (t.o2 _ _ _ e)
  · cases e : h3.own b o with
    | none => exact .inl rfl
    | some v => right; simp [Hp.join, none_o _ _ _ e, (t.od b o).resolve_left (by rw [e]; simp)]
  · rcases or_some e with e | ⟨_, e⟩
    · exact s.b1 _ _ e
    · exact s.b2 _ _ (t.b2 _ _ e)
  · cases e : h3.obj b with
    | none => exact .inl rfl
    | some v => right; simp [Hp.join, none_b _ _ e, (t.bd b).resolve_left (by rw [e]; simp)]
  · simp [Hp.join, e]
  · cases e1 : h1.ro b o with
    | none => simp [Hp.join, e, e1]
    | some u => have a := s.r1 _ _ _ e1; have c := s.r2 _ _ _ (t.r2 _ _ _ e); rw [a] at c; injection c with c; subst c; simp [Hp.join, e1]
  · simp [Hp.join, e]
  · simp [Hp.join, e, none_o4 _ _ _ e]
  · cases e : h4.own b o with
    | none => exact .inr rfl
    | some v => exact .inl (none_o4 _ _ _ e)
  · simp [Hp.join, e]
  · simp [Hp.join, e, none_b4 _ _ e]
  · cases e : h4.obj b with
    | none => exact .inr rfl
    | some v => exact .inl (none_b4 _ _ e)

theorem star_swap {c d : HProp} {L : List HProp} {h : Hp} (s : Star (c :: d :: L) h) : Star (d :: c :: L) h := by
  obtain ⟨h1, h2, s1, hc, h3, h4, s2, hd, hL⟩ := s
  obtain ⟨a, b⟩ := s1.assoc s2
  exact ⟨h3, h1.join h4, a, hd, h1, h4, b, hc, hL⟩

theorem star_drop {c : HProp} {L : List HProp} {h : Hp} (s : Star (c :: L) h) : Star L h := by
  obtain ⟨h1, h2, s1, _, hL⟩ := s
  cases L with
  | nil => trivial
  | cons d L =>
    obtain ⟨h3, h4, s2, hd, hL⟩ := hL
    exact ⟨h3, h4, ⟨fun _ _ _ e => s1.r2 _ _ _ (s2.r1 _ _ _ e), fun _ _ _ e => s1.r2 _ _ _ (s2.r2 _ _ _ e), fun _ _ _ e => s1.o2 _ _ _ (s2.o1 _ _ _ e), fun _ _ _ e => s1.o2 _ _ _ (s2.o2 _ _ _ e), s2.od, fun _ _ e => s1.b2 _ _ (s2.b1 _ _ e), fun _ _ e => s1.b2 _ _ (s2.b2 _ _ e), s2.bd⟩, hd, hL⟩

theorem star_map {c d : HProp} {L M : List HProp} {h : Hp} (s : Star (c :: L) h) (hc : ∀ h, c h → d h) (hL : ∀ h, Star L h → Star M h) : Star (d :: M) h := by
  obtain ⟨h1, h2, s1, a, b⟩ := s
  exact ⟨h1, h2, s1, hc _ a, hL _ b⟩

/-- c stands in L; R: the others -/
inductive Has : List HProp → HProp → List HProp → Prop
  | here {c : HProp} {L : List HProp} : Has (c :: L) c L
  | there {c d : HProp} {L R : List HProp} : Has L c R → Has (d :: L) c (d :: R)

theorem Has.star {L R : List HProp} {c : HProp} (a : Has L c R) : ∀ {h : Hp}, Star L h → Star (c :: R) h := by
  induction a with
  | here => exact fun s => s
  | there _ ih => exact fun s => star_swap (star_map s (fun _ x => x) (fun _ => ih))

/-- all chunks of M are among those of L -/
inductive Ent : List HProp → List HProp → Prop
  | refl {L : List HProp} : Ent L L
  | nil {L : List HProp} : Ent L []
  | take {L R M : List HProp} {c : HProp} : Has L c R → Ent R M → Ent L (c :: M)
  | drop {L M : List HProp} {c : HProp} : Ent L M → Ent (c :: L) M

theorem Ent.star {L M : List HProp} (a : Ent L M) : ∀ {h : Hp}, Star L h → Star M h := by
  induction a with
  | refl => exact fun s => s
  | nil => exact fun _ => trivial
  | take b _ ih => exact fun s => star_map (b.star s) (fun _ x => x) (fun _ => ih)
  | drop _ ih => exact fun s => ih (star_drop s)

/-- c stands in L, and d in its place gives L' -/
inductive Foc : List HProp → HProp → HProp → List HProp → Prop
  | here {c d : HProp} {L : List HProp} : Foc (c :: L) c d (d :: L)
  | there {c d e : HProp} {L L' : List HProp} : Foc L c d L' → Foc (e :: L) c d (e :: L')

theorem Foc.out {L L' : List HProp} {c d : HProp} (a : Foc L c d L') : ∃ R, Has L c R ∧ (∀ {h : Hp}, Star (d :: R) h → Star L' h) := by
  induction a with
  | here => exact ⟨_, .here, fun s => s⟩
  | there _ ih =>
    obtain ⟨R, h1, h2⟩ := ih
    exact ⟨_, .there h1, fun s => star_map (star_swap s) (fun _ x => x) (fun _ => h2)⟩

/-- a row of cells from offset o of block b on -/
def arr (b o : Nat) (vs : List Value) : HProp := fun h => ∀ (i : Nat) v, vs[i]? = some v → h.own b (o + i) = some v
/-- a cell that nobody writes any more -/
def still (b o : Nat) (v : Value) : HProp := fun h => h.ro b o = some v
/-- all that stood in the world W below block n may be read -/
def base (W : World) : HProp := fun h => ∀ b o v, W.cell? ⟨b, o, none⟩ = some v → h.ro b o = some v
/-- an object -/
def ob (b : Nat) (o : Obj) : HProp := fun h => h.obj b = some o

/-- What may be read with L at hand. -/
def Rd (L : List HProp) (b o : Nat) (v : Value) : Prop := ∀ h, Star L h → h.can ⟨b, o, none⟩ v

theorem Rd.row {b o k n : Nat} {vs : List Value} {L : List HProp} {v : Value} (hk : vs[k]? = some v) (hn : n = o + k) : Rd (arr b o vs :: L) b n v := by
  rintro h ⟨h1, h2, s, ha, _⟩
  subst hn
  exact ⟨rfl, .inl (s.o1 _ _ _ (ha k v hk))⟩

theorem Rd.row0 {b n : Nat} {vs : List Value} {L : List HProp} {v : Value} (hk : vs[n]? = some v) : Rd (arr b 0 vs :: L) b n v := Rd.row hk (Nat.zero_add n).symm

theorem Rd.there {b o : Nat} {c : HProp} {L : List HProp} {v : Value} (r : Rd L b o v) : Rd (c :: L) b o v := fun h s => r h (star_drop s)

theorem Rd.base {b o : Nat} {W : World} {L : List HProp} {v : Value} (e : W.cell? ⟨b, o, none⟩ = some v) : Rd (base W :: L) b o v := by
  rintro h ⟨h1, h2, s, ha, _⟩
  exact ⟨rfl, .inr (s.r1 _ _ _ (ha _ _ _ e))⟩

theorem Rd.still {b o : Nat} {L : List HProp} {v : Value} : Rd (still b o v :: L) b o v := by
  rintro h ⟨h1, h2, s, ha, _⟩
  exact ⟨rfl, .inr (s.r1 _ _ _ ha)⟩

theorem Rd.of {b o : Nat} {L R : List HProp} {c : HProp} {v : Value} (a : Has L c R) (r : Rd [c] b o v) : Rd L b o v := by
  intro h s
  obtain ⟨h1, h2, s1, hc, _⟩ := a.star s
  exact r h ⟨h1, h2, s1, hc, trivial⟩

theorem star_store {b o k : Nat} {vs : List Value} {v : Value} {L : List HProp} {h : Hp} (hk : k < vs.length) (s : Star (arr b o vs :: L) h) :
    (h.own b (o + k)).isSome = true ∧ Star (arr b o (vs.set k v) :: L) (h.set b (o + k) v) := by
  obtain ⟨h1, h2, s1, ha, hL⟩ := s
  have h1k : h1.own b (o + k) = some vs[k] := ha k _ (by simp [hk])
  have hown := s1.o1 _ _ _ h1k
  have h2k : h2.own b (o + k) = none := (s1.od b (o + k)).resolve_left (by rw [h1k]; simp)
  refine ⟨by rw [hown]; rfl, h1.set b (o + k) v, h2, ⟨s1.r1, s1.r2, ?_, ?_, ?_, s1.b1, s1.b2, s1.bd⟩, ?_, hL⟩
  · intro b' o' v' e
    simp only [Hp.set] at e ⊢
    split at e
    · rename_i hh; simp [hh, e]
    · rename_i hh; simp only [hh, if_false]; exact s1.o1 _ _ _ e
  · intro b' o' v' e
    simp only [Hp.set]
    rw [if_neg (by rintro ⟨rfl, rfl⟩; rw [h2k] at e; cases e)]
    exact s1.o2 _ _ _ e
  · intro b' o'
    simp only [Hp.set]
    split
    · rename_i hh; obtain ⟨rfl, rfl⟩ := hh; exact .inr h2k
    · exact s1.od _ _
  · intro i u e
    simp only [Hp.set]
    by_cases hh : i = k
    · subst hh
      have e : some v = some u := by simpa [hk] using e
      simp only [and_self, if_true]; exact e
    · rw [List.getElem?_set_ne (by omega)] at e
      rw [if_neg (by rintro ⟨_, he⟩; exact hh (by omega))]; exact ha i u e

theorem star_new {b : Nat} {c : Array Value} {L : List HProp} {h : Hp} (f : h.fresh b) (s : Star L h) : Star (arr b 0 c.toList :: L) (h.newCells b c) := by
  refine ⟨⟨fun b' o' => if b' = b then c[o']? else none, fun _ _ => none, fun _ => none⟩, h, ⟨fun _ _ _ e => by simp at e, fun _ _ _ e => e, ?_, ?_, ?_, fun _ _ e => by simp at e, fun _ _ e => e, fun _ => .inl rfl⟩, ?_, s⟩
  · intro b' o' v e
    simp only [Hp.newCells] at e ⊢
    split at e
    · rename_i hh; simp [hh, e]
    · cases e
  · intro b' o' v e
    simp only [Hp.newCells]
    rw [if_neg (by rintro rfl; rw [f.1] at e; cases e)]
    exact e
  · intro b' o'
    by_cases hb : b' = b
    · subst hb; exact .inr (f.1 o')
    · left; simp [hb]
  · intro i v e
    simp only [Nat.zero_add, if_true]
    simpa using e

theorem star_newObj {b : Nat} {o : Obj} {L : List HProp} {h : Hp} (f : h.fresh b) (s : Star L h) : Star (ob b o :: L) (h.setObj b o) := by
  refine ⟨⟨fun _ _ => none, fun _ _ => none, fun b' => if b' = b then some o else none⟩, h, ⟨fun _ _ _ e => by simp at e, fun _ _ _ e => e, fun _ _ _ e => by simp at e, fun _ _ _ e => e, fun _ _ => .inl rfl, ?_, ?_, ?_⟩, by simp [ob], s⟩
  · intro b' v e
    simp only [Hp.setObj] at e ⊢
    split at e
    · rename_i hh; simp [hh, e]
    · cases e
  · intro b' v e
    simp only [Hp.setObj]
    rw [if_neg (by rintro rfl; rw [f.2.2] at e; cases e)]
    exact e
  · intro b'
    by_cases hb : b' = b
    · subst hb; exact .inr f.2.2
    · left; simp [hb]

theorem star_setObj {b : Nat} {o o' : Obj} {L : List HProp} {h : Hp} (s : Star (ob b o :: L) h) : h.obj b = some o ∧ Star (ob b o' :: L) (h.setObj b o') := by
  obtain ⟨h1, h2, s1, ha, hL⟩ := s
  have h1k : h1.obj b = some o := ha
  have h2k : h2.obj b = none := (s1.bd b).resolve_left (by rw [h1k]; simp)
  refine ⟨s1.b1 _ _ h1k, h1.setObj b o', h2, ⟨s1.r1, s1.r2, s1.o1, s1.o2, s1.od, ?_, ?_, ?_⟩, by simp [ob, Hp.setObj], hL⟩
  · intro b' v e
    simp only [Hp.setObj] at e ⊢
    split at e
    · rename_i hh; simp [hh, e]
    · rename_i hh; simp only [hh, if_false]; exact s1.b1 _ _ e
  · intro b' v e
    simp only [Hp.setObj]
    rw [if_neg (by rintro rfl; rw [h2k] at e; cases e)]
    exact s1.b2 _ _ e
  · intro b'
    simp only [Hp.setObj]
    split
    · rename_i hh; subst hh; exact .inr h2k
    · exact s1.bd _

/-- a chunk that says there is one -/
theorem star_ex {α : Type} {c : α → HProp} {L : List HProp} {h : Hp} (s : Star ((fun h => ∃ a, c a h) :: L) h) : ∃ a, Star (c a :: L) h := by
  obtain ⟨h1, h2, s1, ⟨a, ha⟩, hL⟩ := s
  exact ⟨a, h1, h2, s1, ha, hL⟩

/-- a fact beside a chunk -/
theorem star_and {p : Prop} {c : HProp} {L : List HProp} {h : Hp} (s : Star ((fun h => p ∧ c h) :: L) h) : p ∧ Star (c :: L) h := by
  obtain ⟨h1, h2, s1, ⟨hp, ha⟩, hL⟩ := s
  exact ⟨hp, h1, h2, s1, ha, hL⟩

/-- chunks in one chunk -/
def all (M : List HProp) : HProp := Star M

theorem Split.sub {h h1 h2 g : Hp} (s : Split h h1 h2) (e1 : ∀ b o v, h.own b o = some v → g.own b o = some v) (e2 : ∀ b o v, h.ro b o = some v → g.ro b o = some v) (e3 : ∀ b v, h.obj b = some v → g.obj b = some v) : Split g h1 h2 :=
  ⟨fun _ _ _ e => e2 _ _ _ (s.r1 _ _ _ e), fun _ _ _ e => e2 _ _ _ (s.r2 _ _ _ e), fun _ _ _ e => e1 _ _ _ (s.o1 _ _ _ e), fun _ _ _ e => e1 _ _ _ (s.o2 _ _ _ e), s.od, fun _ _ e => e3 _ _ (s.b1 _ _ e), fun _ _ e => e3 _ _ (s.b2 _ _ e), s.bd⟩

theorem star_open {M L : List HProp} : ∀ {h : Hp}, Star (all M :: L) h → Star (M ++ L) h := by
  induction M with
  | nil => exact fun s => star_drop s
  | cons c M ih =>
    rintro h ⟨h1, h2, s1, ⟨h3, h4, s2, hc, hM⟩, hL⟩
    -- h = (h3 + h4) + h2: h3 + (h4 + h2)
    obtain ⟨a, b⟩ := s1.swap.assoc s2
    exact ⟨h3, h2.join h4, a, hc, ih ⟨h4, h2, b.swap, hM, hL⟩⟩

theorem star_shut {M L : List HProp} : ∀ {h : Hp}, Star (M ++ L) h → Star (all M :: L) h := by
  induction M with
  | nil => exact fun {h} s => ⟨⟨fun _ _ => none, fun _ _ => none, fun _ => none⟩, h, ⟨fun _ _ _ e => by simp at e, fun _ _ _ e => e, fun _ _ _ e => by simp at e, fun _ _ _ e => e, fun _ _ => .inl rfl, fun _ _ e => by simp at e, fun _ _ e => e, fun _ => .inl rfl⟩, trivial, s⟩
  | cons c M ih =>
    rintro h ⟨h1, h2, s1, hc, hM⟩
    obtain ⟨h3, h4, s2, hM, hL⟩ := ih hM
    obtain ⟨a, b⟩ := s1.assoc s2
    exact ⟨h1.join h3, h4, (s1.assoc s2.swap).1.swap, ⟨h1, h3, (s1.assoc s2.swap).2, hc, hM⟩, hL⟩

end Go.PB
