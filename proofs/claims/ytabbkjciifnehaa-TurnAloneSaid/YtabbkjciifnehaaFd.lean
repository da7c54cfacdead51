/-
  FOUNDATION, PART 3. Assertions on a thread's part of memory: lists of chunks that lie apart ('Star'), rows of cells ('arr'), finding, taking, dropping chunks. No program is in sight.
  FOUNDATION, PART 4. The walk: slots as short lists ('Env'), pieces of code over slots and chunks ('We', 'Wo'), one rule for each kind of operation; facts on types as classes. No program is in sight.
-/
import Derived.Test.YtabbkjciifnehaaFb
import Derived.KernelRfl
set_option linter.unusedVariables false
set_option linter.unusedSimpArgs false
namespace Go.PB

abbrev HProp := Hp → Prop

/-- h1 and h2 are parts of h that share nothing which may be written. -/
structure Split (h h1 h2 : Hp) : Prop where
  r1 : ∀ b o v, h1.ro b o = some v → h.ro b o = some v
  r2 : ∀ b o v, h2.ro b o = some v → h.ro b o = some v
  o1 : ∀ b o v, h1.own b o = some v → h.own b o = some v
  o2 : ∀ b o v, h2.own b o = some v → h.own b o = some v
  od : ∀ b o, h1.own b o = none ∨ h2.own b o = none
  b1 : ∀ b v, h1.obj b = some v → h.obj b = some v
  b2 : ∀ b v, h2.obj b = some v → h.obj b = some v
  bd : ∀ b, h1.obj b = none ∨ h2.obj b = none
  s1 : ∀ b y, h1.shp b = some y → h.shp b = some y
  s2 : ∀ b y, h2.shp b = some y → h.shp b = some y

def Star : List HProp → Hp → Prop
  | [], _ => True
  | c :: L, h => ∃ h1 h2, Split h h1 h2 ∧ c h1 ∧ Star L h2

theorem Split.swap {h h1 h2 : Hp} (s : Split h h1 h2) : Split h h2 h1 :=
  ⟨s.r2, s.r1, s.o2, s.o1, fun b o => (s.od b o).symm, s.b2, s.b1, fun b => (s.bd b).symm, s.s2, s.s1⟩

/-- what two parts have together -/
def Hp.join (h1 h2 : Hp) : Hp := ⟨fun b o => (h1.own b o).or (h2.own b o), fun b o => (h1.ro b o).or (h2.ro b o), fun b => (h1.obj b).or (h2.obj b), fun b => (h1.shp b).or (h2.shp b)⟩

theorem or_some {α : Type} {a b : Option α} {v : α} (h : a.or b = some v) : a = some v ∨ (a = none ∧ b = some v) := by
  cases a with
  | none => exact .inr ⟨rfl, by simpa using h⟩
  | some x => exact .inl (by simpa using h)

/-- (c with d) with L: c with (d with L) -/
theorem Split.assoc {h h1 h2 h3 h4 : Hp} (s : Split h h1 h2) (t : Split h2 h3 h4) : Split h h3 (h1.join h4) ∧ Split (h1.join h4) h1 h4 := by
  have none_o : ∀ b o v, h3.own b o = some v → h1.own b o = none := fun b o v e => (s.od b o).resolve_right (by rw [t.o1 _ _ _ e]; simp)
  have none_b : ∀ b v, h3.obj b = some v → h1.obj b = none := fun b v e => (s.bd b).resolve_right (by rw [t.b1 _ _ e]; simp)
  have none_o4 : ∀ b o v, h4.own b o = some v → h1.own b o = none := fun b o v e => (s.od b o).resolve_right (by rw [t.o2 _ _ _ e]; simp)
  have none_b4 : ∀ b v, h4.obj b = some v → h1.obj b = none := fun b v e => (s.bd b).resolve_right (by rw [t.b2 _ _ e]; simp)
  refine ⟨⟨fun _ _ _ e => s.r2 _ _ _ (t.r1 _ _ _ e), fun b o v e => ?_, fun _ _ _ e => s.o2 _ _ _ (t.o1 _ _ _ e), fun b o v e => ?_, fun b o => ?_, fun _ _ e => s.b2 _ _ (t.b1 _ _ e), fun b v e => ?_, fun b => ?_, fun _ _ e => s.s2 _ _ (t.s1 _ _ e), fun b y e => (or_some e).elim (fun e => s.s1 _ _ e) (fun e => s.s2 _ _ (t.s2 _ _ e.2))⟩, ⟨fun b o v e => ?_, fun b o v e => ?_, fun b o v e => ?_, fun b o v e => ?_, fun b o => ?_, fun b v e => ?_, fun b v e => ?_, fun b => ?_, fun b y e => by simp [Hp.join, e], fun b y e => by
    cases e1 : h1.shp b with
    | none => simp [Hp.join, e, e1]
    | some u => have a := s.s1 _ _ e1; have c := s.s2 _ _ (t.s2 _ _ e); rw [a] at c; injection c with c; subst c; simp [Hp.join, e1]⟩⟩
  · rcases or_some e with e | ⟨_, e⟩
    · exact s.r1 _ _ _ e
    · exact s.r2 _ _ _ (t.r2 _ _ _ e)
  · rcases or_some e with e | ⟨_, e⟩
    · exact s.o1 _ _ _ e
    · exact s.o2 _ _ _ (t.o2 _ _ _ e)
  · cases e : h3.own b o with
    | none => exact .inl rfl
    | some v => right; simp [Hp.join, none_o _ _ _ e, (t.od b o).resolve_left (by rw [e]; simp)]
  · rcases or_some e with e | ⟨_, e⟩
    · exact s.b1 _ _ e
    · exact s.b2 _ _ (t.b2 _ _ e)
  · cases e : h3.obj b with
    | none => exact .inl rfl
    | some v => right; simp [Hp.join, none_b _ _ e, (t.bd b).resolve_left (by rw [e]; simp)]
  · simp [Hp.join, e]
  · cases e1 : h1.ro b o with
    | none => simp [Hp.join, e, e1]
    | some u => have a := s.r1 _ _ _ e1; have c := s.r2 _ _ _ (t.r2 _ _ _ e); rw [a] at c; injection c with c; subst c; simp [Hp.join, e1]
  · simp [Hp.join, e]
  · simp [Hp.join, e, none_o4 _ _ _ e]
  · cases e : h4.own b o with
    | none => exact .inr rfl
    | some v => exact .inl (none_o4 _ _ _ e)
  · simp [Hp.join, e]
  · simp [Hp.join, e, none_b4 _ _ e]
  · cases e : h4.obj b with
    | none => exact .inr rfl
    | some v => exact .inl (none_b4 _ _ e)

theorem star_swap {c d : HProp} {L : List HProp} {h : Hp} (s : Star (c :: d :: L) h) : Star (d :: c :: L) h := by
  obtain ⟨h1, h2, s1, hc, h3, h4, s2, hd, hL⟩ := s
  obtain ⟨a, b⟩ := s1.assoc s2
  exact ⟨h3, h1.join h4, a, hd, h1, h4, b, hc, hL⟩

theorem star_drop {c : HProp} {L : List HProp} {h : Hp} (s : Star (c :: L) h) : Star L h := by
  obtain ⟨h1, h2, s1, _, hL⟩ := s
  cases L with
  | nil => trivial
  | cons d L =>
    obtain ⟨h3, h4, s2, hd, hL⟩ := hL
    exact ⟨h3, h4, ⟨fun _ _ _ e => s1.r2 _ _ _ (s2.r1 _ _ _ e), fun _ _ _ e => s1.r2 _ _ _ (s2.r2 _ _ _ e), fun _ _ _ e => s1.o2 _ _ _ (s2.o1 _ _ _ e), fun _ _ _ e => s1.o2 _ _ _ (s2.o2 _ _ _ e), s2.od, fun _ _ e => s1.b2 _ _ (s2.b1 _ _ e), fun _ _ e => s1.b2 _ _ (s2.b2 _ _ e), s2.bd, fun _ _ e => s1.s2 _ _ (s2.s1 _ _ e), fun _ _ e => s1.s2 _ _ (s2.s2 _ _ e)⟩, hd, hL⟩

theorem star_map {c d : HProp} {L M : List HProp} {h : Hp} (s : Star (c :: L) h) (hc : ∀ h, c h → d h) (hL : ∀ h, Star L h → Star M h) : Star (d :: M) h := by
  obtain ⟨h1, h2, s1, a, b⟩ := s
  exact ⟨h1, h2, s1, hc _ a, hL _ b⟩

/-- c stands in L; R: the others -/
inductive Has : List HProp → HProp → List HProp → Prop
  | here {c : HProp} {L : List HProp} : Has (c :: L) c L
  | there {c d : HProp} {L R : List HProp} : Has L c R → Has (d :: L) c (d :: R)

theorem Has.star {L R : List HProp} {c : HProp} (a : Has L c R) : ∀ {h : Hp}, Star L h → Star (c :: R) h := by
  induction a with
  | here => exact fun s => s
  | there _ ih => exact fun s => star_swap (star_map s (fun _ x => x) (fun _ => ih))

/-- all chunks of M are among those of L -/
inductive Ent : List HProp → List HProp → Prop
  | refl {L : List HProp} : Ent L L
  | nil {L : List HProp} : Ent L []
  | take {L R M : List HProp} {c : HProp} : Has L c R → Ent R M → Ent L (c :: M)
  | drop {L M : List HProp} {c : HProp} : Ent L M → Ent (c :: L) M

theorem Ent.star {L M : List HProp} (a : Ent L M) : ∀ {h : Hp}, Star L h → Star M h := by
  induction a with
  | refl => exact fun s => s
  | nil => exact fun _ => trivial
  | take b _ ih => exact fun s => star_map (b.star s) (fun _ x => x) (fun _ => ih)
  | drop _ ih => exact fun s => ih (star_drop s)

/-- c stands in L, and d in its place gives L' -/
inductive Foc : List HProp → HProp → HProp → List HProp → Prop
  | here {c d : HProp} {L : List HProp} : Foc (c :: L) c d (d :: L)
  | there {c d e : HProp} {L L' : List HProp} : Foc L c d L' → Foc (e :: L) c d (e :: L')

theorem Foc.out {L L' : List HProp} {c d : HProp} (a : Foc L c d L') : ∃ R, Has L c R ∧ (∀ {h : Hp}, Star (d :: R) h → Star L' h) := by
  induction a with
  | here => exact ⟨_, .here, fun s => s⟩
  | there _ ih =>
    obtain ⟨R, h1, h2⟩ := ih
    exact ⟨_, .there h1, fun s => star_map (star_swap s) (fun _ x => x) (fun _ => h2)⟩

/-- a row of cells from offset o of block b on -/
def arr (b o : Nat) (vs : List Value) : HProp := fun h => ∀ (i : Nat) v, vs[i]? = some v → h.own b (o + i) = some v
/-- a cell that nobody writes any more -/
def still (b o : Nat) (v : Value) : HProp := fun h => h.ro b o = some v
/-- all that stood in the world W below block n may be read -/
def base (W : World) : HProp := fun h => ∀ b o v, W.cell? ⟨b, o, none⟩ = some v → h.ro b o = some v
/-- an object -/
def ob (b : Nat) (o : Obj) : HProp := fun h => h.obj b = some o

/-- What may be read with L at hand. -/
def Rd (L : List HProp) (b o : Nat) (v : Value) : Prop := ∀ h, Star L h → h.can ⟨b, o, none⟩ v

theorem Rd.row {b o k n : Nat} {vs : List Value} {L : List HProp} {v : Value} (hk : vs[k]? = some v) (hn : n = o + k) : Rd (arr b o vs :: L) b n v := by
  rintro h ⟨h1, h2, s, ha, _⟩
  subst hn
  exact ⟨rfl, .inl (s.o1 _ _ _ (ha k v hk))⟩

theorem Rd.row0 {b n : Nat} {vs : List Value} {L : List HProp} {v : Value} (hk : vs[n]? = some v) : Rd (arr b 0 vs :: L) b n v := Rd.row hk (Nat.zero_add n).symm

theorem Rd.there {b o : Nat} {c : HProp} {L : List HProp} {v : Value} (r : Rd L b o v) : Rd (c :: L) b o v := fun h s => r h (star_drop s)

theorem Rd.base {b o : Nat} {W : World} {L : List HProp} {v : Value} (e : W.cell? ⟨b, o, none⟩ = some v) : Rd (base W :: L) b o v := by
  rintro h ⟨h1, h2, s, ha, _⟩
  exact ⟨rfl, .inr (s.r1 _ _ _ (ha _ _ _ e))⟩

theorem Rd.still {b o : Nat} {L : List HProp} {v : Value} : Rd (still b o v :: L) b o v := by
  rintro h ⟨h1, h2, s, ha, _⟩
  exact ⟨rfl, .inr (s.r1 _ _ _ ha)⟩

theorem Rd.of {b o : Nat} {L R : List HProp} {c : HProp} {v : Value} (a : Has L c R) (r : Rd [c] b o v) : Rd L b o v := by
  intro h s
  obtain ⟨h1, h2, s1, hc, _⟩ := a.star s
  exact r h ⟨h1, h2, s1, hc, trivial⟩

theorem star_store {b o k : Nat} {vs : List Value} {v : Value} {L : List HProp} {h : Hp} (hk : k < vs.length) (s : Star (arr b o vs :: L) h) :
    (h.own b (o + k)).isSome = true ∧ Star (arr b o (vs.set k v) :: L) (h.set b (o + k) v) := by
  obtain ⟨h1, h2, s1, ha, hL⟩ := s
  have h1k : h1.own b (o + k) = some vs[k] := ha k _ (by simp [hk])
  have hown := s1.o1 _ _ _ h1k
  have h2k : h2.own b (o + k) = none := (s1.od b (o + k)).resolve_left (by rw [h1k]; simp)
  refine ⟨by rw [hown]; rfl, h1.set b (o + k) v, h2, ⟨s1.r1, s1.r2, ?_, ?_, ?_, s1.b1, s1.b2, s1.bd, s1.s1, s1.s2⟩, ?_, hL⟩
  · intro b' o' v' e
    simp only [Hp.set] at e ⊢
    split at e
    · rename_i hh; simp [hh, e]
    · rename_i hh; simp only [hh, if_false]; exact s1.o1 _ _ _ e
  · intro b' o' v' e
    simp only [Hp.set]
    rw [if_neg (by rintro ⟨rfl, rfl⟩; rw [h2k] at e; cases e)]
    exact s1.o2 _ _ _ e
  · intro b' o'
    simp only [Hp.set]
    split
    · rename_i hh; obtain ⟨rfl, rfl⟩ := hh; exact .inr h2k
    · exact s1.od _ _
  · intro i u e
    simp only [Hp.set]
    by_cases hh : i = k
    · subst hh
      have e : some v = some u := by simpa [hk] using e
      simp only [and_self, if_true]; exact e
    · rw [List.getElem?_set_ne (by omega)] at e
      rw [if_neg (by rintro ⟨_, he⟩; exact hh (by omega))]; exact ha i u e

theorem star_new {b : Nat} {c : Array Value} {L : List HProp} {h : Hp} (f : h.fresh b) (s : Star L h) {t : TypeId} : Star (arr b 0 c.toList :: L) (h.newCells b c t) := by
  refine ⟨⟨fun b' o' => if b' = b then c[o']? else none, fun _ _ => none, fun _ => none, fun _ => none⟩, h, ⟨fun _ _ _ e => by simp at e, fun _ _ _ e => e, ?_, ?_, ?_, fun _ _ e => by simp at e, fun _ _ e => e, fun _ => .inl rfl, fun _ _ e => by simp at e, fun b' y e => by simp only [Hp.newCells]; rw [if_neg (by rintro rfl; rw [f.2.2.2] at e; cases e)]; exact e⟩, ?_, s⟩
  · intro b' o' v e
    simp only [Hp.newCells] at e ⊢
    split at e
    · rename_i hh; simp [hh, e]
    · cases e
  · intro b' o' v e
    simp only [Hp.newCells]
    rw [if_neg (by rintro rfl; rw [f.1] at e; cases e)]
    exact e
  · intro b' o'
    by_cases hb : b' = b
    · subst hb; exact .inr (f.1 o')
    · left; simp [hb]
  · intro i v e
    simp only [Nat.zero_add, if_true]
    simpa using e

theorem star_newObj {b : Nat} {o : Obj} {L : List HProp} {h : Hp} (f : h.fresh b) (s : Star L h) : Star (ob b o :: L) (h.setObj b o) := by
  refine ⟨⟨fun _ _ => none, fun _ _ => none, fun b' => if b' = b then some o else none, fun _ => none⟩, h, ⟨fun _ _ _ e => by simp at e, fun _ _ _ e => e, fun _ _ _ e => by simp at e, fun _ _ _ e => e, fun _ _ => .inl rfl, ?_, ?_, ?_, fun _ _ e => by simp at e, fun _ _ e => e⟩, by simp [ob], s⟩
  · intro b' v e
    simp only [Hp.setObj] at e ⊢
    split at e
    · rename_i hh; simp [hh, e]
    · cases e
  · intro b' v e
    simp only [Hp.setObj]
    rw [if_neg (by rintro rfl; rw [f.2.2.1] at e; cases e)]
    exact e
  · intro b'
    by_cases hb : b' = b
    · subst hb; exact .inr f.2.2.1
    · left; simp [hb]

theorem star_setObj {b : Nat} {o o' : Obj} {L : List HProp} {h : Hp} (s : Star (ob b o :: L) h) : h.obj b = some o ∧ Star (ob b o' :: L) (h.setObj b o') := by
  obtain ⟨h1, h2, s1, ha, hL⟩ := s
  have h1k : h1.obj b = some o := ha
  have h2k : h2.obj b = none := (s1.bd b).resolve_left (by rw [h1k]; simp)
  refine ⟨s1.b1 _ _ h1k, h1.setObj b o', h2, ⟨s1.r1, s1.r2, s1.o1, s1.o2, s1.od, ?_, ?_, ?_, s1.s1, s1.s2⟩, by simp [ob, Hp.setObj], hL⟩
  · intro b' v e
    simp only [Hp.setObj] at e ⊢
    split at e
    · rename_i hh; simp [hh, e]
    · rename_i hh; simp only [hh, if_false]; exact s1.b1 _ _ e
  · intro b' v e
    simp only [Hp.setObj]
    rw [if_neg (by rintro rfl; rw [h2k] at e; cases e)]
    exact s1.b2 _ _ e
  · intro b'
    simp only [Hp.setObj]
    split
    · rename_i hh; subst hh; exact .inr h2k
    · exact s1.bd _

/-- a chunk that says there is one -/
theorem star_ex {α : Type} {c : α → HProp} {L : List HProp} {h : Hp} (s : Star ((fun h => ∃ a, c a h) :: L) h) : ∃ a, Star (c a :: L) h := by
  obtain ⟨h1, h2, s1, ⟨a, ha⟩, hL⟩ := s
  exact ⟨a, h1, h2, s1, ha, hL⟩

/-- a fact beside a chunk -/
theorem star_and {p : Prop} {c : HProp} {L : List HProp} {h : Hp} (s : Star ((fun h => p ∧ c h) :: L) h) : p ∧ Star (c :: L) h := by
  obtain ⟨h1, h2, s1, ⟨hp, ha⟩, hL⟩ := s
  exact ⟨hp, h1, h2, s1, ha, hL⟩

/-- chunks in one chunk -/
def all (M : List HProp) : HProp := Star M

theorem Split.sub {h h1 h2 g : Hp} (s : Split h h1 h2) (e1 : ∀ b o v, h.own b o = some v → g.own b o = some v) (e2 : ∀ b o v, h.ro b o = some v → g.ro b o = some v) (e3 : ∀ b v, h.obj b = some v → g.obj b = some v) (e4 : ∀ b y, h.shp b = some y → g.shp b = some y) : Split g h1 h2 :=
  ⟨fun _ _ _ e => e2 _ _ _ (s.r1 _ _ _ e), fun _ _ _ e => e2 _ _ _ (s.r2 _ _ _ e), fun _ _ _ e => e1 _ _ _ (s.o1 _ _ _ e), fun _ _ _ e => e1 _ _ _ (s.o2 _ _ _ e), s.od, fun _ _ e => e3 _ _ (s.b1 _ _ e), fun _ _ e => e3 _ _ (s.b2 _ _ e), s.bd, fun _ _ e => e4 _ _ (s.s1 _ _ e), fun _ _ e => e4 _ _ (s.s2 _ _ e)⟩

theorem star_open {M L : List HProp} : ∀ {h : Hp}, Star (all M :: L) h → Star (M ++ L) h := by
  induction M with
  | nil => exact fun s => star_drop s
  | cons c M ih =>
    rintro h ⟨h1, h2, s1, ⟨h3, h4, s2, hc, hM⟩, hL⟩
    -- h = (h3 + h4) + h2: h3 + (h4 + h2)
    obtain ⟨a, b⟩ := s1.swap.assoc s2
    exact ⟨h3, h2.join h4, a, hc, ih ⟨h4, h2, b.swap, hM, hL⟩⟩

theorem star_shut {M L : List HProp} : ∀ {h : Hp}, Star (M ++ L) h → Star (all M :: L) h := by
  induction M with
  | nil => exact fun {h} s => ⟨⟨fun _ _ => none, fun _ _ => none, fun _ => none, fun _ => none⟩, h, ⟨fun _ _ _ e => by simp at e, fun _ _ _ e => e, fun _ _ _ e => by simp at e, fun _ _ _ e => e, fun _ _ => .inl rfl, fun _ _ e => by simp at e, fun _ _ e => e, fun _ => .inl rfl, fun _ _ e => by simp at e, fun _ _ e => e⟩, trivial, s⟩
  | cons c M ih =>
    rintro h ⟨h1, h2, s1, hc, hM⟩
    obtain ⟨h3, h4, s2, hM, hL⟩ := ih hM
    obtain ⟨a, b⟩ := s1.assoc s2
    exact ⟨h1.join h3, h4, (s1.assoc s2.swap).1.swap, ⟨h1, h3, (s1.assoc s2.swap).2, hc, hM⟩, hL⟩

end Go.PB

set_option linter.unusedVariables false
set_option linter.unusedSimpArgs false
namespace Go.PB

/- ---- slots ---- -/
abbrev Env := List (Nat × Value)
def lk : Env → Nat → Option Value
  | [], _ => none
  | (i, v) :: r, t => if i = t then some v else lk r t
def ev (e : Env) : Operand → Option Value
  | .tmp i => lk e i
  | .const v => some v
  | .global g => some (.pointer (some ⟨g, 0, none⟩))
  | .func f => some (.func (.func f) #[] #[])
def Agree (e : Env) (t : Array Value) : Prop := ∀ i v, lk e i = some v → t[i]? = some v
def setE (d : Option Nat) (v : Value) (e : Env) : Env := match d with | some d => (d, v) :: e | none => e

theorem Agree.ev {e : Env} {t : Array Value} (a : Agree e t) {o : Operand} {v : Value} (h : ev e o = some v) : evT t o = v := by
  cases o with
  | tmp i => simp [evT, a i v h]
  | const c => simpa [PB.ev, PB.evT] using h
  | global g => simpa [PB.ev, PB.evT] using h
  | func f => simpa [PB.ev, PB.evT] using h

theorem Agree.setE {e : Env} {t : Array Value} (a : Agree e t) {o : Oper} {d : Option Nat} (ho : o.dst = d) (hd : ∀ i, d = some i → i < t.size) (v : Value) : Agree (PB.setE d v e) (setDst o t v) := by
  cases d with
  | none => simp only [setDst, ho]; exact a
  | some d =>
    simp only [setDst, ho, PB.setE]
    intro i u h
    have hs := hd d rfl
    unfold lk at h
    split at h
    · rename_i e1; subst e1; injection h with h; subst h; simp [hs]
    · rename_i e1; rw [Array.getElem?_setIfInBounds_ne e1]; exact a i u h

/-- all that the one list says the other says, too -/
def Sub : Env → Env → Prop
  | [], _ => True
  | (i, v) :: r, e => lk e i = some v ∧ Sub r e

theorem Sub.lk {e' e : Env} (s : Sub e' e) : ∀ i v, lk e' i = some v → lk e i = some v := by
  induction e' with
  | nil => intro i v h; cases h
  | cons p r ih =>
    obtain ⟨j, u⟩ := p
    intro i v h
    unfold PB.lk at h
    split at h
    · rename_i e1; subst e1; injection h with h; subst h; exact s.1
    · exact ih s.2 i v h

/- ---- pieces of code over slots and chunks ---- -/
section
variable {P : Program} {B : Hand} {kd : CallKind} {n : Nat}

def At (n : Nat) (e : Env) (L : List HProp) (φ : Array Value → Hp → Prop) : Prop := ∀ t h, t.size = n → Agree e t → Star L h → φ t h

variable (P B kd n) in
/-- THE TRANSFORMER OF CODE over slots and chunks. -/
def We (c : Code) (K : Post B) (e : Env) (z : Z) (L : List HProp) (x : B.X) : Prop := At n e L fun t h => Wc P B kd c K t z h x

/-- An operation of a region, its guard told by a slot. -/
structure OpG where
  dst : Option Nat
  op : Op
  ty : TypeId
  g : Option (Nat × Bool)

def gOp (n : Nat) (ops : Array Oper) (i : Nat) : Option OpG :=
  (ops[i]?).map fun o => ⟨o.dst, o.op, o.type, o.guard.map fun (j, w) => (((ops[j]?).bind (·.dst)).getD n, w)⟩

def dOk (n : Nat) : List OpG → Bool
  | [] => true
  | o :: l => (match o.dst with | some d => decide (d < n) | none => true) && dOk n l

variable (P B kd n) in
/-- THE TRANSFORMER OF OPERATIONS over slots and chunks. -/
def Wo (l : List OpG) (K : Post B) (e : Env) (z : Z) (L : List HProp) (x : B.X) : Prop :=
  ∀ ops idx, idx.map (gOp n ops) = l.map some → dOk n l = true → At n e L fun t h => Wr P B kd ops idx K t z h x

theorem At.mono {e : Env} {L : List HProp} {φ ψ : Array Value → Hp → Prop} (a : At n e L φ) (h : ∀ t h, φ t h → ψ t h) : At n e L ψ := fun t hh a1 a2 a3 => h _ _ (a t hh a1 a2 a3)

theorem at_sub {e : Env} {L : List HProp} {φ : Array Value → Hp → Prop} (e' : Env) (s : Sub e' e) (a : At n e' L φ) : At n e L φ := fun t h a1 a2 a3 => a t h a1 (fun i v hi => a2 i v (s.lk i v hi)) a3
theorem at_ent {e : Env} {L : List HProp} {φ : Array Value → Hp → Prop} (L' : List HProp) (s : Ent L L') (a : At n e L' φ) : At n e L φ := fun t h a1 a2 a3 => a t h a1 a2 (s.star a3)
theorem at_star {e : Env} {L : List HProp} {φ : Array Value → Hp → Prop} (L' : List HProp) (s : ∀ h, Star L h → Star L' h) (a : At n e L' φ) : At n e L φ := fun t h a1 a2 a3 => a t h a1 a2 (s h a3)
/-- open a chunk that says there is one; take a fact out -/
theorem at_ex {α : Type} {c : α → HProp} {L R : List HProp} {e : Env} {φ : Array Value → Hp → Prop} (hh : Has L (fun h => ∃ a, c a h) R) (a : ∀ y, At n e (c y :: R) φ) : At n e L φ :=
  fun t h a1 a2 a3 => by obtain ⟨y, hy⟩ := star_ex (hh.star a3); exact a y t h a1 a2 hy
theorem at_and {p : Prop} {c : HProp} {L R : List HProp} {e : Env} {φ : Array Value → Hp → Prop} (hh : Has L (fun h => p ∧ c h) R) (a : p → At n e (c :: R) φ) : At n e L φ :=
  fun t h a1 a2 a3 => by obtain ⟨hp, hy⟩ := star_and (hh.star a3); exact a hp t h a1 a2 hy
theorem at_open {M L R : List HProp} {e : Env} {φ : Array Value → Hp → Prop} (hh : Has L (all M) R) (a : At n e (M ++ R) φ) : At n e L φ :=
  fun t h a1 a2 a3 => a t h a1 a2 (star_open (hh.star a3))
theorem at_pure {p : Prop} {L : List HProp} {e : Env} {φ : Array Value → Hp → Prop} (hp : ∀ h, Star L h → p) (a : p → At n e L φ) : At n e L φ := fun t h a1 a2 a3 => a (hp h a3) t h a1 a2 a3

variable {K : Post B} {e : Env} {z : Z} {L : List HProp} {x : B.X}

theorem we_sub {c : Code} (e' : Env) (s : Sub e' e) (a : We P B kd n c K e' z L x) : We P B kd n c K e z L x := at_sub e' s a
theorem we_ent {c : Code} (L' : List HProp) (s : Ent L L') (a : We P B kd n c K e z L' x) : We P B kd n c K e z L x := at_ent L' s a
theorem wo_sub {l : List OpG} (e' : Env) (s : Sub e' e) (a : Wo P B kd n l K e' z L x) : Wo P B kd n l K e z L x := fun ops idx h1 h2 => at_sub e' s (a ops idx h1 h2)
theorem wo_ent {l : List OpG} (L' : List HProp) (s : Ent L L') (a : Wo P B kd n l K e z L' x) : Wo P B kd n l K e z L x := fun ops idx h1 h2 => at_ent L' s (a ops idx h1 h2)
theorem wo_star {l : List OpG} (L' : List HProp) (s : ∀ h, Star L h → Star L' h) (a : Wo P B kd n l K e z L' x) : Wo P B kd n l K e z L x := fun ops idx h1 h2 => at_star L' s (a ops idx h1 h2)
theorem wo_ex {α : Type} {c : α → HProp} {R : List HProp} {l : List OpG} (hh : Has L (fun h => ∃ a, c a h) R) (a : ∀ y, Wo P B kd n l K e z (c y :: R) x) : Wo P B kd n l K e z L x :=
  fun ops idx h1 h2 => at_ex hh fun y => a y ops idx h1 h2
theorem wo_and {p : Prop} {c : HProp} {R : List HProp} {l : List OpG} (hh : Has L (fun h => p ∧ c h) R) (a : p → Wo P B kd n l K e z (c :: R) x) : Wo P B kd n l K e z L x :=
  fun ops idx h1 h2 => at_and hh fun y => a y ops idx h1 h2

/- ---- control ---- -/
theorem we_skip (w : At n e L fun t h => K .normal t z h x) : We P B kd n .skip K e z L x := w.mono fun _ _ q => wc_skip q
theorem we_label {l : Nat} (w : At n e L fun t h => K .normal t z h x) : We P B kd n (.label l) K e z L x := w.mono fun _ _ q => wc_label q
theorem we_exit {id : Nat} (w : At n e L fun t h => K (.exit id) t z h x) : We P B kd n (.exit id) K e z L x := w.mono fun _ _ q => wc_exit q
theorem we_goto {l : Nat} (w : At n e L fun t h => K (.goto l) t z h x) : We P B kd n (.goto l) K e z L x := w.mono fun _ _ q => wc_goto q
theorem we_ret (w : At n e L fun t h => K .ret t z h x) : We P B kd n .ret K e z L x := w.mono fun _ _ q => wc_ret q
theorem we_seq {a c : Code} (w : We P B kd n a (thn P B kd c K) e z L x) : We P B kd n (.seq a c) K e z L x := At.mono w fun _ _ q => wc_seq q
theorem we_cond {c : Operand} {a a' : Code} {q : Bool} (hc : ev e c = some (.bool q)) (w1 : q = true → We P B kd n a K e z L x) (w2 : q = false → We P B kd n a' K e z L x) : We P B kd n (.cond c a a') K e z L x :=
  fun t h a1 a2 a3 => wc_cond (q := q) (a2.ev hc) (by cases q; exact w2 rfl t h a1 a2 a3; exact w1 rfl t h a1 a2 a3)
theorem we_condT {c : Operand} {a a' : Code} {q : Bool} (hc : ev e c = some (.bool q)) (hq : q = true) (w1 : We P B kd n a K e z L x) : We P B kd n (.cond c a a') K e z L x :=
  we_cond hc (fun _ => w1) (fun h => by rw [hq] at h; cases h)
theorem we_condF {c : Operand} {a a' : Code} {q : Bool} (hc : ev e c = some (.bool q)) (hq : q = false) (w1 : We P B kd n a' K e z L x) : We P B kd n (.cond c a a') K e z L x :=
  we_cond hc (fun h => by rw [hq] at h; cases h) (fun _ => w1)
theorem we_block {id : Nat} {c : Code} (w : We P B kd n c (inBlk id K) e z L x) : We P B kd n (.block id c) K e z L x := At.mono w fun _ _ q => wc_block q
theorem we_scope {c : Code} (w : We P B kd n c (inScp (fun _ _ _ _ _ => False) K) e z L x) : We P B kd n (.scope c) K e z L x := At.mono w fun _ _ q => wc_scope q

/-- what a loop's head says: slots, chunks, the handler's state, told by an index -/
structure Inv.{v} (ι : Type) (X : Type v) where
  e : ι → Env
  L : ι → List HProp
  x : ι → X
  ok : ι → Prop

theorem we_loop {c : Code} {ι : Type} (I : Inv ι B.X) (r : ι → ι → Prop) (wf : WellFounded r) (i : ι) (hok : I.ok i) (he : Sub (I.e i) e) (hL : Ent L (I.L i)) (hx : I.x i = x)
    (round : ∀ i, I.ok i → We P B kd n c (inLp (fun t z' h x => ∃ i', r i' i ∧ I.ok i' ∧ z' = z ∧ t.size = n ∧ Agree (I.e i') t ∧ Star (I.L i') h ∧ I.x i' = x) K) (I.e i) z (I.L i) (I.x i)) : We P B kd n (.loop c) K e z L x := by
  intro t h a1 a2 a3
  refine wc_loop (fun i t z' h x => I.ok i ∧ z' = z ∧ t.size = n ∧ Agree (I.e i) t ∧ Star (I.L i) h ∧ I.x i = x) r wf i ⟨hok, rfl, a1, fun j v hj => a2 j v (he.lk j v hj), hL.star a3, hx⟩ ?_
  rintro i t z' h x ⟨h1, rfl, h3, h4, h5, rfl⟩
  exact (round i h1 t h h3 h4 h5).mono fun e' t' z' h' x' q => q

/-- the measure is a number -/
theorem we_loopN {c : Code} {ι : Type} (I : Inv ι B.X) (μ : ι → Nat) (i : ι) (hok : I.ok i) (he : Sub (I.e i) e) (hL : Ent L (I.L i)) (hx : I.x i = x)
    (round : ∀ i, I.ok i → We P B kd n c (inLp (fun t z' h x => ∃ i', μ i' < μ i ∧ I.ok i' ∧ z' = z ∧ t.size = n ∧ Agree (I.e i') t ∧ Star (I.L i') h ∧ I.x i' = x) K) (I.e i) z (I.L i) (I.x i)) : We P B kd n (.loop c) K e z L x :=
  we_loop I (fun a b => μ a < μ b) (measure μ).wf i hok he hL hx round

variable (P B kd n) in
/-- ahead of a round, over slots and chunks -/
def Wle (c : Code) (K : Post B) (e : Env) (z : Z) (L : List HProp) (x : B.X) : Prop := At n e L fun t h => Wl P B kd c K t z h x

/-- a loop, round by round: what is asked is the first round, with 'ahead of a round' at its end -/
theorem we_loop1 {c : Code} (w : We P B kd n c (inLp (Wl P B kd c K) K) e z L x) : We P B kd n (.loop c) K e z L x := At.mono w fun _ _ q => wc_loop1 q
theorem wle_step {c : Code} (w : We P B kd n c (inLp (Wl P B kd c K) K) e z L x) : Wle P B kd n c K e z L x := At.mono w fun _ _ q => wl_step q

/-- the end of a round -/
theorem at_round {ι : Type} {I : Inv ι B.X} {R : ι → Prop} (i' : ι) (hr : R i') (hok : I.ok i') (he : Sub (I.e i') e) (hL : Ent L (I.L i')) (hx : I.x i' = x) :
    At n e L fun t h => ∃ i', R i' ∧ I.ok i' ∧ z = z ∧ t.size = n ∧ Agree (I.e i') t ∧ Star (I.L i') h ∧ I.x i' = x :=
  fun t h a1 a2 a3 => ⟨i', hr, hok, rfl, a1, fun j v hj => a2 j v (he.lk j v hj), hL.star a3, hx⟩

theorem wo_nil (w : At n e L fun t h => K .normal t z h x) : Wo P B kd n [] K e z L x := by
  intro ops idx h1 _ t h a1 a2 a3
  have : idx = [] := by simpa using h1
  subst this
  exact wr_nil (w t h a1 a2 a3)

def opsOf (n : Nat) (ops : Array Oper) : List OpG := ops.toList.map fun o => ⟨o.dst, o.op, o.type, o.guard.map fun (j, w) => (((ops[j]?).bind (·.dst)).getD n, w)⟩

theorem range_gOp (n : Nat) (ops : Array Oper) : (List.range ops.size).map (gOp n ops) = (opsOf n ops).map some := by
  apply List.ext_getElem?
  intro i
  simp only [opsOf, List.getElem?_map, gOp, List.map_map]
  by_cases h : i < ops.size
  · simp [h, gOp]
  · have : ops.toList[i]? = none := by simp; omega
    simp [h, this]

/-- A REGION IN THE TEXT's ORDER. -/
theorem we_region {id : Nat} {ops : Array Oper} (l : List OpG) (hl : opsOf n ops = l) (hd : dOk n l = true) (w : Wo P B kd n l K e z L x) : We P B kd n (.region id ops false) K e z L x :=
  fun t h a1 a2 a3 => wc_region (w ops _ (by rw [range_gOp, hl]) hd t h a1 a2 a3)

theorem dOk_tail {o : OpG} {l : List OpG} (h : dOk n (o :: l) = true) : dOk n l = true := by simp [dOk] at h; exact h.2
theorem dOk_head {o : OpG} {l : List OpG} (h : dOk n (o :: l) = true) : ∀ i, o.dst = some i → i < n := by
  intro i hi; simp [dOk, hi] at h; exact h.1

theorem map_head {ops : Array Oper} {idx : List Nat} {o : OpG} {l : List OpG} (h : idx.map (gOp n ops) = (o :: l).map some) :
    ∃ i idx' oo, idx = i :: idx' ∧ idx'.map (gOp n ops) = l.map some ∧ ops[i]? = some oo ∧ oo.dst = o.dst ∧ oo.op = o.op ∧ oo.type = o.ty ∧ o.g = oo.guard.map fun (j, w) => (((ops[j]?).bind (·.dst)).getD n, w) := by
  cases idx with
  | nil => simp at h
  | cons i idx' =>
    simp only [List.map_cons, List.cons.injEq] at h
    obtain ⟨h1, h2⟩ := h
    unfold gOp at h1
    cases hi : ops[i]? with
    | none => rw [hi] at h1; simp at h1
    | some oo =>
      rw [hi] at h1
      simp only [Option.map_some, Option.some.injEq] at h1
      subst h1
      exact ⟨i, idx', oo, rfl, h2, hi, rfl, rfl, rfl, rfl⟩

/-- the guard is met -/
def gYes (e : Env) : Option (Nat × Bool) → Prop
  | none => True
  | some (g, w) => lk e g = some (.bool w)

theorem wanted_yes {ops : Array Oper} {t : Array Value} {oo : Oper} (ht : t.size = n) (a : Agree e t) {g : Option (Nat × Bool)} (hg : g = oo.guard.map fun (j, w) => (((ops[j]?).bind (·.dst)).getD n, w)) (hy : gYes e g) : Region.wanted oo (yielded ops t) = true := by
  unfold Region.wanted
  cases h : oo.guard with
  | none => rfl
  | some q =>
    obtain ⟨j, w⟩ := q
    rw [h] at hg
    subst hg
    have hv := a _ _ hy
    simp only [yielded]
    cases hj : (ops[j]?).bind (·.dst) with
    | none => rw [hj] at hv; simp [ht] at hv
    | some d => rw [hj] at hv; simp only [Option.getD_some] at hv; simp [hv]

theorem wanted_no {ops : Array Oper} {t : Array Value} {oo : Oper} (ht : t.size = n) (a : Agree e t) {g : Nat} {w : Bool} (hg : some (g, w) = oo.guard.map fun (j, w) => (((ops[j]?).bind (·.dst)).getD n, w)) (hy : lk e g = some (.bool (!w))) : Region.wanted oo (yielded ops t) = false := by
  unfold Region.wanted
  cases h : oo.guard with
  | none => rw [h] at hg; cases hg
  | some q =>
    obtain ⟨j, w'⟩ := q
    rw [h] at hg
    simp only [Option.map_some, Option.some.injEq, Prod.mk.injEq] at hg
    obtain ⟨rfl, rfl⟩ := hg
    have hv := a _ _ hy
    simp only [yielded]
    cases hj : (ops[j]?).bind (·.dst) with
    | none => rw [hj] at hv; simp [ht] at hv
    | some d => rw [hj] at hv; simp only [Option.getD_some] at hv; cases w <;> simp [hv]

theorem setDst_size (oo : Oper) (t : Array Value) (v : Value) : (setDst oo t v).size = t.size := by
  unfold setDst; split <;> simp

/-- AN OPERATION WHOSE GUARD IS NOT MET. -/
theorem wo_no {l : List OpG} {d : Option Nat} {op : Op} {ty : TypeId} {g : Nat} {w : Bool} (hg : lk e g = some (.bool (!w))) (k : Wo P B kd n l K (setE d undef e) z L x) : Wo P B kd n (⟨d, op, ty, some (g, w)⟩ :: l) K e z L x := by
  intro ops idx h1 h2 t h a1 a2 a3
  obtain ⟨i, idx', oo, rfl, h3, h4, h5, h6, h7, h8⟩ := map_head h1
  exact wr_skip h4 (wanted_no a1 a2 h8 hg) (k ops idx' h3 (dOk_tail h2) _ h ((setDst_size ..).trans a1) (a2.setE h5 (by rw [a1]; exact dOk_head h2) _) a3)

/-- the operation as the model's dispatcher reads it -/
def opOf (op : Op) (ty : TypeId) : Oper := ⟨none, op, ty, "", #[], none⟩
theorem execOp_of (ρ : Operand → Value) {oo : Oper} {op : Op} {ty : TypeId} (h1 : oo.op = op) (h2 : oo.type = ty) : execOp ρ oo = execOp ρ (opOf op ty) := by
  unfold execOp opOf; rw [h1, h2]

/-- WHAT AN OPERATION GIVES: a value and chunks. -/
def Mo (P : Program) (e : Env) (op : Op) (ty : TypeId) (L : List HProp) (R : Value → List HProp → Prop) : Prop :=
  ∀ (M : Mark → Prop), M .noRoom → (∀ f, M (.extern f)) → ∀ t h (Q : Next → Hp → Prop) X, Agree e t → Star L h → (∀ v L' h' nx, (nx = .value v ∨ (nx = .skip ∧ v = undef)) → R v L' → Star L' h' → Q nx h') → wpS P M (execOp (evT t) (opOf op ty)) h Q X

/-- marks that a handler lets by everywhere -/
class Lets (B : Hand) : Prop where
  noRoom : B.mark .noRoom
  ext : ∀ f, B.mark (.extern f)

theorem wo_mo [Lets B] {l : List OpG} {d : Option Nat} {op : Op} {ty : TypeId} {g : Option (Nat × Bool)} {R : Value → List HProp → Prop} (m : Mo P e op ty L R) (hg : gYes e g) (k : ∀ v L', R v L' → Wo P B kd n l K (setE d v e) z L' x) : Wo P B kd n (⟨d, op, ty, g⟩ :: l) K e z L x := by
  intro ops idx h1 h2 t h a1 a2 a3
  obtain ⟨i, idx', oo, rfl, h3, h4, h5, h6, h7, h8⟩ := map_head h1
  refine wr_op h4 (wanted_yes a1 a2 h8 hg) ?_
  rw [execOp_of _ h6 h7]
  refine m _ Lets.noRoom Lets.ext t h _ _ a2 a3 fun v L' h' nx hnx hr hs => ?_
  have hk := k v L' hr ops idx' h3 (dOk_tail h2) _ h' ((setDst_size oo t v).trans a1) (a2.setE h5 (by rw [a1]; exact dOk_head h2) v) hs
  rcases hnx with rfl | ⟨rfl, rfl⟩
  · exact hk
  · exact hk

/-- one value, the chunks as they are -/
theorem wo_po [Lets B] {l : List OpG} {d : Option Nat} {op : Op} {ty : TypeId} {g : Option (Nat × Bool)} {v : Value} (m : Mo P e op ty L fun v' L' => v' = v ∧ L' = L) (hg : gYes e g) (k : Wo P B kd n l K (setE d v e) z L x) : Wo P B kd n (⟨d, op, ty, g⟩ :: l) K e z L x :=
  wo_mo m hg (by rintro v' L' ⟨rfl, rfl⟩; exact k)

/-- one value, other chunks -/
theorem wo_pm [Lets B] {l : List OpG} {d : Option Nat} {op : Op} {ty : TypeId} {g : Option (Nat × Bool)} {v : Value} {L1 : List HProp} (m : Mo P e op ty L fun v' L' => v' = v ∧ L' = L1) (hg : gYes e g) (k : Wo P B kd n l K (setE d v e) z L1 x) : Wo P B kd n (⟨d, op, ty, g⟩ :: l) K e z L x :=
  wo_mo m hg (by rintro v' L' ⟨rfl, rfl⟩; exact k)

/- ---- calls ---- -/
/-- Whoever is cut off here is let go on upwards. -/
class Pass (K : Post B) (z : Z) : Prop where
  ok : ∀ ch t h x, B.cut ch h x → K (.panic ch) t z h x
instance {K : Post B} {z : Z} {c : Code} [p : Pass K z] : Pass (thn P B kd c K) z := ⟨fun ch t h x q => p.ok ch t h x q⟩
instance {K : Post B} {z : Z} {id : Nat} [p : Pass K z] : Pass (inBlk id K) z := ⟨fun ch t h x q => p.ok ch t h x q⟩
instance {K : Post B} {z : Z} {R : Nat → Array Value → Z → Hp → B.X → Prop} [p : Pass K z] : Pass (inScp R K) z := ⟨fun ch t h x q => p.ok ch t h x q⟩
instance {K : Post B} {z : Z} {I : Array Value → Z → Hp → B.X → Prop} [p : Pass K z] : Pass (inLp I K) z := ⟨fun ch t h x q => p.ok ch t h x q⟩
/-- nobody is cut off -/
class NoCut (B : Hand) : Prop where
  no : ∀ ch h x, ¬ B.cut ch h x
theorem Pass.of_no {K : Post B} {z : Z} [c : NoCut B] : Pass K z := ⟨fun ch t h x q => (c.no ch h x q).elim⟩

variable (P B) in
/-- A FUNCTION's CONTRACT over chunks. -/
def Tr (f : FuncId) (args : List Value) (L : List HProp) (x : B.X) (R : Value → List HProp → B.X → Prop) : Prop :=
  ∀ h um (Q : End → FrameMode → Hp → B.X → Prop), Star L h → (∀ v L' x' h', R v L' x' → Star L' h' → Q (.ret v) um h' x') → (∀ ch h' x', B.cut ch h' x' → Q (.pan ch) um h' x') → Wf P B f .normal args.toArray um h x Q

inductive EvL (e : Env) : List Operand → List Value → Prop
  | nil : EvL e [] []
  | cons {o : Operand} {v : Value} {os : List Operand} {vs : List Value} : ev e o = some v → EvL e os vs → EvL e (o :: os) (v :: vs)

theorem EvL.evT {t : Array Value} (a : Agree e t) {os : List Operand} {vs : List Value} (h : EvL e os vs) : os.map (evT t) = vs := by
  induction h with
  | nil => rfl
  | cons h _ ih => simp [a.ev h, ih]

class Ent' (P : Program) (f : FuncId) : Prop where
  ok : Enterable P f

/-- a value that is called, with what it brings along -/
def callee? : Value → Option (FuncId × List Value × List Value)
  | .func (.func f) first cap => some (f, first.toList, cap.toList)
  | _ => none

theorem Tr.ent {f : FuncId} {args : List Value} {L L' : List HProp} {R : Value → List HProp → B.X → Prop} (s : Ent L L') (a : Tr P B f args L' x R) : Tr P B f args L x R := fun h um Q hs q pn => a h um Q (s.star hs) q pn
theorem Tr.mono {f : FuncId} {args : List Value} {L : List HProp} {R R' : Value → List HProp → B.X → Prop} (a : Tr P B f args L x R) (hr : ∀ v L' x', R v L' x' → R' v L' x') : Tr P B f args L x R' := fun h um Q hs q pn => a h um Q hs (fun v L' x' h' r s => q v L' x' h' (hr _ _ _ r) s) pn

theorem wo_callv {l : List OpG} {d : Option Nat} {fo : Operand} {fv : Value} {f : FuncId} {first cap : List Value} {args : List Operand} {vs : List Value} {tys : Array TypeId} {ty : TypeId} {g : Option (Nat × Bool)} {R : Value → List HProp → B.X → Prop}
    (hf : ev e fo = some fv) (hc : callee? fv = some (f, first, cap)) (ha : EvL e args vs) (hg : gYes e g) [en : Ent' P f] [pk : Pass K z] (m : Tr P B f (first ++ vs ++ cap) L x R) (k : ∀ v L' x', R v L' x' → Wo P B kd n l K (setE d v e) z L' x') :
    Wo P B kd n (⟨d, .call ⟨.value fo, args.toArray, tys⟩, ty, g⟩ :: l) K e z L x := by
  intro ops idx h1 h2 t h a1 a2 a3
  obtain ⟨i, idx', oo, rfl, h3, h4, h5, h6, h7, h8⟩ := map_head h1
  refine wr_op h4 (wanted_yes a1 a2 h8 hg) ?_
  rw [execOp_of _ h6 h7]
  have hfv : evT t fo = fv := a2.ev hf
  have hargs := ha.evT a2
  have hex : execOp (evT t) (opOf (.call ⟨.value fo, args.toArray, tys⟩) ty) = callFunc f (first ++ vs ++ cap).toArray := by
    show (do let d ← resolve (evT t) ⟨.value fo, args.toArray, tys⟩ ty; invoke d.target d.args : Sem Next) = _
    cases fv with
    | func fn fi ca =>
      cases fn with
      | func g =>
        simp only [callee?, Option.some.injEq, Prod.mk.injEq] at hc
        obtain ⟨rfl, rfl, rfl⟩ := hc
        simp only [resolve, hfv, Deferred.ofValue, List.map_toArray, hargs]
        show callFunc g ((fi ++ vs.toArray) ++ ca) = _
        congr 1
        apply Array.ext'
        simp
      | _ => cases hc
    | _ => cases hc
  rw [hex]
  refine wpS_callFunc en.ok ?_
  refine m h .run _ a3 (fun v L' x' h' r s => ⟨rfl, ?_⟩) (fun ch h' x' hc => ⟨rfl, pk.ok ch t h' x' hc⟩)
  exact k v L' x' r ops idx' h3 (dOk_tail h2) _ h' ((setDst_size oo t v).trans a1) (a2.setE h5 (by rw [a1]; exact dOk_head h2) v) s

/-- A CALL OF A FUNCTION OF THE PROGRAM. -/
theorem wo_call {l : List OpG} {d : Option Nat} {f : FuncId} {args : List Operand} {vs : List Value} {tys : Array TypeId} {ty : TypeId} {g : Option (Nat × Bool)} {R : Value → List HProp → B.X → Prop}
    (ha : EvL e args vs) (hg : gYes e g) [en : Ent' P f] [pk : Pass K z] (m : Tr P B f vs L x R) (k : ∀ v L' x', R v L' x' → Wo P B kd n l K (setE d v e) z L' x') :
    Wo P B kd n (⟨d, .call ⟨.value (.func f), args.toArray, tys⟩, ty, g⟩ :: l) K e z L x :=
  wo_callv (first := []) (cap := []) (R := R) rfl rfl ha hg (by simpa using m) k

/- ---- a function's contract out of its body ---- -/
def argE : Nat → List Value → Env
  | _, [] => []
  | k, v :: vs => (k, v) :: argE (k + 1) vs

theorem lk_argE {i : Nat} {v : Value} : ∀ (l : List Value) (k : Nat), lk (argE k l) i = some v → ∃ j, i = k + j ∧ l[j]? = some v := by
  intro l
  induction l with
  | nil => intro k h; simp [argE, lk] at h
  | cons a l ih =>
    intro k h
    simp only [argE, lk] at h
    split at h
    · rename_i e1; injection h with h; subst h; exact ⟨0, by omega, rfl⟩
    · obtain ⟨j, h1, h2⟩ := ih (k + 1) h; exact ⟨j + 1, by omega, by simpa using h2⟩

theorem wf_of_argE {f : FuncId} {fn : Func} {c : Code} {kd : CallKind} {args : List Value} {nt : Nat} {L : List HProp} {x : B.X} {h : Hp} {um : FrameMode} {Q : End → FrameMode → Hp → B.X → Prop} (hf : P.funcs[f]? = some fn) (hb : fn.body = some c) (hnt : fn.ntmps = nt) (hn : args.length ≤ nt)
    (hs : Star L h) (w : We P B kd nt c (leave P B f kd Q) (argE 0 args) ⟨[], um⟩ L x) : Wf P B f kd args.toArray um h x Q := by
  subst hnt
  refine wf_of_body hf hb (w _ h ?_ ?_ hs)
  · simp; omega
  · intro i v hi
    obtain ⟨j, h1, h2⟩ := lk_argE args 0 hi
    obtain rfl : i = j := by omega
    have hlt : i < args.length := (List.getElem?_eq_some_iff.1 h2).1
    rw [Array.getElem?_append_left (by simpa using hlt)]
    simpa using h2

theorem tr_of_body {f : FuncId} {fn : Func} {c : Code} {args : List Value} {nt : Nat} {L : List HProp} {x : B.X} {R : Value → List HProp → B.X → Prop} (hf : P.funcs[f]? = some fn) (hb : fn.body = some c) (hnt : fn.ntmps = nt) (hn : (args.length ≤ nt) = True)
    (w : ∀ um (Q : End → FrameMode → Hp → B.X → Prop) (_ : Pass (leave P B f .normal Q) ⟨[], um⟩), (∀ v L' x' h', R v L' x' → Star L' h' → Q (.ret v) um h' x') → We P B .normal nt c (leave P B f .normal Q) (argE 0 args) ⟨[], um⟩ L x) : Tr P B f args L x R :=
  fun _ um Q hs q pn => wf_of_argE hf hb hnt (by rw [hn]; trivial) hs (w um Q ⟨fun ch _ h x hc => wd_pan hf rfl (pn ch h x hc)⟩ q)

/-- THE RESULTS, in slots. -/
theorem at_leave {f : FuncId} {fn : Func} {ts : List Nat} {vs : List Value} {um : FrameMode} {Q : End → FrameMode → Hp → B.X → Prop} {R : Value → List HProp → B.X → Prop} {ex : Ex} (hex : ex = .ret ∨ ex = .normal)
    (hf : P.funcs[f]? = some fn) (hr : fn.results = (ts.map ResultVar.tmp).toArray) (hv : EvL e (ts.map Operand.tmp) vs) (q : ∀ v L' x' h', R v L' x' → Star L' h' → Q (.ret v) um h' x') (v : Value) (hvs : v = match vs with | [a] => a | vs => .tuple vs.toArray) (hR : R v L x) :
    At n e L fun t h => leave P B f kd Q ex t ⟨[], um⟩ h x := by
  intro t h a1 a2 a3
  have hw : Wd P B f kd .returning t ⟨[], um⟩ h x Q := by
    refine wd_ret v hf rfl ?_ (q v L x h hR a3)
    have hts := hv.evT a2
    have key : ∀ (ts : List Nat) (vs : List Value), (ts.map Operand.tmp).map (evT t) = vs → ∀ (M : Mark → Prop) (Q : Array Value → Hp → Prop) (X : Value → Hp → Prop), Q vs.toArray h →
        wpS P M ((ts.map ResultVar.tmp).toArray.mapM fun r => match r with
          | .tmp i => pure (t.getD i undef)
          | .cell a ty => do loadVar ty (← asAddr (t.getD a undef)) : Sem (Array Value)) h Q X := by
      intro ts vs hts M Q X hq
      subst hts
      rw [Array.mapM_eq_foldlM]
      rw [← Array.foldlM_toList]
      have : ∀ (l : List Nat) (acc : Array Value), Q (acc ++ ((l.map Operand.tmp).map (evT t)).toArray) h →
          wpS P M (List.foldlM (fun (bs : Array Value) (r : ResultVar) => do
            let b ← (match r with
              | .tmp i => pure (t.getD i undef)
              | .cell a ty => do loadVar ty (← asAddr (t.getD a undef)) : Sem Value)
            pure (bs.push b)) acc (l.map ResultVar.tmp)) h Q X := by
        intro l
        induction l with
        | nil => intro acc hq; have : Q acc h := by simpa using hq
                 exact this
        | cons i l ih =>
          intro acc hq
          show wpS P M (List.foldlM _ (acc.push (t.getD i undef)) (l.map ResultVar.tmp)) h Q X
          apply ih
          simpa [evT] using hq
      exact this ts #[] (by simpa using hq)
    unfold results
    rw [hr]
    refine wpS_bind _ _ (key ts vs hts _ _ _ ?_)
    subst hvs
    refine ⟨?_, rfl⟩
    cases vs with
    | nil => rfl
    | cons a l => cases l <;> rfl
  rcases hex with rfl | rfl
  · exact hw
  · exact hw

theorem at_ret0 {f : FuncId} {fn : Func} {um : FrameMode} {Q : End → FrameMode → Hp → B.X → Prop} {R : Value → List HProp → B.X → Prop} {ex : Ex} (hf : P.funcs[f]? = some fn) (hr : fn.results = #[])
    (q : ∀ v L' x' h', R v L' x' → Star L' h' → Q (.ret v) um h' x') (hex : ex = .ret ∨ ex = .normal) (hR : R (.tuple #[]) L x) : At n e L fun t h => leave P B f kd Q ex t ⟨[], um⟩ h x :=
  at_leave (ts := []) (vs := []) hex hf hr .nil q _ rfl hR
theorem at_ret1 {f : FuncId} {fn : Func} {t1 : Nat} {v1 : Value} {um : FrameMode} {Q : End → FrameMode → Hp → B.X → Prop} {R : Value → List HProp → B.X → Prop} {ex : Ex} (hf : P.funcs[f]? = some fn) (hr : fn.results = #[.tmp t1])
    (q : ∀ v L' x' h', R v L' x' → Star L' h' → Q (.ret v) um h' x') (hex : ex = .ret ∨ ex = .normal) (h1 : lk e t1 = some v1) (hR : R v1 L x) : At n e L fun t h => leave P B f kd Q ex t ⟨[], um⟩ h x :=
  at_leave (ts := [t1]) (vs := [v1]) hex hf hr (.cons h1 .nil) q _ rfl hR
theorem at_ret2 {f : FuncId} {fn : Func} {t1 t2 : Nat} {v1 v2 : Value} {um : FrameMode} {Q : End → FrameMode → Hp → B.X → Prop} {R : Value → List HProp → B.X → Prop} {ex : Ex} (hf : P.funcs[f]? = some fn) (hr : fn.results = #[.tmp t1, .tmp t2])
    (q : ∀ v L' x' h', R v L' x' → Star L' h' → Q (.ret v) um h' x') (hex : ex = .ret ∨ ex = .normal) (h1 : lk e t1 = some v1) (h2 : lk e t2 = some v2) (hR : R (.tuple #[v1, v2]) L x) : At n e L fun t h => leave P B f kd Q ex t ⟨[], um⟩ h x :=
  at_leave (ts := [t1, t2]) (vs := [v1, v2]) hex hf hr (.cons h1 (.cons h2 .nil)) q _ rfl hR
theorem at_ret3 {f : FuncId} {fn : Func} {t1 t2 t3 : Nat} {v1 v2 v3 : Value} {um : FrameMode} {Q : End → FrameMode → Hp → B.X → Prop} {R : Value → List HProp → B.X → Prop} {ex : Ex} (hf : P.funcs[f]? = some fn) (hr : fn.results = #[.tmp t1, .tmp t2, .tmp t3])
    (q : ∀ v L' x' h', R v L' x' → Star L' h' → Q (.ret v) um h' x') (hex : ex = .ret ∨ ex = .normal) (h1 : lk e t1 = some v1) (h2 : lk e t2 = some v2) (h3 : lk e t3 = some v3) (hR : R (.tuple #[v1, v2, v3]) L x) : At n e L fun t h => leave P B f kd Q ex t ⟨[], um⟩ h x :=
  at_leave (ts := [t1, t2, t3]) (vs := [v1, v2, v3]) hex hf hr (.cons h1 (.cons h2 (.cons h3 .nil))) q _ rfl hR
theorem at_ret4 {f : FuncId} {fn : Func} {t1 t2 t3 t4 : Nat} {v1 v2 v3 v4 : Value} {um : FrameMode} {Q : End → FrameMode → Hp → B.X → Prop} {R : Value → List HProp → B.X → Prop} {ex : Ex} (hf : P.funcs[f]? = some fn) (hr : fn.results = #[.tmp t1, .tmp t2, .tmp t3, .tmp t4])
    (q : ∀ v L' x' h', R v L' x' → Star L' h' → Q (.ret v) um h' x') (hex : ex = .ret ∨ ex = .normal) (h1 : lk e t1 = some v1) (h2 : lk e t2 = some v2) (h3 : lk e t3 = some v3) (h4 : lk e t4 = some v4) (hR : R (.tuple #[v1, v2, v3, v4]) L x) : At n e L fun t h => leave P B f kd Q ex t ⟨[], um⟩ h x :=
  at_leave (ts := [t1, t2, t3, t4]) (vs := [v1, v2, v3, v4]) hex hf hr (.cons h1 (.cons h2 (.cons h3 (.cons h4 .nil)))) q _ rfl hR

end
end Go.PB
