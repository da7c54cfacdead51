/-
  patchbayref00's Play: threads are made and brought to their first operations.
-/
import Derived.Test.YtmkkanmkjfnpdaaMach11
set_option linter.unusedVariables false
set_option linter.unusedSimpArgs false
namespace Go.Proofs.Ytmkkanmkjfnpdaa
open Go Go.PB
attribute [local irreducible] Mo Bin Eql Tr Wo Ap

/-- where a thread lies, and its calls -/
structure PT where
  tb : Nat
  cw : CW
  cs : List Mach.Cl

def PT.cv (p : PT) : Value := p.cw.v p.cs.length
def thK (y : PT × Mach.Th) : HProp := thC y.1.tb y.1.cv y.2
def ptrK (y : PT × Mach.Th) : Value := .pointer (some ⟨y.1.tb, 0, none⟩)
/-- a turn's cells -/
def trC (e : Nat × Nat × Nat) : List Value := [.int .i64 (e.1 : Nat), .int .u8 (e.2.1 : Nat), .int .i64 (e.2.2 : Nat)]

/-- threads' calls: where, and which -/
abbrev Calls := List (CW × List Mach.Cl)
def cvK (y : CW × List Mach.Cl) : Value := y.1.v y.2.length

/-- a call that may be, alone -/
structure CallsOk (F : List HProp) (cc : Calls) : Prop where
  n : cc.length < 1000
  obs : ∀ y ∈ cc, Obs F (codeC y.1 y.2)
  ok : ∀ y ∈ cc, (y.2.all Mach.Cl.ok) = true
  len : ∀ y ∈ cc, y.2.length < 1000000

theorem CallsOk.there {F : List HProp} {cc : Calls} {d : HProp} (c : CallsOk F cc) : CallsOk (d :: F) cc := ⟨c.n, fun y hy => (c.obs y hy).there, c.ok, c.len⟩

variable {B : Hand} [Lets B] {L F G : List HProp} {x : B.X}

/-- a new thread -/
theorem new_th {tb : Nat} {cv : Value} {cs : List Mach.Cl} {h : Hp} (s : Star (arr tb 0 (thCells cv { calls := cs } (.slice none 0 0)) :: L) h) : Star (thC tb cv { calls := cs } :: L) h := by
  refine th_close (y := (.slice none 0 0, [])) rfl (fun _ => by show 0 < 18446744073709551616; omega) ?_
  exact star_map s (fun _ z => z) (fun _ z => vec_nil (star_shut (M := []) z))

omit [Lets B] in
theorem wv_shape {wv lv : Value} {w : Mach.Wd} : ∀ h, wvC wv lv w h → (∃ a n c, wv = .slice a n c) ∧ ∃ a n c, lv = .slice a n c := by
  rintro h ⟨wl, h1, h2, h3, h4, s1, q1, q2⟩
  obtain ⟨h5, h6, s2, ⟨lw, q3, h7, h8, s3, q4, q5⟩, q6⟩ := q2
  obtain ⟨a, n, c, e1, _⟩ := vec_shape (by omega) _ q1
  obtain ⟨a', n', c', e2, _⟩ := vec_shape (by omega) _ q4
  exact ⟨⟨a, n, c, e1⟩, a', n', c', e2⟩

omit [Lets B] in
theorem wd_of_wv {wb : Nat} {wv lv : Value} {w : Mach.Wd} {h : Hp} (s : Star (arr wb 0 [wv, lv] :: wvC wv lv w :: F) h) : Star (wdC wb w :: F) h := by
  obtain ⟨wl, s⟩ := star_ex (star_swap s)
  obtain ⟨e1, s⟩ := star_and s
  obtain ⟨e2, s⟩ := star_and s
  have s2 : Star (wdB wv lv wl w.nl ++ (arr wb 0 [wv, lv] :: F)) h := star_open s
  refine wd_close (y := (wv, lv, wl)) e1 e2 ?_
  refine Ent.star ?_ s2
  exact (.take (.there (.there (.there .here))) .refl)

/-- ahead of making thread i -/
def playInv1 (b3 b6 b8 wb : Nat) (ov tv : Value) (cc : Calls) (x : B.X) (F : List HProp) : Inv (Nat × Value × List (PT × Mach.Th)) B.X where
  e := fun i => [(1, ov), (2, tv), (6, .pointer (some ⟨b6, 0, none⟩)), (8, .pointer (some ⟨b8, 0, none⟩)), (9, .pointer (some ⟨wb, 0, none⟩)), (10, i.2.1), (11, .int .i64 (i.1 : Nat))]
  L := fun i => vec 1 i.2.1 (i.2.2.map ptrK) :: all (i.2.2.map thK) :: vec 1 tv (cc.map cvK) :: F
  x := fun _ => x
  ok := fun i => i.1 ≤ cc.length ∧ i.2.2.map (fun y => (y.1.cw, y.1.cs)) = cc.take i.1 ∧ i.2.2.map (·.2) = (cc.take i.1).map fun y => ({ calls := y.2 } : Mach.Th)

theorem begin_get {f : Nat} : ∀ {l l' : List Mach.Th}, Mach.begin_ f l = some l' → l'.length = l.length ∧ ∀ (i : Nat) t, l[i]? = some t → ∃ t', Mach.onF f t = some t' ∧ l'[i]? = some t' := by
  intro l
  induction l with
  | nil => intro l' h; cases h; exact ⟨rfl, fun i t h => by simp at h⟩
  | cons a l ih =>
    intro l' h
    unfold Mach.begin_ at h
    cases h1 : Mach.onF f a with
    | none => rw [h1] at h; cases h
    | some a' =>
      rw [h1, Option.bind_some] at h
      cases h2 : Mach.begin_ f l with
      | none => rw [h2] at h; cases h
      | some m =>
        rw [h2] at h
        cases h
        obtain ⟨e1, e2⟩ := ih h2
        refine ⟨by simp [e1], fun i t ht => ?_⟩
        cases i with
        | zero => cases ht; exact ⟨a', h1, rfl⟩
        | succ i => exact e2 i t (by simpa using ht)

theorem take_set_drop {α : Type} {l m : List α} {i : Nat} {a : α} (hl : l[i]? = some a) (hm : i < m.length) : (l.take i ++ m.drop i).set i a = l.take (i + 1) ++ m.drop (i + 1) := by
  have hlt : i < l.length := (List.getElem?_eq_some_iff.1 hl).1
  have h1 : (l.take i).length = i := by simp; omega
  have h2 : m.drop i = m[i] :: m.drop (i + 1) := List.drop_eq_getElem_cons hm
  rw [List.set_append_right _ _ (by omega), h1, Nat.sub_self, List.take_add_one, hl, h2, List.set_cons_zero]
  simp

theorem init_good {cs : List Mach.Cl} {k : Nat} (h1 : (cs.all Mach.Cl.ok) = true) (h2 : cs.length < 1000000) : Good cs { calls := cs } k :=
  ⟨rfl, h1, h2, by show 0 < 1000000; omega, Nat.zero_le _, Nat.zero_le _, Nat.zero_le _, fun y hy => by cases hy⟩

/-- ahead of bringing thread i on -/
def playInv2 (b6 b8 wb : Nat) (ov tv lv : Value) (pts : List PT) (l0 l1 : List Mach.Th) (x : B.X) (F : List HProp) : Inv (Nat × List (PT × Mach.Th)) B.X where
  e := fun i => [(1, ov), (2, tv), (6, .pointer (some ⟨b6, 0, none⟩)), (8, .pointer (some ⟨b8, 0, none⟩)), (9, .pointer (some ⟨wb, 0, none⟩)), (10, lv), (12, .int .i64 (i.1 : Nat))]
  L := fun i => vec 1 lv (i.2.map ptrK) :: all (i.2.map thK) :: F
  x := fun _ => x
  ok := fun i => i.1 ≤ pts.length ∧ i.2.map (·.1) = pts ∧ i.2.map (·.2) = l1.take i.1 ++ l0.drop i.1

end Go.Proofs.Ytmkkanmkjfnpdaa
