/-
  FOUNDATION, PART 14. A chunk of words of 64 bits that lie wherever ('wds'), with fixed cells beside them; what a contract may take out of its chunks first. No program in sight.
-/
import Derived.Test.YtabbkjciifnehaaFm
set_option linter.unusedVariables false
set_option linter.unusedSimpArgs false
namespace Go.PB

/-- a cell of chunk c is turned: c' -/
theorem star_upd {b o : Nat} {v v0 : Value} {c c' : HProp} {L : List HProp} {h : Hp} (hc : ∀ h, c h → h.own b o = some v0) (hu : ∀ h, c h → c' (h.set b o v)) (s : Star (c :: L) h) :
    (h.own b o).isSome = true ∧ Star (c' :: L) (h.set b o v) := by
  obtain ⟨h1, h2, s1, ha, hL⟩ := s
  have h1k := hc h1 ha
  have hown := s1.o1 _ _ _ h1k
  have h2k : h2.own b o = none := (s1.od b o).resolve_left (by rw [h1k]; simp)
  refine ⟨by rw [hown]; rfl, h1.set b o v, h2, ⟨s1.r1, s1.r2, ?_, ?_, ?_, s1.b1, s1.b2, s1.bd, s1.s1, s1.s2⟩, hu _ ha, hL⟩
  · intro b' o' v' e
    simp only [Hp.set] at e ⊢
    split at e
    · rename_i hh; simp [hh, e]
    · rename_i hh; simp only [hh, if_false]; exact s1.o1 _ _ _ e
  · intro b' o' v' e
    simp only [Hp.set]
    rw [if_neg (by rintro ⟨rfl, rfl⟩; rw [h2k] at e; cases e)]
    exact s1.o2 _ _ _ e
  · intro b' o'
    simp only [Hp.set]
    split
    · rename_i hh; obtain ⟨rfl, rfl⟩ := hh; exact .inr h2k
    · exact s1.od _ _

theorem Wt.upd {b o : Nat} {v v0 : Value} {c c' : HProp} {L F : List HProp} (hh : Has L c F) (hc : ∀ h, c h → h.own b o = some v0) (hu : ∀ h, c h → c' (h.set b o v)) : Wt L b o v (c' :: F) :=
  fun h s => star_upd hc hu (hh.star s)

/-- words at addr 0, addr 1, .., below N, and fixed cells K -/
def wds (addr : Nat → Nat × Nat) (N : Nat) (K : List (Nat × Nat × Value)) (m : Nat → Nat) : HProp := fun h =>
  (∀ w, w < N → m w < 18446744073709551616 ∧ h.own (addr w).1 (addr w).2 = some (.int .u64 (m w : Nat))) ∧ ∀ k ∈ K, h.own k.1 k.2.1 = some k.2.2

def upd (m : Nat → Nat) (w n : Nat) : Nat → Nat := fun i => if i = w then n else m i

theorem upd_same {m : Nat → Nat} {w n : Nat} : upd m w n w = n := by simp [upd]
theorem upd_other {m : Nat → Nat} {w n i : Nat} (h : i ≠ w) : upd m w n i = m i := by simp [upd, h]

/-- no two of them are the same cell -/
structure Apart (addr : Nat → Nat × Nat) (N : Nat) (K : List (Nat × Nat × Value)) : Prop where
  inj : ∀ i j, i < N → j < N → addr i = addr j → i = j
  fix : ∀ i, i < N → ∀ k ∈ K, addr i ≠ (k.1, k.2.1)

variable {addr : Nat → Nat × Nat} {N : Nat} {K : List (Nat × Nat × Value)} {m : Nat → Nat} {L F : List HProp} {b o w : Nat}

theorem rd_wds (hh : Has L (wds addr N K m) F) (hw : w < N) (ha : addr w = (b, o)) : Rd L b o (.int .u64 (m w : Nat)) :=
  Rd.of hh fun h s => by
    obtain ⟨h1, h2, s1, hc, _⟩ := s
    have := (hc.1 w hw).2
    rw [ha] at this
    exact ⟨rfl, .inl (s1.o1 _ _ _ this)⟩

theorem wt_wds (A : Apart addr N K) (hh : Has L (wds addr N K m) F) (hw : w < N) (ha : addr w = (b, o)) {n : Nat} (hn : n < 18446744073709551616) : Wt L b o (.int .u64 (n : Nat)) (wds addr N K (upd m w n) :: F) := by
  refine Wt.upd (v0 := .int .u64 (m w : Nat)) hh (fun h hc => ?_) (fun h hc => ⟨fun i hi => ?_, fun k hk => ?_⟩)
  · have := (hc.1 w hw).2
    rwa [ha] at this
  · by_cases e : i = w
    · subst e
      rw [upd_same, ha]
      exact ⟨hn, by simp [Hp.set]⟩
    · rw [upd_other e]
      refine ⟨(hc.1 i hi).1, ?_⟩
      have : ¬ ((addr i).1 = b ∧ (addr i).2 = o) := fun ⟨h1, h2⟩ => e (A.inj i w hi hw (by rw [ha, ← h1, ← h2]))
      simp only [Hp.set, if_neg this]
      exact (hc.1 i hi).2
  · have : ¬ (k.1 = b ∧ k.2.1 = o) := fun ⟨h1, h2⟩ => A.fix w hw k hk (by rw [ha, ← h1, ← h2])
    simp only [Hp.set, if_neg this]
    exact hc.2 k hk

section
variable {P : Program} {B : Hand} {x : B.X}

/-- a contract may take out first what its chunks say -/
theorem tr_pure {f : FuncId} {args : List Value} {R : Value → List HProp → B.X → Prop} {p : Prop} (h0 : ∀ h, Star L h → p) (t : p → Tr P B f args L x R) : Tr P B f args L x R :=
  fun h um Q hs q pn => t (h0 h hs) h um Q hs q pn

theorem tr_star {f : FuncId} {args : List Value} {R : Value → List HProp → B.X → Prop} (L' : List HProp) (s : ∀ h, Star L h → Star L' h) (t : Tr P B f args L' x R) : Tr P B f args L x R :=
  fun h um Q hs q pn => t h um Q (s h hs) q pn

/-- and what it gives may be turned -/
theorem Tr.post {f : FuncId} {args : List Value} {R R' : Value → List HProp → B.X → Prop} (t : Tr P B f args L x R) (s : ∀ v L' x', R v L' x' → ∃ L'', R' v L'' x' ∧ ∀ h, Star L' h → Star L'' h) : Tr P B f args L x R' :=
  fun h um Q hs q pn => t h um Q hs (fun v L' x' h' r st => by
    obtain ⟨L'', r', s'⟩ := s v L' x' r
    exact q v L'' x' h' r' (s' h' st)) pn

theorem tr_ex {α : Type} {c : α → HProp} {f : FuncId} {args : List Value} {R : Value → List HProp → B.X → Prop} (hh : Has L (fun h => ∃ a, c a h) F) (t : ∀ a, Tr P B f args (c a :: F) x R) : Tr P B f args L x R :=
  fun h um Q hs q pn => by
    obtain ⟨a, s⟩ := star_ex (hh.star hs)
    exact t a h um Q s q pn

theorem Tr.post2 {f : FuncId} {args : List Value} {R R' : Value → List HProp → B.X → Prop} (t : Tr P B f args L x R) (s : ∀ v L' x' h, R v L' x' → Star L' h → ∃ L'', R' v L'' x' ∧ Star L'' h) : Tr P B f args L x R' :=
  fun h um Q hs q pn => t h um Q hs (fun v L' x' h' r st => by
    obtain ⟨L'', r', s'⟩ := s v L' x' h' r st
    exact q v L'' x' h' r' s') pn
end

theorem we_star {P : Program} {B : Hand} {kd : CallKind} {n : Nat} {K : Post B} {e : Env} {z : Z} {x : B.X} {c : Code} (L' : List HProp) (s : ∀ h, Star L h → Star L' h) (a : We P B kd n c K e z L' x) : We P B kd n c K e z L x := at_star L' s a

theorem we_pure {P : Program} {B : Hand} {kd : CallKind} {n : Nat} {K : Post B} {e : Env} {z : Z} {x : B.X} {c : Code} {p : Prop} (h0 : ∀ h, Star L h → p) (a : p → We P B kd n c K e z L x) : We P B kd n c K e z L x :=
  fun t h a1 a2 a3 => a (h0 h a3) t h a1 a2 a3
theorem wo_pure {P : Program} {B : Hand} {kd : CallKind} {n : Nat} {K : Post B} {e : Env} {z : Z} {x : B.X} {l : List OpG} {p : Prop} (h0 : ∀ h, Star L h → p) (a : p → Wo P B kd n l K e z L x) : Wo P B kd n l K e z L x :=
  fun ops idx h1 h2 t h a1 a2 a3 => a (h0 h a3) ops idx h1 h2 t h a1 a2 a3
theorem ap_know {P : Program} {B : Hand} {kd : CallKind} {n : Nat} {K : Post B} {e : Env} {z : Z} {x : B.X} {ops : Array Oper} {ord R : List Nat} {Pd : List Pn} {p : Prop} (h0 : ∀ h, Star L h → p) (k : p → Ap P B kd n ops ord R Pd K e z L x) : Ap P B kd n ops ord R Pd K e z L x :=
  fun a b c idx t h i s => k (h0 h s) a b c idx t h i s

/-- a loop, round by round, as long as the least thing asked for it lasts -/
theorem we_lfp {P : Program} {B : Hand} {kd : CallKind} {n : Nat} {K : Post B} {e : Env} {z : Z} {x : B.X} {c : Code} {S : Type} (T : (S → Prop) → S → Prop) (C : S → List HProp) (xs : S → B.X) (s : S) (h : ∀ X : S → Prop, (∀ s, T X s → X s) → X s)
    (e0 : Env) (he : Sub e0 e) (hL : Ent L (C s)) (hx : xs s = x)
    (round : ∀ s, T (fun s => We P B kd n c (inLp (Wl P B kd c K) K) e0 z (C s) (xs s)) s → We P B kd n c (inLp (Wl P B kd c K) K) e0 z (C s) (xs s)) : We P B kd n (.loop c) K e z L x := by
  subst hx
  exact we_loop1 (we_sub e0 he (we_ent _ hL (h _ round)))

theorem at_again {P : Program} {B : Hand} {kd : CallKind} {n : Nat} {K : Post B} {e e0 : Env} {z : Z} {x : B.X} {c : Code} {L' : List HProp} (w : We P B kd n c (inLp (Wl P B kd c K) K) e0 z L' x) (he : Sub e0 e) (hL : Ent L L') : At n e L fun t h => Wl P B kd c K t z h x :=
  at_sub e0 he (at_ent _ hL (wle_step w))

/-- a slice of one's own is a slice -/
theorem vec_shape {sz : Nat} {v : Value} {cs : List Value} (hz : 0 < sz) : ∀ h, vec sz v cs h → ∃ a n c, v = .slice a n c ∧ cs.length = n * sz ∧ n ≤ c ∧ (a = none → n = 0) ∧ ∀ y, a = some y → y = ⟨y.block, y.off, none⟩ := by
  rintro h (⟨rfl, rfl⟩ | ⟨b, o, n, c, sp, rfl, h1, h2, h3, h4⟩)
  · exact ⟨none, 0, 0, rfl, by simp, by omega, fun _ => rfl, fun y hy => by cases hy⟩
  · exact ⟨_, n, c, rfl, h1, h2, fun hy => (by cases hy), fun y hy => by cases hy; rfl⟩

/-- its cells may be read -/
theorem rd_vec {sz b o n c i : Nat} {cs : List Value} {v : Value} (hh : Has L (vec sz (.slice (some ⟨b, o, none⟩) n c) cs) F) (hi : cs[i]? = some v) : Rd L b (o + i) v :=
  Rd.of hh fun h s => by
    obtain ⟨h1, h2, s1, hc, _⟩ := s
    rcases hc with ⟨e, _⟩ | ⟨b', o', n', c', sp, e, h3, h4, h5, h6⟩
    · cases e
    · cases e
      refine ⟨rfl, .inl (s1.o1 _ _ _ (h6 i v ?_))⟩
      rw [List.getElem?_append_left (List.getElem?_eq_some_iff.1 hi).1]; exact hi

/-- two rows of one's own are in two blocks, or neither begins there -/
theorem star_ne {r b : Nat} {v w : Value} {vs ws : List Value} {h : Hp} (s : Star (arr r 0 (v :: vs) :: arr b 0 (w :: ws) :: L) h) : r ≠ b := by
  rintro rfl
  obtain ⟨h1, h2, s1, ha, h3, h4, s2, hb, _⟩ := s
  have e1 := ha 0 v rfl
  have e2 := s2.o1 _ _ _ (hb 0 w rfl)
  rcases s1.od r 0 with e | e
  · rw [Nat.zero_add] at e1; rw [e1] at e; cases e
  · rw [Nat.zero_add] at e2; rw [e2] at e; cases e

theorem zeros_one {n i : Nat} {v : Value} (h : i < n) : (zeros n [v])[i]? = some v := by
  have : zeros n [v] = List.replicate n v := by
    simp [zeros, List.flatten_replicate_singleton]
  rw [this]; simp [h]

theorem zeros_pos {n : Nat} {v : Value} (h : 0 < n) : ∃ vs, zeros n [v] = v :: vs := by
  cases n with
  | zero => omega
  | succ n => exact ⟨zeros n [v], by simp [zeros, List.replicate_succ]⟩

/-- a number of 64 bits, as a value -/
def num (v : Nat) : Value := .int .u64 (v : Int)

/-- what a row of numbers is, read through a slice -/
def RdV (L : List HProp) (a : Option Addr) (l : List Nat) : Prop := ∀ i v, l[i]? = some v → ∃ b o, a = some ⟨b, o, none⟩ ∧ Rd L b (o + i) (num v)

theorem RdV.vec {a : Option Addr} {n c : Nat} {l : List Nat} (hh : Has L (vec 1 (.slice a n c) (l.map num)) F) (ha : ∀ y, a = some y → y = ⟨y.block, y.off, none⟩) (hn : a = none → l = []) : RdV L a l := by
  intro i v hi
  cases a with
  | none => rw [hn rfl] at hi; simp at hi
  | some y =>
    obtain ⟨b, o, sp⟩ := y
    cases ha _ rfl
    exact ⟨b, o, rfl, rd_vec hh (by simp [hi])⟩

/-- words in two blocks: two in r, the others in b -/
def twoAddr (r b : Nat) : Nat → Nat × Nat
  | 0 => (r, 0)
  | 1 => (r, 1)
  | i + 2 => (b, i)

theorem two_apart {r b N : Nat} (h : r ≠ b) (v : Value) : Apart (twoAddr r b) N [(r, 2, v)] where
  inj := by
    rintro (_ | _ | i) (_ | _ | j) _ _ <;> simp [twoAddr] <;> omega
  fix := by
    rintro (_ | _ | i) _ k hk <;> simp only [List.mem_singleton] at hk <;> subst hk <;> simp [twoAddr] <;> omega

/-- fresh words there -/
theorem two_wds {r b N : Nat} {v : Value} {ws : List Value} {h : Hp} (hw : ∀ i, i < N → ws[i]? = some (.int .u64 0)) (s : Star (arr r 0 [.int .u64 0, .int .u64 0, v] :: arr b 0 ws :: L) h) :
    Star (wds (twoAddr r b) (N + 2) [(r, 2, v)] (fun _ => 0) :: L) h := by
  have s' := star_shut (M := [_, _]) s
  refine star_map s' (fun h hh => ?_) (fun _ x => x)
  obtain ⟨h1, h2, s1, ha, h3, h4, s2, hb, _⟩ := hh
  refine ⟨fun w hlt => ⟨by show 0 < 18446744073709551616; decide, ?_⟩, fun k hk => ?_⟩
  · match w with
    | 0 => exact s1.o1 _ _ _ (ha 0 _ rfl)
    | 1 => exact s1.o1 _ _ _ (ha 1 _ rfl)
    | i + 2 =>
      have := hb i (.int .u64 0) (hw i (by omega))
      simp only [twoAddr]
      rw [Nat.zero_add] at this
      exact s1.o2 _ _ _ (s2.o1 _ _ _ this)
  · simp only [List.mem_singleton] at hk
    subst hk
    exact s1.o1 _ _ _ (ha 2 _ rfl)

theorem zeros_two {n i : Nat} {v : Value} (h : i < 2 * n) : (zeros n [v, v])[i]? = some v := by
  have : zeros n [v, v] = List.replicate (2 * n) v := by
    unfold zeros
    clear h
    induction n with
    | zero => rfl
    | succ n ih =>
      rw [List.replicate_succ, List.flatten_cons, ih, show 2 * (n + 1) = 2 * n + 1 + 1 by omega]
      rfl
  rw [this]; simp [h]

theorem of_has {c : HProp} {p : Prop} (hh : Has L c F) (hc : ∀ h, c h → p) : ∀ h, Star L h → p := fun h s => by
  obtain ⟨h1, h2, s1, hx, _⟩ := hh.star s
  exact hc h1 hx

end Go.PB
