/-
  A PLAY's turns (package turn): (*play).take, against a plain model ('takeF').
-/
import Derived.Test.YtabbkjciifnehaaSeatB
set_option linter.unusedVariables false
set_option linter.unusedSimpArgs false
namespace Go.PB

theorem zip_set {α β γ : Type} {f : α → β → γ} {b : β} : ∀ {k : Nat} {xs : List α} {ys : List β} {a : α}, xs[k]? = some a → List.zipWith f xs (ys.set k b) = (List.zipWith f xs ys).set k (f a b)
  | _, [], _, _, h => by simp at h
  | _, x :: xs, [], _, _ => rfl
  | 0, x :: xs, y :: ys, a, h => by simp at h; subst h; rfl
  | k + 1, x :: xs, y :: ys, a, h => by simp only [List.set_cons_succ, List.zipWith_cons_cons]; rw [zip_set (by simpa using h)]

theorem set_same {α : Type} {l : List α} {k : Nat} {a : α} (h : l[k]? = some a) : l.set k a = l := by
  obtain ⟨h1, h2⟩ := List.getElem?_eq_some_iff.1 h
  subst h2
  exact List.set_getElem_self h1

end Go.PB
namespace Go.Proofs.Ytabbkjciifnehaa
open Go Go.PB
attribute [local irreducible] Mo Bin Eql Tr Wo Ap Wle

/-- a play under way: what is shared, what the threads plan, the turns so far -/
structure PS (g : Game) where
  s : g.σ
  qs : List g.θ
  tr : List (Nat × (Int × Int))

/-- A TURN -/
def takeF {g : Game} (p : PS g) (k : Int) : PS g × Bool :=
  if k < 0 then (p, false) else
  match p.qs[k.toNat]? with
  | none => (p, false)
  | some q => match g.plan q with
    | none => (p, false)
    | some (m, f) => if p.tr.length = 16384 then (p, false) else (⟨(f p.s).1, p.qs.set k.toNat (f p.s).2, p.tr ++ [(k.toNat, m)]⟩, true)

structure SId where
  sb : Nat
  says : Nat
  turn : Nat
  fin : Nat

def trC (tr : List (Nat × (Int × Int))) : List Value := (tr.map fun t => [.int .i64 (t.1 : Nat), .int .u8 t.2.1, .int .i64 t.2.2]).flatten
theorem trC_len {tr : List (Nat × (Int × Int))} : (trC tr).length = tr.length * 3 := flat_len (f := fun t : Nat × (Int × Int) => [Value.int .i64 (t.1 : Nat), .int .u8 t.2.1, .int .i64 t.2.2]) (k := 3) (fun _ => rfl) tr
theorem trC_app {tr : List (Nat × (Int × Int))} {k : Nat} {m : Int × Int} : trC (tr ++ [(k, m)]) = trC tr ++ [.int .i64 (k : Nat), .int .u8 m.1, .int .i64 m.2] := by simp [trC]
def ptrs (ids : List SId) : List Value := ids.map fun i => .pointer (some ⟨i.sb, 0, none⟩)
abbrev lastQ (g : Game) (q : g.θ) : List Value := lastC ((g.plan q).map (·.1))
def seatC (g : Game) (i : SId) (q : g.θ) : HProp := all [seatR i.sb i.says i.turn i.fin, arr i.sb 3 (lastQ g q)]
def seatCs (g : Game) (ids : List SId) (qs : List g.θ) : List HProp := List.zipWith (seatC g) ids qs
def seatS {g : Game} (i : SId) (q : g.θ) : Seat g.σ g.θ := ⟨i.says, i.turn, i.fin, .said q⟩
def seatSs {g : Game} (ids : List SId) (qs : List g.θ) : List (Seat g.σ g.θ) := List.zipWith seatS ids qs

section
variable {g : Game} {wg pb : Nat} {ss ts cs : Value} {ids : List SId} {p : PS g} {F : List HProp}

/-- the play's memory; its state -/
abbrev playL (g : Game) (pb : Nat) (ss ts cs : Value) (ids : List SId) (p : PS g) (F : List HProp) : List HProp :=
  g.U p.s :: arr pb 0 [ss, ts, cs] :: vec 1 ss (ptrs ids) :: vec 3 ts (trC p.tr) :: all (seatCs g ids p.qs) :: F
abbrev playX (g : Game) (wg : Nat) (ids : List SId) (p : PS g) : MX := gx g wg (seatSs ids p.qs) (some p.s) (16384 - p.tr.length) ids.length

theorem takeF_len (k : Int) : (takeF p k).1.qs.length = p.qs.length := by
  unfold takeF
  split
  · rfl
  split
  · rfl
  split
  · rfl
  split
  · rfl
  · simp
theorem takeF_le (h : p.tr.length ≤ 16384) (k : Int) : (takeF p k).1.tr.length ≤ 16384 := by
  unfold takeF
  split
  · exact h
  split
  · exact h
  split
  · exact h
  split
  · exact h
  · simp; omega

theorem take_out {k : Int} (hl : ids.length = p.qs.length) (hk : k < 0 ∨ (ids.length : Int) ≤ k) :
    Tr Try.prog mT 48 [.pointer (some ⟨pb, 0, none⟩), .int .i64 k] (playL g pb ss ts cs ids p F) (playX g wg ids p) fun v L' x' => v = .bool false ∧ L' = playL g pb ss ts cs ids p F ∧ x' = playX g wg ids p := by
  refine tr_pure (of_has (.there (.there .here)) (vec_shape (by omega))) ?_
  rintro ⟨a, n, c, rfl, hn, _⟩
  have hn : n = ids.length := by simp [ptrs] at hn; omega
  subst hn
  by_cases h0 : k < 0
  · refine tr_of_body Try.func48 rfl Try.ntmps48 (by simp) fun um Q _ hQ => ?_
    simp only [argE, Nat.zero_add, Nat.reduceAdd]
    repeat (first
      | (apply wo_po; apply mo_bin; exact rfl; exact rfl; apply bin_lssT; omega; (first | exact trivial | exact rfl))
      | refine we_seq ?_
      | (refine we_region _ rfl rfl ?_; simp only [opsOf, List.map_cons, List.map_nil, Option.map_none, Option.map_some, List.getElem?_toArray, List.getElem?_cons_zero, List.getElem?_cons_succ, Option.bind_some, Option.getD_some])
      | refine wo_nil ?_
      | (apply wo_po; apply mo_move; exact rfl; (first | exact trivial | exact rfl))
      | (apply wo_po; apply mo_assign; exact rfl; (first | exact trivial | exact rfl))
      | (apply wo_no; exact rfl)
      | (apply wo_po; apply mo_pickT; exact rfl; exact rfl; exact rfl; (first | exact trivial | exact rfl))
      | (apply we_condT; exact rfl; (first | exact rfl | (simp <;> omega) | omega))
      | refine we_ret ?_)
    (first | refine at_ret1 (ex := .ret) Try.func48 Try.results48 hQ (.inl rfl) rfl ?_ | refine at_ret1 (ex := .normal) Try.func48 Try.results48 hQ (.inr rfl) rfl ?_)
    exact ⟨rfl, rfl, rfl⟩
  · refine tr_of_body Try.func48 rfl Try.ntmps48 (by simp) fun um Q _ hQ => ?_
    simp only [argE, Nat.zero_add, Nat.reduceAdd]
    repeat (first
      | (apply wo_po; apply mo_bin; exact rfl; exact rfl; apply bin_lssF; omega; (first | exact trivial | exact rfl))
      | (apply wo_po; apply mo_bin; exact rfl; exact rfl; apply bin_geqT; omega; (first | exact trivial | exact rfl))
      | refine we_seq ?_
      | (refine we_region _ rfl rfl ?_; simp only [opsOf, List.map_cons, List.map_nil, Option.map_none, Option.map_some, List.getElem?_toArray, List.getElem?_cons_zero, List.getElem?_cons_succ, Option.bind_some, Option.getD_some])
      | refine wo_nil ?_
      | (apply wo_po; apply mo_move; exact rfl; (first | exact trivial | exact rfl))
      | (apply wo_po; apply mo_assign; exact rfl; (first | exact trivial | exact rfl))
      | (apply wo_no; exact rfl)
      | (apply wo_po; apply mo_pickT; exact rfl; exact rfl; exact rfl; (first | exact trivial | exact rfl))
      | (apply wo_po; apply mo_pickF; exact rfl; exact rfl; exact rfl; (first | exact trivial | exact rfl))
      | (apply wo_po; apply mo_nilCheck; exact rfl; (first | exact trivial | exact rfl))
      | (apply wo_po; apply mo_fieldAddr; exact rfl; exact rfl; (first | exact Nat.zero_add _ | exact rfl); (first | exact trivial | exact rfl))
      | (apply wo_po; apply mo_load; exact rfl; (repeat (first | exact Rd.row0 rfl | exact Rd.row rfl rfl | exact Rd.still | apply Rd.there)); (first | exact trivial | exact rfl))
      | (apply wo_po; apply mo_len; exact rfl; (first | exact trivial | exact rfl))
      | (apply we_condT; exact rfl; (first | exact rfl | (simp <;> omega) | omega))
      | refine we_ret ?_)
    (first | refine at_ret1 (ex := .ret) Try.func48 Try.results48 hQ (.inl rfl) rfl ?_ | refine at_ret1 (ex := .normal) Try.func48 Try.results48 hQ (.inr rfl) rfl ?_)
    exact ⟨rfl, rfl, rfl⟩

/-- a thread's seat, out of all -/
theorem seat_pick {k : Nat} {i : SId} {q : g.θ} {L : List HProp} {h : Hp} (hi : ids[k]? = some i) (hq : p.qs[k]? = some q) (st : Star (all (seatCs g ids p.qs) :: L) h) :
    Star (seatR i.sb i.says i.turn i.fin :: arr i.sb 3 (lastQ g q) :: all ((seatCs g ids p.qs).eraseIdx k) :: L) h := by
  have e : (seatCs g ids p.qs)[k]? = some (seatC g i q) := by simp [seatCs, List.getElem?_zipWith, hi, hq]
  exact star_open (M := [_, _]) (star_pick e st)
theorem seat_put {k : Nat} {i : SId} {q q' : g.θ} {L : List HProp} {h : Hp} (hi : ids[k]? = some i) (hq : p.qs[k]? = some q) (st : Star (seatR i.sb i.says i.turn i.fin :: arr i.sb 3 (lastQ g q') :: all ((seatCs g ids p.qs).eraseIdx k) :: L) h) :
    Star (all (seatCs g ids (p.qs.set k q')) :: L) h := by
  have hlt : k < (seatCs g ids p.qs).length := by
    have h1 := (List.getElem?_eq_some_iff.1 hi).1
    have h2 := (List.getElem?_eq_some_iff.1 hq).1
    simp [seatCs]; omega
  have e : seatCs g ids (p.qs.set k q') = (seatCs g ids p.qs).set k (seatC g i q') := zip_set hi
  rw [e]
  exact star_put hlt (star_shut (M := [_, _]) st)

theorem take_no {k : Nat} {i : SId} {q : g.θ} (hi : ids[k]? = some i) (hq : p.qs[k]? = some q) (hno : g.plan q = none ∨ p.tr.length = 16384) :
    Tr Try.prog mT 48 [.pointer (some ⟨pb, 0, none⟩), .int .i64 (k : Nat)] (playL g pb ss ts cs ids p F) (playX g wg ids p) fun v L' x' => v = .bool false ∧ L' = playL g pb ss ts cs ids p F ∧ x' = playX g wg ids p := by
  have hk := (List.getElem?_eq_some_iff.1 hi).1
  refine tr_pure (of_has (.there (.there .here)) (vec_shape (by omega))) ?_
  rintro ⟨a, n, c, rfl, hn, _, hnz, hy⟩
  have hn : n = ids.length := by simp [ptrs] at hn; omega
  subst hn
  refine tr_pure (of_has (.there (.there (.there .here))) (vec_shape (by omega))) ?_
  rintro ⟨ta, tn, tc, rfl, htn, _⟩
  have htn : tn = p.tr.length := by rw [trC_len] at htn; omega
  subst htn
  cases a with
  | none => have := hnz rfl; omega
  | some ad =>
  obtain ⟨b, o, sp⟩ := ad
  have := hy _ rfl
  simp only [Addr.mk.injEq, true_and] at this
  subst this
  refine Tr.post (R := fun v L' x' => v = .bool false ∧ x' = playX g wg ids p ∧ ∀ h, Star L' h → Star (playL g pb (.slice (some ⟨b, o, none⟩) ids.length c) (.slice ta p.tr.length tc) cs ids p F) h) ?_
    (by rintro v L' x' ⟨rfl, rfl, h2⟩; exact ⟨_, ⟨rfl, rfl, rfl⟩, h2⟩)
  let L1 : List HProp := seatR i.sb i.says i.turn i.fin :: arr i.sb 3 (lastQ g q) :: all ((seatCs g ids p.qs).eraseIdx k) :: g.U p.s :: arr pb 0 [.slice (some ⟨b, o, none⟩) ids.length c, .slice ta p.tr.length tc, cs] :: vec 1 (.slice (some ⟨b, o, none⟩) ids.length c) (ptrs ids) :: vec 3 (.slice ta p.tr.length tc) (trC p.tr) :: F
  refine tr_star L1 (fun h st => seat_pick hi hq (((.there (.there (.there (.there .here)))) : Has (playL g pb _ _ cs ids p F) _ _).star st)) ?_
  have hback : ∀ h, Star L1 h → Star (playL g pb (.slice (some ⟨b, o, none⟩) ids.length c) (.slice ta p.tr.length tc) cs ids p F) h := fun h st => by
    have s1 := seat_put (q' := q) hi hq st
    have e : p.qs.set k q = p.qs := set_same hq
    rw [e] at s1
    exact Ent.star (.take (.there .here) (.take (.there .here) (.take (.there .here) (.take (.there .here) (.take .here .refl))))) s1
  have rs : Rd L1 b (o + k) (.pointer (some ⟨i.sb, 0, none⟩)) := rd_vec (cs := ptrs ids) (.there (.there (.there (.there (.there .here))))) (by simp [ptrs, hi])
  have hlast : ∃ m1 m2 q3, lastQ g q = [.int .u8 m1, .int .i64 m2, .bool q3] ∧ (q3 = true ∨ (q3 = false ∧ p.tr.length = 16384)) := by
    unfold lastQ
    cases hp : g.plan q with
    | none => exact ⟨_, _, _, rfl, .inl rfl⟩
    | some mf =>
      refine ⟨_, _, _, rfl, .inr ⟨rfl, hno.resolve_left (by rw [hp]; simp)⟩⟩
  obtain ⟨m1, m2, q3, hl, hq3⟩ := hlast
  have rl : Rd L1 i.sb 5 (.bool q3) := Rd.of (.there .here) (by rw [hl]; exact Rd.row (k := 2) rfl rfl)
  rcases hq3 with rfl | ⟨rfl, htr⟩
  · refine tr_of_body Try.func48 rfl Try.ntmps48 (by simp) fun um Q _ hQ => ?_
    simp only [argE, Nat.zero_add, Nat.reduceAdd]
    repeat (first
      | (apply wo_po; apply mo_index1; exact rfl; exact rfl; omega; (first | exact trivial | exact rfl))
      | (apply wo_po; apply mo_load; exact rfl; (first | exact rs | exact rl | exact Rd.of (.there (.there (.there (.there .here)))) (Rd.row0 rfl)); (first | exact trivial | exact rfl))
      | (apply wo_po; apply mo_bin; exact rfl; exact rfl; apply bin_lssF; omega; (first | exact trivial | exact rfl))
      | (apply wo_po; apply mo_bin; exact rfl; exact rfl; apply bin_geqF; omega; (first | exact trivial | exact rfl))
      | refine we_seq ?_
      | (refine we_region _ rfl rfl ?_; simp only [opsOf, List.map_cons, List.map_nil, Option.map_none, Option.map_some, List.getElem?_toArray, List.getElem?_cons_zero, List.getElem?_cons_succ, Option.bind_some, Option.getD_some])
      | refine wo_nil ?_
      | (apply wo_po; apply mo_move; exact rfl; (first | exact trivial | exact rfl))
      | (apply wo_po; apply mo_assign; exact rfl; (first | exact trivial | exact rfl))
      | (apply wo_no; exact rfl)
      | (apply wo_po; apply mo_pickT; exact rfl; exact rfl; exact rfl; (first | exact trivial | exact rfl))
      | (apply wo_po; apply mo_pickF; exact rfl; exact rfl; exact rfl; (first | exact trivial | exact rfl))
      | (apply wo_po; apply mo_nilCheck; exact rfl; (first | exact trivial | exact rfl))
      | (apply wo_po; apply mo_fieldAddr; exact rfl; exact rfl; (first | exact Nat.zero_add _ | exact rfl); (first | exact trivial | exact rfl))
      | (apply wo_po; apply mo_len; exact rfl; (first | exact trivial | exact rfl))
      | (apply we_condT; exact rfl; (first | exact rfl | (simp <;> omega) | omega))
      | refine we_ret ?_)
    (first | refine at_ret1 (ex := .ret) Try.func48 Try.results48 hQ (.inl rfl) rfl ?_ | refine at_ret1 (ex := .normal) Try.func48 Try.results48 hQ (.inr rfl) rfl ?_)
    exact ⟨rfl, rfl, hback⟩
  · refine tr_of_body Try.func48 rfl Try.ntmps48 (by simp) fun um Q _ hQ => ?_
    simp only [argE, Nat.zero_add, Nat.reduceAdd]
    repeat (first
      | (apply wo_po; apply mo_index1; exact rfl; exact rfl; omega; (first | exact trivial | exact rfl))
      | (apply wo_po; apply mo_load; exact rfl; (first | exact rs | exact rl | exact Rd.of (.there (.there (.there (.there .here)))) (Rd.row0 rfl)); (first | exact trivial | exact rfl))
      | (apply wo_po; apply mo_bin; exact rfl; exact rfl; apply bin_lssF; omega; (first | exact trivial | exact rfl))
      | (apply wo_po; apply mo_bin; exact rfl; exact rfl; apply bin_geqF; omega; (first | exact trivial | exact rfl))
      | (apply wo_po; apply mo_bin; exact rfl; exact rfl; apply bin_eqlT; omega; (first | exact trivial | exact rfl))
      | refine we_seq ?_
      | (refine we_region _ rfl rfl ?_; simp only [opsOf, List.map_cons, List.map_nil, Option.map_none, Option.map_some, List.getElem?_toArray, List.getElem?_cons_zero, List.getElem?_cons_succ, Option.bind_some, Option.getD_some])
      | refine wo_nil ?_
      | (apply wo_po; apply mo_move; exact rfl; (first | exact trivial | exact rfl))
      | (apply wo_po; apply mo_assign; exact rfl; (first | exact trivial | exact rfl))
      | (apply wo_po; apply mo_pickF; exact rfl; exact rfl; exact rfl; (first | exact trivial | exact rfl))
      | (apply wo_po; apply mo_nilCheck; exact rfl; (first | exact trivial | exact rfl))
      | (apply wo_po; apply mo_fieldAddr; exact rfl; exact rfl; (first | exact Nat.zero_add _ | exact rfl); (first | exact trivial | exact rfl))
      | (apply wo_po; apply mo_len; exact rfl; (first | exact trivial | exact rfl))
      | (apply we_condT; exact rfl; (first | exact rfl | (simp <;> omega) | omega))
      | refine we_ret ?_)
    (first | refine at_ret1 (ex := .ret) Try.func48 Try.results48 hQ (.inl rfl) rfl ?_ | refine at_ret1 (ex := .normal) Try.func48 Try.results48 hQ (.inr rfl) rfl ?_)
    exact ⟨rfl, rfl, hback⟩

theorem take_yes {k : Nat} {i : SId} {q : g.θ} {m : Int × Int} {f : g.σ → g.σ × g.θ} (hl : ids.length = p.qs.length) (hi : ids[k]? = some i) (hq : p.qs[k]? = some q) (hpl : g.plan q = some (m, f)) (htr : p.tr.length < 16384) (hok : g.ok p.s) :
    Tr Try.prog mT 48 [.pointer (some ⟨pb, 0, none⟩), .int .i64 (k : Nat)] (playL g pb ss ts cs ids p F) (playX g wg ids p) fun v L' x' => ∃ ts', v = .bool true ∧ L' = playL g pb ss ts' cs ids ⟨(f p.s).1, p.qs.set k (f p.s).2, p.tr ++ [(k, m)]⟩ F ∧ x' = playX g wg ids ⟨(f p.s).1, p.qs.set k (f p.s).2, p.tr ++ [(k, m)]⟩ := by
  have hk := (List.getElem?_eq_some_iff.1 hi).1
  refine tr_pure (of_has (.there (.there .here)) (vec_shape (by omega))) ?_
  rintro ⟨a, n, c, rfl, hn, _, hnz, hy⟩
  have hn : n = ids.length := by simp [ptrs] at hn; omega
  subst hn
  refine tr_pure (of_has (.there (.there (.there .here))) (vec_shape (by omega))) ?_
  rintro ⟨ta, tn, tc, rfl, htn, _⟩
  have htn : tn = p.tr.length := by rw [trC_len] at htn; omega
  subst htn
  cases a with
  | none => have := hnz rfl; omega
  | some ad =>
  obtain ⟨b, o, sp⟩ := ad
  have := hy _ rfl
  simp only [Addr.mk.injEq, true_and] at this
  subst this
  refine Tr.post (R := fun v L' x' => ∃ ts', v = .bool true ∧ x' = playX g wg ids ⟨(f p.s).1, p.qs.set k (f p.s).2, p.tr ++ [(k, m)]⟩ ∧ ∀ h, Star L' h → Star (playL g pb (.slice (some ⟨b, o, none⟩) ids.length c) ts' cs ids ⟨(f p.s).1, p.qs.set k (f p.s).2, p.tr ++ [(k, m)]⟩ F) h) ?_
    (by rintro v L' x' ⟨ts', rfl, rfl, h2⟩; exact ⟨_, ⟨ts', rfl, rfl, rfl⟩, h2⟩)
  have hlq : lastQ g q = [.int .u8 m.1, .int .i64 m.2, .bool false] := by unfold lastQ; rw [hpl]; rfl
  let er := all ((seatCs g ids p.qs).eraseIdx k)
  let L1 : List HProp := seatR i.sb i.says i.turn i.fin :: arr i.sb 3 [.int .u8 m.1, .int .i64 m.2, .bool false] :: arr pb 0 [.slice (some ⟨b, o, none⟩) ids.length c, .slice ta p.tr.length tc, cs] :: vec 3 (.slice ta p.tr.length tc) (trC p.tr) :: vec 1 (.slice (some ⟨b, o, none⟩) ids.length c) (ptrs ids) :: g.U p.s :: er :: F
  refine tr_star L1 (fun h st => by have := seat_pick hi hq (((.there (.there (.there (.there .here)))) : Has (playL g pb _ _ cs ids p F) _ _).star st); rw [hlq] at this; exact Ent.star (.take .here (.take .here (.take (.there (.there .here)) (.take (.there (.there (.there .here))) (.take (.there (.there .here)) (.take (.there .here) (.take .here .refl))))))) this) ?_
  have rs : Rd L1 b (o + k) (.pointer (some ⟨i.sb, 0, none⟩)) := rd_vec (cs := ptrs ids) (.there (.there (.there (.there .here)))) (by simp [ptrs, hi])
  have rl : Rd L1 i.sb 5 (.bool false) := .there (Rd.row (k := 2) rfl rfl)
  have rt : Rd L1 i.sb 0 (.chan (some i.turn)) := Rd.fro (k := 0) rfl rfl
  have hsz : (seatSs ids p.qs).length = ids.length := by simp [seatSs]; omega
  have hsk : (seatSs ids p.qs)[k]? = some (⟨i.says, i.turn, i.fin, .said q⟩ : Seat g.σ g.θ) := by simp [seatSs, List.getElem?_zipWith, hi, hq, seatS]
  refine tr_of_body Try.func48 rfl Try.ntmps48 (by simp) fun um Q _ hQ => ?_
  simp only [argE, Nat.zero_add, Nat.reduceAdd]
  repeat (first
    | (apply wo_po; apply mo_index1; exact rfl; exact rfl; omega; (first | exact trivial | exact rfl))
    | (apply wo_po; apply mo_load; exact rfl; (first | exact rs | exact rl | exact Rd.of (.there (.there .here)) (Rd.row0 rfl)); (first | exact trivial | exact rfl))
    | (apply wo_po; apply mo_bin; exact rfl; exact rfl; apply bin_lssF; omega; (first | exact trivial | exact rfl))
    | (apply wo_po; apply mo_bin; exact rfl; exact rfl; apply bin_geqF; omega; (first | exact trivial | exact rfl))
    | (apply wo_po; apply mo_bin; exact rfl; exact rfl; apply bin_eqlF; omega; (first | exact trivial | exact rfl))
    | refine we_seq ?_
    | (refine we_region _ rfl rfl ?_; simp only [opsOf, List.map_cons, List.map_nil, Option.map_none, Option.map_some, List.getElem?_toArray, List.getElem?_cons_zero, List.getElem?_cons_succ, Option.bind_some, Option.getD_some])
    | refine wo_nil ?_
    | (apply wo_po; apply mo_move; exact rfl; (first | exact trivial | exact rfl))
    | (apply wo_po; apply mo_assign; exact rfl; (first | exact trivial | exact rfl))
    | (apply wo_po; apply mo_pickF; exact rfl; exact rfl; exact rfl; (first | exact trivial | exact rfl))
    | (apply wo_po; apply mo_nilCheck; exact rfl; (first | exact trivial | exact rfl))
    | (apply wo_po; apply mo_fieldAddr; exact rfl; exact rfl; (first | exact Nat.zero_add _ | exact rfl); (first | exact trivial | exact rfl))
    | (apply wo_po; apply mo_len; exact rfl; (first | exact trivial | exact rfl))
    | (apply we_condF; exact rfl; (first | exact rfl | (simp <;> omega) | omega))
    | refine we_skip ?_)
  refine we_draw (List.range' 0 19) (by kernel_rfl) ?_
  repeat (first
    | (apply ap_read; exact rfl; exact rfl; exact trivial; apply mo_load; exact rfl; exact Rd.of (.there (.there .here)) (Rd.row0 rfl))
    | (apply ap_read; exact rfl; exact rfl; exact trivial; apply mo_loadA (vs := [.int .u8 m.1, .int .i64 m.2]); exact rfl; exact rfl; exact Rds.row (k := 0) (.there .here) (by intro i v hv; match i, hv with | 0, hv => exact hv | 1, hv => exact hv))
    | (apply ap_pure; exact rfl; exact rfl; exact trivial; intro L; apply mo_build (pv := [(0, _), (1, _)]); exact rfl; exact .cons rfl (.cons rfl .nil); exact rfl)
    | (apply ap_pure; exact rfl; exact rfl; (first | exact trivial | exact rfl); intro L; apply mo_move; exact rfl)
    | (apply ap_pure; exact rfl; exact rfl; (first | exact trivial | exact rfl); intro L; apply mo_nilCheck; exact rfl)
    | (apply ap_pure; exact rfl; exact rfl; (first | exact trivial | exact rfl); intro L; apply mo_fieldAddr; exact rfl; exact rfl; (first | exact Nat.zero_add _ | exact rfl)))
  have hone : ∀ v ∈ [Value.int .i64 (k : Nat), .int .u8 m.1, .int .i64 m.2], one v = true := by intro v hv; simp at hv; rcases hv with rfl | rfl | rfl <;> rfl
  refine ap_loudR rfl rfl rfl rfl trivial (mo_buildSlice (sz := 3) (vs := [.agg #[.int .i64 (k : Nat), .int .u8 m.1, .int .i64 m.2]]) rfl (.cons rfl .nil) rfl (by intro v hv; cases (List.mem_singleton.1 hv); exact rfl) (by omega)) ?_ ?_
  · rintro v L ⟨nb, rfl, rfl⟩ p hp
    replace hp := (List.mem_filter.1 hp).1
    simp only [List.mem_cons, List.not_mem_nil, or_false] at hp
    rcases hp with rfl | rfl | rfl | rfl | rfl | rfl | rfl | rfl | rfl | rfl | rfl | rfl | rfl <;> first | exact .inl rfl | exact .inr ⟨_, rfl, trivial, mo_load rfl (Rd.of (.there (.there (.there .here))) (Rd.row0 rfl))⟩ | exact .inr ⟨_, rfl, trivial, mo_loadA rfl rfl (Rds.row (k := 0) (.there (.there .here)) (by intro i v hv; match i, hv with | 0, hv => exact hv | 1, hv => exact hv))⟩
  rintro v' L' ⟨nb, rfl, rfl⟩
  refine ap_loud rfl rfl rfl rfl rfl trivial (mo_append (sz := 3) (new := [.int .i64 (k : Nat), .int .u8 m.1, .int .i64 m.2]) rfl rfl rfl rfl (.there (.there (.there (.there .here)))) rfl (.inr ⟨_, _, rfl, Rds.all .here⟩) hone (by simp only [sliceLen]; omega)) ?_
  rintro v' L' rfl
  refine ap_know (of_has .here (vec_shape (by omega))) ?_
  rintro ⟨ua, un, uc, rfl, _⟩
  repeat (first
    | (apply ap_pure; exact rfl; exact rfl; (first | exact trivial | exact rfl); intro L; apply mo_nilCheck; exact rfl)
    | (apply ap_pure; exact rfl; exact rfl; (first | exact trivial | exact rfl); intro L; apply mo_fieldAddr; exact rfl; exact rfl; (first | exact Nat.zero_add _ | exact rfl)))
  refine ap_loud rfl rfl rfl rfl rfl trivial (mo_store rfl rfl rfl (Wt.row0 (k := 1) (.there (.there (.there (.there .here)))) (Nat.lt_of_sub_eq_succ rfl))) ?_
  rintro v' L' ⟨rfl, rfl⟩
  refine ap_end ?_
  have rt2 : ∀ {A C D : HProp} {M : List HProp}, Rd (A :: C :: seatR i.sb i.says i.turn i.fin :: D :: M) i.sb 0 (.chan (some i.turn)) := .there (.there (Rd.fro (k := 0) rfl rfl))
  repeat (first
    | (apply wo_po; apply mo_load; exact rfl; exact rt2; (first | exact trivial | exact rfl))
    | (apply wo_po; apply mo_build (pv := []); exact rfl; exact .nil; exact rfl; exact trivial)
    | refine we_seq ?_
    | (refine we_region _ rfl rfl ?_; simp only [opsOf, List.map_cons, List.map_nil, Option.map_none, Option.map_some, List.getElem?_toArray, List.getElem?_cons_zero, List.getElem?_cons_succ, Option.bind_some, Option.getD_some])
    | (apply wo_po; apply mo_move; exact rfl; (first | exact trivial | exact rfl))
    | (apply wo_po; apply mo_nilCheck; exact rfl; (first | exact trivial | exact rfl))
    | (apply wo_po; apply mo_fieldAddr; exact rfl; exact rfl; (first | exact Nat.zero_add _ | exact rfl); (first | exact trivial | exact rfl)))
  refine wo_turn (X := ⟨g, wg, seatSs ids p.qs, some p.s, 16384 - p.tr.length, ids.length, false, .play⟩) (j := k) (lf := 16384 - (p.tr.length + 1)) (c := ⟨i.says, i.turn, i.fin, .said q⟩) (s := p.s) (q := q) rfl rfl rfl rfl hsk rfl hpl rfl (by show 16384 - p.tr.length = _; omega) (by show ids.length = _; rw [hsz]) hok (.there (.there (.there (.there (.there (.there .here)))))) trivial ?_
  have rs2 : ∀ {A C D : HProp} {M : List HProp}, Rd (A :: C :: seatR i.sb i.says i.turn i.fin :: D :: M) i.sb 2 (.chan (some i.says)) := .there (.there (Rd.fro (k := 2) rfl rfl))
  repeat (first
    | (apply wo_po; apply mo_load; exact rfl; exact rs2; (first | exact trivial | exact rfl))
    | refine we_seq ?_
    | (refine we_region _ rfl rfl ?_; simp only [opsOf, List.map_cons, List.map_nil, Option.map_none, Option.map_some, List.getElem?_toArray, List.getElem?_cons_zero, List.getElem?_cons_succ, Option.bind_some, Option.getD_some])
    | refine wo_nil ?_
    | (apply wo_po; apply mo_move; exact rfl; (first | exact trivial | exact rfl))
    | (apply wo_po; apply mo_nilCheck; exact rfl; (first | exact trivial | exact rfl))
    | (apply wo_po; apply mo_fieldAddr; exact rfl; exact rfl; (first | exact Nat.zero_add _ | exact rfl); (first | exact trivial | exact rfl)))
  refine wo_hear (X := ⟨g, wg, (seatSs ids p.qs).set k ⟨i.says, i.turn, i.fin, .run (f p.s).1 (f p.s).2⟩, none, 16384 - (p.tr.length + 1), ids.length, false, .play⟩) (j := k) (c := ⟨i.says, i.turn, i.fin, .run (f p.s).1 (f p.s).2⟩) (s := (f p.s).1) (q := (f p.s).2) rfl rfl rfl (List.getElem?_set_self (by rw [hsz]; exact hk)) rfl rfl trivial ?_
  have hc := lastC_says (g := g) (q := (f p.s).2)
  have hov : over [.int .u8 m.1, .int .i64 m.2, .bool false] 0 (g.says (f p.s).2).cells.toList = lastQ g (f p.s).2 := by
    rw [hc]; unfold over; simp [lastC_len]
  repeat (first
    | (apply wo_po; apply mo_nilCheck; exact rfl; (first | exact trivial | exact rfl))
    | (apply wo_po; apply mo_fieldAddr; exact rfl; exact rfl; (first | exact Nat.zero_add _ | exact rfl); (first | exact trivial | exact rfl)))
  apply wo_pm
  exact mo_storeA (n := 3) (c := 3) (k := 0) (a := 3) (vs := [.int .u8 m.1, .int .i64 m.2, .bool false]) rfl rfl (by rw [← Array.length_toList, hc]; exact lastC_len) (by rw [hc]; exact lastC_one) rfl (Nat.le_refl 3) (.there (.there (.there (.there .here))))
  exact trivial
  rw [hov]
  have hset : ((seatSs ids p.qs).set k ⟨i.says, i.turn, i.fin, .run (f p.s).1 (f p.s).2⟩).set k ⟨i.says, i.turn, i.fin, .said (f p.s).2⟩ = seatSs ids (p.qs.set k (f p.s).2) := by
    rw [List.set_set]; exact (zip_set (f := seatS) hi).symm
  repeat (first
    | refine we_seq ?_
    | (refine we_region _ rfl rfl ?_; simp only [opsOf, List.map_cons, List.map_nil, Option.map_none, Option.map_some, List.getElem?_toArray, List.getElem?_cons_zero, List.getElem?_cons_succ, Option.bind_some, Option.getD_some])
    | refine wo_nil ?_
    | (apply wo_po; apply mo_assign; exact rfl; (first | exact trivial | exact rfl))
    | refine we_ret ?_)
  (first | refine at_ret1 (ex := .ret) Try.func48 Try.results48 hQ (.inl rfl) rfl ?_ | refine at_ret1 (ex := .normal) Try.func48 Try.results48 hQ (.inr rfl) rfl ?_)
  refine ⟨.slice ua un uc, rfl, ?_, fun h st => ?_⟩
  · show gx g wg (((seatSs ids p.qs).set k ⟨i.says, i.turn, i.fin, .run (f p.s).1 (f p.s).2⟩).set k ⟨i.says, i.turn, i.fin, .said (f p.s).2⟩) _ _ _ = gx g wg _ _ _ _
    rw [hset]
    simp
  · have st1 : Star (seatR i.sb i.says i.turn i.fin :: arr i.sb 3 (lastQ g (f p.s).2) :: er :: g.U (f p.s).1 :: arr pb 0 [.slice (some ⟨b, o, none⟩) ids.length c, .slice ua un uc, cs] :: vec 1 (.slice (some ⟨b, o, none⟩) ids.length c) (ptrs ids) :: vec 3 (.slice ua un uc) (trC p.tr ++ [.int .i64 (k : Nat), .int .u8 m.1, .int .i64 m.2]) :: F) h := Ent.star (.take (.there (.there (.there .here))) (.take (.there (.there (.there .here))) (.take (.there (.there (.there (.there (.there .here))))) (.take .here (.take (.there (.there .here)) (.take (.there (.there .here)) (.take .here (.drop .refl)))))))) st
    rw [← trC_app] at st1
    have s1 := seat_put hi hq st1
    exact Ent.star (.take (.there .here) (.take (.there .here) (.take (.there .here) (.take (.there .here) (.take .here .refl))))) s1

/-- TAKE -/
theorem take_tr {k : Int} (hl : ids.length = p.qs.length) (hle : p.tr.length ≤ 16384) (hok : p.tr.length < 16384 → g.ok p.s) :
    Tr Try.prog mT 48 [.pointer (some ⟨pb, 0, none⟩), .int .i64 k] (playL g pb ss ts cs ids p F) (playX g wg ids p) fun v L' x' => ∃ ts', v = .bool (takeF p k).2 ∧ L' = playL g pb ss ts' cs ids (takeF p k).1 F ∧ x' = playX g wg ids (takeF p k).1 := by
  by_cases h0 : k < 0
  · rw [show takeF p k = (p, false) by unfold takeF; rw [if_pos h0]]
    exact (take_out hl (.inl h0)).mono fun v L' x' h => ⟨ts, h⟩
  obtain ⟨n, rfl⟩ : ∃ n : Nat, k = n := ⟨k.toNat, by omega⟩
  cases hq : p.qs[n]? with
  | none =>
    have := List.getElem?_eq_none_iff.1 hq
    rw [show takeF p (n : Int) = (p, false) by unfold takeF; rw [if_neg h0, Int.toNat_natCast, hq]]
    exact (take_out hl (.inr (by omega))).mono fun v L' x' h => ⟨ts, h⟩
  | some q =>
    have hn := (List.getElem?_eq_some_iff.1 hq).1
    have hi : ids[n]? = some (ids[n]'(by omega)) := List.getElem?_eq_getElem _
    cases hpl : g.plan q with
    | none =>
      rw [show takeF p (n : Int) = (p, false) by unfold takeF; rw [if_neg h0, Int.toNat_natCast, hq]; simp only [hpl]]
      exact (take_no hi hq (.inl hpl)).mono fun v L' x' h => ⟨ts, h⟩
    | some mf =>
      obtain ⟨m, f⟩ := mf
      by_cases htr : p.tr.length = 16384
      · rw [show takeF p (n : Int) = (p, false) by unfold takeF; rw [if_neg h0, Int.toNat_natCast, hq]; simp only [hpl, if_pos htr]]
        exact (take_no hi hq (.inr htr)).mono fun v L' x' h => ⟨ts, h⟩
      · rw [show takeF p (n : Int) = (⟨(f p.s).1, p.qs.set n (f p.s).2, p.tr ++ [(n, m)]⟩, true) by unfold takeF; rw [if_neg h0, Int.toNat_natCast, hq]; simp only [hpl, if_neg htr]]
        exact (take_yes hl hi hq hpl (by omega) (hok (by omega))).mono fun v L' x' h => h
end
end Go.Proofs.Ytabbkjciifnehaa
/-
  What threads are refused for (package turn, function wrong); a drawn region with three operations that hang on none of each other.
-/
set_option linter.unusedVariables false
set_option linter.unusedSimpArgs false
namespace Go.PB
section
variable {P : Program} {B : Hand} {kd : CallKind} {n : Nat} {ops : Array Oper} {ord R : List Nat} {Pd : List Pn} {K : Post B} {e : Env} {z : Z} {L : List HProp} {x : B.X}

/-- another one comes first -/
theorem ap1_swap {i f : Nat} {ord' R' pre idx : List Nat} {t : Array Value} {h : Hp} (hf : R.contains f = true) (hR : R.erase f = R') (hord : ord' = (ord.takeWhile fun q => !(q == i)) ++ f :: i :: R') (hok : okOrd n ops ord' = true)
    (b : Ap1 P B kd n ops ord' f (i :: R') Pd K e z L x) (hpre : ord = pre ++ i :: R) (hin : ∀ p ∈ Pd, p.i ∈ pre) (ok : OkO n ops ord) (hpd : ∀ p ∈ Pd, PdOk P n ops L p) (I : InvA n ops (i :: R) Pd e (f :: idx) t) (s : Star L h) : Wr P B kd ops (f :: idx) K t z h x := by
  subst hR
  have hfR : f ∈ R := by simpa using hf
  have hnd : (pre ++ i :: R).Nodup := hpre ▸ ok.nd
  have htw : ord.takeWhile (fun q => !(q == i)) = pre := by rw [hpre]; exact takeWhile_pre hnd
  have hnd2 := List.nodup_cons.1 (List.nodup_append.1 hnd).2.1
  have hmem : ∀ y, (y ∈ f :: i :: R.erase f) ↔ y ∈ i :: R := by
    intro y
    simp only [List.mem_cons, hnd2.2.mem_erase_iff]
    constructor
    · rintro (rfl | rfl | ⟨_, h⟩)
      · exact .inr hfR
      · exact .inl rfl
      · exact .inr h
    · rintro (rfl | h)
      · exact .inr (.inl rfl)
      · by_cases e : y = f
        · exact .inl e
        · exact .inr (.inr ⟨e, h⟩)
  refine b ⟨pre, by rw [hord, htw], hin⟩ (okOrd_ok hok) hpd idx t h ⟨I.sz, I.nd, I.lt, fun q hq => ?_, fun q hq => I.all q ((hmem q).1 hq), fun p hp hh => I.dj p hp ((hmem _).1 hh), I.pu, I.resp, I.dn, I.envok, I.pok⟩ s
  rcases I.sub q hq with h1 | h1
  · exact .inl ((hmem q).2 h1)
  · exact .inr h1

/-- one of three comes first -/
theorem ap_fork3 [Lets B] {i f g : Nat} {ordf ordg Rf Rg : List Nat} (hdom : (R.all fun j => j == f || j == g || (anc ops ops.size j).contains i) = true) (hf : R.contains f = true) (hRf : R.erase f = Rf) (hordf : ordf = (ord.takeWhile fun q => !(q == i)) ++ f :: i :: Rf) (hokf : okOrd n ops ordf = true)
    (hg : R.contains g = true) (hRg : R.erase g = Rg) (hordg : ordg = (ord.takeWhile fun q => !(q == i)) ++ g :: i :: Rg) (hokg : okOrd n ops ordg = true)
    (a : Ap1 P B kd n ops ord i R Pd K e z L x) (b : Ap1 P B kd n ops ordf f (i :: Rf) Pd K e z L x) (c : Ap1 P B kd n ops ordg g (i :: Rg) Pd K e z L x) : Ap P B kd n ops ord (i :: R) Pd K e z L x := by
  rintro ⟨pre, hpre, hin⟩ ok hpd
  refine ap_run ok hpd (fun t h I s => ?_) (fun j idx t h hj I s => ?_)
  · have := I.all i (by simp); simp at this
  · by_cases hji : j = i
    · subst hji
      exact a ⟨pre, hpre, hin⟩ ok hpd idx t h I s
    · have hjf : j = f ∨ j = g := by
        rcases List.mem_cons.1 hj with h1 | h1
        · exact absurd h1 hji
        · have := (List.all_eq_true.1 hdom) j h1
          simp only [Bool.or_eq_true, beq_iff_eq, List.contains_eq_mem, decide_eq_true_eq] at this
          rcases this with h2 | h2
          · exact h2
          · exact absurd (I.all i (by simp)) (I.first ok h2)
      rcases hjf with rfl | rfl
      · exact ap1_swap hf hRf hordf hokf b hpre hin ok hpd I s
      · exact ap1_swap hg hRg hordg hokg c hpre hin ok hpd I s

theorem ap_fork2 [Lets B] {i f : Nat} {ordf Rf : List Nat} (hdom : (R.all fun j => j == f || (anc ops ops.size j).contains i) = true) (hf : R.contains f = true) (hRf : R.erase f = Rf) (hordf : ordf = (ord.takeWhile fun q => !(q == i)) ++ f :: i :: Rf) (hokf : okOrd n ops ordf = true)
    (a : Ap1 P B kd n ops ord i R Pd K e z L x) (b : Ap1 P B kd n ops ordf f (i :: Rf) Pd K e z L x) : Ap P B kd n ops ord (i :: R) Pd K e z L x := by
  subst hRf; exact ap_fork hdom hf hordf hokf a b
end
end Go.PB
namespace Go.Proofs.Ytabbkjciifnehaa
open Go Go.PB
attribute [local irreducible] Mo Bin Eql Tr Wo Ap Wle

section
variable {B : Hand} [Lets B] {L : List HProp} {x : B.X}

/-- a function's value -/
def isFn (v : Value) : Prop := ∃ f u w, v = .func f u w

theorem wrong1_nil : Tr Try.prog B 62 [.nilFunc] L x fun v L' x' => v = .bool true ∧ L' = L ∧ x' = x := by
  refine tr_of_body Try.func62 rfl Try.ntmps62 (by simp) fun um Q _ hQ => ?_
  simp only [argE, Nat.zero_add, Nat.reduceAdd]
  repeat (first
    | (apply wo_po; apply mo_bin; exact rfl; exact rfl; apply bin_eq; apply eql_nilfunc_nil; exact trivial)
    | refine we_seq ?_
    | (refine we_region _ rfl rfl ?_; simp only [opsOf, List.map_cons, List.map_nil, Option.map_none, Option.map_some, List.getElem?_toArray, List.getElem?_cons_zero, List.getElem?_cons_succ, Option.bind_some, Option.getD_some])
    | refine wo_nil ?_
    | (apply wo_po; apply mo_move; exact rfl; (first | exact trivial | exact rfl))
    | (apply wo_po; apply mo_assign; exact rfl; (first | exact trivial | exact rfl))
    | refine we_ret ?_)
  (first | refine at_ret1 (ex := .ret) Try.func62 Try.results62 hQ (.inl rfl) rfl ?_ | refine at_ret1 (ex := .normal) Try.func62 Try.results62 hQ (.inr rfl) rfl ?_)
  exact ⟨rfl, rfl, rfl⟩
theorem wrong1_fn {v : Value} (hv : isFn v) : Tr Try.prog B 62 [v] L x fun v L' x' => v = .bool false ∧ L' = L ∧ x' = x := by
  obtain ⟨f, u, w, rfl⟩ := hv
  refine tr_of_body Try.func62 rfl Try.ntmps62 (by simp) fun um Q _ hQ => ?_
  simp only [argE, Nat.zero_add, Nat.reduceAdd]
  repeat (first
    | (apply wo_po; apply mo_bin; exact rfl; exact rfl; apply bin_eq; apply eql_func_nil; exact trivial)
    | refine we_seq ?_
    | (refine we_region _ rfl rfl ?_; simp only [opsOf, List.map_cons, List.map_nil, Option.map_none, Option.map_some, List.getElem?_toArray, List.getElem?_cons_zero, List.getElem?_cons_succ, Option.bind_some, Option.getD_some])
    | refine wo_nil ?_
    | (apply wo_po; apply mo_move; exact rfl; (first | exact trivial | exact rfl))
    | (apply wo_po; apply mo_assign; exact rfl; (first | exact trivial | exact rfl))
    | refine we_ret ?_)
  (first | refine at_ret1 (ex := .ret) Try.func62 Try.results62 hQ (.inl rfl) rfl ?_ | refine at_ret1 (ex := .normal) Try.func62 Try.results62 hQ (.inr rfl) rfl ?_)
  exact ⟨rfl, rfl, rfl⟩

/-- a list that can be read -/
def RdsO (L : List HProp) (a : Option Addr) (n : Nat) (vs : List Value) : Prop := n = vs.length ∧ (n = 0 ∨ ∃ b o, a = some ⟨b, o, none⟩ ∧ Rds L b o vs)

theorem RdsO.there {L : List HProp} {c : HProp} {a : Option Addr} {n : Nat} {vs : List Value} (h : RdsO L a n vs) : RdsO (c :: L) a n vs :=
  ⟨h.1, h.2.imp id fun ⟨b, o, e, r⟩ => ⟨b, o, e, fun i v hi => .there (r i v hi)⟩⟩
theorem RdsO.rds {L : List HProp} {a : Option Addr} {n : Nat} {vs : List Value} (h : RdsO L a n vs) (hn : 0 < n) : ∃ b o, a = some ⟨b, o, none⟩ ∧ Rds L b o vs := by
  rcases h.2 with h0 | h
  · omega
  · exact h
def idxInv (tv fv : Value) (vs : List Value) (L : List HProp) (x : B.X) : PB.Inv Nat B.X where
  e := fun i => [(0, tv), (1, fv), (7, .int .i64 (vs.length : Nat)), (8, .int .i64 (i : Nat))]
  L := fun _ => L
  x := fun _ => x
  ok := fun i => i ≤ vs.length ∧ ∀ k v, k < i → vs[k]? = some v → isFn v

theorem index_tr {a : Option Addr} {n c : Nat} {vs : List Value} (hvs : ∀ v ∈ vs, v = .nilFunc ∨ isFn v) (hr : RdsO L a n vs) (hb : n < 1000000) :
    Tr Try.prog B 85 [.slice a n c, .func (.func 62) #[] #[]] L x fun v L' x' => (∃ j : Int, v = .int .i64 j ∧ ((j < 0 ∧ ∀ v ∈ vs, isFn v) ∨ (0 ≤ j ∧ .nilFunc ∈ vs))) ∧ L' = L ∧ x' = x := by
  obtain ⟨rfl, hr⟩ := hr
  refine tr_of_body Try.func85 rfl Try.ntmps85 (by simp) fun um Q _ hQ => ?_
  simp only [argE, Nat.zero_add, Nat.reduceAdd]
  repeat (first
    | refine we_seq ?_
    | (refine we_region _ rfl rfl ?_; simp only [opsOf, List.map_cons, List.map_nil, Option.map_none, Option.map_some, List.getElem?_toArray, List.getElem?_cons_zero, List.getElem?_cons_succ, Option.bind_some, Option.getD_some])
    | refine wo_nil ?_
    | (apply wo_po; apply mo_move; exact rfl; (first | exact trivial | exact rfl))
    | (apply wo_po; apply mo_assign; exact rfl; (first | exact trivial | exact rfl))
    | (apply wo_po; apply mo_len; exact rfl; (first | exact trivial | exact rfl))
    | refine we_block ?_)
  refine we_loopN (idxInv (.slice a vs.length c) (.func (.func 62) #[] #[]) vs L x) (fun i => vs.length - i) 0 ⟨by omega, fun k v h => by omega⟩ ⟨rfl, rfl, rfl, rfl, trivial⟩ .refl rfl ?_
  rintro i ⟨hi, hbe⟩
  simp only [idxInv]
  by_cases hlt : i < vs.length
  · obtain ⟨b, o, rfl, hrd⟩ : ∃ b o, a = some ⟨b, o, none⟩ ∧ Rds L b o vs := by
      rcases hr with h | h
      · omega
      · exact h
    have hri := hrd i vs[i] (List.getElem?_eq_getElem hlt)
    repeat (first
      | (apply wo_po; apply mo_index1; exact rfl; exact rfl; omega; (first | exact trivial | exact rfl))
      | (apply wo_po; apply mo_load; exact rfl; exact hri; exact trivial)
      | (apply wo_po; apply mo_bin; exact rfl; exact rfl; apply bin_lssT; omega; (first | exact trivial | exact rfl))
      | refine we_seq ?_
      | (refine we_region _ rfl rfl ?_; simp only [opsOf, List.map_cons, List.map_nil, Option.map_none, Option.map_some, List.getElem?_toArray, List.getElem?_cons_zero, List.getElem?_cons_succ, Option.bind_some, Option.getD_some])
      | refine wo_nil ?_
      | (apply wo_po; apply mo_move; exact rfl; (first | exact trivial | exact rfl))
      | (apply wo_po; apply mo_assign; exact rfl; (first | exact trivial | exact rfl))
      | (apply we_condT; exact rfl; (first | exact rfl | (simp <;> omega) | omega))
      | refine we_skip ?_
      | refine we_block ?_)
    rcases hvs vs[i] (List.getElem_mem hlt) with hv | hv
    · rw [hv]
      refine wo_callv (args := [_]) (first := []) (cap := []) rfl rfl (.cons rfl .nil) trivial (R := fun v L' x' => v = .bool true ∧ L' = L ∧ x' = x) wrong1_nil ?_
      rintro v L' x' ⟨rfl, rfl, rfl⟩
      repeat (first
        | refine we_seq ?_
        | (refine we_region _ rfl rfl ?_; simp only [opsOf, List.map_cons, List.map_nil, Option.map_none, Option.map_some, List.getElem?_toArray, List.getElem?_cons_zero, List.getElem?_cons_succ, Option.bind_some, Option.getD_some])
        | refine wo_nil ?_
        | (apply wo_po; apply mo_move; exact rfl; (first | exact trivial | exact rfl))
        | (apply wo_po; apply mo_assign; exact rfl; (first | exact trivial | exact rfl))
        | (apply we_condT; exact rfl; (first | exact rfl | (simp <;> omega) | omega))
        | refine we_ret ?_)
      (first | refine at_ret1 (ex := .ret) Try.func85 Try.results85 hQ (.inl rfl) rfl ?_ | refine at_ret1 (ex := .normal) Try.func85 Try.results85 hQ (.inr rfl) rfl ?_)
      exact ⟨⟨_, rfl, .inr ⟨by omega, by rw [← hv]; exact List.getElem_mem hlt⟩⟩, rfl, rfl⟩
    · refine wo_callv (args := [_]) (first := []) (cap := []) rfl rfl (.cons rfl .nil) trivial (R := fun v L' x' => v = .bool false ∧ L' = L ∧ x' = x) (wrong1_fn hv) ?_
      rintro v L' x' ⟨rfl, rfl, rfl⟩
      repeat (first
        | (refine we_region _ rfl rfl ?_; simp only [opsOf, List.map_cons, List.map_nil, Option.map_none, Option.map_some, List.getElem?_toArray, List.getElem?_cons_zero, List.getElem?_cons_succ, Option.bind_some, Option.getD_some])
        | refine wo_nil ?_
        | (apply wo_po; apply mo_move; exact rfl; (first | exact trivial | exact rfl))
        | (apply wo_po; apply mo_bin; exact rfl; exact rfl; apply bin_add; exact wrap_i64 (by omega) (by omega); (first | exact trivial | exact rfl))
        | (apply we_condF; exact rfl; (first | exact rfl | (simp <;> omega) | omega))
        | refine we_skip ?_)
      refine at_round (I := idxInv (.slice (some ⟨b, o, none⟩) vs.length c) (.func (.func 62) #[] #[]) vs _ x') (R := fun j => vs.length - j < vs.length - i) (i + 1) (by omega) ⟨by omega, fun k v hk hv' => ?_⟩ ⟨rfl, rfl, rfl, rfl, trivial⟩ .refl rfl
      by_cases e : k = i
      · subst e; rw [List.getElem?_eq_getElem hlt] at hv'; cases hv'; exact hv
      · exact hbe k v (by omega) hv'
  · repeat (first
      | (apply wo_po; apply mo_bin; exact rfl; exact rfl; apply bin_lssF; omega; (first | exact trivial | exact rfl))
      | refine we_seq ?_
      | (refine we_region _ rfl rfl ?_; simp only [opsOf, List.map_cons, List.map_nil, Option.map_none, Option.map_some, List.getElem?_toArray, List.getElem?_cons_zero, List.getElem?_cons_succ, Option.bind_some, Option.getD_some])
      | refine wo_nil ?_
      | (apply wo_po; apply mo_assign; exact rfl; (first | exact trivial | exact rfl))
      | (apply we_condF; exact rfl; (first | exact rfl | (simp <;> omega) | omega))
      | refine we_ret ?_
      | refine we_exit ?_)
    (first | refine at_ret1 (ex := .ret) Try.func85 Try.results85 hQ (.inl rfl) rfl ?_ | refine at_ret1 (ex := .normal) Try.func85 Try.results85 hQ (.inr rfl) rfl ?_)
    refine ⟨⟨_, rfl, .inl ⟨by omega, fun v hv => ?_⟩⟩, rfl, rfl⟩
    obtain ⟨k, hk⟩ := List.mem_iff_getElem?.1 hv
    exact hbe k v (by have := (List.getElem?_eq_some_iff.1 hk).1; omega) hk

theorem contains_tr {a : Option Addr} {n c : Nat} {vs : List Value} (hvs : ∀ v ∈ vs, v = .nilFunc ∨ isFn v) (hr : RdsO L a n vs) (hb : n < 1000000) :
    Tr Try.prog B 61 [.slice a n c, .func (.func 62) #[] #[]] L x fun v L' x' => (∃ q, v = .bool q ∧ (if q = true then .nilFunc ∈ vs else ∀ v ∈ vs, isFn v)) ∧ L' = L ∧ x' = x := by
  refine tr_of_body Try.func61 rfl Try.ntmps61 (by simp) fun um Q _ hQ => ?_
  simp only [argE, Nat.zero_add, Nat.reduceAdd]
  repeat (first
    | refine we_seq ?_
    | (refine we_region _ rfl rfl ?_; simp only [opsOf, List.map_cons, List.map_nil, Option.map_none, Option.map_some, List.getElem?_toArray, List.getElem?_cons_zero, List.getElem?_cons_succ, Option.bind_some, Option.getD_some])
    | refine wo_nil ?_
    | (apply wo_po; apply mo_move; exact rfl; (first | exact trivial | exact rfl))
    | (apply wo_po; apply mo_assign; exact rfl; (first | exact trivial | exact rfl)))
  refine wo_call (.cons rfl (.cons rfl .nil)) trivial (index_tr hvs hr hb) ?_
  rintro v L' x' ⟨⟨j, rfl, hj⟩, rfl, rfl⟩
  rcases hj with ⟨h1, h2⟩ | ⟨h1, h2⟩
  · repeat (first
      | (apply wo_po; apply mo_bin; exact rfl; exact rfl; apply bin_geqF; omega; (first | exact trivial | exact rfl))
      | refine wo_nil ?_
      | (apply wo_po; apply mo_assign; exact rfl; (first | exact trivial | exact rfl))
      | refine we_ret ?_)
    (first | refine at_ret1 (ex := .ret) Try.func61 Try.results61 hQ (.inl rfl) rfl ?_ | refine at_ret1 (ex := .normal) Try.func61 Try.results61 hQ (.inr rfl) rfl ?_)
    exact ⟨⟨false, rfl, h2⟩, rfl, rfl⟩
  · repeat (first
      | (apply wo_po; apply mo_bin; exact rfl; exact rfl; apply bin_geqT; omega; (first | exact trivial | exact rfl))
      | refine wo_nil ?_
      | (apply wo_po; apply mo_assign; exact rfl; (first | exact trivial | exact rfl))
      | refine we_ret ?_)
    (first | refine at_ret1 (ex := .ret) Try.func61 Try.results61 hQ (.inl rfl) rfl ?_ | refine at_ret1 (ex := .normal) Try.func61 Try.results61 hQ (.inr rfl) rfl ?_)
    exact ⟨⟨true, rfl, h2⟩, rfl, rfl⟩

/-- WHAT THREADS ARE REFUSED FOR -/
theorem wrong_tr {a : Option Addr} {n c : Nat} {vs : List Value} (hvs : ∀ v ∈ vs, v = .nilFunc ∨ isFn v) (hr : RdsO L a n vs) (hb : n < 1000000) :
    Tr Try.prog B 46 [.slice a n c] L x fun v L' x' => (∃ k : Int, v = .int .i64 k ∧ (((k = 1 ∧ .nilFunc ∈ vs) ∨ ((∀ v ∈ vs, isFn v) ∧ k = if vs.length = 0 then 2 else if 16 < vs.length then 4 else 0)))) ∧ L' = L ∧ x' = x := by
  have hn := hr.1
  refine tr_of_body Try.func46 rfl Try.ntmps46 (by simp) fun um Q _ hQ => ?_
  simp only [argE, Nat.zero_add, Nat.reduceAdd]
  repeat (first
    | refine we_seq ?_
    | (refine we_region _ rfl rfl ?_; simp only [opsOf, List.map_cons, List.map_nil, Option.map_none, Option.map_some, List.getElem?_toArray, List.getElem?_cons_zero, List.getElem?_cons_succ, Option.bind_some, Option.getD_some])
    | refine wo_nil ?_
    | (apply wo_po; apply mo_move; exact rfl; (first | exact trivial | exact rfl))
    | (apply wo_po; apply mo_assign; exact rfl; (first | exact trivial | exact rfl))
    | refine we_block ?_)
  refine wo_call (.cons rfl (.cons rfl .nil)) trivial (contains_tr hvs hr hb) ?_
  rintro v L' x' ⟨⟨q, rfl, hq⟩, rfl, rfl⟩
  cases q with
  | true =>
    repeat (first
      | refine we_seq ?_
      | (refine we_region _ rfl rfl ?_; simp only [opsOf, List.map_cons, List.map_nil, Option.map_none, Option.map_some, List.getElem?_toArray, List.getElem?_cons_zero, List.getElem?_cons_succ, Option.bind_some, Option.getD_some])
      | refine wo_nil ?_
      | (apply wo_po; apply mo_assign; exact rfl; (first | exact trivial | exact rfl))
      | (apply we_condT; exact rfl; (first | exact rfl | (simp <;> omega) | omega))
      | refine we_ret ?_)
    (first | refine at_ret1 (ex := .ret) Try.func46 Try.results46 hQ (.inl rfl) rfl ?_ | refine at_ret1 (ex := .normal) Try.func46 Try.results46 hQ (.inr rfl) rfl ?_)
    exact ⟨⟨_, rfl, .inl ⟨rfl, hq⟩⟩, rfl, rfl⟩
  | false =>
    by_cases h0 : n = 0
    · repeat (first
        | (apply wo_po; apply mo_bin; exact rfl; exact rfl; apply bin_eqlT; omega; (first | exact trivial | exact rfl))
        | refine we_seq ?_
        | (refine we_region _ rfl rfl ?_; simp only [opsOf, List.map_cons, List.map_nil, Option.map_none, Option.map_some, List.getElem?_toArray, List.getElem?_cons_zero, List.getElem?_cons_succ, Option.bind_some, Option.getD_some])
        | refine wo_nil ?_
        | (apply wo_po; apply mo_move; exact rfl; (first | exact trivial | exact rfl))
        | (apply wo_po; apply mo_assign; exact rfl; (first | exact trivial | exact rfl))
        | (apply wo_po; apply mo_len; exact rfl; (first | exact trivial | exact rfl))
        | (apply we_condT; exact rfl; (first | exact rfl | (simp <;> omega) | omega))
        | (apply we_condF; exact rfl; (first | exact rfl | (simp <;> omega) | omega))
        | refine we_ret ?_)
      (first | refine at_ret1 (ex := .ret) Try.func46 Try.results46 hQ (.inl rfl) rfl ?_ | refine at_ret1 (ex := .normal) Try.func46 Try.results46 hQ (.inr rfl) rfl ?_)
      exact ⟨⟨_, rfl, .inr ⟨hq, by rw [if_pos (by omega)]⟩⟩, rfl, rfl⟩
    by_cases h1 : 16 < n
    · repeat (first
        | (apply wo_po; apply mo_bin; exact rfl; exact rfl; apply bin_gtrT; omega; (first | exact trivial | exact rfl))
        | (apply wo_po; apply mo_bin; exact rfl; exact rfl; apply bin_eqlF; omega; (first | exact trivial | exact rfl))
        | refine we_seq ?_
        | (refine we_region _ rfl rfl ?_; simp only [opsOf, List.map_cons, List.map_nil, Option.map_none, Option.map_some, List.getElem?_toArray, List.getElem?_cons_zero, List.getElem?_cons_succ, Option.bind_some, Option.getD_some])
        | refine wo_nil ?_
        | (apply wo_po; apply mo_move; exact rfl; (first | exact trivial | exact rfl))
        | (apply wo_po; apply mo_assign; exact rfl; (first | exact trivial | exact rfl))
        | (apply wo_po; apply mo_len; exact rfl; (first | exact trivial | exact rfl))
        | (apply we_condT; exact rfl; (first | exact rfl | (simp <;> omega) | omega))
        | (apply we_condF; exact rfl; (first | exact rfl | (simp <;> omega) | omega))
        | refine we_ret ?_)
      (first | refine at_ret1 (ex := .ret) Try.func46 Try.results46 hQ (.inl rfl) rfl ?_ | refine at_ret1 (ex := .normal) Try.func46 Try.results46 hQ (.inr rfl) rfl ?_)
      exact ⟨⟨_, rfl, .inr ⟨hq, by rw [if_neg (by omega), if_pos (by omega)]⟩⟩, rfl, rfl⟩
    · repeat (first
        | (apply wo_po; apply mo_bin; exact rfl; exact rfl; apply bin_gtrF; omega; (first | exact trivial | exact rfl))
        | (apply wo_po; apply mo_bin; exact rfl; exact rfl; apply bin_eqlF; omega; (first | exact trivial | exact rfl))
        | refine we_seq ?_
        | (refine we_region _ rfl rfl ?_; simp only [opsOf, List.map_cons, List.map_nil, Option.map_none, Option.map_some, List.getElem?_toArray, List.getElem?_cons_zero, List.getElem?_cons_succ, Option.bind_some, Option.getD_some])
        | refine wo_nil ?_
        | (apply wo_po; apply mo_move; exact rfl; (first | exact trivial | exact rfl))
        | (apply wo_po; apply mo_assign; exact rfl; (first | exact trivial | exact rfl))
        | (apply wo_po; apply mo_len; exact rfl; (first | exact trivial | exact rfl))
        | (apply we_condF; exact rfl; (first | exact rfl | (simp <;> omega) | omega))
        | refine we_ret ?_
        | refine we_skip ?_)
      (first | refine at_ret1 (ex := .ret) Try.func46 Try.results46 hQ (.inl rfl) rfl ?_ | refine at_ret1 (ex := .normal) Try.func46 Try.results46 hQ (.inr rfl) rfl ?_)
      exact ⟨⟨_, rfl, .inr ⟨hq, by rw [if_neg (by omega), if_neg (by omega)]⟩⟩, rfl, rfl⟩
end
end Go.Proofs.Ytabbkjciifnehaa
