/-
  turn.Play against a plain model ('playF'): threads are started, take turns by an order, then round after round; those left are cut off; all have ended.
-/
import Derived.Test.YtabbkjciifnehaaWrong
set_option linter.unusedVariables false
set_option linter.unusedSimpArgs false
namespace Go.Proofs.Ytabbkjciifnehaa
open Go Go.PB
attribute [local irreducible] Mo Bin Eql Tr Wo Ap Wle
attribute [local instance] Pass.of_no

/-- a thread that is handed in -/
structure Thr (g : Game) where
  fv : Value
  ini : g.σ → g.σ × g.θ
  M : HProp

section
variable {g : Game}
/-- the threads run up to their first steps -/
def startF : List (Thr g) → g.σ → g.σ × List g.θ
  | [], s => (s, [])
  | t :: ts, s => ((startF ts (t.ini s).1).1, (t.ini s).2 :: (startF ts (t.ini s).1).2)
theorem startF_snoc {t : Thr g} : ∀ (l : List (Thr g)) (s : g.σ), startF (l ++ [t]) s = ((t.ini (startF l s).1).1, (startF l s).2 ++ [(t.ini (startF l s).1).2])
  | [], s => rfl
  | a :: l, s => by simp only [List.cons_append, startF, startF_snoc l]
theorem startF_len : ∀ (l : List (Thr g)) (s : g.σ), (startF l s).2.length = l.length
  | [], s => rfl
  | a :: l, s => by simp [startF, startF_len l]
/-- turns by an order -/
def ordF (p : PS g) (order : List Int) : PS g := order.foldl (fun p k => (takeF p k).1) p
/-- the first so many threads of a round -/
def roundF (p : PS g) : Nat → PS g × Bool
  | 0 => (p, false)
  | k + 1 => ((takeF (roundF p k).1 k).1, (takeF (roundF p k).1 k).2 || (roundF p k).2)
/-- round after round -/
def restF : Nat → PS g → PS g
  | 0, p => p
  | n + 1, p => if (roundF p p.qs.length).2 = true then restF n (roundF p p.qs.length).1 else (roundF p p.qs.length).1
def playF (ts : List (Thr g)) (s : g.σ) (order : List Int) : PS g := restF 16385 (ordF ⟨(startF ts s).1, (startF ts s).2, []⟩ order)
/-- who is cut off -/
def cutF (g : Game) (qs : List g.θ) : List Nat := (List.range qs.length).filter fun k => ((qs[k]?).bind g.plan).isSome
def cutC (l : List Nat) : List Value := l.map fun k => .int .i64 (k : Nat)

theorem roundF_len (p : PS g) : ∀ n, (roundF p n).1.qs.length = p.qs.length
  | 0 => rfl
  | n + 1 => by show (takeF _ _).1.qs.length = _; rw [takeF_len, roundF_len p n]
theorem roundF_le {p : PS g} (h : p.tr.length ≤ 16384) : ∀ n, (roundF p n).1.tr.length ≤ 16384
  | 0 => h
  | n + 1 => takeF_le (roundF_le h n) _
/-- nothing, or a turn -/
theorem takeF_cases (p : PS g) (k : Int) : takeF p k = (p, false) ∨ ∃ (n : Nat) (q : g.θ) (m : Int × Int) (f : g.σ → g.σ × g.θ), k = n ∧ p.qs[n]? = some q ∧ g.plan q = some (m, f) ∧ p.tr.length ≠ 16384 ∧ takeF p k = (⟨(f p.s).1, p.qs.set n (f p.s).2, p.tr ++ [(n, m)]⟩, true) := by
  by_cases h0 : k < 0
  · left; unfold takeF; rw [if_pos h0]
  obtain ⟨n, rfl⟩ : ∃ n : Nat, k = n := ⟨k.toNat, by omega⟩
  cases hq : p.qs[n]? with
  | none => left; unfold takeF; rw [if_neg h0, Int.toNat_natCast, hq]
  | some q =>
    cases hpl : g.plan q with
    | none => left; unfold takeF; rw [if_neg h0, Int.toNat_natCast, hq]; simp only [hpl]
    | some mf =>
      obtain ⟨m, f⟩ := mf
      by_cases htr : p.tr.length = 16384
      · left; unfold takeF; rw [if_neg h0, Int.toNat_natCast, hq]; simp only [hpl, if_pos htr]
      · right; refine ⟨n, q, m, f, rfl, hq, hpl, htr, ?_⟩
        unfold takeF; rw [if_neg h0, Int.toNat_natCast, hq]; simp only [hpl, if_neg htr]
theorem takeF_grow (p : PS g) (k : Int) : p.tr.length + (if (takeF p k).2 = true then 1 else 0) ≤ (takeF p k).1.tr.length := by
  rcases takeF_cases p k with h | ⟨n, q, m, f, _, _, _, _, h⟩ <;> rw [h] <;> simp
theorem roundF_grow (p : PS g) : ∀ n, p.tr.length + (if (roundF p n).2 = true then 1 else 0) ≤ (roundF p n).1.tr.length
  | 0 => by simp [roundF]
  | n + 1 => by
    have h1 := roundF_grow p n
    have h2 := takeF_grow (roundF p n).1 n
    show p.tr.length + (if ((takeF (roundF p n).1 n).2 || (roundF p n).2) = true then 1 else 0) ≤ (takeF (roundF p n).1 n).1.tr.length
    cases h3 : (takeF (roundF p n).1 n).2 <;> cases h4 : (roundF p n).2 <;> simp [h3, h4] at h1 h2 ⊢ <;> omega
theorem ordF_len (order : List Int) : ∀ p : PS g, (ordF p order).qs.length = p.qs.length := by
  induction order with
  | nil => intro p; rfl
  | cons k l ih => intro p; show (ordF (takeF p k).1 l).qs.length = _; rw [ih, takeF_len]
theorem ordF_le (order : List Int) : ∀ p : PS g, p.tr.length ≤ 16384 → (ordF p order).tr.length ≤ 16384 := by
  induction order with
  | nil => intro p h; exact h
  | cons k l ih => intro p h; exact ih _ (takeF_le h k)
theorem ordF_snoc (p : PS g) (l : List Int) (k : Int) : ordF p (l ++ [k]) = (takeF (ordF p l) k).1 := by simp [ordF]

/-- those of the first j that are cut off -/
def cutN (g : Game) (qs : List g.θ) (j : Nat) : List Nat := (List.range j).filter fun k => ((qs[k]?).bind g.plan).isSome
theorem cutN_succ {qs : List g.θ} {j : Nat} : cutN g qs (j + 1) = cutN g qs j ++ (if ((qs[j]?).bind g.plan).isSome = true then [j] else []) := by
  unfold cutN
  rw [List.range_succ, List.filter_append]
  congr 1
  simp only [List.filter_cons, List.filter_nil]

/-- the first j are shut -/
def shutS (ids : List SId) (qs : List g.θ) (j : Nat) : List (Seat g.σ g.θ) := (List.zip ids qs).mapIdx fun k iq => if k < j then ⟨iq.1.says, iq.1.turn, iq.1.fin, .shut iq.2⟩ else seatS iq.1 iq.2
theorem shutS_zero {ids : List SId} {qs : List g.θ} : shutS ids qs 0 = seatSs ids qs := by
  apply List.ext_getElem?
  intro k
  simp only [shutS, List.getElem?_mapIdx, seatSs, List.getElem?_zipWith, List.getElem?_zip_eq_some, List.zip, Nat.not_lt_zero, if_false]
  cases ids[k]? <;> cases qs[k]? <;> rfl
theorem shutS_len {ids : List SId} {qs : List g.θ} {j : Nat} (h : ids.length = qs.length) : (shutS ids qs j).length = ids.length := by simp [shutS]; omega
theorem shutS_get {ids : List SId} {qs : List g.θ} {j k : Nat} {i : SId} {q : g.θ} (hi : ids[k]? = some i) (hq : qs[k]? = some q) : (shutS ids qs j)[k]? = some (if k < j then ⟨i.says, i.turn, i.fin, .shut q⟩ else seatS i q) := by
  simp [shutS, List.getElem?_mapIdx, List.zip, List.getElem?_zipWith, hi, hq]
theorem shutS_succ {ids : List SId} {qs : List g.θ} {j : Nat} {i : SId} {q : g.θ} (hi : ids[j]? = some i) (hq : qs[j]? = some q) : (shutS ids qs j).set j ⟨i.says, i.turn, i.fin, .shut q⟩ = shutS ids qs (j + 1) := by
  apply List.ext_getElem?
  intro k
  have hj : j < (shutS ids qs j).length := (List.getElem?_eq_some_iff.1 (shutS_get (j := j) hi hq)).1
  rw [List.getElem?_set]
  by_cases e : j = k
  · subst e
    rw [if_pos rfl, if_pos hj, shutS_get hi hq, if_pos (by omega)]
  · rw [if_neg e]
    simp only [shutS, List.getElem?_mapIdx]
    cases (ids.zip qs)[k]? with
    | none => rfl
    | some iq =>
      simp only [Option.map_some, Option.some.injEq]
      by_cases h : k < j
      · rw [if_pos h, if_pos (by omega)]
      · rw [if_neg h, if_neg (by omega)]
theorem shutS_all {ids : List SId} {qs : List g.θ} (h : ids.length = qs.length) : (shutS ids qs ids.length).map Seat.fins = qs.map g.Fin := by
  apply List.ext_getElem?
  intro k
  by_cases hk : k < ids.length
  · have hi := List.getElem?_eq_getElem hk
    have hq := List.getElem?_eq_getElem (show k < qs.length by omega)
    rw [List.getElem?_map, shutS_get hi hq, if_pos hk, List.getElem?_map, hq]
    rfl
  · rw [List.getElem?_eq_none (by simp [shutS_len h]; omega), List.getElem?_eq_none (by simp; omega)]
theorem shutS_closed {ids : List SId} {qs : List g.θ} (h : ids.length = qs.length) : ∀ s ∈ shutS ids qs ids.length, s.closed := by
  intro s hs
  obtain ⟨k, hk⟩ := List.mem_iff_getElem?.1 hs
  have hlt := (List.getElem?_eq_some_iff.1 hk).1
  rw [shutS_len h] at hlt
  rw [shutS_get (List.getElem?_eq_getElem hlt) (List.getElem?_eq_getElem (show k < qs.length by omega)), if_pos hlt] at hk
  cases hk
  trivial
end

section
variable {g : Game} {ts : List (Thr g)} {s0 : g.σ} {F : List HProp} {wg pb rb : Nat} {ov tv : Value}

/-- the first chunk of some -/
theorem star_head {c : HProp} {M L : List HProp} {h : Hp} (s : Star (all (c :: M) :: L) h) : Star (c :: all M :: L) h :=
  star_map (star_open s) (fun _ a => a) (fun _ st => star_shut (M := M) st)

/-- ahead of a thread's start -/
def startInv (ts : List (Thr g)) (s0 : g.σ) (wg pb rb : Nat) (ov tv : Value) (F : List HProp) : PB.Inv (Nat × g.σ × List g.θ × List SId × Value) MX where
  e := fun i => [(0, ov), (1, tv), (4, .pointer (some ⟨rb, 0, none⟩)), (7, .pointer (some ⟨wg, 0, none⟩)), (8, .pointer (some ⟨pb, 0, none⟩)), (28, tv), (29, .int .i64 (ts.length : Nat)), (30, .int .i64 (i.1 : Nat))]
  L := fun i => g.U i.2.1 :: arr pb 0 [i.2.2.2.2, .slice none 0 0, .slice none 0 0] :: vec 1 i.2.2.2.2 (ptrs i.2.2.2.1) :: all (seatCs g i.2.2.2.1 i.2.2.1) :: all ((ts.drop i.1).map Thr.M) :: arr rb 0 [.slice none 0 0, .slice none 0 0] :: F
  x := fun i => gx g wg (seatSs i.2.2.2.1 i.2.2.1) (some i.2.1) 16384 (seatSs i.2.2.2.1 i.2.2.1).length
  ok := fun i => i.1 ≤ ts.length ∧ i.2.2.2.1.length = i.1 ∧ startF (ts.take i.1) s0 = (i.2.1, i.2.2.1)

/-- behind a seat's making -/
def seatMid (wg pb rb j n : Nat) (ov tv fv : Value) (x : MX) (L : List HProp) : PB.Inv (Nat × Nat × Nat × Nat) MX where
  e := fun i => [(0, ov), (1, tv), (4, .pointer (some ⟨rb, 0, none⟩)), (7, .pointer (some ⟨wg, 0, none⟩)), (8, .pointer (some ⟨pb, 0, none⟩)), (28, tv), (29, .int .i64 (n : Nat)), (30, .int .i64 (j : Nat)), (10, fv), (11, .pointer (some ⟨i.1, 0, none⟩))]
  L := fun i => arr i.1 0 [.chan (some i.2.2.1), .chan (some i.2.2.2), .chan (some i.2.1), .int .u8 0, .int .i64 0, .bool false] :: ob i.2.1 newChan :: ob i.2.2.1 newChan :: ob i.2.2.2 newChan :: L
  x := fun _ => x
  ok := fun _ => True

/-- ahead of a turn of the order -/
def ordInv (p0 : PS g) (order : List Int) (ids : List SId) (wg pb rb : Nat) (ov : Value) (ss : Value) (F : List HProp) : PB.Inv (Nat × Value) MX where
  e := fun i => [(4, .pointer (some ⟨rb, 0, none⟩)), (7, .pointer (some ⟨wg, 0, none⟩)), (8, .pointer (some ⟨pb, 0, none⟩)), (49, ov), (50, .int .i64 (order.length : Nat)), (51, .int .i64 (i.1 : Nat))]
  L := fun i => playL g pb ss i.2 (.slice none 0 0) ids (ordF p0 (order.take i.1)) F
  x := fun i => playX g wg ids (ordF p0 (order.take i.1))
  ok := fun i => i.1 ≤ order.length

/-- ahead of a round -/
def restInv (I : PS g → Prop) (p0 : PS g) (ids : List SId) (wg pb rb : Nat) (ss : Value) (F : List HProp) : PB.Inv (Nat × PS g × Value × Bool) MX where
  e := fun i => [(4, .pointer (some ⟨rb, 0, none⟩)), (7, .pointer (some ⟨wg, 0, none⟩)), (8, .pointer (some ⟨pb, 0, none⟩)), (14, .bool i.2.2.2)]
  L := fun i => playL g pb ss i.2.2.1 (.slice none 0 0) ids i.2.1 F
  x := fun i => playX g wg ids i.2.1
  ok := fun i => I i.2.1 ∧ i.2.1.qs.length = p0.qs.length ∧ i.2.1.tr.length ≤ 16384 ∧ (if i.2.2.2 = true then restF i.1 i.2.1 = restF 16385 p0 ∧ 16384 < i.2.1.tr.length + i.1 else i.2.1 = restF 16385 p0)

/-- ahead of a turn of a round -/
def rndInv (p : PS g) (ids : List SId) (wg pb rb : Nat) (ss : Value) (F : List HProp) : PB.Inv (Nat × Value) MX where
  e := fun i => [(4, .pointer (some ⟨rb, 0, none⟩)), (7, .pointer (some ⟨wg, 0, none⟩)), (8, .pointer (some ⟨pb, 0, none⟩)), (14, .bool (roundF p i.1).2), (61, .int .i64 (ids.length : Nat)), (62, .int .i64 (i.1 : Nat))]
  L := fun i => playL g pb ss i.2 (.slice none 0 0) ids (roundF p i.1).1 F
  x := fun i => playX g wg ids (roundF p i.1).1
  ok := fun i => i.1 ≤ ids.length

/-- ahead of a cut -/
def cutInv (p : PS g) (ids : List SId) (wg pb rb : Nat) (ss tsv : Value) (F : List HProp) : PB.Inv (Nat × Value) MX where
  e := fun i => [(4, .pointer (some ⟨rb, 0, none⟩)), (7, .pointer (some ⟨wg, 0, none⟩)), (8, .pointer (some ⟨pb, 0, none⟩)), (72, ss), (73, .int .i64 (ids.length : Nat)), (74, .int .i64 (i.1 : Nat))]
  L := fun i => vec 1 i.2 (cutC (cutN g p.qs i.1)) :: arr pb 0 [ss, tsv, i.2] :: vec 1 ss (ptrs ids) :: vec 3 tsv (trC p.tr) :: all (seatCs g ids p.qs) :: g.U p.s :: F
  x := fun i => gx g wg (shutS ids p.qs i.1) (some p.s) (16384 - p.tr.length) ids.length
  ok := fun i => i.1 ≤ ids.length

set_option maxHeartbeats 4000000 in
/-- PLAY -/
theorem play_tr {oa ta : Option Addr} {on oc tn tc : Nat} {order : List Int} (I : PS g → Prop) (hS : ∀ j, j < ts.length → g.ok (startF (ts.take j) s0).1) (hI0 : I ⟨(startF ts s0).1, (startF ts s0).2, []⟩) (hIs : ∀ p k, I p → I (takeF p k).1) (hIo : ∀ p, I p → p.tr.length < 16384 → g.ok p.s) (hfin : ∀ q h, g.Pv q h → g.Fin q h) (hts : ∀ t ∈ ts, ThrOk g t.ini t.fv t.M) (h1 : 0 < ts.length) (h16 : ts.length ≤ 16) (hor : order.length ≤ 16384)
    (hrt : RdsO F ta tn (ts.map Thr.fv)) (hro : RdsO F oa on (order.map fun k => .int .i64 k)) :
    Tr Try.prog mT 17 [.slice oa on oc, .slice ta tn tc] (g.U s0 :: all (ts.map Thr.M) :: F) .idle fun v L' x' =>
      ∃ tv cv, v = .tuple #[.agg #[tv, cv], .int .i64 0] ∧ x' = .idle ∧ L' = vec 3 tv (trC (playF ts s0 order).tr) :: vec 1 cv (cutC (cutN g (playF ts s0 order).qs ts.length)) :: g.U (playF ts s0 order).s :: all ((playF ts s0 order).qs.map g.Fin) :: F := by
  refine Tr.post (R := fun v L' x' => ∃ tv cv, v = .tuple #[.agg #[tv, cv], .int .i64 0] ∧ x' = MX.idle ∧ ∀ h, Star L' h → Star (vec 3 tv (trC (playF ts s0 order).tr) :: vec 1 cv (cutC (cutN g (playF ts s0 order).qs ts.length)) :: g.U (playF ts s0 order).s :: all ((playF ts s0 order).qs.map g.Fin) :: F) h) ?_
    (by rintro v L' x' ⟨tv, cv, rfl, rfl, h2⟩; exact ⟨_, ⟨tv, cv, rfl, rfl, rfl⟩, h2⟩)
  have hfn : ∀ v ∈ ts.map Thr.fv, isFn v := by
    intro v hv
    obtain ⟨t, ht, rfl⟩ := List.mem_map.1 hv
    obtain ⟨f, first, cap, hc, _⟩ := (hts t ht).run
    revert hc
    cases t.fv with
    | func a b c => exact fun _ => ⟨a, b, c, rfl⟩
    | _ => intro hc; cases hc
  have hIord : ∀ (l : List Int) (p : PS g), I p → I (ordF p l) := by
    intro l
    induction l with
    | nil => exact fun p h => h
    | cons k l ih => exact fun p h => ih _ (hIs p k h)
  have hIrnd : ∀ (p : PS g) k, I p → I (roundF p k).1 := by
    intro p k h
    induction k with
    | zero => exact h
    | succ k ih => exact hIs _ _ ih
  have htn : tn = ts.length := by have := hrt.1; simpa using this
  have hon : on = order.length := by have := hro.1; simpa using this
  subst htn
  subst hon
  refine tr_of_body Try.func17 rfl Try.ntmps17 (by simp) fun um Q _ hQ => ?_
  simp only [argE, Nat.zero_add, Nat.reduceAdd]
  repeat (first
    | (apply wo_mo; apply mo_alloc; exact trivial)
    | refine we_seq ?_
    | (refine we_region _ rfl rfl ?_; simp only [opsOf, List.map_cons, List.map_nil, Option.map_none, Option.map_some, List.getElem?_toArray, List.getElem?_cons_zero, List.getElem?_cons_succ, Option.bind_some, Option.getD_some]))
  rintro v' L' ⟨rb, rfl, rfl⟩
  repeat (first
    | refine we_seq ?_
    | (refine we_region _ rfl rfl ?_; simp only [opsOf, List.map_cons, List.map_nil, Option.map_none, Option.map_some, List.getElem?_toArray, List.getElem?_cons_zero, List.getElem?_cons_succ, Option.bind_some, Option.getD_some])
    | refine wo_nil ?_
    | (apply wo_po; apply mo_move; exact rfl; (first | exact trivial | exact rfl))
    | (apply wo_po; apply mo_assign; exact rfl; (first | exact trivial | exact rfl)))
  refine wo_call (.cons rfl .nil) trivial (wrong_tr (fun v hv => .inr (hfn v hv)) hrt.there.there.there (by omega)) ?_
  rintro v' L' x' ⟨⟨k, rfl, hk⟩, rfl, rfl⟩
  obtain rfl : k = 0 := by
    rcases hk with ⟨_, h⟩ | ⟨_, h⟩
    · obtain ⟨_, _, _, h⟩ := hfn _ h; cases h
    · rw [h, List.length_map, if_neg (by omega), if_neg (by omega)]
  repeat (first
    | (apply wo_mo; apply mo_allocS; exact trivial)
    | (apply wo_po; apply mo_bin; exact rfl; exact rfl; apply bin_gtrF; omega; (first | exact trivial | exact rfl))
    | (apply wo_po; apply mo_bin; exact rfl; exact rfl; apply bin_neqF; omega; (first | exact trivial | exact rfl))
    | refine we_seq ?_
    | (refine we_region _ rfl rfl ?_; simp only [opsOf, List.map_cons, List.map_nil, Option.map_none, Option.map_some, List.getElem?_toArray, List.getElem?_cons_zero, List.getElem?_cons_succ, Option.bind_some, Option.getD_some])
    | refine wo_nil ?_
    | (apply wo_po; apply mo_move; exact rfl; (first | exact trivial | exact rfl))
    | (apply wo_po; apply mo_assign; exact rfl; (first | exact trivial | exact rfl))
    | (apply wo_po; apply mo_len; exact rfl; (first | exact trivial | exact rfl))
    | (apply we_condF; exact rfl; (first | exact rfl | (simp <;> omega) | omega))
    | refine we_skip ?_)
  rintro v' L' ⟨wg, rfl, rfl⟩
  repeat (first
    | refine we_seq ?_
    | (refine we_region _ rfl rfl ?_; simp only [opsOf, List.map_cons, List.map_nil, Option.map_none, Option.map_some, List.getElem?_toArray, List.getElem?_cons_zero, List.getElem?_cons_succ, Option.bind_some, Option.getD_some])
    | refine wo_nil ?_)
  refine wo_begin g s0 (wg := wg) (R := arr rb 0 [.slice none 0 0, .slice none 0 0] :: g.U s0 :: all (ts.map Thr.M) :: F) (fun h st => st) ?_
  repeat (first
    | (apply wo_mo; apply mo_alloc; exact trivial))
  rintro v' L' ⟨pb, rfl, rfl⟩
  repeat (first
    | refine we_seq ?_
    | (refine we_region _ rfl rfl ?_; simp only [opsOf, List.map_cons, List.map_nil, Option.map_none, Option.map_some, List.getElem?_toArray, List.getElem?_cons_zero, List.getElem?_cons_succ, Option.bind_some, Option.getD_some])
    | refine wo_nil ?_
    | (apply wo_po; apply mo_move; exact rfl; (first | exact trivial | exact rfl))
    | (apply wo_po; apply mo_len; exact rfl; (first | exact trivial | exact rfl))
    | refine we_block ?_)
  refine we_star (vec 1 (.slice none 0 0) (ptrs []) :: all (seatCs g [] []) :: arr pb 0 [.slice none 0 0, .slice none 0 0, .slice none 0 0] :: shpC wg 87 2 :: arr rb 0 [.slice none 0 0, .slice none 0 0] :: g.U s0 :: all (ts.map Thr.M) :: F) (fun h st => vec_nil (star_shut (M := []) st)) ?_
  refine we_loopN (startInv ts s0 wg pb rb (.slice oa order.length oc) (.slice ta ts.length tc) (shpC wg 87 2 :: F)) (fun i => ts.length - i.1) (0, s0, [], [], .slice none 0 0) ⟨by omega, rfl, rfl⟩ ⟨rfl, rfl, rfl, rfl, rfl, rfl, rfl, rfl, trivial⟩ (.take (.there (.there (.there (.there (.there .here))))) (.take (.there (.there .here)) (.take .here (.take .here (.take (.there (.there .here)) (.take (.there .here) (.take .here .refl))))))) rfl ?_
  rintro ⟨j, s, qs, ids, ss⟩ ⟨hj, hids, hst⟩
  simp only at hj hids hst
  have hqs : qs.length = j := by have := startF_len (ts.take j) s0; rw [hst] at this; simpa [Nat.min_eq_left hj] using this
  have hsl : (seatSs ids qs).length = ids.length := by simp [seatSs]; omega
  simp only [startInv]
  by_cases hlt : j < ts.length
  · obtain ⟨tb, to, rfl, hrd⟩ := hrt.rds (by omega)
    have ht : ts[j]? = some ts[j] := List.getElem?_eq_getElem hlt
    have hrj := hrd j (ts[j].fv) (by simp [ht])
    have hTO := hts _ (List.getElem_mem hlt)
    have hdrop : ts.drop j = ts[j] :: ts.drop (j + 1) := List.drop_eq_getElem_cons hlt
    rw [hdrop]
    refine we_star (g.U s :: arr pb 0 [ss, .slice none 0 0, .slice none 0 0] :: vec 1 ss (ptrs ids) :: all (seatCs g ids qs) :: ts[j].M :: all ((ts.drop (j + 1)).map Thr.M) :: arr rb 0 [.slice none 0 0, .slice none 0 0] :: shpC wg 87 2 :: F) (fun h st => Ent.star (.take (.there (.there .here)) (.take (.there (.there .here)) (.take (.there (.there .here)) (.take (.there (.there .here)) (.take .here (.take .here .refl)))))) (star_head (((.there (.there (.there (.there .here)))) : Has _ (all ((ts[j] :: ts.drop (j + 1)).map Thr.M)) _).star st))) ?_
    repeat (first
      | (apply wo_po; apply mo_index1; exact rfl; exact rfl; omega; (first | exact trivial | exact rfl))
      | (apply wo_po; apply mo_load; exact rfl; exact .there (.there (.there (.there (.there (.there (.there (.there hrj))))))); exact trivial)
      | (apply wo_po; apply mo_bin; exact rfl; exact rfl; apply bin_lssT; omega; (first | exact trivial | exact rfl))
      | refine we_seq ?_
      | (refine we_region _ rfl rfl ?_; simp only [opsOf, List.map_cons, List.map_nil, Option.map_none, Option.map_some, List.getElem?_toArray, List.getElem?_cons_zero, List.getElem?_cons_succ, Option.bind_some, Option.getD_some])
      | refine wo_nil ?_
      | (apply wo_po; apply mo_assign; exact rfl; (first | exact trivial | exact rfl))
      | (apply we_condT; exact rfl; (first | exact rfl | (simp <;> omega) | omega))
      | refine we_skip ?_
      | refine we_block ?_)
    let MI := seatMid wg pb rb j ts.length (.slice oa order.length oc) (.slice (some ⟨tb, to, none⟩) ts.length tc) ts[j].fv (gx g wg (seatSs ids qs) (some s) 16384 (seatSs ids qs).length) (g.U s :: arr pb 0 [ss, .slice none 0 0, .slice none 0 0] :: vec 1 ss (ptrs ids) :: all (seatCs g ids qs) :: ts[j].M :: all ((ts.drop (j + 1)).map Thr.M) :: arr rb 0 [.slice none 0 0, .slice none 0 0] :: shpC wg 87 2 :: F)
    refine we_join MI ?_ ?_
    · refine we_draw (List.range' 0 6) (by kernel_rfl) ?_
      refine ap_fork3 (f := 1) (g := 2) (ordf := [1, 0, 2, 3, 4, 5]) (ordg := [2, 0, 1, 3, 4, 5]) (Rf := [2, 3, 4, 5]) (Rg := [1, 3, 4, 5]) (by kernel_rfl) (by kernel_rfl) (by kernel_rfl) (by kernel_rfl) (by kernel_rfl) (by kernel_rfl) (by kernel_rfl) (by kernel_rfl) (by kernel_rfl) ?_ ?_ ?_
      · refine ap1_mo (Pd' := []) rfl rfl rfl trivial (mo_makeChan (m := 0) (k := .i64) rfl (by omega) (by omega)) (fun v L' _ p hp => by cases hp) ?_
        rintro v' L' ⟨ct, rfl, rfl⟩
        refine ap_fork2 (f := 2) (ordf := [0, 2, 1, 3, 4, 5]) (Rf := [3, 4, 5]) (by kernel_rfl) (by kernel_rfl) (by kernel_rfl) (by kernel_rfl) (by kernel_rfl) ?_ ?_
        · refine ap1_mo (Pd' := []) rfl rfl rfl trivial (mo_makeChan (m := 0) (k := .i64) rfl (by omega) (by omega)) (fun v L' _ p hp => by cases hp) ?_
          rintro v' L' ⟨ce, rfl, rfl⟩
          refine ap_loud rfl rfl rfl rfl rfl trivial (mo_makeChan (m := 0) (k := .i64) rfl (by omega) (by omega)) ?_
          rintro v' L' ⟨cs, rfl, rfl⟩
          repeat (first
            | (apply ap_pure; exact rfl; exact rfl; exact trivial; intro L; apply mo_build (pv := [(0, _), (1, _), (2, _)]); exact rfl; exact .cons rfl (.cons rfl (.cons rfl .nil)); exact rfl))
          refine ap_loud rfl rfl rfl rfl rfl trivial (mo_box rfl) ?_
          rintro v' L' ⟨sb, rfl, rfl⟩
          repeat (first
            | (apply ap_pure; exact rfl; exact rfl; (first | exact trivial | exact rfl); intro L; apply mo_assign; exact rfl)
            | refine ap_end ?_)
          refine at_mid (B := mT) (I := MI) (sb, cs, ct, ce) trivial ?_ ?_ rfl
          exact ⟨rfl, rfl, rfl, rfl, rfl, rfl, rfl, rfl, rfl, rfl, trivial⟩
          repeat (first | exact Ent.refl | (apply Ent.take; (repeat (first | exact Has.here | apply Has.there))) | apply Ent.drop)
        · refine ap1_mo (Pd' := []) rfl rfl rfl trivial (mo_makeChan (m := 0) (k := .i64) rfl (by omega) (by omega)) (fun v L' _ p hp => by cases hp) ?_
          rintro v' L' ⟨cs, rfl, rfl⟩
          refine ap_loud rfl rfl rfl rfl rfl trivial (mo_makeChan (m := 0) (k := .i64) rfl (by omega) (by omega)) ?_
          rintro v' L' ⟨ce, rfl, rfl⟩
          repeat (first
            | (apply ap_pure; exact rfl; exact rfl; exact trivial; intro L; apply mo_build (pv := [(0, _), (1, _), (2, _)]); exact rfl; exact .cons rfl (.cons rfl (.cons rfl .nil)); exact rfl))
          refine ap_loud rfl rfl rfl rfl rfl trivial (mo_box rfl) ?_
          rintro v' L' ⟨sb, rfl, rfl⟩
          repeat (first
            | (apply ap_pure; exact rfl; exact rfl; (first | exact trivial | exact rfl); intro L; apply mo_assign; exact rfl)
            | refine ap_end ?_)
          refine at_mid (B := mT) (I := MI) (sb, cs, ct, ce) trivial ?_ ?_ rfl
          exact ⟨rfl, rfl, rfl, rfl, rfl, rfl, rfl, rfl, rfl, rfl, trivial⟩
          repeat (first | exact Ent.refl | (apply Ent.take; (repeat (first | exact Has.here | apply Has.there))) | apply Ent.drop)
      · refine ap1_mo (Pd' := []) rfl rfl rfl trivial (mo_makeChan (m := 0) (k := .i64) rfl (by omega) (by omega)) (fun v L' _ p hp => by cases hp) ?_
        rintro v' L' ⟨ce, rfl, rfl⟩
        refine ap_fork2 (f := 2) (ordf := [1, 2, 0, 3, 4, 5]) (Rf := [3, 4, 5]) (by kernel_rfl) (by kernel_rfl) (by kernel_rfl) (by kernel_rfl) (by kernel_rfl) ?_ ?_
        · refine ap1_mo (Pd' := []) rfl rfl rfl trivial (mo_makeChan (m := 0) (k := .i64) rfl (by omega) (by omega)) (fun v L' _ p hp => by cases hp) ?_
          rintro v' L' ⟨ct, rfl, rfl⟩
          refine ap_loud rfl rfl rfl rfl rfl trivial (mo_makeChan (m := 0) (k := .i64) rfl (by omega) (by omega)) ?_
          rintro v' L' ⟨cs, rfl, rfl⟩
          repeat (first
            | (apply ap_pure; exact rfl; exact rfl; exact trivial; intro L; apply mo_build (pv := [(0, _), (1, _), (2, _)]); exact rfl; exact .cons rfl (.cons rfl (.cons rfl .nil)); exact rfl))
          refine ap_loud rfl rfl rfl rfl rfl trivial (mo_box rfl) ?_
          rintro v' L' ⟨sb, rfl, rfl⟩
          repeat (first
            | (apply ap_pure; exact rfl; exact rfl; (first | exact trivial | exact rfl); intro L; apply mo_assign; exact rfl)
            | refine ap_end ?_)
          refine at_mid (B := mT) (I := MI) (sb, cs, ct, ce) trivial ?_ ?_ rfl
          exact ⟨rfl, rfl, rfl, rfl, rfl, rfl, rfl, rfl, rfl, rfl, trivial⟩
          repeat (first | exact Ent.refl | (apply Ent.take; (repeat (first | exact Has.here | apply Has.there))) | apply Ent.drop)
        · refine ap1_mo (Pd' := []) rfl rfl rfl trivial (mo_makeChan (m := 0) (k := .i64) rfl (by omega) (by omega)) (fun v L' _ p hp => by cases hp) ?_
          rintro v' L' ⟨cs, rfl, rfl⟩
          refine ap_loud rfl rfl rfl rfl rfl trivial (mo_makeChan (m := 0) (k := .i64) rfl (by omega) (by omega)) ?_
          rintro v' L' ⟨ct, rfl, rfl⟩
          repeat (first
            | (apply ap_pure; exact rfl; exact rfl; exact trivial; intro L; apply mo_build (pv := [(0, _), (1, _), (2, _)]); exact rfl; exact .cons rfl (.cons rfl (.cons rfl .nil)); exact rfl))
          refine ap_loud rfl rfl rfl rfl rfl trivial (mo_box rfl) ?_
          rintro v' L' ⟨sb, rfl, rfl⟩
          repeat (first
            | (apply ap_pure; exact rfl; exact rfl; (first | exact trivial | exact rfl); intro L; apply mo_assign; exact rfl)
            | refine ap_end ?_)
          refine at_mid (B := mT) (I := MI) (sb, cs, ct, ce) trivial ?_ ?_ rfl
          exact ⟨rfl, rfl, rfl, rfl, rfl, rfl, rfl, rfl, rfl, rfl, trivial⟩
          repeat (first | exact Ent.refl | (apply Ent.take; (repeat (first | exact Has.here | apply Has.there))) | apply Ent.drop)
      · refine ap1_mo (Pd' := []) rfl rfl rfl trivial (mo_makeChan (m := 0) (k := .i64) rfl (by omega) (by omega)) (fun v L' _ p hp => by cases hp) ?_
        rintro v' L' ⟨cs, rfl, rfl⟩
        refine ap_fork2 (f := 1) (ordf := [2, 1, 0, 3, 4, 5]) (Rf := [3, 4, 5]) (by kernel_rfl) (by kernel_rfl) (by kernel_rfl) (by kernel_rfl) (by kernel_rfl) ?_ ?_
        · refine ap1_mo (Pd' := []) rfl rfl rfl trivial (mo_makeChan (m := 0) (k := .i64) rfl (by omega) (by omega)) (fun v L' _ p hp => by cases hp) ?_
          rintro v' L' ⟨ct, rfl, rfl⟩
          refine ap_loud rfl rfl rfl rfl rfl trivial (mo_makeChan (m := 0) (k := .i64) rfl (by omega) (by omega)) ?_
          rintro v' L' ⟨ce, rfl, rfl⟩
          repeat (first
            | (apply ap_pure; exact rfl; exact rfl; exact trivial; intro L; apply mo_build (pv := [(0, _), (1, _), (2, _)]); exact rfl; exact .cons rfl (.cons rfl (.cons rfl .nil)); exact rfl))
          refine ap_loud rfl rfl rfl rfl rfl trivial (mo_box rfl) ?_
          rintro v' L' ⟨sb, rfl, rfl⟩
          repeat (first
            | (apply ap_pure; exact rfl; exact rfl; (first | exact trivial | exact rfl); intro L; apply mo_assign; exact rfl)
            | refine ap_end ?_)
          refine at_mid (B := mT) (I := MI) (sb, cs, ct, ce) trivial ?_ ?_ rfl
          exact ⟨rfl, rfl, rfl, rfl, rfl, rfl, rfl, rfl, rfl, rfl, trivial⟩
          repeat (first | exact Ent.refl | (apply Ent.take; (repeat (first | exact Has.here | apply Has.there))) | apply Ent.drop)
        · refine ap1_mo (Pd' := []) rfl rfl rfl trivial (mo_makeChan (m := 0) (k := .i64) rfl (by omega) (by omega)) (fun v L' _ p hp => by cases hp) ?_
          rintro v' L' ⟨ce, rfl, rfl⟩
          refine ap_loud rfl rfl rfl rfl rfl trivial (mo_makeChan (m := 0) (k := .i64) rfl (by omega) (by omega)) ?_
          rintro v' L' ⟨ct, rfl, rfl⟩
          repeat (first
            | (apply ap_pure; exact rfl; exact rfl; exact trivial; intro L; apply mo_build (pv := [(0, _), (1, _), (2, _)]); exact rfl; exact .cons rfl (.cons rfl (.cons rfl .nil)); exact rfl))
          refine ap_loud rfl rfl rfl rfl rfl trivial (mo_box rfl) ?_
          rintro v' L' ⟨sb, rfl, rfl⟩
          repeat (first
            | (apply ap_pure; exact rfl; exact rfl; (first | exact trivial | exact rfl); intro L; apply mo_assign; exact rfl)
            | refine ap_end ?_)
          refine at_mid (B := mT) (I := MI) (sb, cs, ct, ce) trivial ?_ ?_ rfl
          exact ⟨rfl, rfl, rfl, rfl, rfl, rfl, rfl, rfl, rfl, rfl, trivial⟩
          repeat (first | exact Ent.refl | (apply Ent.take; (repeat (first | exact Has.here | apply Has.there))) | apply Ent.drop)
    · rintro ⟨sb, cs, ct, ce⟩ _
      simp only [MI, seatMid]
      repeat (first
        | refine we_seq ?_
        | (refine we_region _ rfl rfl ?_; simp only [opsOf, List.map_cons, List.map_nil, Option.map_none, Option.map_some, List.getElem?_toArray, List.getElem?_cons_zero, List.getElem?_cons_succ, Option.bind_some, Option.getD_some])
        | (apply wo_po; apply mo_move; exact rfl; (first | exact trivial | exact rfl)))
      refine wo_call (.cons rfl (.cons rfl (.cons rfl .nil))) trivial (Tr.ent (L' := g.U s :: ts[j].M :: arr sb 0 [.chan (some ct), .chan (some ce), .chan (some cs), .int .u8 0, .int .i64 0, .bool false] :: ob cs newChan :: ob ct newChan :: ob ce newChan :: arr pb 0 [ss, .slice none 0 0, .slice none 0 0] :: vec 1 ss (ptrs ids) :: all (seatCs g ids qs) :: all ((ts.drop (j + 1)).map Thr.M) :: arr rb 0 [.slice none 0 0, .slice none 0 0] :: shpC wg 87 2 :: F) (.take (.there (.there (.there (.there .here)))) (.take (.there (.there (.there (.there (.there (.there (.there .here))))))) (.take .here (.take .here (.take .here (.take .here .refl)))))) (run_tr hTO (by have := hS j hlt; rw [hst] at this; exact this) hfin (by rw [hsl]; omega) (fun h st => shp_of (.there (.there (.there (.there (.there .here))))) st))) ?_
      rintro v' L' x' ⟨rfl, rfl, rfl⟩
      refine wo_pure (of_has (.there (.there (.there (.there .here)))) (vec_shape (by omega))) ?_
      rintro ⟨sa, sn, sc, rfl, hsn, _⟩
      have hsn : sn = ids.length := by simp [ptrs] at hsn; omega
      subst hsn
      repeat (first
        | (apply wo_mo; apply mo_buildSlice (sz := 1) (vs := [.pointer (some ⟨sb, 0, none⟩)]); exact rfl; exact .cons rfl .nil; exact rfl; (intro v hv; cases (List.mem_singleton.1 hv); exact rfl); omega; exact trivial)
        | (refine we_region _ rfl rfl ?_; simp only [opsOf, List.map_cons, List.map_nil, Option.map_none, Option.map_some, List.getElem?_toArray, List.getElem?_cons_zero, List.getElem?_cons_succ, Option.bind_some, Option.getD_some])
        | refine wo_nil ?_
        | (apply wo_po; apply mo_move; exact rfl; (first | exact trivial | exact rfl))
        | (apply wo_po; apply mo_fieldAddr; exact rfl; exact rfl; (first | exact Nat.zero_add _ | exact rfl); (first | exact trivial | exact rfl))
        | (apply wo_po; apply mo_load; exact rfl; (repeat (first | exact Rd.row0 rfl | exact Rd.row rfl rfl | exact Rd.still | apply Rd.there)); (first | exact trivial | exact rfl)))
      rintro v' L' ⟨nb, rfl, rfl⟩
      repeat (first
        | (apply wo_mo; apply mo_append (sz := 1) (new := [.pointer (some ⟨sb, 0, none⟩)]); exact rfl; exact rfl; exact rfl; exact rfl; exact (.there (.there (.there (.there (.there .here))))); exact rfl; exact .inr ⟨_, _, rfl, Rds.all .here⟩; (intro v hv; cases (List.mem_singleton.1 hv); exact rfl); (simp only [sliceLen]; omega); exact trivial))
      rintro v' L' rfl
      refine wo_pure (of_has .here (vec_shape (by omega))) ?_
      rintro ⟨ua, un, uc, rfl, hun, _⟩
      repeat (first
        | (apply wo_pm; apply mo_store; exact rfl; exact rfl; exact rfl; apply Wt.row0; (repeat (first | exact Foc.here | apply Foc.there)); (first | exact Nat.lt_of_sub_eq_succ rfl | omega); (first | exact trivial | exact rfl))
        | (refine we_region _ rfl rfl ?_; simp only [opsOf, List.map_cons, List.map_nil, Option.map_none, Option.map_some, List.getElem?_toArray, List.getElem?_cons_zero, List.getElem?_cons_succ, Option.bind_some, Option.getD_some])
        | refine wo_nil ?_
        | (apply wo_po; apply mo_move; exact rfl; (first | exact trivial | exact rfl))
        | (apply wo_po; apply mo_fieldAddr; exact rfl; exact rfl; (first | exact Nat.zero_add _ | exact rfl); (first | exact trivial | exact rfl))
        | (apply wo_po; apply mo_bin; exact rfl; exact rfl; apply bin_add; exact wrap_i64 (by omega) (by omega); (first | exact trivial | exact rfl)))
      have hseats : seatCs g (ids ++ [⟨sb, cs, ct, ce⟩]) (qs ++ [(ts[j].ini s).2]) = seatCs g ids qs ++ [seatC g ⟨sb, cs, ct, ce⟩ (ts[j].ini s).2] := by
        unfold seatCs; rw [List.zipWith_append (by omega)]; rfl
      have hseatS : seatSs (ids ++ [⟨sb, cs, ct, ce⟩]) (qs ++ [(ts[j].ini s).2]) = seatSs ids qs ++ [seatS ⟨sb, cs, ct, ce⟩ (ts[j].ini s).2] := by
        unfold seatSs; rw [List.zipWith_append (by omega)]; rfl
      refine at_roundS (B := mT) (I := startInv ts s0 wg pb rb (.slice oa order.length oc) (.slice (some ⟨tb, to, none⟩) ts.length tc) (shpC wg 87 2 :: F)) (R := fun i' => ts.length - i'.1 < ts.length - j) (j + 1, (ts[j].ini s).1, qs ++ [(ts[j].ini s).2], ids ++ [⟨sb, cs, ct, ce⟩], .slice ua un uc) (by show ts.length - (j + 1) < ts.length - j; omega) ⟨by show j + 1 ≤ _; omega, by show (ids ++ [_]).length = j + 1; simp; omega, ?_⟩ ?_ (fun h st => ?_) ?_
      · show startF (ts.take (j + 1)) s0 = _
        rw [List.take_succ_eq_append_getElem hlt, startF_snoc, hst]
      · exact ⟨rfl, rfl, rfl, rfl, rfl, rfl, rfl, rfl, trivial⟩
      · have s1 : Star (seatR sb cs ct ce :: arr sb 3 (lastC ((g.plan (ts[j].ini s).2).map (·.1))) :: all (seatCs g ids qs) :: g.U (ts[j].ini s).1 :: arr pb 0 [.slice ua un uc, .slice none 0 0, .slice none 0 0] :: vec 1 (.slice ua un uc) (ptrs ids ++ [.pointer (some ⟨sb, 0, none⟩)]) :: all ((ts.drop (j + 1)).map Thr.M) :: arr rb 0 [.slice none 0 0, .slice none 0 0] :: shpC wg 87 2 :: F) h := Ent.star (.take (.there (.there (.there .here))) (.take (.there (.there (.there .here))) (.take (.there (.there (.there (.there .here)))) (.take (.there (.there .here)) (.take (.there (.there .here)) (.take .here (.drop .refl))))))) st
        have s2 := star_push (c := seatC g ⟨sb, cs, ct, ce⟩ (ts[j].ini s).2) (star_shut (M := [_, _]) s1)
        rw [← hseats] at s2
        have e3 : ptrs ids ++ [.pointer (some ⟨sb, 0, none⟩)] = ptrs (ids ++ [⟨sb, cs, ct, ce⟩]) := by simp [ptrs]
        rw [e3] at s2
        exact Ent.star (.take (.there .here) (.take (.there .here) (.take (.there .here) (.take .here .refl)))) s2
      · show gx g wg (seatSs (ids ++ [_]) (qs ++ [_])) _ _ _ = _
        rw [hseatS]
        simp only [List.length_append, List.length_singleton]
        rfl
  · obtain rfl : j = ts.length := by omega
    rw [List.take_length] at hst
    rw [hsl]
    repeat (first
      | (apply wo_po; apply mo_bin; exact rfl; exact rfl; apply bin_lssF; omega; (first | exact trivial | exact rfl))
      | refine we_seq ?_
      | (refine we_region _ rfl rfl ?_; simp only [opsOf, List.map_cons, List.map_nil, Option.map_none, Option.map_some, List.getElem?_toArray, List.getElem?_cons_zero, List.getElem?_cons_succ, Option.bind_some, Option.getD_some])
      | refine wo_nil ?_
      | (apply wo_po; apply mo_move; exact rfl; (first | exact trivial | exact rfl))
      | (apply wo_po; apply mo_len; exact rfl; (first | exact trivial | exact rfl))
      | (apply we_condF; exact rfl; (first | exact rfl | (simp <;> omega) | omega))
      | refine we_block ?_
      | refine we_exit ?_)
    refine we_star (playL g pb ss (.slice none 0 0) (.slice none 0 0) ids (⟨s, qs, []⟩ : PS g) (arr rb 0 [.slice none 0 0, .slice none 0 0] :: shpC wg 87 2 :: F)) (fun h st => Ent.star (M := playL g pb ss (.slice none 0 0) (.slice none 0 0) ids (⟨s, qs, []⟩ : PS g) (arr rb 0 [.slice none 0 0, .slice none 0 0] :: shpC wg 87 2 :: F)) (.take (.there .here) (.take (.there .here) (.take (.there .here) (.take .here (.take .here (.drop .refl)))))) (vec_nil (sz := 3) st)) ?_
    refine we_loopN (ordInv (⟨s, qs, []⟩ : PS g) order ids wg pb rb (.slice oa order.length oc) ss (arr rb 0 [.slice none 0 0, .slice none 0 0] :: shpC wg 87 2 :: F)) (fun i => order.length - i.1) (0, .slice none 0 0) (Nat.zero_le _) ⟨rfl, rfl, rfl, rfl, rfl, rfl, trivial⟩ .refl rfl ?_
    have hI1 : I (⟨s, qs, []⟩ : PS g) := by rw [hst] at hI0; exact hI0
    rintro ⟨i, tsv⟩ hi
    replace hi : i ≤ order.length := hi
    have hpl : ids.length = (ordF (⟨s, qs, []⟩ : PS g) (order.take i)).qs.length := by rw [ordF_len]; show ids.length = qs.length; omega
    have hple := ordF_le (order.take i) (⟨s, qs, []⟩ : PS g) (Nat.zero_le _)
    simp only [ordInv]
    by_cases hlt2 : i < order.length
    · obtain ⟨ob, oo, rfl, hrd⟩ := hro.rds (by omega)
      have hri := hrd i (.int .i64 order[i]) (by rw [List.getElem?_map, List.getElem?_eq_getElem hlt2]; rfl)
      repeat (first
        | (apply wo_po; apply mo_index1; exact rfl; exact rfl; omega; (first | exact trivial | exact rfl))
        | (apply wo_po; apply mo_load; exact rfl; exact .there (.there (.there (.there (.there (.there (.there hri)))))); exact trivial)
        | (apply wo_po; apply mo_bin; exact rfl; exact rfl; apply bin_lssT; omega; (first | exact trivial | exact rfl))
        | refine we_seq ?_
        | (refine we_region _ rfl rfl ?_; simp only [opsOf, List.map_cons, List.map_nil, Option.map_none, Option.map_some, List.getElem?_toArray, List.getElem?_cons_zero, List.getElem?_cons_succ, Option.bind_some, Option.getD_some])
        | refine wo_nil ?_
        | (apply wo_po; apply mo_move; exact rfl; (first | exact trivial | exact rfl))
        | (apply wo_po; apply mo_assign; exact rfl; (first | exact trivial | exact rfl))
        | (apply we_condT; exact rfl; (first | exact rfl | (simp <;> omega) | omega))
        | refine we_skip ?_
        | refine we_block ?_)
      refine wo_call (.cons rfl (.cons rfl .nil)) trivial (take_tr hpl hple (hIo _ (hIord _ _ hI1))) ?_
      rintro v' L' x' ⟨ts', rfl, rfl, rfl⟩
      repeat (first
        | (refine we_region _ rfl rfl ?_; simp only [opsOf, List.map_cons, List.map_nil, Option.map_none, Option.map_some, List.getElem?_toArray, List.getElem?_cons_zero, List.getElem?_cons_succ, Option.bind_some, Option.getD_some])
        | refine wo_nil ?_
        | (apply wo_po; apply mo_move; exact rfl; (first | exact trivial | exact rfl))
        | (apply wo_po; apply mo_bin; exact rfl; exact rfl; apply bin_add; exact wrap_i64 (by omega) (by omega); (first | exact trivial | exact rfl)))
      have htk : (takeF (ordF (⟨s, qs, []⟩ : PS g) (order.take i)) order[i]).1 = ordF (⟨s, qs, []⟩ : PS g) (order.take (i + 1)) := by
        rw [List.take_succ_eq_append_getElem hlt2, ordF_snoc]
      rw [htk]
      refine at_round (B := mT) (I := ordInv (⟨s, qs, []⟩ : PS g) order ids wg pb rb (.slice (some ⟨ob, oo, none⟩) order.length oc) ss (arr rb 0 [.slice none 0 0, .slice none 0 0] :: shpC wg 87 2 :: F)) (R := fun i' => order.length - i'.1 < order.length - i) (i + 1, ts') (by show order.length - (i + 1) < order.length - i; omega) (show i + 1 ≤ order.length by omega) ?_ .refl rfl
      exact ⟨rfl, rfl, rfl, rfl, rfl, rfl, trivial⟩
    · obtain rfl : i = order.length := by omega
      rw [List.take_length] at hpl hple ⊢
      obtain ⟨p1, hp1⟩ : ∃ p1, ordF (⟨s, qs, []⟩ : PS g) order = p1 := ⟨_, rfl⟩
      rw [hp1] at hpl hple ⊢
      repeat (first
        | (apply wo_po; apply mo_bin; exact rfl; exact rfl; apply bin_lssF; omega; (first | exact trivial | exact rfl))
        | refine we_seq ?_
        | (refine we_region _ rfl rfl ?_; simp only [opsOf, List.map_cons, List.map_nil, Option.map_none, Option.map_some, List.getElem?_toArray, List.getElem?_cons_zero, List.getElem?_cons_succ, Option.bind_some, Option.getD_some])
        | refine wo_nil ?_
        | (apply wo_po; apply mo_assign; exact rfl; (first | exact trivial | exact rfl))
        | (apply we_condF; exact rfl; (first | exact rfl | (simp <;> omega) | omega))
        | refine we_block ?_
        | refine we_exit ?_)
      refine we_loopN (restInv I p1 ids wg pb rb ss (arr rb 0 [.slice none 0 0, .slice none 0 0] :: shpC wg 87 2 :: F)) (fun i => if i.2.2.2 = true then i.1 + 1 else 0) (16385, p1, tsv, true) ⟨by rw [← hp1]; exact hIord _ _ hI1, rfl, hple, by simp only [if_true]; exact ⟨trivial, by omega⟩⟩ ⟨rfl, rfl, rfl, rfl, trivial⟩ .refl rfl ?_
      rintro ⟨n, p, tv2, more⟩ ⟨hIp, hq1, hq2, hq3⟩
      simp only at hIp hq1 hq2 hq3
      simp only [restInv]
      cases more with
      | true =>
        simp only [if_true] at hq3
        obtain ⟨n, rfl⟩ : ∃ m, n = m + 1 := ⟨n - 1, by omega⟩
        have hpq : p.qs.length = ids.length := by omega
        refine we_pure (of_has (.there (.there .here)) (vec_shape (by omega))) ?_
        rintro ⟨sa, sn, sc, rfl, hsn, _⟩
        have hsn : sn = ids.length := by simp [ptrs] at hsn; omega
        subst hsn
        repeat (first
          | refine we_seq ?_
          | (refine we_region _ rfl rfl ?_; simp only [opsOf, List.map_cons, List.map_nil, Option.map_none, Option.map_some, List.getElem?_toArray, List.getElem?_cons_zero, List.getElem?_cons_succ, Option.bind_some, Option.getD_some])
          | refine wo_nil ?_
          | (apply wo_po; apply mo_move; exact rfl; (first | exact trivial | exact rfl))
          | (apply wo_po; apply mo_assign; exact rfl; (first | exact trivial | exact rfl))
          | (apply wo_po; apply mo_fieldAddr; exact rfl; exact rfl; (first | exact Nat.zero_add _ | exact rfl); (first | exact trivial | exact rfl))
          | (apply wo_po; apply mo_load; exact rfl; (repeat (first | exact Rd.row0 rfl | exact Rd.row rfl rfl | exact Rd.still | apply Rd.there)); (first | exact trivial | exact rfl))
          | (apply wo_po; apply mo_len; exact rfl; (first | exact trivial | exact rfl))
          | (apply we_condT; exact rfl; (first | exact rfl | (simp <;> omega) | omega))
          | refine we_skip ?_
          | refine we_block ?_)
        refine we_loopN (rndInv p ids wg pb rb (.slice sa ids.length sc) (arr rb 0 [.slice none 0 0, .slice none 0 0] :: shpC wg 87 2 :: F)) (fun i => ids.length - i.1) (0, tv2) (Nat.zero_le _) ⟨rfl, rfl, rfl, rfl, rfl, rfl, trivial⟩ .refl rfl ?_
        rintro ⟨k, tv3⟩ hk
        replace hk : k ≤ ids.length := hk
        simp only [rndInv]
        by_cases hlt3 : k < ids.length
        · repeat (first
            | (apply wo_po; apply mo_bin; exact rfl; exact rfl; apply bin_lssT; omega; (first | exact trivial | exact rfl))
            | refine we_seq ?_
            | (refine we_region _ rfl rfl ?_; simp only [opsOf, List.map_cons, List.map_nil, Option.map_none, Option.map_some, List.getElem?_toArray, List.getElem?_cons_zero, List.getElem?_cons_succ, Option.bind_some, Option.getD_some])
            | refine wo_nil ?_
            | (apply wo_po; apply mo_move; exact rfl; (first | exact trivial | exact rfl))
            | (apply wo_po; apply mo_assign; exact rfl; (first | exact trivial | exact rfl))
            | (apply we_condT; exact rfl; (first | exact rfl | (simp <;> omega) | omega))
            | refine we_skip ?_
            | refine we_block ?_)
          refine wo_call (.cons rfl (.cons rfl .nil)) trivial (take_tr (by rw [roundF_len]; omega) (roundF_le hq2 k) (hIo _ (hIrnd _ _ hIp))) ?_
          rintro v' L' x' ⟨ts', rfl, rfl, rfl⟩
          have hnx : roundF p (k + 1) = ((takeF (roundF p k).1 k).1, (takeF (roundF p k).1 k).2 || (roundF p k).2) := rfl
          have hr1 : (roundF p (k + 1)).1 = (takeF (roundF p k).1 k).1 := rfl
          obtain ⟨b, hb⟩ : ∃ b, (takeF (roundF p k).1 k).2 = b := ⟨_, rfl⟩
          rw [hb, ← hr1]
          cases b with
          | true =>
            repeat (first
              | (refine we_region _ rfl rfl ?_; simp only [opsOf, List.map_cons, List.map_nil, Option.map_none, Option.map_some, List.getElem?_toArray, List.getElem?_cons_zero, List.getElem?_cons_succ, Option.bind_some, Option.getD_some])
              | refine wo_nil ?_
              | (apply wo_po; apply mo_move; exact rfl; (first | exact trivial | exact rfl))
              | (apply wo_po; apply mo_assign; exact rfl; (first | exact trivial | exact rfl))
              | (apply wo_no; exact rfl)
              | (apply wo_po; apply mo_pickT; exact rfl; exact rfl; exact rfl; (first | exact trivial | exact rfl))
              | (apply wo_po; apply mo_bin; exact rfl; exact rfl; apply bin_add; exact wrap_i64 (by omega) (by omega); (first | exact trivial | exact rfl)))
            refine at_round (B := mT) (I := rndInv p ids wg pb rb (.slice sa ids.length sc) (arr rb 0 [.slice none 0 0, .slice none 0 0] :: shpC wg 87 2 :: F)) (R := fun i' => ids.length - i'.1 < ids.length - k) (k + 1, ts') (by show ids.length - (k + 1) < ids.length - k; omega) (show k + 1 ≤ ids.length by omega) ?_ .refl rfl
            exact ⟨rfl, rfl, rfl, by rw [hnx, hb]; rfl, rfl, rfl, trivial⟩
          | false =>
            repeat (first
              | (refine we_region _ rfl rfl ?_; simp only [opsOf, List.map_cons, List.map_nil, Option.map_none, Option.map_some, List.getElem?_toArray, List.getElem?_cons_zero, List.getElem?_cons_succ, Option.bind_some, Option.getD_some])
              | refine wo_nil ?_
              | (apply wo_po; apply mo_move; exact rfl; (first | exact trivial | exact rfl))
              | (apply wo_po; apply mo_assign; exact rfl; (first | exact trivial | exact rfl))
              | (apply wo_po; apply mo_pickF; exact rfl; exact rfl; exact rfl; (first | exact trivial | exact rfl))
              | (apply wo_po; apply mo_bin; exact rfl; exact rfl; apply bin_add; exact wrap_i64 (by omega) (by omega); (first | exact trivial | exact rfl)))
            refine at_round (B := mT) (I := rndInv p ids wg pb rb (.slice sa ids.length sc) (arr rb 0 [.slice none 0 0, .slice none 0 0] :: shpC wg 87 2 :: F)) (R := fun i' => ids.length - i'.1 < ids.length - k) (k + 1, ts') (by show ids.length - (k + 1) < ids.length - k; omega) (show k + 1 ≤ ids.length by omega) ?_ .refl rfl
            exact ⟨rfl, rfl, rfl, by rw [hnx, hb]; rfl, rfl, rfl, trivial⟩
        · obtain rfl : k = ids.length := by omega
          repeat (first
            | (apply wo_po; apply mo_bin; exact rfl; exact rfl; apply bin_lssF; omega; (first | exact trivial | exact rfl))
            | refine we_seq ?_
            | (refine we_region _ rfl rfl ?_; simp only [opsOf, List.map_cons, List.map_nil, Option.map_none, Option.map_some, List.getElem?_toArray, List.getElem?_cons_zero, List.getElem?_cons_succ, Option.bind_some, Option.getD_some])
            | refine wo_nil ?_
            | (apply we_condF; exact rfl; (first | exact rfl | (simp <;> omega) | omega))
            | refine we_exit ?_)
          have hg := roundF_grow p ids.length
          have hle3 := roundF_le hq2 ids.length
          have hrest : restF (n + 1) p = if (roundF p ids.length).2 = true then restF n (roundF p ids.length).1 else (roundF p ids.length).1 := by
            show (if (roundF p p.qs.length).2 = true then restF n (roundF p p.qs.length).1 else (roundF p p.qs.length).1) = _
            rw [hpq]
          refine at_round (B := mT) (I := restInv I p1 ids wg pb rb (.slice sa ids.length sc) (arr rb 0 [.slice none 0 0, .slice none 0 0] :: shpC wg 87 2 :: F)) (R := fun i' => (if i'.2.2.2 = true then i'.1 + 1 else 0) < (if true = true then (n + 1) + 1 else 0)) (n, (roundF p ids.length).1, tv3, (roundF p ids.length).2) ?_ ⟨hIrnd _ _ hIp, by show (roundF p ids.length).1.qs.length = _; rw [roundF_len]; exact hq1, hle3, ?_⟩ ?_ .refl rfl
          · show (if (roundF p ids.length).2 = true then n + 1 else 0) < (if true = true then (n + 1) + 1 else 0)
            simp only [if_true]
            split <;> omega
          · simp only
            rw [hrest] at hq3
            cases hb : (roundF p ids.length).2 with
            | true => rw [hb] at hq3 hg; simp only [if_true] at hq3 hg ⊢; exact ⟨hq3.1, by omega⟩
            | false => rw [hb] at hq3; simpa using hq3.1
          · exact ⟨rfl, rfl, rfl, rfl, trivial⟩
      | false =>
        simp only [Bool.false_eq_true, if_false] at hq3
        have hplay : playF ts s0 order = p := by rw [hq3, ← hp1]; unfold playF; rw [hst]
        rw [hplay] at hQ
        have hpq : p.qs.length = ids.length := by omega
        refine we_pure (of_has (.there (.there .here)) (vec_shape (by omega))) ?_
        rintro ⟨sa, sn, sc, rfl, hsn, _, hnz, hy⟩
        have hsn : sn = ids.length := by simp [ptrs] at hsn; omega
        subst hsn
        cases sa with
        | none => have := hnz rfl; omega
        | some ad =>
        obtain ⟨sb, so, sp⟩ := ad
        have := hy _ rfl
        simp only [Addr.mk.injEq, true_and] at this
        subst this
        repeat (first
          | refine we_seq ?_
          | (refine we_region _ rfl rfl ?_; simp only [opsOf, List.map_cons, List.map_nil, Option.map_none, Option.map_some, List.getElem?_toArray, List.getElem?_cons_zero, List.getElem?_cons_succ, Option.bind_some, Option.getD_some])
          | refine wo_nil ?_
          | (apply wo_po; apply mo_move; exact rfl; (first | exact trivial | exact rfl))
          | (apply wo_po; apply mo_fieldAddr; exact rfl; exact rfl; (first | exact Nat.zero_add _ | exact rfl); (first | exact trivial | exact rfl))
          | (apply wo_po; apply mo_load; exact rfl; (repeat (first | exact Rd.row0 rfl | exact Rd.row rfl rfl | exact Rd.still | apply Rd.there)); (first | exact trivial | exact rfl))
          | (apply wo_po; apply mo_len; exact rfl; (first | exact trivial | exact rfl))
          | (apply we_condF; exact rfl; (first | exact rfl | (simp <;> omega) | omega))
          | refine we_block ?_
          | refine we_exit ?_)
        refine we_star (vec 1 (.slice none 0 0) (cutC (cutN g p.qs 0)) :: arr pb 0 [.slice (some ⟨sb, so, none⟩) ids.length sc, tv2, .slice none 0 0] :: vec 1 (.slice (some ⟨sb, so, none⟩) ids.length sc) (ptrs ids) :: vec 3 tv2 (trC p.tr) :: all (seatCs g ids p.qs) :: g.U p.s :: arr rb 0 [.slice none 0 0, .slice none 0 0] :: shpC wg 87 2 :: F) (fun h st => vec_nil (Ent.star (.take (.there .here) (.take (.there .here) (.take (.there .here) (.take (.there .here) (.take .here .refl))))) st)) ?_
        refine we_loopN (cutInv p ids wg pb rb (.slice (some ⟨sb, so, none⟩) ids.length sc) tv2 (arr rb 0 [.slice none 0 0, .slice none 0 0] :: shpC wg 87 2 :: F)) (fun i => ids.length - i.1) (0, .slice none 0 0) (Nat.zero_le _) ⟨rfl, rfl, rfl, rfl, rfl, rfl, trivial⟩ .refl (by simp only [cutInv]; rw [shutS_zero]) ?_
        rintro ⟨k, cv⟩ hk
        replace hk : k ≤ ids.length := hk
        simp only [cutInv]
        by_cases hlt3 : k < ids.length
        · have hi : ids[k]? = some ids[k] := List.getElem?_eq_getElem hlt3
          have hq : p.qs[k]? = some (p.qs[k]'(by omega)) := List.getElem?_eq_getElem _
          obtain ⟨i, hie⟩ : ∃ i, ids[k] = i := ⟨_, rfl⟩
          obtain ⟨q, hqe⟩ : ∃ q, (p.qs[k]'(by omega)) = q := ⟨_, rfl⟩
          rw [hie] at hi
          rw [hqe] at hq
          let er := all ((seatCs g ids p.qs).eraseIdx k)
          refine we_star (seatR i.sb i.says i.turn i.fin :: arr i.sb 3 (lastQ g q) :: er :: vec 1 cv (cutC (cutN g p.qs k)) :: arr pb 0 [.slice (some ⟨sb, so, none⟩) ids.length sc, tv2, cv] :: vec 1 (.slice (some ⟨sb, so, none⟩) ids.length sc) (ptrs ids) :: vec 3 tv2 (trC p.tr) :: g.U p.s :: arr rb 0 [.slice none 0 0, .slice none 0 0] :: shpC wg 87 2 :: F) (fun h st => seat_pick hi hq (((.there (.there (.there (.there .here)))) : Has (_ :: _ :: _ :: _ :: all (seatCs g ids p.qs) :: _) _ _).star st)) ?_
          have hback : ∀ {cv' : Value} {cl : List Value} h, Star (seatR i.sb i.says i.turn i.fin :: arr i.sb 3 (lastQ g q) :: er :: vec 1 cv' cl :: arr pb 0 [.slice (some ⟨sb, so, none⟩) ids.length sc, tv2, cv'] :: vec 1 (.slice (some ⟨sb, so, none⟩) ids.length sc) (ptrs ids) :: vec 3 tv2 (trC p.tr) :: g.U p.s :: arr rb 0 [.slice none 0 0, .slice none 0 0] :: shpC wg 87 2 :: F) h →
              Star (vec 1 cv' cl :: arr pb 0 [.slice (some ⟨sb, so, none⟩) ids.length sc, tv2, cv'] :: vec 1 (.slice (some ⟨sb, so, none⟩) ids.length sc) (ptrs ids) :: vec 3 tv2 (trC p.tr) :: all (seatCs g ids p.qs) :: g.U p.s :: arr rb 0 [.slice none 0 0, .slice none 0 0] :: shpC wg 87 2 :: F) h := fun h st => by
            have s1 := seat_put (q' := q) hi hq st
            rw [set_same hq] at s1
            exact Ent.star (.take (.there .here) (.take (.there .here) (.take (.there .here) (.take (.there .here) (.take .here .refl))))) s1
          have hcl : (cutN g p.qs k).length ≤ k := by have := List.length_filter_le (fun k => ((p.qs[k]?).bind g.plan).isSome) (List.range k); rw [List.length_range] at this; exact this
          have hget : (shutS ids p.qs k)[k]? = some (⟨i.says, i.turn, i.fin, .said q⟩ : Seat g.σ g.θ) := by rw [shutS_get hi hq, if_neg (by omega)]; rfl
          have hsl2 : ids.length = (shutS ids p.qs k).length := (shutS_len hpq.symm).symm
          have rs : ∀ {a b c d e : HProp} {M : List HProp}, Rd (a :: b :: c :: d :: e :: vec 1 (.slice (some ⟨sb, so, none⟩) ids.length sc) (ptrs ids) :: M) sb (so + k) (.pointer (some ⟨i.sb, 0, none⟩)) := rd_vec (cs := ptrs ids) (.there (.there (.there (.there (.there .here))))) (by simp [ptrs, hi])
          refine we_pure (of_has (.there (.there (.there .here))) (vec_shape (by omega))) ?_
          rintro ⟨ca, cn, cc, rfl, hcn, _⟩
          have hcn : cn = (cutN g p.qs k).length := by simp [cutC] at hcn; omega
          subst hcn
          cases hpl2 : g.plan q with
          | none =>
            have hlq : lastQ g q = [.int .u8 0, .int .i64 0, .bool true] := by unfold lastQ; rw [hpl2]; rfl
            have hcut : cutN g p.qs (k + 1) = cutN g p.qs k := by rw [cutN_succ, hq]; simp [hpl2]
            rw [hlq] at hback ⊢
            have rl : ∀ {a : HProp} {M : List HProp}, Rd (a :: arr i.sb 3 [.int .u8 0, .int .i64 0, .bool true] :: M) i.sb 5 (.bool true) := .there (Rd.row (k := 2) rfl rfl)
            have re : ∀ {M : List HProp}, Rd (seatR i.sb i.says i.turn i.fin :: M) i.sb 1 (.chan (some i.fin)) := Rd.fro (k := 1) rfl rfl
            repeat (first
              | (apply wo_po; apply mo_index1; exact rfl; exact rfl; omega; (first | exact trivial | exact rfl))
              | (apply wo_po; apply mo_load; exact rfl; (first | exact rs | exact rl | exact re); exact trivial)
              | (apply wo_po; apply mo_bin; exact rfl; exact rfl; apply bin_lssT; omega; (first | exact trivial | exact rfl))
              | refine we_seq ?_
              | (refine we_region _ rfl rfl ?_; simp only [opsOf, List.map_cons, List.map_nil, Option.map_none, Option.map_some, List.getElem?_toArray, List.getElem?_cons_zero, List.getElem?_cons_succ, Option.bind_some, Option.getD_some])
              | refine wo_nil ?_
              | (apply wo_po; apply mo_move; exact rfl; (first | exact trivial | exact rfl))
              | (apply wo_po; apply mo_assign; exact rfl; (first | exact trivial | exact rfl))
              | (apply wo_po; apply mo_nilCheck; exact rfl; (first | exact trivial | exact rfl))
              | (apply wo_po; apply mo_fieldAddr; exact rfl; exact rfl; (first | exact Nat.zero_add _ | exact rfl); (first | exact trivial | exact rfl))
              | (apply wo_po; apply mo_not; exact rfl; (first | exact trivial | exact rfl))
              | (apply we_condT; exact rfl; (first | exact rfl | (simp <;> omega) | omega))
              | (apply we_condF; exact rfl; (first | exact rfl | (simp <;> omega) | omega))
              | refine we_skip ?_
              | refine we_block ?_)
            refine wo_shut (X := ⟨g, wg, shutS ids p.qs k, some p.s, 16384 - p.tr.length, ids.length, false, .play⟩) (j := k) (c := ⟨i.says, i.turn, i.fin, .said q⟩) (q0 := q) rfl rfl rfl hsl2 rfl hget rfl trivial (by decide) ?_
            repeat (first
              | (refine we_region _ rfl rfl ?_; simp only [opsOf, List.map_cons, List.map_nil, Option.map_none, Option.map_some, List.getElem?_toArray, List.getElem?_cons_zero, List.getElem?_cons_succ, Option.bind_some, Option.getD_some])
              | refine wo_nil ?_
              | (apply wo_po; apply mo_move; exact rfl; (first | exact trivial | exact rfl))
              | (apply wo_po; apply mo_bin; exact rfl; exact rfl; apply bin_add; exact wrap_i64 (by omega) (by omega); (first | exact trivial | exact rfl)))
            refine at_roundS (B := mT) (I := cutInv p ids wg pb rb (.slice (some ⟨sb, so, none⟩) ids.length sc) tv2 (arr rb 0 [.slice none 0 0, .slice none 0 0] :: shpC wg 87 2 :: F)) (R := fun i' => ids.length - i'.1 < ids.length - k) (k + 1, .slice ca (cutN g p.qs k).length cc) (by show ids.length - (k + 1) < ids.length - k; omega) (show k + 1 ≤ ids.length by omega) ?_ (fun h st => ?_) ?_
            · exact ⟨rfl, rfl, rfl, rfl, rfl, rfl, trivial⟩
            · show Star (vec 1 _ (cutC (cutN g p.qs (k + 1))) :: _) h
              rw [hcut]
              exact hback h st
            · simp only [cutInv]
              rw [← shutS_succ hi hq]
          | some mf =>
            obtain ⟨m, f⟩ := mf
            have hlq : lastQ g q = [.int .u8 m.1, .int .i64 m.2, .bool false] := by unfold lastQ; rw [hpl2]; rfl
            have hcut : cutN g p.qs (k + 1) = cutN g p.qs k ++ [k] := by rw [cutN_succ, hq]; simp [hpl2]
            rw [hlq] at hback ⊢
            have rl : ∀ {a : HProp} {M : List HProp}, Rd (a :: arr i.sb 3 [.int .u8 m.1, .int .i64 m.2, .bool false] :: M) i.sb 5 (.bool false) := .there (Rd.row (k := 2) rfl rfl)
            have re : ∀ {a b : HProp} {M : List HProp}, Rd (a :: b :: seatR i.sb i.says i.turn i.fin :: M) i.sb 1 (.chan (some i.fin)) := .there (.there (Rd.fro (k := 1) rfl rfl))
            repeat (first
              | (apply wo_po; apply mo_index1; exact rfl; exact rfl; omega; (first | exact trivial | exact rfl))
              | (apply wo_po; apply mo_load; exact rfl; (first | exact rs | exact rl); exact trivial)
              | (apply wo_mo; apply mo_buildSlice (sz := 1) (vs := [.int .i64 (k : Nat)]); exact rfl; exact .cons rfl .nil; exact rfl; (intro v hv; cases (List.mem_singleton.1 hv); exact rfl); omega; exact trivial)
              | (apply wo_po; apply mo_bin; exact rfl; exact rfl; apply bin_lssT; omega; (first | exact trivial | exact rfl))
              | refine we_seq ?_
              | (refine we_region _ rfl rfl ?_; simp only [opsOf, List.map_cons, List.map_nil, Option.map_none, Option.map_some, List.getElem?_toArray, List.getElem?_cons_zero, List.getElem?_cons_succ, Option.bind_some, Option.getD_some])
              | refine wo_nil ?_
              | (apply wo_po; apply mo_move; exact rfl; (first | exact trivial | exact rfl))
              | (apply wo_po; apply mo_assign; exact rfl; (first | exact trivial | exact rfl))
              | (apply wo_po; apply mo_nilCheck; exact rfl; (first | exact trivial | exact rfl))
              | (apply wo_po; apply mo_fieldAddr; exact rfl; exact rfl; (first | exact Nat.zero_add _ | exact rfl); (first | exact trivial | exact rfl))
              | (apply wo_po; apply mo_not; exact rfl; (first | exact trivial | exact rfl))
              | (apply wo_po; apply mo_load; exact rfl; (repeat (first | exact Rd.row0 rfl | exact Rd.row rfl rfl | exact Rd.still | apply Rd.there)); (first | exact trivial | exact rfl))
              | (apply we_condT; exact rfl; (first | exact rfl | (simp <;> omega) | omega))
              | refine we_skip ?_
              | refine we_block ?_)
            rintro v' L' ⟨nb, rfl, rfl⟩
            repeat (first
              | (apply wo_mo; apply mo_append (sz := 1) (new := [.int .i64 (k : Nat)]); exact rfl; exact rfl; exact rfl; exact rfl; exact (.there (.there (.there (.there .here)))); exact rfl; exact .inr ⟨_, _, rfl, Rds.all .here⟩; (intro v hv; cases (List.mem_singleton.1 hv); exact rfl); (simp only [sliceLen]; omega); exact trivial))
            rintro v' L' rfl
            refine wo_pure (of_has .here (vec_shape (by omega))) ?_
            rintro ⟨ua, un, uc, rfl, hun, _⟩
            repeat (first
              | (apply wo_pm; apply mo_store; exact rfl; exact rfl; exact rfl; apply Wt.row0; (repeat (first | exact Foc.here | apply Foc.there)); (first | exact Nat.lt_of_sub_eq_succ rfl | omega); (first | exact trivial | exact rfl))
              | (apply wo_po; apply mo_load; exact rfl; exact re; exact trivial)
              | (refine we_region _ rfl rfl ?_; simp only [opsOf, List.map_cons, List.map_nil, Option.map_none, Option.map_some, List.getElem?_toArray, List.getElem?_cons_zero, List.getElem?_cons_succ, Option.bind_some, Option.getD_some])
              | refine wo_nil ?_
              | (apply wo_po; apply mo_move; exact rfl; (first | exact trivial | exact rfl))
              | (apply wo_po; apply mo_nilCheck; exact rfl; (first | exact trivial | exact rfl))
              | (apply wo_po; apply mo_fieldAddr; exact rfl; exact rfl; (first | exact Nat.zero_add _ | exact rfl); (first | exact trivial | exact rfl)))
            refine wo_shut (X := ⟨g, wg, shutS ids p.qs k, some p.s, 16384 - p.tr.length, ids.length, false, .play⟩) (j := k) (c := ⟨i.says, i.turn, i.fin, .said q⟩) (q0 := q) rfl rfl rfl hsl2 rfl hget rfl trivial (by decide) ?_
            repeat (first
              | (refine we_region _ rfl rfl ?_; simp only [opsOf, List.map_cons, List.map_nil, Option.map_none, Option.map_some, List.getElem?_toArray, List.getElem?_cons_zero, List.getElem?_cons_succ, Option.bind_some, Option.getD_some])
              | refine wo_nil ?_
              | (apply wo_po; apply mo_move; exact rfl; (first | exact trivial | exact rfl))
              | (apply wo_po; apply mo_bin; exact rfl; exact rfl; apply bin_add; exact wrap_i64 (by omega) (by omega); (first | exact trivial | exact rfl)))
            refine at_roundS (B := mT) (I := cutInv p ids wg pb rb (.slice (some ⟨sb, so, none⟩) ids.length sc) tv2 (arr rb 0 [.slice none 0 0, .slice none 0 0] :: shpC wg 87 2 :: F)) (R := fun i' => ids.length - i'.1 < ids.length - k) (k + 1, .slice ua un uc) (by show ids.length - (k + 1) < ids.length - k; omega) (show k + 1 ≤ ids.length by omega) ?_ (fun h st => ?_) ?_
            · exact ⟨rfl, rfl, rfl, rfl, rfl, rfl, trivial⟩
            · show Star (vec 1 _ (cutC (cutN g p.qs (k + 1))) :: _) h
              have e4 : cutC (cutN g p.qs (k + 1)) = cutC (cutN g p.qs k) ++ [.int .i64 (k : Nat)] := by rw [hcut]; simp [cutC]
              rw [e4]
              exact hback h (Ent.star (.take (.there (.there .here)) (.take (.there (.there .here)) (.take (.there (.there .here)) (.take .here (.drop .refl))))) st)
            · simp only [cutInv]
              rw [← shutS_succ hi hq]
        · obtain rfl : k = ids.length := by omega
          repeat (first
            | (apply wo_po; apply mo_bin; exact rfl; exact rfl; apply bin_lssF; omega; (first | exact trivial | exact rfl))
            | refine we_seq ?_
            | (refine we_region _ rfl rfl ?_; simp only [opsOf, List.map_cons, List.map_nil, Option.map_none, Option.map_some, List.getElem?_toArray, List.getElem?_cons_zero, List.getElem?_cons_succ, Option.bind_some, Option.getD_some])
            | refine wo_nil ?_
            | (apply we_condF; exact rfl; (first | exact rfl | (simp <;> omega) | omega))
            | refine we_exit ?_)
          refine wo_call (.cons rfl .nil) trivial (wgWait_tr (X := ⟨g, wg, shutS ids p.qs ids.length, some p.s, 16384 - p.tr.length, ids.length, false, .play⟩) rfl (by show ids.length < 1000; omega) (shutS_len hpq.symm).symm (shutS_closed hpq.symm) rfl (fun h st => shp_of (.there (.there (.there (.there (.there (.there (.there .here))))))) st)) ?_
          rintro v' L' x' ⟨rfl, rfl, rfl⟩
          rw [show (GX.seats ⟨g, wg, shutS ids p.qs ids.length, some p.s, 16384 - p.tr.length, ids.length, false, .play⟩).map Seat.fins = p.qs.map g.Fin from shutS_all hpq.symm]
          repeat (first
            | (apply wo_po; apply mo_loadA (vs := [tv2, cv]); exact rfl; exact rfl; exact Rds.row (k := 1) (.there (.there .here)) (by intro i v hv; match i, hv with | 0, hv => exact hv | 1, hv => exact hv); exact trivial)
            | refine we_seq ?_
            | (refine we_region _ rfl rfl ?_; simp only [opsOf, List.map_cons, List.map_nil, Option.map_none, Option.map_some, List.getElem?_toArray, List.getElem?_cons_zero, List.getElem?_cons_succ, Option.bind_some, Option.getD_some])
            | refine wo_nil ?_
            | (apply wo_po; apply mo_fieldAddr; exact rfl; exact rfl; (first | exact Nat.zero_add _ | exact rfl); (first | exact trivial | exact rfl)))
          refine wo_pure (of_has (.there .here) (vec_shape (by omega))) ?_
          rintro ⟨ca, cn, cc, rfl, _⟩
          refine wo_pure (of_has (.there (.there (.there (.there .here)))) (vec_shape (by omega))) ?_
          rintro ⟨ta2, tn2, tc2, rfl, _⟩
          repeat (first
            | (apply wo_pm; apply mo_storeA (c := 0) (k := 0) (a := 0) (vs := [.slice none 0 0, .slice none 0 0]); exact rfl; exact rfl; exact rfl; (intro w hw; simp [Value.cells] at hw; rcases hw with rfl | rfl <;> rfl); exact rfl; exact Nat.le_refl 2; exact (.there (.there (.there (.there (.there (.there (.there .here))))))); exact trivial)
            | refine wo_nil ?_
            | (apply wo_po; apply mo_assign; exact rfl; (first | exact trivial | exact rfl))
            | refine we_ret ?_)
          refine at_leaveM (rs := [.cell 4 29, .tmp 5]) Try.func17 Try.results17 hQ (.inl rfl) (.cons (.cell (vs := [.slice ta2 tn2 tc2, .slice ca cn cc]) rfl rfl (Rds.all (.there (.there (.there (.there (.there (.there (.there .here))))))))) (.cons (.tmp rfl) .nil)) ?_
          refine ⟨_, _, rfl, rfl, fun h st => ?_⟩
          rw [← hids]
          exact Ent.star (.take (.there (.there (.there (.there .here)))) (.take (.there .here) (.take (.there (.there (.there (.there .here)))) (.take .here (.drop (.drop (.drop (.drop (.drop .refl))))))))) st
end
end Go.Proofs.Ytabbkjciifnehaa
