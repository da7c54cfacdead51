/-
  Part 5 of 7.
-/
import Derived.Test.YtodgemainhokjaaNb4
import Derived.Test.YtodgemainhokjaaNb2
import Derived.Test.YtodgemainhokjaaNb3
import Derived.Conc.WgGenN2
set_option linter.unusedVariables false
set_option linter.unusedSimpArgs false
namespace Go.Proofs.Ytodgemainhokjaa
open Go Go.PB
attribute [local irreducible] Mo Bin Eql Tr Wo Ap Wle
attribute [local instance] Pass.of_no
section
structure Thr (g : Game) where
 fv : Value
 ini : g.σ → g.σ × g.θ
 M : HProp
section
variable {g : Game}
def startF : List (Thr g) → g.σ → g.σ × List g.θ
 | [], s => (s, [])
 | t :: ts, s => ((startF ts (t.ini s).1).1, (t.ini s).2 :: (startF ts (t.ini s).1).2)
theorem startF_snoc {t : Thr g} : ∀ (l : List (Thr g)) (s : g.σ), startF (l ++ [t]) s = ((t.ini (startF l s).1).1, (startF l s).2 ++ [(t.ini (startF l s).1).2])
 | [], s => rfl
 | a :: l, s => by simp only [List.cons_append, startF, startF_snoc l]
theorem startF_len : ∀ (l : List (Thr g)) (s : g.σ), (startF l s).2.length = l.length
 | [], s => rfl
 | a :: l, s => by simp [startF, startF_len l]
def ordF (p : PS g) (order : List Int) : PS g := order.foldl (fun p k => (takeF p k).1) p
def roundF (p : PS g) : Nat → PS g × Bool
 | 0 => (p, false)
 | k + 1 => ((takeF (roundF p k).1 k).1, (takeF (roundF p k).1 k).2 || (roundF p k).2)
def restF : Nat → PS g → PS g
 | 0, p => p
 | n + 1, p => if (roundF p p.qs.length).2 = true then restF n (roundF p p.qs.length).1 else (roundF p p.qs.length).1
def playF (ts : List (Thr g)) (s : g.σ) (order : List Int) : PS g := restF 16385 (ordF ⟨(startF ts s).1, (startF ts s).2, []⟩ order)
def cutC (l : List Nat) : List Value := l.map fun k => .int .i64 (k : Nat)
theorem roundF_len (p : PS g) : ∀ n, (roundF p n).1.qs.length = p.qs.length
 | 0 => rfl
 | n + 1 => by show (takeF _ _).1.qs.length = _; rw [takeF_len, roundF_len p n]
theorem roundF_le {p : PS g} (h : p.tr.length ≤ 16384) : ∀ n, (roundF p n).1.tr.length ≤ 16384
 | 0 => h
 | n + 1 => takeF_le (roundF_le h n) _
theorem takeF_cases (p : PS g) (k : Int) : takeF p k = (p, false) ∨ ∃ (n : Nat) (q : g.θ) (m : Int × Int) (f : g.σ → g.σ × g.θ), k = n ∧ p.qs[n]? = some q ∧ g.plan q = some (m, f) ∧ p.tr.length ≠ 16384 ∧ takeF p k = (⟨(f p.s).1, p.qs.set n (f p.s).2, p.tr ++ [(n, m)]⟩, true) := by
 by_cases h0 : k < 0
 ·left; unfold takeF; rw [if_pos h0]
 obtain ⟨n, rfl⟩ : ∃ n : Nat, k = n := ⟨k.toNat, by omega⟩
 cases hq : p.qs[n]? with
 | none => left; unfold takeF; rw [if_neg h0, Int.toNat_natCast, hq]
 | some q =>
  cases hpl : g.plan q with
  | none => left; unfold takeF; rw [if_neg h0, Int.toNat_natCast, hq]; simp only [hpl]
  | some mf =>
   obtain ⟨m, f⟩ := mf
   by_cases htr : p.tr.length = 16384
   ·left; unfold takeF; rw [if_neg h0, Int.toNat_natCast, hq]; simp only [hpl, if_pos htr]
   ·right; refine ⟨n, q, m, f, rfl, hq, hpl, htr, ?_⟩
    unfold takeF; rw [if_neg h0, Int.toNat_natCast, hq]; simp only [hpl, if_neg htr]
theorem takeF_grow (p : PS g) (k : Int) : p.tr.length + (if (takeF p k).2 = true then 1 else 0) ≤ (takeF p k).1.tr.length := by
 rcases takeF_cases p k with h | ⟨n, q, m, f, _, _, _, _, h⟩ <;> rw [h] <;> simp
theorem roundF_grow (p : PS g) : ∀ n, p.tr.length + (if (roundF p n).2 = true then 1 else 0) ≤ (roundF p n).1.tr.length
 | 0 => by simp [roundF]
 | n + 1 => by
  have h1 := roundF_grow p n
  have h2 := takeF_grow (roundF p n).1 n
  show p.tr.length + (if ((takeF (roundF p n).1 n).2 || (roundF p n).2) = true then 1 else 0) ≤ (takeF (roundF p n).1 n).1.tr.length
  cases h3 : (takeF (roundF p n).1 n).2 <;> cases h4 : (roundF p n).2 <;> simp [h3, h4] at h1 h2 ⊢ <;> omega
theorem ordF_len (order : List Int) : ∀ p : PS g, (ordF p order).qs.length = p.qs.length := by
 induction order with
 | nil => intro p; rfl
 | cons k l ih => intro p; show (ordF (takeF p k).1 l).qs.length = _; rw [ih, takeF_len]
theorem ordF_le (order : List Int) : ∀ p : PS g, p.tr.length ≤ 16384 → (ordF p order).tr.length ≤ 16384 := by
 induction order with
 | nil => intro p h; exact h
 | cons k l ih => intro p h; exact ih _ (takeF_le h k)
theorem ordF_snoc (p : PS g) (l : List Int) (k : Int) : ordF p (l ++ [k]) = (takeF (ordF p l) k).1 := by simp [ordF]
def cutN (g : Game) (qs : List g.θ) (j : Nat) : List Nat := (List.range j).filter fun k => ((qs[k]?).bind g.plan).isSome
theorem cutN_succ {qs : List g.θ} {j : Nat} : cutN g qs (j + 1) = cutN g qs j ++ (if ((qs[j]?).bind g.plan).isSome = true then [j] else []) := by
 unfold cutN
 rw [List.range_succ, List.filter_append]
 congr 1
 simp only [List.filter_cons, List.filter_nil]
def shutS (ids : List SId) (qs : List g.θ) (j : Nat) : List (Seat g.σ g.θ) := (List.zip ids qs).mapIdx fun k iq => if k < j then ⟨iq.1.says, iq.1.turn, iq.1.fin, .shut iq.2⟩ else seatS iq.1 iq.2
theorem shutS_zero {ids : List SId} {qs : List g.θ} : shutS ids qs 0 = seatSs ids qs := by
 apply List.ext_getElem?
 intro k
 simp only [shutS, List.getElem?_mapIdx, seatSs, List.getElem?_zipWith, List.getElem?_zip_eq_some, List.zip, Nat.not_lt_zero, if_false]
 cases ids[k]? <;> cases qs[k]? <;> rfl
theorem shutS_len {ids : List SId} {qs : List g.θ} {j : Nat} (h : ids.length = qs.length) : (shutS ids qs j).length = ids.length := by simp [shutS]; omega
theorem shutS_get {ids : List SId} {qs : List g.θ} {j k : Nat} {i : SId} {q : g.θ} (hi : ids[k]? = some i) (hq : qs[k]? = some q) : (shutS ids qs j)[k]? = some (if k < j then ⟨i.says, i.turn, i.fin, .shut q⟩ else seatS i q) := by
 simp [shutS, List.getElem?_mapIdx, List.zip, List.getElem?_zipWith, hi, hq]
theorem shutS_succ {ids : List SId} {qs : List g.θ} {j : Nat} {i : SId} {q : g.θ} (hi : ids[j]? = some i) (hq : qs[j]? = some q) : (shutS ids qs j).set j ⟨i.says, i.turn, i.fin, .shut q⟩ = shutS ids qs (j + 1) := by
 apply List.ext_getElem?
 intro k
 have hj : j < (shutS ids qs j).length := (List.getElem?_eq_some_iff.1 (shutS_get (j := j) hi hq)).1
 rw [List.getElem?_set]
 by_cases e : j = k
 ·subst e
  rw [if_pos rfl, if_pos hj, shutS_get hi hq, if_pos (by omega)]
 ·rw [if_neg e]
  simp only [shutS, List.getElem?_mapIdx]
  cases (ids.zip qs)[k]? with
  | none => rfl
  | some iq =>
   simp only [Option.map_some, Option.some.injEq]
   by_cases h : k < j
   ·rw [if_pos h, if_pos (by omega)]
   ·rw [if_neg h, if_neg (by omega)]
theorem shutS_all {ids : List SId} {qs : List g.θ} (h : ids.length = qs.length) : (shutS ids qs ids.length).map Seat.fins = qs.map g.Fin := by
 apply List.ext_getElem?
 intro k
 by_cases hk : k < ids.length
 ·have hi := List.getElem?_eq_getElem hk
  have hq := List.getElem?_eq_getElem (show k < qs.length by omega)
  rw [List.getElem?_map, shutS_get hi hq, if_pos hk, List.getElem?_map, hq]
  rfl
 ·rw [List.getElem?_eq_none (by simp [shutS_len h]; omega), List.getElem?_eq_none (by simp; omega)]
theorem shutS_closed {ids : List SId} {qs : List g.θ} (h : ids.length = qs.length) : ∀ s ∈ shutS ids qs ids.length, s.closed := by
 intro s hs
 obtain ⟨k, hk⟩ := List.mem_iff_getElem?.1 hs
 have hlt := (List.getElem?_eq_some_iff.1 hk).1
 rw [shutS_len h] at hlt
 rw [shutS_get (List.getElem?_eq_getElem hlt) (List.getElem?_eq_getElem (show k < qs.length by omega)), if_pos hlt] at hk
 cases hk
 trivial
end
section
variable {g : Game} {ts : List (Thr g)} {s0 : g.σ} {F : List HProp} {wg pb rb : Nat} {ov tv : Value}
theorem star_head {c : HProp} {M L : List HProp} {h : Hp} (s : Star (all (c :: M) :: L) h) : Star (c :: all M :: L) h :=
 star_map (star_open s) (fun _ a => a) (fun _ st => star_shut (M := M) st)
def startInvP (ts : List (Thr g)) (s0 : g.σ) (wg pb rb : Nat) (ov tv : Value) (F : List HProp) : PB.Inv (Nat × g.σ × List g.θ × List SId × Value) MX where
 e := fun i => [(0, ov), (1, tv), (4, .pointer (some ⟨rb, 0, none⟩)), (7, .pointer (some ⟨wg, 0, none⟩)), (8, .pointer (some ⟨pb, 0, none⟩)), (28, tv), (29, .int .i64 (ts.length : Nat)), (30, .int .i64 (i.1 : Nat))]
 L := fun i => g.U i.2.1 :: arr pb 0 [i.2.2.2.2, .slice none 0 0, .slice none 0 0] :: vec 1 i.2.2.2.2 (ptrs i.2.2.2.1) :: all (seatCs g i.2.2.2.1 i.2.2.1) :: all ((ts.drop i.1).map Thr.M) :: arr rb 0 [.slice none 0 0, .slice none 0 0] :: F
 x := fun i => gx g wg (seatSs i.2.2.2.1 i.2.2.1) (some i.2.1) 16384 (seatSs i.2.2.2.1 i.2.2.1).length
 ok := fun i => i.1 ≤ ts.length ∧ i.2.2.2.1.length = i.1 ∧ startF (ts.take i.1) s0 = (i.2.1, i.2.2.1)
def seatMid (wg pb rb j n : Nat) (ov tv fv : Value) (x : MX) (L : List HProp) : PB.Inv (Nat × Nat × Nat × Nat) MX where
 e := fun i => [(0, ov), (1, tv), (4, .pointer (some ⟨rb, 0, none⟩)), (7, .pointer (some ⟨wg, 0, none⟩)), (8, .pointer (some ⟨pb, 0, none⟩)), (28, tv), (29, .int .i64 (n : Nat)), (30, .int .i64 (j : Nat)), (10, fv), (11, .pointer (some ⟨i.1, 0, none⟩))]
 L := fun i => arr i.1 0 [.chan (some i.2.2.1), .chan (some i.2.2.2), .chan (some i.2.1), .int .u8 0, .int .i64 0, .bool false] :: ob i.2.1 newChan :: ob i.2.2.1 newChan :: ob i.2.2.2 newChan :: L
 x := fun _ => x
 ok := fun _ => True
def ordInv (p0 : PS g) (order : List Int) (ids : List SId) (wg pb rb : Nat) (ov : Value) (ss : Value) (F : List HProp) : PB.Inv (Nat × Value) MX where
 e := fun i => [(4, .pointer (some ⟨rb, 0, none⟩)), (7, .pointer (some ⟨wg, 0, none⟩)), (8, .pointer (some ⟨pb, 0, none⟩)), (49, ov), (50, .int .i64 (order.length : Nat)), (51, .int .i64 (i.1 : Nat))]
 L := fun i => playL g pb ss i.2 (.slice none 0 0) ids (ordF p0 (order.take i.1)) F
 x := fun i => playX g wg ids (ordF p0 (order.take i.1))
 ok := fun i => i.1 ≤ order.length
def restInv (I : PS g → Prop) (p0 : PS g) (ids : List SId) (wg pb rb : Nat) (ss : Value) (F : List HProp) : PB.Inv (Nat × PS g × Value × Bool) MX where
 e := fun i => [(4, .pointer (some ⟨rb, 0, none⟩)), (7, .pointer (some ⟨wg, 0, none⟩)), (8, .pointer (some ⟨pb, 0, none⟩)), (14, .bool i.2.2.2)]
 L := fun i => playL g pb ss i.2.2.1 (.slice none 0 0) ids i.2.1 F
 x := fun i => playX g wg ids i.2.1
 ok := fun i => I i.2.1 ∧ i.2.1.qs.length = p0.qs.length ∧ i.2.1.tr.length ≤ 16384 ∧ (if i.2.2.2 = true then restF i.1 i.2.1 = restF 16385 p0 ∧ 16384 < i.2.1.tr.length + i.1 else i.2.1 = restF 16385 p0)
def rndInvP (p : PS g) (ids : List SId) (wg pb rb : Nat) (ss : Value) (F : List HProp) : PB.Inv (Nat × Value) MX where
 e := fun i => [(4, .pointer (some ⟨rb, 0, none⟩)), (7, .pointer (some ⟨wg, 0, none⟩)), (8, .pointer (some ⟨pb, 0, none⟩)), (14, .bool (roundF p i.1).2), (61, .int .i64 (ids.length : Nat)), (62, .int .i64 (i.1 : Nat))]
 L := fun i => playL g pb ss i.2 (.slice none 0 0) ids (roundF p i.1).1 F
 x := fun i => playX g wg ids (roundF p i.1).1
 ok := fun i => i.1 ≤ ids.length
def cutInv (p : PS g) (ids : List SId) (wg pb rb : Nat) (ss tsv : Value) (F : List HProp) : PB.Inv (Nat × Value) MX where
 e := fun i => [(4, .pointer (some ⟨rb, 0, none⟩)), (7, .pointer (some ⟨wg, 0, none⟩)), (8, .pointer (some ⟨pb, 0, none⟩)), (72, ss), (73, .int .i64 (ids.length : Nat)), (74, .int .i64 (i.1 : Nat))]
 L := fun i => vec 1 i.2 (cutC (cutN g p.qs i.1)) :: arr pb 0 [ss, tsv, i.2] :: vec 1 ss (ptrs ids) :: vec 3 tsv (trCP p.tr) :: all (seatCs g ids p.qs) :: g.U p.s :: F
 x := fun i => gx g wg (shutS ids p.qs i.1) (some p.s) (16384 - p.tr.length) ids.length
 ok := fun i => i.1 ≤ ids.length
set_option maxHeartbeats 4000000 in
theorem plays_tr {oa ta : Option Addr} {on oc tn tc : Nat} {order : List Int} (I : PS g → Prop) (hS : ∀ j, j < ts.length → g.ok (startF (ts.take j) s0).1) (hI0 : I ⟨(startF ts s0).1, (startF ts s0).2, []⟩) (hIs : ∀ p k, I p → I (takeF p k).1) (hIo : ∀ p, I p → p.tr.length < 16384 → g.ok p.s) (hfin : ∀ q h, g.Pv q h → g.Fin q h) (hts : ∀ t ∈ ts, ThrOk g t.ini t.fv t.M) (h1 : 0 < ts.length) (h16 : ts.length ≤ 16) (hor : order.length ≤ 16384)
  (hrt : RdsO F ta tn (ts.map Thr.fv)) (hro : RdsO F oa on (order.map fun k => .int .i64 k)) :
  Tr Try.prog mT 18 [.slice oa on oc, .slice ta tn tc] (g.U s0 :: all (ts.map Thr.M) :: F) .idle fun v L' x' =>
   ∃ tv cv, v = .tuple #[.agg #[tv, cv], .int .i64 0] ∧ x' = .idle ∧ L' = vec 3 tv (trCP (playF ts s0 order).tr) :: vec 1 cv (cutC (cutN g (playF ts s0 order).qs ts.length)) :: g.U (playF ts s0 order).s :: all ((playF ts s0 order).qs.map g.Fin) :: F := by
 refine Tr.post (R := fun v L' x' => ∃ tv cv, v = .tuple #[.agg #[tv, cv], .int .i64 0] ∧ x' = MX.idle ∧ ∀ h, Star L' h → Star (vec 3 tv (trCP (playF ts s0 order).tr) :: vec 1 cv (cutC (cutN g (playF ts s0 order).qs ts.length)) :: g.U (playF ts s0 order).s :: all ((playF ts s0 order).qs.map g.Fin) :: F) h) ?_
  (by rintro v L' x' ⟨tv, cv, rfl, rfl, h2⟩; exact ⟨_, ⟨tv, cv, rfl, rfl, rfl⟩, h2⟩)
 have hfn : ∀ v ∈ ts.map Thr.fv, isFn v := by
  intro v hv
  obtain ⟨t, ht, rfl⟩ := List.mem_map.1 hv
  obtain ⟨f, first, cap, hc, _⟩ := (hts t ht).run
  revert hc
  cases t.fv with
  | func a b c => exact fun _ => ⟨a, b, c, rfl⟩
  | _ => intro hc; cases hc
 have hIord : ∀ (l : List Int) (p : PS g), I p → I (ordF p l) := by
  intro l
  induction l with
  | nil => exact fun p h => h
  | cons k l ih => exact fun p h => ih _ (hIs p k h)
 have hIrnd : ∀ (p : PS g) k, I p → I (roundF p k).1 := by
  intro p k h
  induction k with
  | zero => exact h
  | succ k ih => exact hIs _ _ ih
 have htn : tn = ts.length := by have := hrt.1; simpa using this
 have hon : on = order.length := by have := hro.1; simpa using this
 subst htn
 subst hon
 refine tr_of_body Try.func18 rfl Try.ntmps18 (by simp) fun um Q _ hQ => ?_
 simp only [argE, Nat.zero_add, Nat.reduceAdd]
 repeat (first | (apply wo_mo; apply mo_alloc; exact trivial) | refine we_seq ?_ | (refine wR ?_; try simp only [oS]))
 rintro v' L' ⟨rb, rfl, rfl⟩
 repeat (first | refine we_seq ?_ | (refine wR ?_; try simp only [oS]) | refine wo_nil ?_ | refine wM ?_ | refine wA ?_)
 refine wo_call (.cons rfl .nil) trivial (wrong_tr (fun v hv => .inr (hfn v hv)) hrt.there.there.there (by omega)) ?_
 rintro v' L' x' ⟨⟨k, rfl, hk⟩, rfl, rfl⟩
 obtain rfl : k = 0 := by
  rcases hk with ⟨_, h⟩ | ⟨_, h⟩
  ·obtain ⟨_, _, _, h⟩ := hfn _ h; cases h
  ·rw [h, List.length_map, if_neg (by omega), if_neg (by omega)]
 repeat (first | (apply wo_mo; apply mo_allocS; exact trivial) | refine wgtrF ?_ | refine wneqF ?_ | refine we_seq ?_ | (refine wR ?_; try simp only [oS]) | refine wo_nil ?_ | refine wM ?_ | refine wA ?_ | refine wE ?_ | refine wF ?_ | refine we_skip ?_)
 rintro v' L' ⟨wg, rfl, rfl⟩
 repeat (first | refine we_seq ?_ | (refine wR ?_; try simp only [oS]) | refine wo_nil ?_)
 refine wo_begin g s0 (wg := wg) (R := arr rb 0 [.slice none 0 0, .slice none 0 0] :: g.U s0 :: all (ts.map Thr.M) :: F) (fun h st => st) ?_
 repeat (first | (apply wo_mo; apply mo_alloc; exact trivial))
 rintro v' L' ⟨pb, rfl, rfl⟩
 repeat (first | refine we_seq ?_ | (refine wR ?_; try simp only [oS]) | refine wo_nil ?_ | refine wM ?_ | refine wE ?_ | refine we_block ?_)
 refine we_star (vec 1 (.slice none 0 0) (ptrs []) :: all (seatCs g [] []) :: arr pb 0 [.slice none 0 0, .slice none 0 0, .slice none 0 0] :: shpC wg 119 2 :: arr rb 0 [.slice none 0 0, .slice none 0 0] :: g.U s0 :: all (ts.map Thr.M) :: F) (fun h st => vec_nil (star_shut (M := []) st)) ?_
 refine we_loopN (startInvP ts s0 wg pb rb (.slice oa order.length oc) (.slice ta ts.length tc) (shpC wg 119 2 :: F)) (fun i => ts.length - i.1) (0, s0, [], [], .slice none 0 0) ⟨by omega, rfl, rfl⟩ ⟨rfl, rfl, rfl, rfl, rfl, rfl, rfl, rfl, trivial⟩ (.take (.there (.there (.there (.there (.there .here))))) (.take (.there (.there .here)) (.take .here (.take .here (.take (.there (.there .here)) (.take (.there .here) (.take .here .refl))))))) rfl ?_
 rintro ⟨j, s, qs, ids, ss⟩ ⟨hj, hids, hst⟩
 simp only at hj hids hst
 have hqs : qs.length = j := by have := startF_len (ts.take j) s0; rw [hst] at this; simpa [Nat.min_eq_left hj] using this
 have hsl : (seatSs ids qs).length = ids.length := by simp [seatSs]; omega
 simp only [startInvP]
 by_cases hlt : j < ts.length
 ·obtain ⟨tb, to, rfl, hrd⟩ := hrt.rds (by omega)
  have ht : ts[j]? = some ts[j] := List.getElem?_eq_getElem hlt
  have hrj := hrd j (ts[j].fv) (by simp [ht])
  have hTO := hts _ (List.getElem_mem hlt)
  have hdrop : ts.drop j = ts[j] :: ts.drop (j + 1) := List.drop_eq_getElem_cons hlt
  rw [hdrop]
  refine we_star (g.U s :: arr pb 0 [ss, .slice none 0 0, .slice none 0 0] :: vec 1 ss (ptrs ids) :: all (seatCs g ids qs) :: ts[j].M :: all ((ts.drop (j + 1)).map Thr.M) :: arr rb 0 [.slice none 0 0, .slice none 0 0] :: shpC wg 119 2 :: F) (fun h st => Ent.star (.take (.there (.there .here)) (.take (.there (.there .here)) (.take (.there (.there .here)) (.take (.there (.there .here)) (.take .here (.take .here .refl)))))) (star_head (((.there (.there (.there (.there .here)))) : Has _ (all ((ts[j] :: ts.drop (j + 1)).map Thr.M)) _).star st))) ?_
  repeat (first | (apply wo_po; apply mo_index1; exact rfl; exact rfl; omega; exact gY) | (apply wo_po; apply mo_load; exact rfl; exact .there (.there (.there (.there (.there (.there (.there (.there hrj))))))); exact trivial) | refine wlssT ?_ | refine we_seq ?_ | (refine wR ?_; try simp only [oS]) | refine wo_nil ?_ | refine wA ?_ | refine wT ?_ | refine we_skip ?_ | refine we_block ?_)
  let MI := seatMid wg pb rb j ts.length (.slice oa order.length oc) (.slice (some ⟨tb, to, none⟩) ts.length tc) ts[j].fv (gx g wg (seatSs ids qs) (some s) 16384 (seatSs ids qs).length) (g.U s :: arr pb 0 [ss, .slice none 0 0, .slice none 0 0] :: vec 1 ss (ptrs ids) :: all (seatCs g ids qs) :: ts[j].M :: all ((ts.drop (j + 1)).map Thr.M) :: arr rb 0 [.slice none 0 0, .slice none 0 0] :: shpC wg 119 2 :: F)
  refine we_join MI ?_ ?_
  ·refine we_draw (List.range' 0 6) (by kernel_rfl) ?_
   refine ap_fork3 (f := 1) (g := 2) (ordf := [1, 0, 2, 3, 4, 5]) (ordg := [2, 0, 1, 3, 4, 5]) (Rf := [2, 3, 4, 5]) (Rg := [1, 3, 4, 5]) (by kernel_rfl) (by kernel_rfl) (by kernel_rfl) (by kernel_rfl) (by kernel_rfl) (by kernel_rfl) (by kernel_rfl) (by kernel_rfl) (by kernel_rfl) ?_ ?_ ?_
   ·refine ap1_mo (Pd' := []) rfl rfl rfl trivial (mo_makeChan (m := 0) (k := .i64) rfl (by omega) (by omega)) (fun v L' _ p hp => by cases hp) ?_
    rintro v' L' ⟨ct, rfl, rfl⟩
    refine ap_fork2 (f := 2) (ordf := [0, 2, 1, 3, 4, 5]) (Rf := [3, 4, 5]) (by kernel_rfl) (by kernel_rfl) (by kernel_rfl) (by kernel_rfl) (by kernel_rfl) ?_ ?_
    ·refine ap1_mo (Pd' := []) rfl rfl rfl trivial (mo_makeChan (m := 0) (k := .i64) rfl (by omega) (by omega)) (fun v L' _ p hp => by cases hp) ?_
     rintro v' L' ⟨ce, rfl, rfl⟩
     refine ap_loud rfl rfl rfl rfl rfl trivial (mo_makeChan (m := 0) (k := .i64) rfl (by omega) (by omega)) ?_
     rintro v' L' ⟨cs, rfl, rfl⟩
     repeat (first | (apply ap_pure; exact rfl; exact rfl; exact trivial; intro L; apply mo_build (pv := [(0, _), (1, _), (2, _)]); exact rfl; exact .cons rfl (.cons rfl (.cons rfl .nil)); exact rfl))
     refine ap_loud rfl rfl rfl rfl rfl trivial (mo_box rfl) ?_
     rintro v' L' ⟨sb, rfl, rfl⟩
     repeat (first | refine aA ?_ | refine ap_end ?_)
     refine at_mid (B := mT) (I := MI) (sb, cs, ct, ce) trivial ?_ ?_ rfl
     exact ⟨rfl, rfl, rfl, rfl, rfl, rfl, rfl, rfl, rfl, rfl, trivial⟩
     repeat (first | exact Ent.refl | (apply Ent.take; (repeat (first | exact Has.here | apply Has.there))) | apply Ent.drop)
    ·refine ap1_mo (Pd' := []) rfl rfl rfl trivial (mo_makeChan (m := 0) (k := .i64) rfl (by omega) (by omega)) (fun v L' _ p hp => by cases hp) ?_
     rintro v' L' ⟨cs, rfl, rfl⟩
     refine ap_loud rfl rfl rfl rfl rfl trivial (mo_makeChan (m := 0) (k := .i64) rfl (by omega) (by omega)) ?_
     rintro v' L' ⟨ce, rfl, rfl⟩
     repeat (first | (apply ap_pure; exact rfl; exact rfl; exact trivial; intro L; apply mo_build (pv := [(0, _), (1, _), (2, _)]); exact rfl; exact .cons rfl (.cons rfl (.cons rfl .nil)); exact rfl))
     refine ap_loud rfl rfl rfl rfl rfl trivial (mo_box rfl) ?_
     rintro v' L' ⟨sb, rfl, rfl⟩
     repeat (first | refine aA ?_ | refine ap_end ?_)
     refine at_mid (B := mT) (I := MI) (sb, cs, ct, ce) trivial ?_ ?_ rfl
     exact ⟨rfl, rfl, rfl, rfl, rfl, rfl, rfl, rfl, rfl, rfl, trivial⟩
     repeat (first | exact Ent.refl | (apply Ent.take; (repeat (first | exact Has.here | apply Has.there))) | apply Ent.drop)
   ·refine ap1_mo (Pd' := []) rfl rfl rfl trivial (mo_makeChan (m := 0) (k := .i64) rfl (by omega) (by omega)) (fun v L' _ p hp => by cases hp) ?_
    rintro v' L' ⟨ce, rfl, rfl⟩
    refine ap_fork2 (f := 2) (ordf := [1, 2, 0, 3, 4, 5]) (Rf := [3, 4, 5]) (by kernel_rfl) (by kernel_rfl) (by kernel_rfl) (by kernel_rfl) (by kernel_rfl) ?_ ?_
    ·refine ap1_mo (Pd' := []) rfl rfl rfl trivial (mo_makeChan (m := 0) (k := .i64) rfl (by omega) (by omega)) (fun v L' _ p hp => by cases hp) ?_
     rintro v' L' ⟨ct, rfl, rfl⟩
     refine ap_loud rfl rfl rfl rfl rfl trivial (mo_makeChan (m := 0) (k := .i64) rfl (by omega) (by omega)) ?_
     rintro v' L' ⟨cs, rfl, rfl⟩
     repeat (first | (apply ap_pure; exact rfl; exact rfl; exact trivial; intro L; apply mo_build (pv := [(0, _), (1, _), (2, _)]); exact rfl; exact .cons rfl (.cons rfl (.cons rfl .nil)); exact rfl))
     refine ap_loud rfl rfl rfl rfl rfl trivial (mo_box rfl) ?_
     rintro v' L' ⟨sb, rfl, rfl⟩
     repeat (first | refine aA ?_ | refine ap_end ?_)
     refine at_mid (B := mT) (I := MI) (sb, cs, ct, ce) trivial ?_ ?_ rfl
     exact ⟨rfl, rfl, rfl, rfl, rfl, rfl, rfl, rfl, rfl, rfl, trivial⟩
     repeat (first | exact Ent.refl | (apply Ent.take; (repeat (first | exact Has.here | apply Has.there))) | apply Ent.drop)
    ·refine ap1_mo (Pd' := []) rfl rfl rfl trivial (mo_makeChan (m := 0) (k := .i64) rfl (by omega) (by omega)) (fun v L' _ p hp => by cases hp) ?_
     rintro v' L' ⟨cs, rfl, rfl⟩
     refine ap_loud rfl rfl rfl rfl rfl trivial (mo_makeChan (m := 0) (k := .i64) rfl (by omega) (by omega)) ?_
     rintro v' L' ⟨ct, rfl, rfl⟩
     repeat (first | (apply ap_pure; exact rfl; exact rfl; exact trivial; intro L; apply mo_build (pv := [(0, _), (1, _), (2, _)]); exact rfl; exact .cons rfl (.cons rfl (.cons rfl .nil)); exact rfl))
     refine ap_loud rfl rfl rfl rfl rfl trivial (mo_box rfl) ?_
     rintro v' L' ⟨sb, rfl, rfl⟩
     repeat (first | refine aA ?_ | refine ap_end ?_)
     refine at_mid (B := mT) (I := MI) (sb, cs, ct, ce) trivial ?_ ?_ rfl
     exact ⟨rfl, rfl, rfl, rfl, rfl, rfl, rfl, rfl, rfl, rfl, trivial⟩
     repeat (first | exact Ent.refl | (apply Ent.take; (repeat (first | exact Has.here | apply Has.there))) | apply Ent.drop)
   ·refine ap1_mo (Pd' := []) rfl rfl rfl trivial (mo_makeChan (m := 0) (k := .i64) rfl (by omega) (by omega)) (fun v L' _ p hp => by cases hp) ?_
    rintro v' L' ⟨cs, rfl, rfl⟩
    refine ap_fork2 (f := 1) (ordf := [2, 1, 0, 3, 4, 5]) (Rf := [3, 4, 5]) (by kernel_rfl) (by kernel_rfl) (by kernel_rfl) (by kernel_rfl) (by kernel_rfl) ?_ ?_
    ·refine ap1_mo (Pd' := []) rfl rfl rfl trivial (mo_makeChan (m := 0) (k := .i64) rfl (by omega) (by omega)) (fun v L' _ p hp => by cases hp) ?_
     rintro v' L' ⟨ct, rfl, rfl⟩
     refine ap_loud rfl rfl rfl rfl rfl trivial (mo_makeChan (m := 0) (k := .i64) rfl (by omega) (by omega)) ?_
     rintro v' L' ⟨ce, rfl, rfl⟩
     repeat (first | (apply ap_pure; exact rfl; exact rfl; exact trivial; intro L; apply mo_build (pv := [(0, _), (1, _), (2, _)]); exact rfl; exact .cons rfl (.cons rfl (.cons rfl .nil)); exact rfl))
     refine ap_loud rfl rfl rfl rfl rfl trivial (mo_box rfl) ?_
     rintro v' L' ⟨sb, rfl, rfl⟩
     repeat (first | refine aA ?_ | refine ap_end ?_)
     refine at_mid (B := mT) (I := MI) (sb, cs, ct, ce) trivial ?_ ?_ rfl
     exact ⟨rfl, rfl, rfl, rfl, rfl, rfl, rfl, rfl, rfl, rfl, trivial⟩
     repeat (first | exact Ent.refl | (apply Ent.take; (repeat (first | exact Has.here | apply Has.there))) | apply Ent.drop)
    ·refine ap1_mo (Pd' := []) rfl rfl rfl trivial (mo_makeChan (m := 0) (k := .i64) rfl (by omega) (by omega)) (fun v L' _ p hp => by cases hp) ?_
     rintro v' L' ⟨ce, rfl, rfl⟩
     refine ap_loud rfl rfl rfl rfl rfl trivial (mo_makeChan (m := 0) (k := .i64) rfl (by omega) (by omega)) ?_
     rintro v' L' ⟨ct, rfl, rfl⟩
     repeat (first | (apply ap_pure; exact rfl; exact rfl; exact trivial; intro L; apply mo_build (pv := [(0, _), (1, _), (2, _)]); exact rfl; exact .cons rfl (.cons rfl (.cons rfl .nil)); exact rfl))
     refine ap_loud rfl rfl rfl rfl rfl trivial (mo_box rfl) ?_
     rintro v' L' ⟨sb, rfl, rfl⟩
     repeat (first | refine aA ?_ | refine ap_end ?_)
     refine at_mid (B := mT) (I := MI) (sb, cs, ct, ce) trivial ?_ ?_ rfl
     exact ⟨rfl, rfl, rfl, rfl, rfl, rfl, rfl, rfl, rfl, rfl, trivial⟩
     repeat (first | exact Ent.refl | (apply Ent.take; (repeat (first | exact Has.here | apply Has.there))) | apply Ent.drop)
  ·rintro ⟨sb, cs, ct, ce⟩ _
   simp only [MI, seatMid]
   repeat (first | refine we_seq ?_ | (refine wR ?_; try simp only [oS]) | refine wM ?_)
   refine wo_call (.cons rfl (.cons rfl (.cons rfl .nil))) trivial (Tr.ent (L' := g.U s :: ts[j].M :: arr sb 0 [.chan (some ct), .chan (some ce), .chan (some cs), .int .u8 0, .int .i64 0, .bool false] :: ob cs newChan :: ob ct newChan :: ob ce newChan :: arr pb 0 [ss, .slice none 0 0, .slice none 0 0] :: vec 1 ss (ptrs ids) :: all (seatCs g ids qs) :: all ((ts.drop (j + 1)).map Thr.M) :: arr rb 0 [.slice none 0 0, .slice none 0 0] :: shpC wg 119 2 :: F) (.take (.there (.there (.there (.there .here)))) (.take (.there (.there (.there (.there (.there (.there (.there .here))))))) (.take .here (.take .here (.take .here (.take .here .refl)))))) (run_tr hTO (by have := hS j hlt; rw [hst] at this; exact this) hfin (by rw [hsl]; omega) (fun h st => shp_of (.there (.there (.there (.there (.there .here))))) st))) ?_
   rintro v' L' x' ⟨rfl, rfl, rfl⟩
   refine wo_pure (of_has (.there (.there (.there (.there .here)))) (vec_shape (by omega))) ?_
   rintro ⟨sa, sn, sc, rfl, hsn, _⟩
   have hsn : sn = ids.length := by simp [ptrs] at hsn; omega
   subst hsn
   repeat (first | (apply wo_mo; apply mo_buildSlice (sz := 1) (vs := [.pointer (some ⟨sb, 0, none⟩)]); exact rfl; exact .cons rfl .nil; exact rfl; (intro v hv; cases (List.mem_singleton.1 hv); exact rfl); omega; exact trivial) | (refine wR ?_; try simp only [oS]) | refine wo_nil ?_ | refine wM ?_ | refine wD ?_ | refine wL ?_)
   rintro v' L' ⟨nb, rfl, rfl⟩
   repeat (first | (apply wo_mo; apply mo_append (sz := 1) (new := [.pointer (some ⟨sb, 0, none⟩)]); exact rfl; exact rfl; exact rfl; exact rfl; exact (.there (.there (.there (.there (.there .here))))); exact rfl; exact .inr ⟨_, _, rfl, Rds.all .here⟩; (intro v hv; cases (List.mem_singleton.1 hv); exact rfl); (simp only [sliceLen]; omega); exact trivial))
   rintro v' L' rfl
   refine wo_pure (of_has .here (vec_shape (by omega))) ?_
   rintro ⟨ua, un, uc, rfl, hun, _⟩
   repeat (first | refine wS ?_ | (refine wR ?_; try simp only [oS]) | refine wo_nil ?_ | refine wM ?_ | refine wD ?_ | refine wadd ?_)
   have hseats : seatCs g (ids ++ [⟨sb, cs, ct, ce⟩]) (qs ++ [(ts[j].ini s).2]) = seatCs g ids qs ++ [seatC g ⟨sb, cs, ct, ce⟩ (ts[j].ini s).2] := by
    unfold seatCs; rw [List.zipWith_append (by omega)]; rfl
   have hseatS : seatSs (ids ++ [⟨sb, cs, ct, ce⟩]) (qs ++ [(ts[j].ini s).2]) = seatSs ids qs ++ [seatS ⟨sb, cs, ct, ce⟩ (ts[j].ini s).2] := by
    unfold seatSs; rw [List.zipWith_append (by omega)]; rfl
   refine at_roundS (B := mT) (I := startInvP ts s0 wg pb rb (.slice oa order.length oc) (.slice (some ⟨tb, to, none⟩) ts.length tc) (shpC wg 119 2 :: F)) (R := fun i' => ts.length - i'.1 < ts.length - j) (j + 1, (ts[j].ini s).1, qs ++ [(ts[j].ini s).2], ids ++ [⟨sb, cs, ct, ce⟩], .slice ua un uc) (by show ts.length - (j + 1) < ts.length - j; omega) ⟨by show j + 1 ≤ _; omega, by show (ids ++ [_]).length = j + 1; simp; omega, ?_⟩ ?_ (fun h st => ?_) ?_
   ·show startF (ts.take (j + 1)) s0 = _
    rw [List.take_succ_eq_append_getElem hlt, startF_snoc, hst]
   ·exact ⟨rfl, rfl, rfl, rfl, rfl, rfl, rfl, rfl, trivial⟩
   ·have s1 : Star (seatR sb cs ct ce :: arr sb 3 (lastC ((g.plan (ts[j].ini s).2).map (·.1))) :: all (seatCs g ids qs) :: g.U (ts[j].ini s).1 :: arr pb 0 [.slice ua un uc, .slice none 0 0, .slice none 0 0] :: vec 1 (.slice ua un uc) (ptrs ids ++ [.pointer (some ⟨sb, 0, none⟩)]) :: all ((ts.drop (j + 1)).map Thr.M) :: arr rb 0 [.slice none 0 0, .slice none 0 0] :: shpC wg 119 2 :: F) h := Ent.star (.take (.there (.there (.there .here))) (.take (.there (.there (.there .here))) (.take (.there (.there (.there (.there .here)))) (.take (.there (.there .here)) (.take (.there (.there .here)) (.take .here (.drop .refl))))))) st
    have s2 := star_push (c := seatC g ⟨sb, cs, ct, ce⟩ (ts[j].ini s).2) (star_shut (M := [_, _]) s1)
    rw [← hseats] at s2
    have e3 : ptrs ids ++ [.pointer (some ⟨sb, 0, none⟩)] = ptrs (ids ++ [⟨sb, cs, ct, ce⟩]) := by simp [ptrs]
    rw [e3] at s2
    exact Ent.star (.take (.there .here) (.take (.there .here) (.take (.there .here) (.take .here .refl)))) s2
   ·show gx g wg (seatSs (ids ++ [_]) (qs ++ [_])) _ _ _ = _
    rw [hseatS]
    simp only [List.length_append, List.length_singleton]
    rfl
 ·obtain rfl : j = ts.length := by omega
  rw [List.take_length] at hst
  rw [hsl]
  repeat (first | refine wlssF ?_ | refine we_seq ?_ | (refine wR ?_; try simp only [oS]) | refine wo_nil ?_ | refine wM ?_ | refine wE ?_ | refine wF ?_ | refine we_block ?_ | refine we_exit ?_)
  refine we_star (playL g pb ss (.slice none 0 0) (.slice none 0 0) ids (⟨s, qs, []⟩ : PS g) (arr rb 0 [.slice none 0 0, .slice none 0 0] :: shpC wg 119 2 :: F)) (fun h st => Ent.star (M := playL g pb ss (.slice none 0 0) (.slice none 0 0) ids (⟨s, qs, []⟩ : PS g) (arr rb 0 [.slice none 0 0, .slice none 0 0] :: shpC wg 119 2 :: F)) (.take (.there .here) (.take (.there .here) (.take (.there .here) (.take .here (.take .here (.drop .refl)))))) (vec_nil (sz := 3) st)) ?_
  refine we_loopN (ordInv (⟨s, qs, []⟩ : PS g) order ids wg pb rb (.slice oa order.length oc) ss (arr rb 0 [.slice none 0 0, .slice none 0 0] :: shpC wg 119 2 :: F)) (fun i => order.length - i.1) (0, .slice none 0 0) (Nat.zero_le _) ⟨rfl, rfl, rfl, rfl, rfl, rfl, trivial⟩ .refl rfl ?_
  have hI1 : I (⟨s, qs, []⟩ : PS g) := by rw [hst] at hI0; exact hI0
  rintro ⟨i, tsv⟩ hi
  replace hi : i ≤ order.length := hi
  have hpl : ids.length = (ordF (⟨s, qs, []⟩ : PS g) (order.take i)).qs.length := by rw [ordF_len]; show ids.length = qs.length; omega
  have hple := ordF_le (order.take i) (⟨s, qs, []⟩ : PS g) (Nat.zero_le _)
  simp only [ordInv]
  by_cases hlt2 : i < order.length
  ·obtain ⟨ob, oo, rfl, hrd⟩ := hro.rds (by omega)
   have hri := hrd i (.int .i64 order[i]) (by rw [List.getElem?_map, List.getElem?_eq_getElem hlt2]; rfl)
   repeat (first | (apply wo_po; apply mo_index1; exact rfl; exact rfl; omega; exact gY) | (apply wo_po; apply mo_load; exact rfl; exact .there (.there (.there (.there (.there (.there (.there hri)))))); exact trivial) | refine wlssT ?_ | refine we_seq ?_ | (refine wR ?_; try simp only [oS]) | refine wo_nil ?_ | refine wM ?_ | refine wA ?_ | refine wT ?_ | refine we_skip ?_ | refine we_block ?_)
   refine wo_call (.cons rfl (.cons rfl .nil)) trivial (takes_tr hpl hple (hIo _ (hIord _ _ hI1))) ?_
   rintro v' L' x' ⟨ts', rfl, rfl, rfl⟩
   repeat (first | (refine wR ?_; try simp only [oS]) | refine wo_nil ?_ | refine wM ?_ | refine wadd ?_)
   have htk : (takeF (ordF (⟨s, qs, []⟩ : PS g) (order.take i)) order[i]).1 = ordF (⟨s, qs, []⟩ : PS g) (order.take (i + 1)) := by
    rw [List.take_succ_eq_append_getElem hlt2, ordF_snoc]
   rw [htk]
   refine at_round (B := mT) (I := ordInv (⟨s, qs, []⟩ : PS g) order ids wg pb rb (.slice (some ⟨ob, oo, none⟩) order.length oc) ss (arr rb 0 [.slice none 0 0, .slice none 0 0] :: shpC wg 119 2 :: F)) (R := fun i' => order.length - i'.1 < order.length - i) (i + 1, ts') (by show order.length - (i + 1) < order.length - i; omega) (show i + 1 ≤ order.length by omega) ?_ .refl rfl
   exact ⟨rfl, rfl, rfl, rfl, rfl, rfl, trivial⟩
  ·obtain rfl : i = order.length := by omega
   rw [List.take_length] at hpl hple ⊢
   obtain ⟨p1, hp1⟩ : ∃ p1, ordF (⟨s, qs, []⟩ : PS g) order = p1 := ⟨_, rfl⟩
   rw [hp1] at hpl hple ⊢
   repeat (first | refine wlssF ?_ | refine we_seq ?_ | (refine wR ?_; try simp only [oS]) | refine wo_nil ?_ | refine wA ?_ | refine wF ?_ | refine we_block ?_ | refine we_exit ?_)
   refine we_loopN (restInv I p1 ids wg pb rb ss (arr rb 0 [.slice none 0 0, .slice none 0 0] :: shpC wg 119 2 :: F)) (fun i => if i.2.2.2 = true then i.1 + 1 else 0) (16385, p1, tsv, true) ⟨by rw [← hp1]; exact hIord _ _ hI1, rfl, hple, by simp only [if_true]; exact ⟨trivial, by omega⟩⟩ ⟨rfl, rfl, rfl, rfl, trivial⟩ .refl rfl ?_
   rintro ⟨n, p, tv2, more⟩ ⟨hIp, hq1, hq2, hq3⟩
   simp only at hIp hq1 hq2 hq3
   simp only [restInv]
   cases more with
   | true =>
    simp only [if_true] at hq3
    obtain ⟨n, rfl⟩ : ∃ m, n = m + 1 := ⟨n - 1, by omega⟩
    have hpq : p.qs.length = ids.length := by omega
    refine we_pure (of_has (.there (.there .here)) (vec_shape (by omega))) ?_
    rintro ⟨sa, sn, sc, rfl, hsn, _⟩
    have hsn : sn = ids.length := by simp [ptrs] at hsn; omega
    subst hsn
    repeat (first | refine we_seq ?_ | (refine wR ?_; try simp only [oS]) | refine wo_nil ?_ | refine wM ?_ | refine wA ?_ | refine wD ?_ | refine wL ?_ | refine wE ?_ | refine wT ?_ | refine we_skip ?_ | refine we_block ?_)
    refine we_loopN (rndInvP p ids wg pb rb (.slice sa ids.length sc) (arr rb 0 [.slice none 0 0, .slice none 0 0] :: shpC wg 119 2 :: F)) (fun i => ids.length - i.1) (0, tv2) (Nat.zero_le _) ⟨rfl, rfl, rfl, rfl, rfl, rfl, trivial⟩ .refl rfl ?_
    rintro ⟨k, tv3⟩ hk
    replace hk : k ≤ ids.length := hk
    simp only [rndInvP]
    by_cases hlt3 : k < ids.length
    ·repeat (first | refine wlssT ?_ | refine we_seq ?_ | (refine wR ?_; try simp only [oS]) | refine wo_nil ?_ | refine wM ?_ | refine wA ?_ | refine wT ?_ | refine we_skip ?_ | refine we_block ?_)
     refine wo_call (.cons rfl (.cons rfl .nil)) trivial (takes_tr (by rw [roundF_len]; omega) (roundF_le hq2 k) (hIo _ (hIrnd _ _ hIp))) ?_
     rintro v' L' x' ⟨ts', rfl, rfl, rfl⟩
     have hnx : roundF p (k + 1) = ((takeF (roundF p k).1 k).1, (takeF (roundF p k).1 k).2 || (roundF p k).2) := rfl
     have hr1 : (roundF p (k + 1)).1 = (takeF (roundF p k).1 k).1 := rfl
     obtain ⟨b, hb⟩ : ∃ b, (takeF (roundF p k).1 k).2 = b := ⟨_, rfl⟩
     rw [hb, ← hr1]
     cases b with
     | true =>
      repeat (first | (refine wR ?_; try simp only [oS]) | refine wo_nil ?_ | refine wM ?_ | refine wA ?_ | (apply wo_no; exact rfl) | refine wK ?_ | refine wadd ?_)
      refine at_round (B := mT) (I := rndInvP p ids wg pb rb (.slice sa ids.length sc) (arr rb 0 [.slice none 0 0, .slice none 0 0] :: shpC wg 119 2 :: F)) (R := fun i' => ids.length - i'.1 < ids.length - k) (k + 1, ts') (by show ids.length - (k + 1) < ids.length - k; omega) (show k + 1 ≤ ids.length by omega) ?_ .refl rfl
      exact ⟨rfl, rfl, rfl, by rw [hnx, hb]; rfl, rfl, rfl, trivial⟩
     | false =>
      repeat (first | (refine wR ?_; try simp only [oS]) | refine wo_nil ?_ | refine wM ?_ | refine wA ?_ | refine wJ ?_ | refine wadd ?_)
      refine at_round (B := mT) (I := rndInvP p ids wg pb rb (.slice sa ids.length sc) (arr rb 0 [.slice none 0 0, .slice none 0 0] :: shpC wg 119 2 :: F)) (R := fun i' => ids.length - i'.1 < ids.length - k) (k + 1, ts') (by show ids.length - (k + 1) < ids.length - k; omega) (show k + 1 ≤ ids.length by omega) ?_ .refl rfl
      exact ⟨rfl, rfl, rfl, by rw [hnx, hb]; rfl, rfl, rfl, trivial⟩
    ·obtain rfl : k = ids.length := by omega
     repeat (first | refine wlssF ?_ | refine we_seq ?_ | (refine wR ?_; try simp only [oS]) | refine wo_nil ?_ | refine wF ?_ | refine we_exit ?_)
     have hg := roundF_grow p ids.length
     have hle3 := roundF_le hq2 ids.length
     have hrest : restF (n + 1) p = if (roundF p ids.length).2 = true then restF n (roundF p ids.length).1 else (roundF p ids.length).1 := by
      show (if (roundF p p.qs.length).2 = true then restF n (roundF p p.qs.length).1 else (roundF p p.qs.length).1) = _
      rw [hpq]
     refine at_round (B := mT) (I := restInv I p1 ids wg pb rb (.slice sa ids.length sc) (arr rb 0 [.slice none 0 0, .slice none 0 0] :: shpC wg 119 2 :: F)) (R := fun i' => (if i'.2.2.2 = true then i'.1 + 1 else 0) < (if true = true then (n + 1) + 1 else 0)) (n, (roundF p ids.length).1, tv3, (roundF p ids.length).2) ?_ ⟨hIrnd _ _ hIp, by show (roundF p ids.length).1.qs.length = _; rw [roundF_len]; exact hq1, hle3, ?_⟩ ?_ .refl rfl
     ·show (if (roundF p ids.length).2 = true then n + 1 else 0) < (if true = true then (n + 1) + 1 else 0)
      simp only [if_true]
      split <;> omega
     ·simp only
      rw [hrest] at hq3
      cases hb : (roundF p ids.length).2 with
      | true => rw [hb] at hq3 hg; simp only [if_true] at hq3 hg ⊢; exact ⟨hq3.1, by omega⟩
      | false => rw [hb] at hq3; simpa using hq3.1
     ·exact ⟨rfl, rfl, rfl, rfl, trivial⟩
   | false =>
    simp only [Bool.false_eq_true, if_false] at hq3
    have hplay : playF ts s0 order = p := by rw [hq3, ← hp1]; unfold playF; rw [hst]
    rw [hplay] at hQ
    have hpq : p.qs.length = ids.length := by omega
    refine we_pure (of_has (.there (.there .here)) (vec_shape (by omega))) ?_
    rintro ⟨sa, sn, sc, rfl, hsn, _, hnz, hy⟩
    have hsn : sn = ids.length := by simp [ptrs] at hsn; omega
    subst hsn
    cases sa with
    | none => have := hnz rfl; omega
    | some ad =>
    obtain ⟨sb, so, sp⟩ := ad
    have := hy _ rfl
    simp only [Addr.mk.injEq, true_and] at this
    subst this
    repeat (first | refine we_seq ?_ | (refine wR ?_; try simp only [oS]) | refine wo_nil ?_ | refine wM ?_ | refine wD ?_ | refine wL ?_ | refine wE ?_ | refine wF ?_ | refine we_block ?_ | refine we_exit ?_)
    refine we_star (vec 1 (.slice none 0 0) (cutC (cutN g p.qs 0)) :: arr pb 0 [.slice (some ⟨sb, so, none⟩) ids.length sc, tv2, .slice none 0 0] :: vec 1 (.slice (some ⟨sb, so, none⟩) ids.length sc) (ptrs ids) :: vec 3 tv2 (trCP p.tr) :: all (seatCs g ids p.qs) :: g.U p.s :: arr rb 0 [.slice none 0 0, .slice none 0 0] :: shpC wg 119 2 :: F) (fun h st => vec_nil (Ent.star (.take (.there .here) (.take (.there .here) (.take (.there .here) (.take (.there .here) (.take .here .refl))))) st)) ?_
    refine we_loopN (cutInv p ids wg pb rb (.slice (some ⟨sb, so, none⟩) ids.length sc) tv2 (arr rb 0 [.slice none 0 0, .slice none 0 0] :: shpC wg 119 2 :: F)) (fun i => ids.length - i.1) (0, .slice none 0 0) (Nat.zero_le _) ⟨rfl, rfl, rfl, rfl, rfl, rfl, trivial⟩ .refl (by simp only [cutInv]; rw [shutS_zero]) ?_
    rintro ⟨k, cv⟩ hk
    replace hk : k ≤ ids.length := hk
    simp only [cutInv]
    by_cases hlt3 : k < ids.length
    ·have hi : ids[k]? = some ids[k] := List.getElem?_eq_getElem hlt3
     have hq : p.qs[k]? = some (p.qs[k]'(by omega)) := List.getElem?_eq_getElem _
     obtain ⟨i, hie⟩ : ∃ i, ids[k] = i := ⟨_, rfl⟩
     obtain ⟨q, hqe⟩ : ∃ q, (p.qs[k]'(by omega)) = q := ⟨_, rfl⟩
     rw [hie] at hi
     rw [hqe] at hq
     let er := all ((seatCs g ids p.qs).eraseIdx k)
     refine we_star (seatR i.sb i.says i.turn i.fin :: arr i.sb 3 (lastQ g q) :: er :: vec 1 cv (cutC (cutN g p.qs k)) :: arr pb 0 [.slice (some ⟨sb, so, none⟩) ids.length sc, tv2, cv] :: vec 1 (.slice (some ⟨sb, so, none⟩) ids.length sc) (ptrs ids) :: vec 3 tv2 (trCP p.tr) :: g.U p.s :: arr rb 0 [.slice none 0 0, .slice none 0 0] :: shpC wg 119 2 :: F) (fun h st => seat_pick hi hq (((.there (.there (.there (.there .here)))) : Has (_ :: _ :: _ :: _ :: all (seatCs g ids p.qs) :: _) _ _).star st)) ?_
     have hback : ∀ {cv' : Value} {cl : List Value} h, Star (seatR i.sb i.says i.turn i.fin :: arr i.sb 3 (lastQ g q) :: er :: vec 1 cv' cl :: arr pb 0 [.slice (some ⟨sb, so, none⟩) ids.length sc, tv2, cv'] :: vec 1 (.slice (some ⟨sb, so, none⟩) ids.length sc) (ptrs ids) :: vec 3 tv2 (trCP p.tr) :: g.U p.s :: arr rb 0 [.slice none 0 0, .slice none 0 0] :: shpC wg 119 2 :: F) h →
       Star (vec 1 cv' cl :: arr pb 0 [.slice (some ⟨sb, so, none⟩) ids.length sc, tv2, cv'] :: vec 1 (.slice (some ⟨sb, so, none⟩) ids.length sc) (ptrs ids) :: vec 3 tv2 (trCP p.tr) :: all (seatCs g ids p.qs) :: g.U p.s :: arr rb 0 [.slice none 0 0, .slice none 0 0] :: shpC wg 119 2 :: F) h := fun h st => by
      have s1 := seat_put (q' := q) hi hq st
      rw [set_same hq] at s1
      exact Ent.star (.take (.there .here) (.take (.there .here) (.take (.there .here) (.take (.there .here) (.take .here .refl))))) s1
     have hcl : (cutN g p.qs k).length ≤ k := by have := List.length_filter_le (fun k => ((p.qs[k]?).bind g.plan).isSome) (List.range k); rw [List.length_range] at this; exact this
     have hget : (shutS ids p.qs k)[k]? = some (⟨i.says, i.turn, i.fin, .said q⟩ : Seat g.σ g.θ) := by rw [shutS_get hi hq, if_neg (by omega)]; rfl
     have hsl2 : ids.length = (shutS ids p.qs k).length := (shutS_len hpq.symm).symm
     have rs : ∀ {a b c d e : HProp} {M : List HProp}, Rd (a :: b :: c :: d :: e :: vec 1 (.slice (some ⟨sb, so, none⟩) ids.length sc) (ptrs ids) :: M) sb (so + k) (.pointer (some ⟨i.sb, 0, none⟩)) := rd_vec (cs := ptrs ids) (.there (.there (.there (.there (.there .here))))) (by simp [ptrs, hi])
     refine we_pure (of_has (.there (.there (.there .here))) (vec_shape (by omega))) ?_
     rintro ⟨ca, cn, cc, rfl, hcn, _⟩
     have hcn : cn = (cutN g p.qs k).length := by simp [cutC] at hcn; omega
     subst hcn
     cases hpl2 : g.plan q with
     | none =>
      have hlq : lastQ g q = [.int .u8 0, .int .i64 0, .bool true] := by unfold lastQ; rw [hpl2]; rfl
      have hcut : cutN g p.qs (k + 1) = cutN g p.qs k := by rw [cutN_succ, hq]; simp [hpl2]
      rw [hlq] at hback ⊢
      have rl : ∀ {a : HProp} {M : List HProp}, Rd (a :: arr i.sb 3 [.int .u8 0, .int .i64 0, .bool true] :: M) i.sb 5 (.bool true) := .there (Rd.row (k := 2) rfl rfl)
      have re : ∀ {M : List HProp}, Rd (seatR i.sb i.says i.turn i.fin :: M) i.sb 1 (.chan (some i.fin)) := Rd.fro (k := 1) rfl rfl
      repeat (first | (apply wo_po; apply mo_index1; exact rfl; exact rfl; omega; exact gY) | (apply wo_po; apply mo_load; exact rfl; (first | exact rs | exact rl | exact re); exact trivial) | refine wlssT ?_ | refine we_seq ?_ | (refine wR ?_; try simp only [oS]) | refine wo_nil ?_ | refine wM ?_ | refine wA ?_ | refine wN ?_ | refine wD ?_ | (apply wo_po; apply mo_not; exact rfl; exact gY) | refine wT ?_ | refine wF ?_ | refine we_skip ?_ | refine we_block ?_)
      refine wo_shut (X := ⟨g, wg, shutS ids p.qs k, some p.s, 16384 - p.tr.length, ids.length, false, .play⟩) (j := k) (c := ⟨i.says, i.turn, i.fin, .said q⟩) (q0 := q) rfl rfl rfl hsl2 rfl hget rfl trivial (by decide) ?_
      repeat (first | (refine wR ?_; try simp only [oS]) | refine wo_nil ?_ | refine wM ?_ | refine wadd ?_)
      refine at_roundS (B := mT) (I := cutInv p ids wg pb rb (.slice (some ⟨sb, so, none⟩) ids.length sc) tv2 (arr rb 0 [.slice none 0 0, .slice none 0 0] :: shpC wg 119 2 :: F)) (R := fun i' => ids.length - i'.1 < ids.length - k) (k + 1, .slice ca (cutN g p.qs k).length cc) (by show ids.length - (k + 1) < ids.length - k; omega) (show k + 1 ≤ ids.length by omega) ?_ (fun h st => ?_) ?_
      ·exact ⟨rfl, rfl, rfl, rfl, rfl, rfl, trivial⟩
      ·show Star (vec 1 _ (cutC (cutN g p.qs (k + 1))) :: _) h
       rw [hcut]
       exact hback h st
      ·simp only [cutInv]
       rw [← shutS_succ hi hq]
     | some mf =>
      obtain ⟨m, f⟩ := mf
      have hlq : lastQ g q = [.int .u8 m.1, .int .i64 m.2, .bool false] := by unfold lastQ; rw [hpl2]; rfl
      have hcut : cutN g p.qs (k + 1) = cutN g p.qs k ++ [k] := by rw [cutN_succ, hq]; simp [hpl2]
      rw [hlq] at hback ⊢
      have rl : ∀ {a : HProp} {M : List HProp}, Rd (a :: arr i.sb 3 [.int .u8 m.1, .int .i64 m.2, .bool false] :: M) i.sb 5 (.bool false) := .there (Rd.row (k := 2) rfl rfl)
      have re : ∀ {a b : HProp} {M : List HProp}, Rd (a :: b :: seatR i.sb i.says i.turn i.fin :: M) i.sb 1 (.chan (some i.fin)) := .there (.there (Rd.fro (k := 1) rfl rfl))
      repeat (first | (apply wo_po; apply mo_index1; exact rfl; exact rfl; omega; exact gY) | (apply wo_po; apply mo_load; exact rfl; (first | exact rs | exact rl); exact trivial) | (apply wo_mo; apply mo_buildSlice (sz := 1) (vs := [.int .i64 (k : Nat)]); exact rfl; exact .cons rfl .nil; exact rfl; (intro v hv; cases (List.mem_singleton.1 hv); exact rfl); omega; exact trivial) | refine wlssT ?_ | refine we_seq ?_ | (refine wR ?_; try simp only [oS]) | refine wo_nil ?_ | refine wM ?_ | refine wA ?_ | refine wN ?_ | refine wD ?_ | (apply wo_po; apply mo_not; exact rfl; exact gY) | refine wL ?_ | refine wT ?_ | refine we_skip ?_ | refine we_block ?_)
      rintro v' L' ⟨nb, rfl, rfl⟩
      repeat (first | (apply wo_mo; apply mo_append (sz := 1) (new := [.int .i64 (k : Nat)]); exact rfl; exact rfl; exact rfl; exact rfl; exact (.there (.there (.there (.there .here)))); exact rfl; exact .inr ⟨_, _, rfl, Rds.all .here⟩; (intro v hv; cases (List.mem_singleton.1 hv); exact rfl); (simp only [sliceLen]; omega); exact trivial))
      rintro v' L' rfl
      refine wo_pure (of_has .here (vec_shape (by omega))) ?_
      rintro ⟨ua, un, uc, rfl, hun, _⟩
      repeat (first | refine wS ?_ | (apply wo_po; apply mo_load; exact rfl; exact re; exact trivial) | (refine wR ?_; try simp only [oS]) | refine wo_nil ?_ | refine wM ?_ | refine wN ?_ | refine wD ?_)
      refine wo_shut (X := ⟨g, wg, shutS ids p.qs k, some p.s, 16384 - p.tr.length, ids.length, false, .play⟩) (j := k) (c := ⟨i.says, i.turn, i.fin, .said q⟩) (q0 := q) rfl rfl rfl hsl2 rfl hget rfl trivial (by decide) ?_
      repeat (first | (refine wR ?_; try simp only [oS]) | refine wo_nil ?_ | refine wM ?_ | refine wadd ?_)
      refine at_roundS (B := mT) (I := cutInv p ids wg pb rb (.slice (some ⟨sb, so, none⟩) ids.length sc) tv2 (arr rb 0 [.slice none 0 0, .slice none 0 0] :: shpC wg 119 2 :: F)) (R := fun i' => ids.length - i'.1 < ids.length - k) (k + 1, .slice ua un uc) (by show ids.length - (k + 1) < ids.length - k; omega) (show k + 1 ≤ ids.length by omega) ?_ (fun h st => ?_) ?_
      ·exact ⟨rfl, rfl, rfl, rfl, rfl, rfl, trivial⟩
      ·show Star (vec 1 _ (cutC (cutN g p.qs (k + 1))) :: _) h
       have e4 : cutC (cutN g p.qs (k + 1)) = cutC (cutN g p.qs k) ++ [.int .i64 (k : Nat)] := by rw [hcut]; simp [cutC]
       rw [e4]
       exact hback h (Ent.star (.take (.there (.there .here)) (.take (.there (.there .here)) (.take (.there (.there .here)) (.take .here (.drop .refl))))) st)
      ·simp only [cutInv]
       rw [← shutS_succ hi hq]
    ·obtain rfl : k = ids.length := by omega
     repeat (first | refine wlssF ?_ | refine we_seq ?_ | (refine wR ?_; try simp only [oS]) | refine wo_nil ?_ | refine wF ?_ | refine we_exit ?_)
     refine wo_call (.cons rfl .nil) trivial (wgWait_tr (X := ⟨g, wg, shutS ids p.qs ids.length, some p.s, 16384 - p.tr.length, ids.length, false, .play⟩) rfl (by show ids.length < 1000; omega) (shutS_len hpq.symm).symm (shutS_closed hpq.symm) rfl (fun h st => shp_of (.there (.there (.there (.there (.there (.there (.there .here))))))) st)) ?_
     rintro v' L' x' ⟨rfl, rfl, rfl⟩
     rw [show (GX.seats ⟨g, wg, shutS ids p.qs ids.length, some p.s, 16384 - p.tr.length, ids.length, false, .play⟩).map Seat.fins = p.qs.map g.Fin from shutS_all hpq.symm]
     repeat (first | (apply wo_po; apply mo_loadA (vs := [tv2, cv]); exact rfl; exact rfl; exact Rds.row (k := 1) (.there (.there .here)) (by intro i v hv; match i, hv with | 0, hv => exact hv | 1, hv => exact hv); exact trivial) | refine we_seq ?_ | (refine wR ?_; try simp only [oS]) | refine wo_nil ?_ | refine wD ?_)
     refine wo_pure (of_has (.there .here) (vec_shape (by omega))) ?_
     rintro ⟨ca, cn, cc, rfl, _⟩
     refine wo_pure (of_has (.there (.there (.there (.there .here)))) (vec_shape (by omega))) ?_
     rintro ⟨ta2, tn2, tc2, rfl, _⟩
     repeat (first | (apply wo_pm; apply mo_storeA (c := 0) (k := 0) (a := 0) (vs := [.slice none 0 0, .slice none 0 0]); exact rfl; exact rfl; exact rfl; (intro w hw; simp [Value.cells] at hw; rcases hw with rfl | rfl <;> rfl); exact rfl; exact Nat.le_refl 2; exact (.there (.there (.there (.there (.there (.there (.there .here))))))); exact trivial) | refine wo_nil ?_ | refine wA ?_ | refine we_ret ?_)
     refine at_leaveM (rs := [.cell 4 49, .tmp 5]) Try.func18 Try.results18 hQ (.inl rfl) (.cons (.cell (vs := [.slice ta2 tn2 tc2, .slice ca cn cc]) rfl rfl (Rds.all (.there (.there (.there (.there (.there (.there (.there .here))))))))) (.cons (.tmp rfl) .nil)) ?_
     refine ⟨_, _, rfl, rfl, fun h st => ?_⟩
     rw [← hids]
     exact Ent.star (.take (.there (.there (.there (.there .here)))) (.take (.there .here) (.take (.there (.there (.there (.there .here)))) (.take .here (.drop (.drop (.drop (.drop (.drop .refl))))))))) st
end
end
end Go.Proofs.Ytodgemainhokjaa
namespace Go.PB.Mach
section
structure In where
 op : Nat
 on : Nat := 0
 a : Nat := 0
 b : Nat := 0
 c : Nat := 0
 d : Nat := 0
 n : Nat := 0
structure Cl where
 code : List In
 data : List Nat := []
structure Wd where
 words : List (List Nat)
 nl : Nat
structure Th where
 calls : List Cl
 call : Nat := 0
 pc : Nat := 0
 r : Nat → Nat := fun _ => 0
 ans : List (Bool × List Nat) := []
 over : Bool := false
def fin : In := { op := 23 }
def Th.cl (t : Th) : Cl := t.calls.getD t.call { code := [] }
def Th.next (t : Th) : In := t.cl.code.getD t.pc fin
def Th.put (t : Th) (i v : Nat) : Th := { t with r := upd t.r i (v % 18446744073709551616) }
def Th.tell (t : Th) (v : Nat) : Th := { t with ans := t.ans.modify t.call fun y => (y.1, y.2 ++ [v]) }
structure Wd.ok (w : Wd) : Prop where
 n : w.words.length < 1000000
 nl : w.nl < 1000000
 len : ∀ l ∈ w.words, l.length < 1000000
 lt : ∀ l ∈ w.words, ∀ v ∈ l, v < 18446744073709551616
def own (t0 : Th) (x : In) : Th :=
 let t := { t0 with pc := t0.pc + 1 }
 match x.op with
 | 6 => t.put x.a x.n
 | 7 => t.put x.a (t.r x.b)
 | 8 => t.put x.a (t.r x.b + t.r x.c + x.n)
 | 9 => t.put x.a (t.r x.b + 18446744073709551616 - t.r x.c)
 | 10 => t.put x.a (t.r x.b * t.r x.c)
 | 11 => t.put x.a (if t.r x.c = 0 then 0 else t.r x.b / t.r x.c)
 | 12 => t.put x.a (t.r x.b &&& t.r x.c)
 | 13 => t.put x.a (t.r x.b ||| t.r x.c)
 | 14 => t.put x.a (t.r x.b * 2 ^ x.n)
 | 15 => t.put x.a (t.r x.b / 2 ^ x.n)
 | 16 => t.put x.a (max (t.r x.b) (t.r x.c))
 | 17 => t.put x.a (t.cl.data.getD ((t.r x.b + x.n) % 18446744073709551616) 0)
 | 18 => { t with pc := x.n }
 | 19 => if t.r x.a = t.r x.b then { t with pc := x.n } else t
 | 20 => if t.r x.a < t.r x.b then { t with pc := x.n } else t
 | 21 => if 9223372036854775808 ≤ t.r x.a then { t with pc := x.n } else t
 | 22 => t.tell (t.r x.a)
 | _ => t
def told (op : Nat) : Bool := 1 ≤ op && op ≤ 5
def Th.begun (t : Th) : Th := if t.ans.length = t.call then { t with ans := t.ans ++ [(false, [])] } else t
def Th.done (t : Th) : Th := { t with ans := t.ans.modify t.call fun y => (true, y.2), call := t.call + 1, pc := 0, r := fun _ => 0 }
def onF : Nat → Th → Option Th
 | 0, _ => none
 | f + 1, t =>
  if t.over = true then some t
  else if t.calls.length ≤ t.call then some { t with over := true }
  else if told t.begun.next.op = true then some t.begun
  else if t.begun.next.op = 23 then onF f t.begun.done
  else onF f (own t.begun t.begun.next)
def Th.place (t : Th) : Nat := (t.r t.next.b + t.next.n) % 18446744073709551616
def op1 (x : In) (l : List Nat) (p : Nat) (r : Nat → Nat) : List Nat × (Nat → Nat) :=
 let v := l.getD p 0
 match x.op with
 | 1 => (l, upd r x.a v)
 | 2 => (l.set p (r x.a), r)
 | 3 => (l.set p ((v + r x.c) % 18446744073709551616), upd r x.a ((v + r x.c) % 18446744073709551616))
 | 4 => (l.set p (r x.c), upd r x.a v)
 | _ => if v = r x.c then (l.set p (r x.d), upd r x.a 1) else (l, upd r x.a 0)
def Wd.row (w : Wd) (on : Nat) : List Nat := w.words.getD on []
def opF (f : Nat) (w : Wd) (t : Th) : Option (Wd × Th) :=
 if t.place < (w.row t.next.on).length then
  let y := op1 t.next (w.row t.next.on) t.place t.r
  (onF f { t with pc := t.pc + 1, r := y.2 }).map fun t' => ({ w with words := w.words.set t.next.on y.1 }, t')
 else none
def Th.mark (t : Th) : Nat × Nat := (t.next.op, t.place)
structure St where
 w : Wd
 l : List Th
 tr : List (Nat × Nat × Nat) := []
def turn (f : Nat) (s : St) (k : Nat) : Option St :=
 match s.l[k]? with
 | some t => (opF f s.w t).map fun y => ⟨y.1, s.l.set k y.2, s.tr ++ [(k, t.mark)]⟩
 | none => some s
def may (s : St) (k : Nat) : Bool := s.tr.length < 16384 && (match s.l[k]? with | some t => !t.over | none => false)
def byOrder (f : Nat) : St → List (Option Nat) → Option St
 | s, [] => some s
 | s, none :: o => byOrder f s o
 | s, some k :: o => if may s k = true then (turn f s k).bind fun s => byOrder f s o else byOrder f s o
def round (f : Nat) : Nat → Nat → St → Bool → Option (St × Bool)
 | 0, _, s, q => some (s, q)
 | m + 1, k, s, q => if may s k = true then (turn f s k).bind fun s => round f m (k + 1) s true else round f m (k + 1) s q
def rounds (f : Nat) : Nat → St → Option St
 | 0, _ => none
 | g + 1, s => (round f s.l.length 0 s false).bind fun y => if y.2 = true then rounds f g y.1 else some y.1
def begin_ (f : Nat) : List Th → Option (List Th)
 | [] => some []
 | t :: l => (onF f t).bind fun t => (begin_ f l).map fun l => t :: l
def play (f g : Nat) (w : Wd) (o : List (Option Nat)) (l : List (List Cl)) : Option St :=
 (begin_ f (l.map fun c => { calls := c })).bind fun l => (byOrder f ⟨w, l, []⟩ o).bind fun s => rounds f g s
def In.ok (x : In) : Bool := 1 ≤ x.op && x.op ≤ 23 && x.a < 24 && x.b < 24 && x.c < 24 && x.d < 24 && x.on < 1000 && x.n < 18446744073709551616 && (!(18 ≤ x.op && x.op ≤ 21) || x.n < 1000000) && (!(x.op = 17) || !(x.a = x.b)) && (!(x.op = 14 || x.op = 15) || x.n < 64)
def Cl.ok (c : Cl) : Bool := c.code.all In.ok && c.data.all (fun v => v < 18446744073709551616) && c.code.length < 1000000 && c.data.length < 1000000
end
end Go.PB.Mach
namespace Go.Proofs.Ytodgemainhokjaa
open Go Go.PB
section
structure Wds where
 W : (Nat → Nat) → Mach.Wd
 un : Mach.Wd → (Nat → Nat)
 ok : (Nat → Nat) → Prop
 fu : Nat
 back : ∀ f, W (un (W f)) = W f
 okun : ∀ f, ok f → ok (un (W f))
def mF (D : Wds) (q : Nat × Mach.Th) (f : Nat → Nat) : (Nat → Nat) × (Nat × Mach.Th) :=
 match Mach.opF D.fu (D.W f) q.2 with
 | some y => (D.un y.1, (q.1, y.2))
 | none => (f, (q.1, { q.2 with over := true }))
def mkII (m : Nat × Nat) : Int × Int := (((m.1 : Nat) : Int), ((m.2 : Nat) : Int))
def mPlan (D : Wds) (q : Nat × Mach.Th) : Option ((Int × Int) × ((Nat → Nat) → (Nat → Nat) × (Nat × Mach.Th))) :=
 if q.2.over = true then none else some (mkII q.2.mark, mF D q)
def mG (D : Wds) (U : (Nat → Nat) → HProp) (Pv : Nat × Mach.Th → HProp) : Game where
 σ := Nat → Nat
 θ := Nat × Mach.Th
 U := U
 plan := mPlan D
 ok := D.ok
 Pv := Pv
 Fin := Pv
def GoodN (D : Wds) : Nat → Mach.Th → Prop
 | 0, _ => True
 | n + 1, t => t.over = true ∨ t.over = false ∧ ∀ f, D.ok f → ∃ f' t', Mach.opF D.fu (D.W f) t = some (D.W f', t') ∧ D.ok f' ∧ GoodN D n t'
def GoodT (D : Wds) (t : Mach.Th) : Prop := ∀ n, GoodN D n t
section
variable {D : Wds} {U : (Nat → Nat) → HProp} {Pv : Nat × Mach.Th → HProp}
structure Rel (p : PS (mG D U Pv)) (st : Mach.St) : Prop where
 w : st.w = D.W p.s
 len : p.qs.length = st.l.length
 qs : ∀ k : Nat, p.qs[k]? = (st.l[k]?).map fun t => (k, t)
 tr : p.tr = st.tr.map fun e => (e.1, mkII e.2)
 le : st.tr.length ≤ 16384
 good : ∀ t ∈ st.l, GoodT D t
 ok : D.ok p.s
structure Begins (D : Wds) (U : (Nat → Nat) → HProp) (Pv : Nat × Mach.Th → HProp) (k0 : Nat) (ts : List (Thr (mG D U Pv))) (cc : List (List Mach.Cl)) : Prop where
 len : ts.length = cc.length
 ini : ∀ (k : Nat) t c, ts[k]? = some t → cc[k]? = some c → ∃ u, Mach.onF D.fu { calls := c } = some u ∧ GoodT D u ∧ ∀ s : (mG D U Pv).σ, t.ini s = (s, ((k0 + k, u) : Nat × Mach.Th))
end
end
end Go.Proofs.Ytodgemainhokjaa
namespace Go.Proofs.Ytodgemainhokjaa
open Go Go.PB
attribute [local irreducible] Mo Bin Eql Tr Wo Ap Wle
section
theorem wds_congr {addr : Nat → Nat × Nat} {N : Nat} {K : List (Nat × Nat × Value)} {f f' : Nat → Nat} (e : ∀ i, i < N → f i = f' i) : ∀ h, wds addr N K f h → wds addr N K f' h := fun h s =>
 ⟨fun w hw => by rw [← e w hw]; exact s.1 w hw, s.2⟩
structure PlS where
 f : Nat → Nat
 g : Nat → Nat
 t : Mach.Th
 n : Nat
section
variable {D : Wds} {addr : Nat → Nat × Nat} {N : Nat} {K : List (Nat × Nat × Value)} {Z : HProp} {Pv : Nat × Mach.Th → HProp} {sb says turn fin wg : Nat}
end
end
section
structure WGm where
 σ : Type
 θ : Type
 ζ : Type
 wf : σ → Nat → Nat
 zf : σ → ζ
 Z : ζ → HProp
 plan : θ → Option ((Int × Int) × (σ → σ × θ))
 ok : σ → Prop
 Pv : θ → HProp
 up : ∀ q h, Star [Pv q] h → Pv q h
def WGm.g (G : WGm) (addr : Nat → Nat × Nat) (N : Nat) (K : List (Nat × Nat × Value)) : Game where
 σ := G.σ
 θ := G.θ
 U := fun s => all [wds addr N K (G.wf s), G.Z (G.zf s)]
 plan := G.plan
 ok := G.ok
 Pv := G.Pv
 Fin := G.Pv
structure GaS (G : WGm) where
 f : Nat → Nat
 c : G.ζ
 s : G.σ
 q : G.θ
 n : Nat
section
variable {G : WGm} {addr : Nat → Nat × Nat} {N : Nat} {K : List (Nat × Nat × Value)} {sb says turn fin wg : Nat}
def gaC (G : WGm) (addr : Nat → Nat × Nat) (N : Nat) (K : List (Nat × Nat × Value)) (sb says turn fin : Nat) (Pm : HProp) (f : Nat → Nat) (c : G.ζ) : HProp := all [wds addr N K f, G.Z c, seatR sb says turn fin, Pm]
def GaStep (G : WGm) (N : Nat) (Pm : HProp) (op : Int) (w : Nat) (s : GaS G) (R : GaS G → Prop) : Prop :=
 ∃ F, G.plan s.q = some ((op, ((w : Nat) : Int)), F) ∧ (∀ i, i < N → s.f i = G.wf s.s i) ∧ s.c = G.zf s.s ∧ (∀ h, Pm h → G.Pv s.q h) ∧ ∀ s' n, n < s.n → G.ok s' → R ⟨G.wf s', G.zf s', (F s').1, (F s').2, n⟩
theorem ga_step {Pm : HProp} {op : Int} {w : Nat} {s : GaS G} {R : GaS G → Prop} {L F : List HProp} (hs : GaStep G N Pm op w s R) (hh : Has L (gaC G addr N K sb says turn fin Pm s.f s.c) F) :
  Tr Try.prog tH 111 [.pointer (some ⟨sb, 0, none⟩), .agg #[.int .u8 op, .int .i64 (w : Nat)]] L (tx (G.g addr N K) says turn fin wg (.busy s.s s.q s.n)) fun v L' x' =>
   ∃ s', R s' ∧ v = .tuple #[] ∧ L' = gaC G addr N K sb says turn fin Pm s'.f s'.c :: F ∧ x' = tx (G.g addr N K) says turn fin wg (.busy s'.s s'.q s'.n) := by
 obtain ⟨FF, hp, hfg, hc, hpm, hR⟩ := hs
 refine tr_star ((G.g addr N K).U s.s :: seatR sb says turn fin :: Pm :: F) (fun h st => ?_) ?_
 ·have s1 : Star (wds addr N K s.f :: G.Z s.c :: seatR sb says turn fin :: Pm :: F) h := star_open (M := [_, _, _, _]) (hh.star st)
  rw [hc] at s1
  exact star_shut (M := [_, _]) (star_map s1 (wds_congr hfg) fun _ z => z)
 ·refine (seat_tr (g := G.g addr N K) (mk := (op, ((w : Nat) : Int))) (f := FF) hp .here .here fun h st => G.up _ _ ?_).post ?_
  ·exact star_map (star_drop st) hpm fun _ z => trivial
  ·rintro v L' x' ⟨m', s', hm, hok, rfl, rfl, rfl⟩
   refine ⟨_, ⟨⟨G.wf s', G.zf s', (FF s').1, (FF s').2, m'⟩, hR s' m' (by omega) hok, rfl, rfl, rfl⟩, fun h st => ?_⟩
   exact star_shut (M := [_, _, _, _]) (star_open (M := [_, _]) st)
def gamAcc (G : WGm) (addr : Nat → Nat × Nat) (N : Nat) (K : List (Nat × Nat × Value)) (A : Apart addr N K) (sb says turn fin wg : Nat) (Pm : HProp) : Acc tH (gateV sb) where
 S := GaS G
 C := fun s => gaC G addr N K sb says turn fin Pm s.f s.c
 x := fun s => tx (G.g addr N K) says turn fin wg (.busy s.s s.q s.n)
 step := GaStep G N Pm
 addr := addr
 load := fun w s R => w < N ∧ R (s.f w) s
 store := fun w n s R => w < N ∧ R { s with f := upd s.f w n }
 cas := fun w a n s R => w < N ∧ if s.f w = a then R true { s with f := upd s.f w n } else R false s
 add := fun w n s R => w < N ∧ R ((s.f w + n) % 18446744073709551616) { s with f := upd s.f w ((s.f w + n) % 18446744073709551616) }
 swap := fun w n s R => w < N ∧ R (s.f w) { s with f := upd s.f w n }
 gate := .inr ⟨_, _, 111, rfl, inferInstance, inferInstance, fun op w s R L F hs hh => ga_step hs hh⟩
 load_ok := fun w s R L F b o ha hl hh => tr_star _ (fun h st => star_open (hh.star st)) (tr_pure (of_has .here fun h hc => (hc.1 w hl.1).1) fun hs =>
  (load_lone (rd_wds .here hl.1 ha)).post fun v L' x' ⟨h1, h2, h3⟩ => ⟨_, ⟨s.f w, s, hs, hl.2, h1, rfl, h3⟩, fun h st => star_shut (M := [_, _, _, _]) (by rw [h2] at st; exact st)⟩)
 store_ok := fun w n s R L F b o ha hn hl hh => tr_star _ (fun h st => star_open (hh.star st))
  ((store_lone (wt_wds A .here hl.1 ha hn)).post fun v L' x' ⟨h1, h2, h3⟩ => ⟨_, ⟨{ s with f := upd s.f w n }, hl.2, h1, rfl, h3⟩, fun h st => star_shut (M := [_, _, _, _]) (by rw [h2] at st; exact st)⟩)
 cas_ok := fun w m n s R L F b o ha hn hl hh => tr_star _ (fun h st => star_open (hh.star st))
  ((cas_lone (rd_wds .here hl.1 ha) (wt_wds A .here hl.1 ha hn)).post fun v L' x' ⟨h1, h2, h3⟩ => by
   obtain ⟨h4, h5⟩ := hl
   by_cases e : s.f w = m
   ·rw [if_pos e] at h5; rw [if_pos (by omega)] at h2; exact ⟨_, ⟨true, _, h5, by rw [h1]; simp [e], rfl, h3⟩, fun h st => star_shut (M := [_, _, _, _]) (by rw [h2] at st; exact st)⟩
   ·rw [if_neg e] at h5; rw [if_neg (by omega)] at h2; exact ⟨_, ⟨false, _, h5, by rw [h1]; simp; omega, rfl, h3⟩, fun h st => star_shut (M := [_, _, _, _]) (by rw [h2] at st; exact st)⟩)
 add_ok := fun w n s R L F b o ha hn hl hh => tr_star _ (fun h st => star_open (hh.star st))
  ((add_lone (r := ((s.f w + n) % 18446744073709551616 : Nat)) (rd_wds .here hl.1 ha) (by rw [wrap_u64_mod]; omega) (wt_wds A .here hl.1 ha (Nat.mod_lt _ (by decide)))).post fun v L' x' ⟨h1, h2, h3⟩ => ⟨_, ⟨_, { s with f := _ }, Nat.mod_lt _ (by decide), hl.2, h1, rfl, h3⟩, fun h st => star_shut (M := [_, _, _, _]) (by rw [h2] at st; exact st)⟩)
theorem ga_go {A : Apart addr N K} {Pm : HProp} {op w : Nat} {o : Int} {s : GaS G} {R : GaS G → Prop} {F : G.σ → G.σ × G.θ} (ho : ((op : Nat) : Int) = o) (hp : G.plan s.q = some ((((op : Nat) : Int), ((w : Nat) : Int)), F)) (hf : ∀ i, i < N → s.f i = G.wf s.s i) (hc : s.c = G.zf s.s) (hpm : ∀ h, Pm h → G.Pv s.q h)
  (hR : ∀ s' n, n < s.n → G.ok s' → R ⟨G.wf s', G.zf s', (F s').1, (F s').2, n⟩) : (gamAcc G addr N K A sb says turn fin wg Pm).step o w s R := by
 subst ho
 exact ⟨F, hp, hf, hc, hpm, hR⟩
end
section
variable {g : Game}
end
end
section
abbrev SwS := (Nat × Nat × Nat) × Nat
abbrev SwT := Nat × Nat × Nat
def swPlan (q : SwT) : Option ((Int × Int) × (SwS → SwS × SwT)) :=
 match q.1, q.2.1 with
 | 0, 0 => some ((((1 : Nat) : Int), ((0 : Nat) : Int)), fun s => if s.1.1 % 2 = 0 then (s, (0, 1, s.1.1)) else ((s.1, 51), (0, 9, 0)))
 | 0, 1 => some ((((1 : Nat) : Int), ((1 : Nat) : Int)), fun s => (s, (0, 2, q.2.2)))
 | 0, 2 => some ((((1 : Nat) : Int), ((2 : Nat) : Int)), fun s => (s, (0, 3, q.2.2)))
 | 0, 3 => some ((((1 : Nat) : Int), ((0 : Nat) : Int)), fun s => if s.1.1 = q.2.2 then ((s.1, 0), (0, 9, 0)) else ((s.1, 51), (0, 9, 0)))
 | 1, 0 => some ((((1 : Nat) : Int), ((0 : Nat) : Int)), fun s => if s.1.1 % 2 = 0 then (s, (1, 1, s.1.1)) else (s, (1, 9, 0)))
 | 1, 1 => some ((((5 : Nat) : Int), ((0 : Nat) : Int)), fun s => if s.1.1 = q.2.2 then ((((q.2.2 + 1) % 18446744073709551616, s.1.2), s.2), (1, 2, q.2.2)) else (s, (1, 9, 0)))
 | 1, 2 => some ((((2 : Nat) : Int), ((1 : Nat) : Int)), fun s => (((s.1.1, 1, s.1.2.2), s.2), (1, 3, q.2.2)))
 | 1, 3 => some ((((2 : Nat) : Int), ((2 : Nat) : Int)), fun s => (((s.1.1, s.1.2.1, 2), s.2), (1, 4, q.2.2)))
 | 1, 4 => some ((((2 : Nat) : Int), ((0 : Nat) : Int)), fun s => ((((q.2.2 + 2) % 18446744073709551616, s.1.2), s.2), (1, 9, 0)))
 | _, _ => none
def swW (s : SwS) (i : Nat) : Nat := match i with | 0 => s.1.1 | 1 => s.1.2.1 | _ => s.1.2.2
def swZ (tb t : Nat) : HProp := all [arr tb 0 [.int .i64 (t : Nat)]]
def swG (tb : Nat) : WGm where
 σ := SwS
 θ := SwT
 ζ := Nat
 wf := swW
 zf := fun s => s.2
 Z := swZ tb
 plan := swPlan
 ok := fun _ => True
 Pv := fun _ _ => True
 up := fun _ _ _ => trivial
section
variable {tb r sb says turn fin wg : Nat} {Pm : HProp}
abbrev swAcc (tb r sb says turn fin wg : Nat) (Pm : HProp) : Acc tH (gateV sb) := gamAcc (swG tb) (sAddr r) 3 (sK r 2) (s_apart r 2) sb says turn fin wg Pm
theorem sw_at : SeqAt (swAcc tb r sb says turn fin wg Pm) r 2 := ⟨by omega, by omega, fun s => rd_in1 (Rd.of .here sC_rd), rfl, fun i _ => s_addr⟩
theorem sw_read {s : GaS (swG tb)} (hq : s.q = ((0, 0, 0) : SwT)) (hf : ∀ j, j < 3 → s.f j = swW s.s j) (hc : s.c = (show SwS from s.s).2) :
  ReadT (swAcc tb r sb says turn fin wg Pm) 2 s fun o s' => s'.q = ((0, 9, 0) : SwT) ∧ (∀ j, j < 3 → s'.f j = swW s'.s j) ∧ (show SwS from s'.s).2 = if o.isSome = true then 0 else 51 := by
 refine ga_go (op := 1) (F := fun s : SwS => if s.1.1 % 2 = 0 then (s, ((0, 1, s.1.1) : SwT)) else ((s.1, 51), ((0, 9, 0) : SwT))) rfl (by rw [hq]; rfl) hf hc (fun _ _ => trivial) fun s1 n1 hn1 _ => ⟨by omega, ?_⟩
 obtain ⟨⟨a1, b1, c1⟩, t1⟩ := s1
 show if a1 % 2 = 0 then _ else _
 by_cases c : a1 % 2 = 0
 ·rw [if_pos c]
  simp only [if_pos c]
  refine ga_go (op := 1) (w := 1) (F := fun s : SwS => (s, ((0, 2, a1) : SwT))) rfl rfl (fun j hj => rfl) rfl (fun _ _ => trivial) fun s2 n2 hn2 _ => ⟨by show 1 < 3; omega, ?_⟩
  refine ga_go (op := 1) (w := 2) (F := fun s : SwS => (s, ((0, 3, a1) : SwT))) rfl rfl (fun j hj => rfl) rfl (fun _ _ => trivial) fun s3 n3 hn3 _ => ⟨by show 2 < 3; omega, ?_⟩
  refine ga_go (op := 1) (w := 0) (F := fun s : SwS => if s.1.1 = a1 then ((s.1, 0), ((0, 9, 0) : SwT)) else ((s.1, 51), ((0, 9, 0) : SwT))) rfl rfl (fun j hj => rfl) rfl (fun _ _ => trivial) fun s4 n4 hn4 _ => ⟨by omega, ?_⟩
  obtain ⟨⟨a4, b4, c4⟩, t4⟩ := s4
  show if a4 = a1 then _ else _
  by_cases e : a4 = a1
  ·rw [if_pos e]
   simp only [if_pos e]
   exact ⟨rfl, fun j hj => by unfold swG swW; rfl, rfl⟩
  ·rw [if_neg e]
   simp only [if_neg e]
   exact ⟨rfl, fun j hj => by unfold swG swW; rfl, rfl⟩
 ·rw [if_neg c]
  simp only [if_neg c]
  exact ⟨rfl, fun j hj => by unfold swG swW; rfl, rfl⟩
theorem sw_write {s : GaS (swG tb)} (hq : s.q = ((1, 0, 0) : SwT)) (hf : ∀ j, j < 3 → s.f j = swW s.s j) (hc : s.c = (show SwS from s.s).2) :
  WriteT (swAcc tb r sb says turn fin wg Pm) [1, 2] s fun o s' => s'.q = ((1, 9, 0) : SwT) ∧ (∀ j, j < 3 → s'.f j = swW s'.s j) ∧ s'.c = (show SwS from s'.s).2 := by
 refine ga_go (op := 1) (F := fun s : SwS => if s.1.1 % 2 = 0 then (s, ((1, 1, s.1.1) : SwT)) else (s, ((1, 9, 0) : SwT))) rfl (by rw [hq]; rfl) hf hc (fun _ _ => trivial) fun s1 n1 hn1 _ => ⟨by omega, ?_⟩
 obtain ⟨⟨a1, b1, c1⟩, t1⟩ := s1
 show if a1 % 2 = 0 then _ else _
 by_cases c : a1 % 2 = 0
 ·rw [if_pos c]
  simp only [if_pos c]
  refine ga_go (op := 5) (w := 0) (F := fun s : SwS => if s.1.1 = a1 then ((((a1 + 1) % 18446744073709551616, s.1.2), s.2), ((1, 2, a1) : SwT)) else (s, ((1, 9, 0) : SwT))) rfl rfl (fun j hj => rfl) rfl (fun _ _ => trivial) fun s2 n2 hn2 _ => ⟨by omega, ?_⟩
  obtain ⟨⟨a2, b2, c2⟩, t2⟩ := s2
  show if a2 = a1 then _ else _
  by_cases e : a2 = a1
  ·rw [if_pos e]
   simp only [if_pos e]
   refine ga_go (op := 2) (w := 1) (F := fun s : SwS => (((s.1.1, 1, s.1.2.2), s.2), ((1, 3, a1) : SwT))) rfl rfl (fun j hj => ?_) rfl (fun _ _ => trivial) fun s3 n3 hn3 _ => ⟨by omega, ?_⟩
   ·match j, hj with
    | 0, _ => rfl
    | 1, _ => rfl
    | 2, _ => rfl
   refine ga_go (op := 2) (w := 2) (F := fun s : SwS => (((s.1.1, s.1.2.1, 2), s.2), ((1, 4, a1) : SwT))) rfl rfl (fun j hj => ?_) rfl (fun _ _ => trivial) fun s4 n4 hn4 _ => ⟨by omega, ?_⟩
   ·match j, hj with
    | 0, _ => rfl
    | 1, _ => rfl
    | 2, _ => rfl
   refine ga_go (op := 2) (w := 0) (F := fun s : SwS => ((((a1 + 2) % 18446744073709551616, s.1.2), s.2), ((1, 9, 0) : SwT))) rfl rfl (fun j hj => ?_) rfl (fun _ _ => trivial) fun s5 n5 hn5 _ => ⟨by omega, ?_⟩
   ·match j, hj with
    | 0, _ => rfl
    | 1, _ => rfl
    | 2, _ => rfl
   refine ⟨rfl, fun j hj => ?_, rfl⟩
   match j, hj with
   | 0, _ => rfl
   | 1, _ => rfl
   | 2, _ => rfl
  ·rw [if_neg e]
   simp only [if_neg e]
   exact ⟨rfl, fun j hj => rfl, rfl⟩
 ·rw [if_neg c]
  simp only [if_neg c]
  exact ⟨rfl, fun j hj => rfl, rfl⟩
abbrev swRo (rb r : Nat) : HProp := fro rb 0 [.pointer (some ⟨r, 0, none⟩)]
abbrev swF1 (rb tb : Nat) : Value := .func (.func 42) #[] #[.pointer (some ⟨rb, 0, none⟩), .pointer (some ⟨tb, 0, none⟩)]
abbrev swF2 (rb : Nat) : Value := .func (.func 43) #[] #[.pointer (some ⟨rb, 0, none⟩)]
theorem sw1_ok {rb : Nat} : ThrOk ((swG tb).g (sAddr r) 3 (sK r 2)) (fun s => (s, ((0, 0, 0) : SwT))) (swF1 rb tb) (swRo rb r) where
 run := by
  refine ⟨_, _, _, rfl, inferInstance, fun sb says turn fin wg (s : SwS) m F hok => ?_⟩
  show Tr Try.prog tH _ [gateV sb, .pointer (some ⟨rb, 0, none⟩), .pointer (some ⟨tb, 0, none⟩)] _ (tx ((swG tb).g (sAddr r) 3 (sK r 2)) says turn fin wg (.busy s ((0, 0, 0) : SwT) m)) _
  refine tr_star (gaC (swG tb) (sAddr r) 3 (sK r 2) sb says turn fin (all []) (swW s) s.2 :: swRo rb r :: F) (fun hp st => ?_) ?_
  ·have s1 : Star (wds (sAddr r) 3 (sK r 2) (swW s) :: swZ tb s.2 :: seatR sb says turn fin :: swRo rb r :: F) hp := star_open (M := [_, _]) st
   have s2 : Star (all [] :: wds (sAddr r) 3 (sK r 2) (swW s) :: swZ tb s.2 :: seatR sb says turn fin :: swRo rb r :: F) hp := star_shut (M := []) s1
   exact star_shut (M := [_, _, _, _]) (Ent.star (.take (.there .here) (.take (.there .here) (.take (.there .here) (.take .here .refl)))) s2)
  have q1 : ∀ {c : HProp}, Rd (c :: swRo rb r :: F) rb 0 (.pointer (some ⟨r, 0, none⟩)) := fun {c} => .there (Rd.fro (k := 0) rfl rfl)
  refine tr_of_body Try.func42 rfl Try.ntmps42 (by simp) fun um Q _ hQ => ?_
  simp only [argE, Nat.zero_add, Nat.reduceAdd]
  repeat (first | (apply wo_po; apply mo_load; exact rfl; exact q1; exact trivial) | (refine wR ?_; try simp only [oS]) | refine wM ?_)
  refine wo_call (.cons rfl (.cons rfl .nil)) trivial (read_tr (A := swAcc tb r sb says turn fin wg (all [])) sw_at (s := ⟨swW s, s.2, s, ((0, 0, 0) : SwT), m⟩) (sw_read rfl (fun j hj => rfl) rfl) .here) ?_
  rintro v L' x' ⟨q, s', rv, ⟨hq, hf, hz⟩, _, rfl, rfl, rfl⟩
  refine wo_star (arr tb 0 [.int .i64 ((show Nat from s'.c) : Nat)] :: wds (sAddr r) 3 (sK r 2) s'.f :: seatR sb says turn fin :: F) (fun hp st => ?_) ?_
  ·have s1 : Star (wds (sAddr r) 3 (sK r 2) s'.f :: swZ tb s'.c :: seatR sb says turn fin :: all [] :: vec 1 rv ((rdW q).map num) :: swRo rb r :: F) hp := star_open (M := [_, _, _, _]) st
   have s2 : Star (arr tb 0 [.int .i64 ((show Nat from s'.c) : Nat)] :: wds (sAddr r) 3 (sK r 2) s'.f :: seatR sb says turn fin :: all [] :: vec 1 rv ((rdW q).map num) :: swRo rb r :: F) hp := star_open (M := [_]) (Ent.star (.take (.there .here) .refl) s1)
   exact Ent.star (.take .here (.take .here (.take .here (.drop (.drop (.drop .refl)))))) s2
  repeat (first | refine wS ?_ | refine wo_nil ?_ | refine wM ?_ | (apply wo_po; apply mo_extract; exact rfl; exact rfl; exact gY))
  (first | refine or0 Try.func42 Try.results42 hQ ?_ | refine on0 Try.func42 Try.results42 hQ ?_)
  refine ⟨s'.s, s'.q, s'.n, rfl, ?_, fun hp st => ?_⟩
  ·show swPlan s'.q = none
   rw [hq]; rfl
  ·have e : (.int .i64 (if q.isSome = true then 0 else 51) : Value) = .int .i64 (((show SwS from s'.s).2 : Nat) : Int) := by rw [hz]; split <;> rfl
   have s1 : Star (swZ tb (show SwS from s'.s).2 :: wds (sAddr r) 3 (sK r 2) s'.f :: seatR sb says turn fin :: F) hp := star_shut (M := [_]) (by rw [e] at st; exact st)
   have s2 : Star (wds (sAddr r) 3 (sK r 2) (swW s'.s) :: swZ tb (show SwS from s'.s).2 :: seatR sb says turn fin :: F) hp := star_map (star_swap s1) (wds_congr hf) fun _ z => z
   exact star_map (star_shut (M := [_, _]) s2) (fun _ z => z) fun _ z => star_map z (fun _ z => z) fun _ z => star_shut (M := []) z
theorem sw2_ok {rb : Nat} : ThrOk ((swG tb).g (sAddr r) 3 (sK r 2)) (fun s => (s, ((1, 0, 0) : SwT))) (swF2 rb) (swRo rb r) where
 run := by
  refine ⟨_, _, _, rfl, inferInstance, fun sb says turn fin wg (s : SwS) m F hok => ?_⟩
  show Tr Try.prog tH _ [gateV sb, .pointer (some ⟨rb, 0, none⟩)] _ (tx ((swG tb).g (sAddr r) 3 (sK r 2)) says turn fin wg (.busy s ((1, 0, 0) : SwT) m)) _
  refine tr_star (gaC (swG tb) (sAddr r) 3 (sK r 2) sb says turn fin (all []) (swW s) s.2 :: swRo rb r :: F) (fun hp st => ?_) ?_
  ·have s1 : Star (wds (sAddr r) 3 (sK r 2) (swW s) :: swZ tb s.2 :: seatR sb says turn fin :: swRo rb r :: F) hp := star_open (M := [_, _]) st
   have s2 : Star (all [] :: wds (sAddr r) 3 (sK r 2) (swW s) :: swZ tb s.2 :: seatR sb says turn fin :: swRo rb r :: F) hp := star_shut (M := []) s1
   exact star_shut (M := [_, _, _, _]) (Ent.star (.take (.there .here) (.take (.there .here) (.take (.there .here) (.take .here .refl)))) s2)
  have q1 : ∀ {c d : HProp}, Rd (c :: swRo rb r :: F) rb 0 (.pointer (some ⟨r, 0, none⟩)) := fun {c d} => .there (Rd.fro (k := 0) rfl rfl)
  refine tr_of_body Try.func43 rfl Try.ntmps43 (by simp) fun um Q _ hQ => ?_
  simp only [argE, Nat.zero_add, Nat.reduceAdd]
  repeat (first | (apply wo_po; apply mo_load; exact rfl; exact q1 (d := all []); exact trivial) | (apply wo_mo; apply mo_buildSlice (sz := 1) (vs := [num 1, num 2]); exact rfl; exact .cons rfl (.cons rfl .nil); exact rfl; (intro v hv; simp at hv; rcases hv with rfl | rfl <;> rfl); omega; exact trivial) | (refine wR ?_; try simp only [oS]) | refine wM ?_)
  rintro v' L' ⟨nb, rfl, rfl⟩
  skip
  refine wo_call (.cons rfl (.cons rfl (.cons rfl .nil))) trivial (write_tr (A := swAcc tb r sb says turn fin wg (all [])) sw_at (ws := [1, 2]) rfl (by decide) (s := ⟨swW s, s.2, s, ((1, 0, 0) : SwT), m⟩) (sw_write rfl (fun j hj => rfl) rfl) (.there .here) ⟨rfl, .inr ⟨_, _, rfl, Rds.all .here⟩⟩) ?_
  rintro v L' x' ⟨q, s', ⟨hq, hf, hz⟩, rfl, rfl, rfl⟩
  repeat (first | refine wo_nil ?_)
  (first | refine or0 Try.func43 Try.results43 hQ ?_ | refine on0 Try.func43 Try.results43 hQ ?_)
  refine ⟨s'.s, s'.q, s'.n, rfl, ?_, fun hp st => ?_⟩
  ·show swPlan s'.q = none
   rw [hq]; rfl
  ·have s1 : Star (wds (sAddr r) 3 (sK r 2) s'.f :: swZ tb s'.c :: seatR sb says turn fin :: all [] :: _) hp := star_open (M := [_, _, _, _]) st
   rw [hz] at s1
   have s2 : Star (wds (sAddr r) 3 (sK r 2) (swW s'.s) :: swZ tb (show SwS from s'.s).2 :: seatR sb says turn fin :: all [] :: _) hp := star_map s1 (wds_congr hf) fun _ z => z
   exact star_map (star_shut (M := [_, _]) s2) (fun _ z => z) fun _ z => star_map z (fun _ z => z) fun _ z => star_map z (fun _ _ => trivial) fun _ z => Ent.star (.drop (.drop .refl)) z
end
def swT (rb tb r : Nat) : List (Thr ((swG tb).g (sAddr r) 3 (sK r 2))) := [⟨swF1 rb tb, fun s => (s, ((0, 0, 0) : SwT)), swRo rb r⟩, ⟨swF2 rb, fun s => (s, ((1, 0, 0) : SwT)), swRo rb r⟩]
theorem sw_plays {rb tb r : Nat} : playF (swT rb tb r) (((2, 7, 8), 0) : SwS) [0, 1, 0] = (⟨((4, 1, 2), 51), [((0, 9, 0) : SwT), ((1, 9, 0) : SwT)], [(0, (1, 0)), (1, (1, 0)), (0, (1, 1)), (0, (1, 2)), (1, (5, 0)), (0, (1, 0)), (1, (2, 1)), (1, (2, 2)), (1, (2, 0))]⟩ : PS ((swG tb).g (sAddr r) 3 (sK r 2))) := by kernel_rfl
theorem rdV_two {L F : List HProp} {b : Nat} {l : List Nat} (hh : Has L (arr b 0 (l.map num)) F) : RdV L (some ⟨b, 0, none⟩) l := fun i v hi =>
 ⟨b, 0, rfl, Rds.all hh i _ (by rw [List.getElem?_map, hi]; rfl)⟩
theorem rdV_vec {L F : List HProp} {a : Option Addr} {n c : Nat} {l : List Nat} (hh : Has L (vec 1 (.slice a n c) (l.map num)) F) (hz : a = none → n = 0) (hn : n = l.length) (hy : ∀ y, a = some y → y = ⟨y.block, y.off, none⟩) : RdV L a l :=
 RdV.vec hh hy fun e => List.length_eq_zero_iff.1 (by rw [← hn]; exact hz e)
set_option maxHeartbeats 2000000 in
theorem awake_tr {L : List HProp} : Tr Try.prog mT 9 [] L .idle fun v L' x' => v = .bool true ∧ L' = L ∧ x' = .idle := by
 refine Tr.post (R := fun v L' x' => v = .bool true ∧ x' = MX.idle ∧ ∀ h, Star L' h → Star L h) ?_
  (by rintro v L' x' ⟨rfl, rfl, h2⟩; exact ⟨_, ⟨rfl, rfl, rfl⟩, h2⟩)
 refine tr_of_body Try.func9 rfl Try.ntmps9 (by simp) fun um Q _ hQ => ?_
 simp only [argE, Nat.zero_add, Nat.reduceAdd]
 repeat (first | (apply wo_mo; apply mo_buildSlice (sz := 1) (vs := [num 5, num 6]); exact rfl; exact .cons rfl (.cons rfl .nil); exact rfl; (intro v hv; simp at hv; rcases hv with rfl | rfl <;> rfl); omega; exact trivial) | refine we_seq ?_ | (refine wR ?_; try simp only [oS]) | refine wo_nil ?_ | refine wA ?_)
 rintro v' L' ⟨b1, rfl, rfl⟩
 refine wo_ent (arr b1 0 ([5, 6].map num) :: L) .refl ?_
 skip
 refine wo_call (.cons rfl .nil) trivial (snew_tr (n := 2) (ws := [5, 6]) (by omega) (by omega) rfl (by decide) ⟨rfl, .inr ⟨_, _, rfl, Rds.all .here⟩⟩) ?_
 rintro v' L' x' ⟨r, rfl, rfl, rfl⟩
 repeat (first | (apply wo_mo; apply mo_alloc; exact trivial) | refine wM ?_ | (apply wo_po; apply mo_extract; exact rfl; exact rfl; exact gY))
 rintro v' L' ⟨rb, rfl, rfl⟩
 repeat (first | refine wS ?_ | refine wneqF ?_ | refine we_seq ?_ | (refine wR ?_; try simp only [oS]) | refine wo_nil ?_ | refine wM ?_ | refine wA ?_ | refine wJ ?_ | refine wL ?_ | (apply wo_po; apply mo_bin; exact rfl; exact rfl; apply bin_eq; apply eql_ptr_nil; exact gY) | refine wF ?_ | refine we_skip ?_)
 refine wo_call .nil trivial new_notes_tr ?_
 rintro v' L' x' ⟨nb, rfl, rfl, rfl⟩
 refine wo_star (all [sC r 2 (recF [5, 6] 0), notesC nb []] :: arr rb 0 [.pointer (some ⟨r, 0, none⟩)] :: arr b1 0 ([5, 6].map num) :: L) (fun h st => star_shut (M := [_, _]) (Ent.star (.take (.there (.there .here)) (.take .here (.take .here .refl))) st)) ?_
 repeat (first | (apply wo_po; apply mo_makeInterface; exact rfl; exact trivial) | (apply wo_mo; apply mo_buildSlice (sz := 1) (vs := [num 7, num 8]); exact rfl; exact .cons rfl (.cons rfl .nil); exact rfl; (intro v hv; simp at hv; rcases hv with rfl | rfl <;> rfl); omega; exact trivial) | refine we_seq ?_ | (refine wR ?_; try simp only [oS]) | refine wo_nil ?_ | refine wM ?_ | refine wA ?_ | refine wL ?_)
 rintro v' L' ⟨b2, rfl, rfl⟩
 refine wo_ent (arr b2 0 ([7, 8].map num) :: all [sC r 2 (recF [5, 6] 0), notesC nb []] :: arr rb 0 [.pointer (some ⟨r, 0, none⟩)] :: arr b1 0 ([5, 6].map num) :: L) .refl ?_
 skip
 refine wo_call (.cons rfl (.cons rfl (.cons rfl .nil))) trivial (write_note (n := 2) (ws := [5, 6]) (ws' := [7, 8]) (v := 0) (by omega) (by omega) rfl (by decide) rfl (by omega) (by decide) (.there .here) ⟨rfl, .inr ⟨_, _, rfl, Rds.all .here⟩⟩) ?_
 rintro v' L' x' ⟨rfl, rfl, rfl⟩
 repeat (first | refine we_seq ?_ | (refine wR ?_; try simp only [oS]) | refine wo_nil ?_ | refine wM ?_ | refine wA ?_ | (apply wo_po; apply mo_extract; exact rfl; exact rfl; exact gY) | refine wL ?_)
 refine wo_call (.cons rfl (.cons rfl .nil)) trivial (read_lone (n := 2) (ws := [7, 8]) (v := 2) (by omega) (by omega) rfl rfl .here) ?_
 rintro v' L' x' ⟨rv, rfl, rfl, rfl⟩
 refine wo_pure (of_has (.there .here) (vec_shape (by omega))) ?_
 rintro ⟨ra, rl, rc, rfl, hlen, hrc, hra, hra2⟩
 obtain rfl : rl = 2 := by simp at hlen; omega
 repeat (first | (apply wo_mo; apply mo_buildSlice (sz := 1) (vs := [num 7, num 8]); exact rfl; exact .cons rfl (.cons rfl .nil); exact rfl; (intro v hv; simp at hv; rcases hv with rfl | rfl <;> rfl); omega; exact rfl) | refine wneqF ?_ | refine we_seq ?_ | (refine wR ?_; try simp only [oS]) | refine wo_nil ?_ | refine wM ?_ | refine wA ?_ | refine wJ ?_ | (apply wo_po; apply mo_extract; exact rfl; exact rfl; exact gY))
 rintro v' L' ⟨b3, rfl, rfl⟩
 refine wo_ent (arr b3 0 ([7, 8].map num) :: sC r 2 (recF [7, 8] 2) :: vec 1 (.slice ra 2 rc) ([7, 8].map num) :: notesC nb (writeMs 2) :: arr rb 0 [.pointer (some ⟨r, 0, none⟩)] :: L) (.take .here (.take .here (.take .here (.take .here (.take (.there .here) (.drop (.drop .refl))))))) ?_
 skip
 refine wo_call (.cons rfl (.cons rfl .nil)) rfl (same_words_tr (l := [7, 8]) (l' := [7, 8]) rfl rfl (by omega) (rdV_vec (.there (.there .here)) hra rfl hra2) (rdV_two .here)) ?_
 rintro v' L' x' ⟨rfl, rfl, rfl⟩
 repeat (first | refine wM ?_ | refine wJ ?_ | (apply wo_po; apply mo_not; exact rfl; exact gY))
 refine wo_call (.cons rfl .nil) rfl (marks_tr (marks := writeMs 2) (by decide) (.there (.there (.there .here)))) ?_
 rintro mv L' x' ⟨rfl, rfl⟩
 refine wo_pure (of_has .here (vec_shape (by omega))) ?_
 rintro ⟨ma, ml, mc, rfl, hml, _⟩
 obtain rfl : ml = 5 := by simp [writeMs, wMarks, mark2] at hml; omega
 repeat (first | (apply wo_mo; apply mo_alloc; exact trivial) | refine wneqF ?_ | refine we_seq ?_ | (refine wR ?_; try simp only [oS]) | refine wo_nil ?_ | refine wJ ?_ | refine wE ?_ | refine wF ?_ | refine we_skip ?_)
 rintro v' L' ⟨tb, rfl, rfl⟩
 repeat (first | refine wS ?_ | refine we_seq ?_ | (refine wR ?_; try simp only [oS]) | refine wo_nil ?_)
 refine wo_ent (arr tb 0 [.int .i64 0] :: sC r 2 (recF [7, 8] 2) :: arr rb 0 [.pointer (some ⟨r, 0, none⟩)] :: L) (.take .here (.take (.there (.there (.there .here))) (.take (.there (.there (.there (.there .here)))) (.drop (.drop (.drop (.drop .refl))))))) ?_
 repeat (first | (apply wo_mo; apply mo_buildSlice (sz := 1) (vs := [.int .i64 0, .int .i64 1, .int .i64 0]); exact rfl; exact .cons rfl (.cons rfl (.cons rfl .nil)); exact rfl; (intro v hv; simp at hv; rcases hv with rfl | rfl | rfl <;> rfl); omega; exact trivial))
 rintro v' L' ⟨ob, rfl, rfl⟩
 repeat (first | (apply wo_po; apply mo_makeFunc (first := []) (cap := [_, _]) (vf := []); exact .nil; exact .cons rfl (.cons rfl .nil); exact trivial) | (apply wo_po; apply mo_makeFunc (first := []) (cap := [_]) (vf := []); exact .nil; exact .cons rfl .nil; exact trivial) | (apply wo_mo; apply mo_buildSlice (sz := 1) (vs := [swF1 rb tb, swF2 rb]); exact rfl; exact .cons rfl (.cons rfl .nil); exact rfl; (intro v hv; simp at hv; rcases hv with rfl | rfl <;> rfl); omega; exact trivial))
 rintro v' L' ⟨fb, rfl, rfl⟩
 refine wo_ent (arr fb 0 [swF1 rb tb, swF2 rb] :: arr ob 0 [.int .i64 0, .int .i64 1, .int .i64 0] :: arr tb 0 [.int .i64 0] :: sC r 2 (recF [7, 8] 2) :: arr rb 0 [.pointer (some ⟨r, 0, none⟩)] :: L) .refl ?_
 refine wo_frz (b := rb) (o := 0) (.there (.there (.there (.there .here)))) ?_
 refine wo_star (((swG tb).g (sAddr r) 3 (sK r 2)).U (((2, 7, 8), 0) : SwS) :: all ((swT rb tb r).map Thr.M) :: arr fb 0 [swF1 rb tb, swF2 rb] :: arr ob 0 [.int .i64 0, .int .i64 1, .int .i64 0] :: L) (fun h st => ?_) ?_
 ·have s1 : Star (swRo rb r :: swRo rb r :: _) h := fro_two st
  have s2 : Star (all ((swT rb tb r).map Thr.M) :: _) h := star_shut (M := [_, _]) s1
  have s3 : Star (swZ tb 0 :: _) h := star_shut (M := [_]) (Ent.star (.take (.there (.there (.there .here))) .refl) s2)
  have s4 : Star (wds (sAddr r) 3 (sK r 2) (swW ((2, 7, 8), 0)) :: swZ tb 0 :: _) h := star_map (Ent.star (.take (.there (.there (.there (.there .here)))) .refl) s3) (wds_congr fun j hj => by
   match j, hj with
   | 0, _ => rfl
   | 1, _ => rfl
   | 2, _ => rfl) fun _ z => z
  have s5 : Star (((swG tb).g (sAddr r) 3 (sK r 2)).U (((2, 7, 8), 0) : SwS) :: _) h := star_shut (M := [_, _]) s4
  exact Ent.star (.take .here (.take .here (.take .here (.take .here .refl)))) s5
 refine wo_call (.cons rfl (.cons rfl .nil)) trivial (plays_tr (order := [0, 1, 0]) (ts := swT rb tb r) (s0 := (((2, 7, 8), 0) : SwS)) (fun _ => True) (fun _ _ => trivial) trivial (fun _ _ _ => trivial) (fun _ _ _ => trivial) (fun _ _ _ => trivial)
   (by intro t ht; simp [swT] at ht; rcases ht with rfl | rfl; exact sw1_ok; exact sw2_ok) (Nat.zero_lt_succ _) (by show 2 ≤ 16; omega) (by show 3 ≤ 16384; omega)
   ⟨rfl, .inr ⟨_, _, rfl, Rds.all .here⟩⟩ ⟨rfl, .inr ⟨_, _, rfl, Rds.all (.there .here)⟩⟩) ?_
 rw [sw_plays]
 rintro v' L' x' ⟨tv, cv, rfl, rfl, rfl⟩
 refine wo_pure (of_has .here (vec_shape (by omega))) ?_
 rintro ⟨a1, n1, c1, rfl, hn1, _, hz1, hy1⟩
 refine wo_pure (of_has (.there .here) (vec_shape (by omega))) ?_
 rintro ⟨a2, n2, c2, rfl, hn2, _⟩
 refine wo_star (arr tb 0 [.int .i64 51] :: L) (fun h st => ?_) ?_
 ·have s1 : Star (wds (sAddr r) 3 (sK r 2) (swW ((4, 1, 2), 51)) :: swZ tb 51 :: _) h := star_open (M := [_, _]) (Ent.star (.take (.there (.there .here)) .refl) st)
  have s2 : Star (arr tb 0 [.int .i64 51] :: _) h := star_open (M := [_]) (Ent.star (.take (.there .here) .refl) s1)
  exact Ent.star (.take .here (.drop (.drop (.drop (.drop (.drop (.drop .refl))))))) s2
 repeat (first | (apply wo_mo; apply mo_alloc; exact trivial) | refine wM ?_ | (apply wo_po; apply mo_extract; exact rfl; exact rfl; exact gY))
 rintro v' L' ⟨pb, rfl, rfl⟩
 repeat (first | (apply wo_pm; apply mo_storeA (c := 0) (k := 0) (a := 0) (vs := [.slice none 0 0, .slice none 0 0]); exact rfl; exact rfl; exact rfl; (intro w hw; simp [Value.cells] at hw; rcases hw with rfl | rfl <;> rfl); exact rfl; exact Nat.le_refl 2; exact .here; exact trivial) | refine weqlT ?_ | refine we_seq ?_ | (refine wR ?_; try simp only [oS]) | refine wo_nil ?_ | refine wM ?_ | refine wA ?_ | refine wK ?_ | refine wL ?_ | refine we_ret ?_)
 (first | refine or1 Try.func9 Try.results9 hQ rfl ?_ | refine on1 Try.func9 Try.results9 hQ rfl ?_)
 exact ⟨rfl, rfl, fun h st => Ent.star (.drop (.drop .refl)) st⟩
end
section
section
variable {B : Hand} [Lets B] {x : B.X} {L F : List HProp}
theorem one_numW {l : List Nat} : ∀ w ∈ l.map num, one w = true := by
 intro w hw
 obtain ⟨v, _, rfl⟩ := List.mem_map.1 hw
 rfl
theorem idle_of {f : FuncId} {args : List Value} {L : List HProp} (t : Tr Try.prog mT f args L .idle fun v L' x' => v = .bool true ∧ L' = L ∧ x' = .idle) : Tr Try.prog mT f args L .idle fun v L' x' => v = .bool true ∧ x' = .idle := t.mono fun v L' x' h => ⟨h.1, h.2.2⟩
theorem copyW_tr {a : Option Addr} {n c : Nat} {l : List Nat} (hr : RdsO L a n (l.map num)) (hb : n ≤ 17592186043904) :
  Tr Try.prog B 21 [.slice a n c] L x fun v L' x' => L' = vec 1 v (l.map num) :: L ∧ x' = x := by
 have hn : n = l.length := by have := hr.1; simpa using this
 subst hn
 refine Tr.post (R := fun v L' x' => x' = x ∧ ∀ h, Star L' h → Star (vec 1 v (l.map num) :: L) h) ?_ (by rintro v L' x' ⟨rfl, h2⟩; exact ⟨_, ⟨rfl, rfl⟩, h2⟩)
 refine tr_star (vec 1 (.slice none 0 0) [] :: L) (fun h st => vec_nil st) ?_
 have hrd : l.length = 0 ∨ ∃ b o, a = some ⟨b, o, none⟩ ∧ Rds (vec 1 (.slice none 0 0) [] :: L) b o (l.map num) := hr.there.2
 refine tr_of_body Try.func21 rfl Try.ntmps21 (by simp) fun um Q _ hQ => ?_
 simp only [argE, Nat.zero_add, Nat.reduceAdd]
 repeat (first | (apply wo_mo; apply mo_append (sz := 1) (new := l.map num); exact rfl; exact rfl; exact rfl; exact rfl; exact .here; (simp); exact hrd; exact one_numW; (simp only [sliceLen]; omega); exact trivial) | refine we_seq ?_ | (refine wR ?_; try simp only [oS]) | refine wo_nil ?_ | refine wM ?_ | refine wA ?_)
 rintro v' L' rfl
 repeat (first | refine wo_nil ?_ | refine wA ?_ | refine we_ret ?_)
 (first | refine or1 Try.func21 Try.results21 hQ rfl ?_ | refine on1 Try.func21 Try.results21 hQ rfl ?_)
 exact ⟨rfl, fun h st => by simpa using st⟩
end
theorem rdsoV {L F : List HProp} {a : Option Addr} {n c : Nat} {cs : List Value} (hh : Has L (vec 1 (.slice a n c) cs) F) (hn : cs.length = n) (hz : a = none → n = 0) (hy : ∀ y, a = some y → y = ⟨y.block, y.off, none⟩) : RdsO L a n cs := by
 refine ⟨hn.symm, ?_⟩
 cases a with
 | none => exact .inl (hz rfl)
 | some y =>
  refine .inr ⟨y.block, y.off, by rw [hy y rfl], ?_⟩
  have e := hy y rfl
  rw [e] at hh
  exact fun i v hi => rd_vec hh hi
theorem rdV_of {L : List HProp} {a : Option Addr} {n : Nat} {l : List Nat} (h : RdsO L a n (l.map num)) : RdV L a l := fun i v hi => by
 have hl : i < l.length := (List.getElem?_eq_some_iff.1 hi).1
 obtain ⟨b, o, e, r⟩ := h.rds (by have := h.1; simp at this; omega)
 exact ⟨b, o, e, r i _ (by rw [List.getElem?_map, hi]; rfl)⟩
end
section
def filledN (n v : Nat) : List Nat := (List.range n).map fun i => v * 100 + i
def sizedF (l : List Nat) (n : Nat) : List Nat := (List.range n).map fun i => l.getD i i
theorem range_snoc {α : Type} {f : Nat → α} {i : Nat} : (List.range (i + 1)).map f = (List.range i).map f ++ [f i] := by simp [List.range_succ]
section
variable {B : Hand} [Lets B] {x : B.X} {L F : List HProp}
def filInv (n v : Nat) (x : B.X) (L : List HProp) : PB.Inv (Nat × Value) B.X where
 e := fun i => [(0, .int .i64 (n : Nat)), (1, .int .u64 (v : Nat)), (5, i.2), (6, .int .i64 (i.1 : Nat))]
 L := fun i => vec 1 i.2 ((filledN i.1 v).map num) :: L
 x := fun _ => x
 ok := fun i => i.1 ≤ n
theorem filled_tr {n v : Nat} (hn : n ≤ 16) (hv : v ≤ 1000000) :
  Tr Try.prog B 12 [.int .i64 (n : Nat), .int .u64 (v : Nat)] L x fun rv L' x' => L' = vec 1 rv ((filledN n v).map num) :: L ∧ x' = x := by
 refine Tr.post (R := fun rv L' x' => x' = x ∧ ∀ h, Star L' h → Star (vec 1 rv ((filledN n v).map num) :: L) h) ?_ (by rintro v L' x' ⟨rfl, h2⟩; exact ⟨_, ⟨rfl, rfl⟩, h2⟩)
 refine tr_star (vec 1 (.slice none 0 0) [] :: L) (fun h st => vec_nil st) ?_
 refine tr_of_body Try.func12 rfl Try.ntmps12 (by simp) fun um Q _ hQ => ?_
 simp only [argE, Nat.zero_add, Nat.reduceAdd]
 repeat (first | refine we_seq ?_ | (refine wR ?_; try simp only [oS]) | refine wo_nil ?_ | refine wA ?_ | refine we_block ?_)
 refine we_loopN (filInv n v x L) (fun i => n - i.1) (0, .slice none 0 0) (Nat.zero_le _) ⟨rfl, rfl, rfl, rfl, trivial⟩ .refl rfl ?_
 rintro ⟨i, sv⟩ hi
 replace hi : i ≤ n := hi
 simp only [filInv]
 refine we_pure (of_has .here (vec_shape (by omega))) ?_
 rintro ⟨a, m, c, rfl, hm, _⟩
 obtain rfl : m = i := by simp [filledN] at hm; omega
 by_cases hlt : m < n
 ·have h1 : IntKind.u64.wrap ((v : Int) * 100) = ((v * 100 : Nat) : Int) := (wrap_u64 (by omega) (by omega)).trans (by omega)
  have h2 : IntKind.u64.wrap (((v * 100 : Nat) : Int) + (m : Int)) = ((v * 100 + m : Nat) : Int) := (wrap_u64 (by omega) (by omega)).trans (by omega)
  repeat (first | (apply wo_po; apply mo_bin; exact rfl; exact rfl; apply bin_mul; exact h1; exact trivial) | (apply wo_po; apply mo_bin; exact rfl; exact rfl; apply bin_add; exact h2; exact trivial) | (apply wo_mo; apply mo_buildSlice (sz := 1) (vs := [num (v * 100 + m)]); exact rfl; exact .cons rfl .nil; exact rfl; (intro v hv; cases (List.mem_singleton.1 hv); exact rfl); omega; exact trivial) | refine wlssT ?_ | refine we_seq ?_ | (refine wR ?_; try simp only [oS]) | refine wo_nil ?_ | refine wM ?_ | (apply wo_po; apply mo_conv; exact rfl; (first | exact wrap_i64 (by omega) (by omega) | exact wrap_u64 (by omega) (by omega)); exact gY) | refine wT ?_ | refine we_skip ?_ | refine we_block ?_)
  rintro v' L' ⟨nb, rfl, rfl⟩
  repeat (first | (apply wo_mo; apply mo_append (sz := 1) (new := [num (v * 100 + m)]); exact rfl; exact rfl; exact rfl; exact rfl; exact (.there .here); exact rfl; exact .inr ⟨_, _, rfl, Rds.all .here⟩; (intro v hv; cases (List.mem_singleton.1 hv); exact rfl); (simp only [sliceLen]; omega); exact trivial))
  rintro v' L' rfl
  repeat (first | (refine wR ?_; try simp only [oS]) | refine wo_nil ?_ | refine wM ?_ | refine wA ?_ | refine wadd ?_)
  refine at_round (I := filInv n v x L) (R := fun j => n - j.1 < n - m) (m + 1, v') (by show n - (m + 1) < n - m; omega) (show m + 1 ≤ n by omega) ⟨rfl, rfl, rfl, rfl, trivial⟩ ?_ rfl
  show Ent _ (vec 1 v' ((filledN (m + 1) v).map num) :: L)
  unfold filledN
  rw [range_snoc, List.map_append]
  exact (.take .here (.drop .refl))
 ·obtain rfl : m = n := by omega
  repeat (first | refine wlssF ?_ | refine we_seq ?_ | (refine wR ?_; try simp only [oS]) | refine wo_nil ?_ | refine wM ?_ | refine wA ?_ | refine wF ?_ | refine we_ret ?_ | refine we_exit ?_)
  (first | refine or1 Try.func12 Try.results12 hQ rfl ?_ | refine on1 Try.func12 Try.results12 hQ rfl ?_)
  exact ⟨rfl, fun h st => st⟩
def sizInv (n : Nat) (l : List Nat) (lv : Value) (x : B.X) (L : List HProp) : PB.Inv (Nat × Value) B.X where
 e := fun i => [(0, lv), (1, .int .i64 (n : Nat)), (5, i.2), (6, .int .i64 (i.1 : Nat))]
 L := fun i => vec 1 i.2 ((sizedF l i.1).map num) :: L
 x := fun _ => x
 ok := fun i => i.1 ≤ n
theorem sized_tr {n m c : Nat} {a : Option Addr} {l : List Nat} (hn : n ≤ 16) (hr : RdsO L a m (l.map num)) :
  Tr Try.prog B 35 [.slice a m c, .int .i64 (n : Nat)] L x fun rv L' x' => L' = vec 1 rv ((sizedF l n).map num) :: L ∧ x' = x := by
 refine Tr.post (R := fun rv L' x' => x' = x ∧ ∀ h, Star L' h → Star (vec 1 rv ((sizedF l n).map num) :: L) h) ?_ (by rintro v L' x' ⟨rfl, h2⟩; exact ⟨_, ⟨rfl, rfl⟩, h2⟩)
 obtain rfl : m = l.length := by have := hr.1; simpa using this
 refine tr_star (vec 1 (.slice none 0 0) [] :: L) (fun h st => vec_nil st) ?_
 refine tr_of_body Try.func35 rfl Try.ntmps35 (by simp) fun um Q _ hQ => ?_
 simp only [argE, Nat.zero_add, Nat.reduceAdd]
 repeat (first | refine we_seq ?_ | (refine wR ?_; try simp only [oS]) | refine wo_nil ?_ | refine wA ?_ | refine we_block ?_)
 refine we_loopN (sizInv n l (.slice a l.length c) x L) (fun i => n - i.1) (0, .slice none 0 0) (Nat.zero_le _) ⟨rfl, rfl, rfl, rfl, trivial⟩ .refl rfl ?_
 rintro ⟨i, sv⟩ hi
 replace hi : i ≤ n := hi
 simp only [sizInv]
 refine we_pure (of_has .here (vec_shape (by omega))) ?_
 rintro ⟨ra, m, rc, rfl, hm, _⟩
 obtain rfl : m = i := by simp [sizedF] at hm; omega
 by_cases hlt : m < n
 ·by_cases h3 : m < l.length
  ·obtain ⟨b, o, rfl, hrd⟩ := hr.rds (by omega)
   obtain ⟨w, hw⟩ : ∃ w, l[m]? = some w := ⟨l[m], List.getElem?_eq_getElem h3⟩
   have hrw : Rd (vec 1 (.slice ra m rc) ((sizedF l m).map num) :: L) b (o + m) (.int .u64 (w : Nat)) := .there (hrd m _ (by rw [List.getElem?_map, hw]; rfl))
   repeat (first | (apply wo_po; apply mo_indexAddr (r := o + m); exact rfl; exact rfl; omega; omega; omega; exact trivial) | (apply wo_po; apply mo_load; exact rfl; exact hrw; exact trivial) | (apply wo_mo; apply mo_buildSlice (sz := 1) (vs := [num w]); exact rfl; exact .cons rfl .nil; exact rfl; (intro v hv; cases (List.mem_singleton.1 hv); exact rfl); omega; exact trivial) | refine wlssT ?_ | refine we_seq ?_ | (refine wR ?_; try simp only [oS]) | refine wo_nil ?_ | refine wM ?_ | refine wE ?_ | refine wT ?_ | refine we_skip ?_ | refine we_block ?_)
   rintro v' L' ⟨nb, rfl, rfl⟩
   repeat (first | (apply wo_mo; apply mo_append (sz := 1) (new := [num w]); exact rfl; exact rfl; exact rfl; exact rfl; exact (.there .here); exact rfl; exact .inr ⟨_, _, rfl, Rds.all .here⟩; (intro v hv; cases (List.mem_singleton.1 hv); exact rfl); (simp only [sliceLen]; omega); exact trivial))
   rintro v' L' rfl
   repeat (first | (refine wR ?_; try simp only [oS]) | refine wo_nil ?_ | refine wM ?_ | refine wA ?_ | refine wadd ?_)
   refine at_round (I := sizInv n l (.slice (some ⟨b, o, none⟩) l.length c) x L) (R := fun j => n - j.1 < n - m) (m + 1, v') (by show n - (m + 1) < n - m; omega) (show m + 1 ≤ n by omega) ⟨rfl, rfl, rfl, rfl, trivial⟩ ?_ rfl
   show Ent _ (vec 1 v' ((sizedF l (m + 1)).map num) :: L)
   unfold sizedF
   rw [range_snoc, List.map_append, show l.getD m m = w by rw [List.getD_eq_getElem?_getD, hw]; rfl]
   exact (.take .here (.drop .refl))
  ·repeat (first | (apply wo_mo; apply mo_buildSlice (sz := 1) (vs := [num m]); exact rfl; exact .cons rfl .nil; exact rfl; (intro v hv; cases (List.mem_singleton.1 hv); exact rfl); omega; exact trivial) | refine wlssT ?_ | refine wlssF ?_ | refine we_seq ?_ | (refine wR ?_; try simp only [oS]) | refine wo_nil ?_ | refine wM ?_ | refine wE ?_ | (apply wo_po; apply mo_conv; exact rfl; (first | exact wrap_i64 (by omega) (by omega) | exact wrap_u64 (by omega) (by omega)); exact gY) | refine wT ?_ | refine wF ?_ | refine we_skip ?_ | refine we_block ?_)
   rintro v' L' ⟨nb, rfl, rfl⟩
   repeat (first | (apply wo_mo; apply mo_append (sz := 1) (new := [num m]); exact rfl; exact rfl; exact rfl; exact rfl; exact (.there .here); exact rfl; exact .inr ⟨_, _, rfl, Rds.all .here⟩; (intro v hv; cases (List.mem_singleton.1 hv); exact rfl); (simp only [sliceLen]; omega); exact trivial))
   rintro v' L' rfl
   repeat (first | (refine wR ?_; try simp only [oS]) | refine wo_nil ?_ | refine wM ?_ | refine wA ?_ | refine wadd ?_)
   refine at_round (I := sizInv n l (.slice a l.length c) x L) (R := fun j => n - j.1 < n - m) (m + 1, v') (by show n - (m + 1) < n - m; omega) (show m + 1 ≤ n by omega) ⟨rfl, rfl, rfl, rfl, trivial⟩ ?_ rfl
   show Ent _ (vec 1 v' ((sizedF l (m + 1)).map num) :: L)
   unfold sizedF
   rw [range_snoc, List.map_append, show l.getD m m = m by rw [List.getD_eq_getElem?_getD, List.getElem?_eq_none (by omega)]; rfl]
   exact (.take .here (.drop .refl))
 ·obtain rfl : m = n := by omega
  repeat (first | refine wlssF ?_ | refine we_seq ?_ | (refine wR ?_; try simp only [oS]) | refine wo_nil ?_ | refine wM ?_ | refine wA ?_ | refine wF ?_ | refine we_ret ?_ | refine we_exit ?_)
  (first | refine or1 Try.func35 Try.results35 hQ rfl ?_ | refine on1 Try.func35 Try.results35 hQ rfl ?_)
  exact ⟨rfl, fun h st => st⟩
def oMarks (op : Int) (k : Nat) : List (Int × Nat) := (List.range k).map fun j => (op, 1 + j)
theorem wMarks_eq : ∀ k i, wMarks k i = (List.range' i k).map fun j => ((2 : Int), 1 + j)
 | 0, _ => rfl
 | k + 1, i => by rw [wMarks, wMarks_eq k, List.range'_succ]; rfl
theorem rMarks_eq : ∀ k i, rMarks k i = (List.range' i k).map fun j => ((1 : Int), 1 + j)
 | 0, _ => rfl
 | k + 1, i => by rw [rMarks, rMarks_eq k, List.range'_succ]; rfl
def wantM (n : Nat) (w : Bool) : List (Int × Nat) := (if w = true then [(1, 0), (5, 0)] else [(1, 0)]) ++ oMarks (if w = true then 2 else 1) n ++ [(if w = true then 2 else 1, 0)]
theorem want_write {n : Nat} : wantM n true = writeMs n := by
 unfold wantM writeMs oMarks
 rw [wMarks_eq, List.range_eq_range']; simp
theorem want_read {n : Nat} : wantM n false = readMs n := by
 unfold wantM readMs oMarks
 rw [rMarks_eq, List.range_eq_range']; simp
def stpInv (n : Nat) (op : Int) (pre : List (Int × Nat)) (lv : Value) (x : B.X) (L : List HProp) : PB.Inv (Nat × Value) B.X where
 e := fun i => [(0, lv), (1, .int .i64 (n : Nat)), (7, i.2), (8, .int .u8 op), (9, .int .i64 (i.1 : Nat))]
 L := fun i => vec 2 i.2 ((pre ++ oMarks op i.1).map mark2).flatten :: L
 x := fun _ => x
 ok := fun i => i.1 ≤ n
theorem marks_snoc {l : List (Int × Nat)} {op : Int} {w : Nat} : ((l ++ [(op, w)]).map mark2).flatten = (l.map mark2).flatten ++ [.int .u8 op, .int .i64 (w : Nat)] := by simp [mark2]
theorem steps_tr {n m c : Nat} {a : Option Addr} {w : Bool} (hn : n ≤ 16) (hm : m = (wantM n w).length) (hr : RdM L a (wantM n w)) :
  Tr Try.prog B 37 [.slice a m c, .int .i64 (n : Nat), .bool w] L x fun rv L' x' => rv = .bool true ∧ L' = L ∧ x' = x := by
 refine Tr.post (R := fun rv L' x' => rv = .bool true ∧ x' = x ∧ ∀ h, Star L' h → Star L h) ?_ (by rintro v L' x' ⟨rfl, rfl, h2⟩; exact ⟨_, ⟨rfl, rfl, rfl⟩, h2⟩)
 refine tr_star (vec 2 (.slice none 0 0) [] :: L) (fun h st => vec_nil st) ?_
 have hml : m ≤ 19 := by rw [hm]; cases w <;> simp [wantM, oMarks] <;> omega
 refine tr_of_body Try.func37 rfl Try.ntmps37 (by simp) fun um Q _ hQ => ?_
 simp only [argE, Nat.zero_add, Nat.reduceAdd]
 repeat (first | (apply wo_po; apply mo_build (pv := [(0, _)]); exact rfl; exact .cons rfl .nil; exact rfl; exact trivial) | (apply wo_mo; apply mo_buildSlice (sz := 2) (vs := [.agg #[.int .u8 1, .int .i64 0]]); exact rfl; exact .cons rfl .nil; exact rfl; (intro v hv; cases (List.mem_singleton.1 hv); exact rfl); omega; exact trivial) | refine we_seq ?_ | (refine wR ?_; try simp only [oS]) | refine wo_nil ?_ | refine wM ?_ | refine wA ?_)
 rintro v' L' ⟨nb, rfl, rfl⟩
 repeat (first | (apply wo_mo; apply mo_append (sz := 2) (new := [.int .u8 1, .int .i64 0]); exact rfl; exact rfl; exact rfl; exact rfl; exact (.there .here); exact rfl; exact .inr ⟨_, _, rfl, Rds.all .here⟩; (intro v hv; simp at hv; rcases hv with rfl | rfl <;> rfl); (simp only [sliceLen]; omega); exact trivial))
 rintro v' L' rfl
 cases w
 ·repeat (first | refine we_seq ?_ | (refine wR ?_; try simp only [oS]) | refine wo_nil ?_ | refine wM ?_ | refine wA ?_ | refine wF ?_ | refine we_skip ?_ | refine we_block ?_)
  refine we_ent (vec 2 v' ((([(1, 0)] : List (Int × Nat)) ++ oMarks 1 0).map mark2).flatten :: L) (.take .here (.drop .refl)) ?_
  refine we_loopN (stpInv n 1 [(1, 0)] (.slice a m c) x L) (fun i => n - i.1) (0, v') (Nat.zero_le _) ⟨rfl, rfl, rfl, rfl, rfl, trivial⟩ .refl rfl ?_
  rintro ⟨i, sv⟩ hi
  replace hi : i ≤ n := hi
  simp only [stpInv]
  refine we_pure (of_has .here (vec_shape (by omega))) ?_
  rintro ⟨ra, k, rc, rfl, hk, _, hz, hy⟩
  obtain rfl : k = i + 1 := by rw [flat2] at hk; simp [oMarks] at hk; omega
  have h1i : IntKind.i64.wrap (1 + (i : Int)) = ((1 + i : Nat) : Int) := (wrap_i64 (by omega) (by omega)).trans (by omega)
  by_cases hlt : i < n
  ·repeat (first | (apply wo_po; apply mo_bin; exact rfl; exact rfl; apply bin_add; exact h1i; exact trivial) | (apply wo_po; apply mo_build (pv := [(0, _), (1, _)]); exact rfl; exact .cons rfl (.cons rfl .nil); exact rfl; exact trivial) | (apply wo_mo; apply mo_buildSlice (sz := 2) (vs := [.agg #[.int .u8 1, .int .i64 ((1 + i : Nat) : Int)]]); exact rfl; exact .cons rfl .nil; exact rfl; (intro v hv; cases (List.mem_singleton.1 hv); exact rfl); omega; exact trivial) | refine wlssT ?_ | refine we_seq ?_ | (refine wR ?_; try simp only [oS]) | refine wo_nil ?_ | refine wM ?_ | refine wT ?_ | refine we_skip ?_ | refine we_block ?_)
   rintro v' L' ⟨nb, rfl, rfl⟩
   repeat (first | (apply wo_mo; apply mo_append (sz := 2) (new := [.int .u8 1, .int .i64 ((1 + i : Nat) : Int)]); exact rfl; exact rfl; exact rfl; exact rfl; exact (.there .here); exact rfl; exact .inr ⟨_, _, rfl, Rds.all .here⟩; (intro v hv; simp at hv; rcases hv with rfl | rfl <;> rfl); (simp only [sliceLen]; omega); exact trivial))
   rintro v' L' rfl
   repeat (first | (refine wR ?_; try simp only [oS]) | refine wo_nil ?_ | refine wM ?_ | refine wA ?_ | refine wadd ?_)
   refine at_round (I := stpInv n 1 [(1, 0)] (.slice a m c) x L) (R := fun j => n - j.1 < n - i) (i + 1, v') (by show n - (i + 1) < n - i; omega) (show i + 1 ≤ n by omega) ⟨rfl, rfl, rfl, rfl, rfl, trivial⟩ ?_ rfl
   show Ent _ (vec 2 v' ((([(1, 0)] : List (Int × Nat)) ++ oMarks 1 (i + 1)).map mark2).flatten :: L)
   unfold oMarks
   rw [range_snoc, ← List.append_assoc, marks_snoc]
   exact (.take .here (.drop .refl))
  ·obtain rfl : i = n := by omega
   repeat (first | (apply wo_po; apply mo_build (pv := [(0, _)]); exact rfl; exact .cons rfl .nil; exact rfl; exact trivial) | (apply wo_mo; apply mo_buildSlice (sz := 2) (vs := [.agg #[.int .u8 1, .int .i64 0]]); exact rfl; exact .cons rfl .nil; exact rfl; (intro v hv; cases (List.mem_singleton.1 hv); exact rfl); omega; exact trivial) | refine wlssF ?_ | refine we_seq ?_ | (refine wR ?_; try simp only [oS]) | refine wo_nil ?_ | refine wM ?_ | refine wF ?_ | refine we_exit ?_)
   rintro v' L' ⟨nb, rfl, rfl⟩
   repeat (first | (apply wo_mo; apply mo_append (sz := 2) (new := [.int .u8 1, .int .i64 0]); exact rfl; exact rfl; exact rfl; exact rfl; exact (.there .here); exact rfl; exact .inr ⟨_, _, rfl, Rds.all .here⟩; (intro v hv; simp at hv; rcases hv with rfl | rfl <;> rfl); (simp only [sliceLen]; omega); exact trivial))
   rintro v' L' hL
   have e : wantM i false = ([(1, 0)] : List (Int × Nat)) ++ oMarks 1 i ++ [(1, 0)] := rfl
   rw [show (((([(1, 0)] : List (Int × Nat)) ++ oMarks 1 i).map mark2).flatten ++ [.int .u8 1, .int .i64 0] : List Value) = ((wantM i false).map mark2).flatten by rw [e, marks_snoc]; rfl] at hL
   subst hL
   refine wo_pure (of_has .here (vec_shape (by omega))) ?_
   rintro ⟨ua, un, uc, rfl, hun, _, uz, uy⟩
   obtain rfl : un = (wantM i false).length := by rw [flat2] at hun; omega
   repeat (first | refine we_seq ?_ | (refine wR ?_; try simp only [oS]) | refine wo_nil ?_ | refine wM ?_ | refine wA ?_)
   refine wo_call (.cons rfl (.cons rfl .nil)) trivial (same_marks_tr (l := wantM i false) (l' := wantM i false) hm rfl (by omega) (fun j y hj => by
    obtain ⟨b, o, e1, e2⟩ := hr j y hj
    exact ⟨b, o, e1, fun q v hq => .there (.there (e2 q v hq))⟩) (RdM.vec .here uy fun e => absurd (uz e) (by simp [wantM]))) ?_
   rintro v1 L1 x1 ⟨rfl, rfl, rfl⟩
   rw [decide_eq_true rfl]
   repeat (first | refine wo_nil ?_ | refine wA ?_ | refine we_ret ?_)
   (first | refine or1 Try.func37 Try.results37 hQ rfl ?_ | refine on1 Try.func37 Try.results37 hQ rfl ?_)
   exact ⟨rfl, rfl, fun h st => Ent.star (.drop (.drop .refl)) st⟩
 ·refine wo_pure (of_has .here (vec_shape (by omega))) ?_
  rintro ⟨ra, k, rc, rfl, hk, _, hz, hy⟩
  obtain rfl : k = 1 := by simp at hk; omega
  repeat (first | (apply wo_po; apply mo_build (pv := [(0, _)]); exact rfl; exact .cons rfl .nil; exact rfl; exact trivial) | (apply wo_mo; apply mo_buildSlice (sz := 2) (vs := [.agg #[.int .u8 5, .int .i64 0]]); exact rfl; exact .cons rfl .nil; exact rfl; (intro v hv; cases (List.mem_singleton.1 hv); exact rfl); omega; exact trivial) | refine we_seq ?_ | (refine wR ?_; try simp only [oS]) | refine wo_nil ?_ | refine wM ?_ | refine wA ?_ | refine wT ?_)
  rintro v' L' ⟨nb2, rfl, rfl⟩
  repeat (first | (apply wo_mo; apply mo_append (sz := 2) (new := [.int .u8 5, .int .i64 0]); exact rfl; exact rfl; exact rfl; exact rfl; exact (.there .here); exact rfl; exact .inr ⟨_, _, rfl, Rds.all .here⟩; (intro v hv; simp at hv; rcases hv with rfl | rfl <;> rfl); (simp only [sliceLen]; omega); exact trivial))
  rintro v' L' rfl
  repeat (first | refine we_seq ?_ | (refine wR ?_; try simp only [oS]) | refine wo_nil ?_ | refine wA ?_ | refine we_block ?_)
  refine we_ent (vec 2 v' ((([(1, 0), (5, 0)] : List (Int × Nat)) ++ oMarks 2 0).map mark2).flatten :: L) (.take .here (.drop (.drop .refl))) ?_
  refine we_loopN (stpInv n 2 [(1, 0), (5, 0)] (.slice a m c) x L) (fun i => n - i.1) (0, v') (Nat.zero_le _) ⟨rfl, rfl, rfl, rfl, rfl, trivial⟩ .refl rfl ?_
  rintro ⟨i, sv⟩ hi
  replace hi : i ≤ n := hi
  simp only [stpInv]
  refine we_pure (of_has .here (vec_shape (by omega))) ?_
  rintro ⟨ra, k, rc, rfl, hk, _, hz, hy⟩
  obtain rfl : k = i + 2 := by rw [flat2] at hk; simp [oMarks] at hk; omega
  have h1i : IntKind.i64.wrap (1 + (i : Int)) = ((1 + i : Nat) : Int) := (wrap_i64 (by omega) (by omega)).trans (by omega)
  by_cases hlt : i < n
  ·repeat (first | (apply wo_po; apply mo_bin; exact rfl; exact rfl; apply bin_add; exact h1i; exact trivial) | (apply wo_po; apply mo_build (pv := [(0, _), (1, _)]); exact rfl; exact .cons rfl (.cons rfl .nil); exact rfl; exact trivial) | (apply wo_mo; apply mo_buildSlice (sz := 2) (vs := [.agg #[.int .u8 2, .int .i64 ((1 + i : Nat) : Int)]]); exact rfl; exact .cons rfl .nil; exact rfl; (intro v hv; cases (List.mem_singleton.1 hv); exact rfl); omega; exact trivial) | refine wlssT ?_ | refine we_seq ?_ | (refine wR ?_; try simp only [oS]) | refine wo_nil ?_ | refine wM ?_ | refine wT ?_ | refine we_skip ?_ | refine we_block ?_)
   rintro v' L' ⟨nb, rfl, rfl⟩
   repeat (first | (apply wo_mo; apply mo_append (sz := 2) (new := [.int .u8 2, .int .i64 ((1 + i : Nat) : Int)]); exact rfl; exact rfl; exact rfl; exact rfl; exact (.there .here); exact rfl; exact .inr ⟨_, _, rfl, Rds.all .here⟩; (intro v hv; simp at hv; rcases hv with rfl | rfl <;> rfl); (simp only [sliceLen]; omega); exact trivial))
   rintro v' L' rfl
   repeat (first | (refine wR ?_; try simp only [oS]) | refine wo_nil ?_ | refine wM ?_ | refine wA ?_ | refine wadd ?_)
   refine at_round (I := stpInv n 2 [(1, 0), (5, 0)] (.slice a m c) x L) (R := fun j => n - j.1 < n - i) (i + 1, v') (by show n - (i + 1) < n - i; omega) (show i + 1 ≤ n by omega) ⟨rfl, rfl, rfl, rfl, rfl, trivial⟩ ?_ rfl
   show Ent _ (vec 2 v' ((([(1, 0), (5, 0)] : List (Int × Nat)) ++ oMarks 2 (i + 1)).map mark2).flatten :: L)
   unfold oMarks
   rw [range_snoc, ← List.append_assoc, marks_snoc]
   exact (.take .here (.drop .refl))
  ·obtain rfl : i = n := by omega
   repeat (first | (apply wo_po; apply mo_build (pv := [(0, _)]); exact rfl; exact .cons rfl .nil; exact rfl; exact trivial) | (apply wo_mo; apply mo_buildSlice (sz := 2) (vs := [.agg #[.int .u8 2, .int .i64 0]]); exact rfl; exact .cons rfl .nil; exact rfl; (intro v hv; cases (List.mem_singleton.1 hv); exact rfl); omega; exact trivial) | refine wlssF ?_ | refine we_seq ?_ | (refine wR ?_; try simp only [oS]) | refine wo_nil ?_ | refine wM ?_ | refine wF ?_ | refine we_exit ?_)
   rintro v' L' ⟨nb, rfl, rfl⟩
   repeat (first | (apply wo_mo; apply mo_append (sz := 2) (new := [.int .u8 2, .int .i64 0]); exact rfl; exact rfl; exact rfl; exact rfl; exact (.there .here); exact rfl; exact .inr ⟨_, _, rfl, Rds.all .here⟩; (intro v hv; simp at hv; rcases hv with rfl | rfl <;> rfl); (simp only [sliceLen]; omega); exact trivial))
   rintro v' L' hL
   have e : wantM i true = ([(1, 0), (5, 0)] : List (Int × Nat)) ++ oMarks 2 i ++ [(2, 0)] := rfl
   rw [show (((([(1, 0), (5, 0)] : List (Int × Nat)) ++ oMarks 2 i).map mark2).flatten ++ [.int .u8 2, .int .i64 0] : List Value) = ((wantM i true).map mark2).flatten by rw [e, marks_snoc]; rfl] at hL
   subst hL
   refine wo_pure (of_has .here (vec_shape (by omega))) ?_
   rintro ⟨ua, un, uc, rfl, hun, _, uz, uy⟩
   obtain rfl : un = (wantM i true).length := by rw [flat2] at hun; omega
   repeat (first | refine we_seq ?_ | (refine wR ?_; try simp only [oS]) | refine wo_nil ?_ | refine wM ?_ | refine wA ?_)
   refine wo_call (.cons rfl (.cons rfl .nil)) trivial (same_marks_tr (l := wantM i true) (l' := wantM i true) hm rfl (by omega) (fun j y hj => by
    obtain ⟨b, o, e1, e2⟩ := hr j y hj
    exact ⟨b, o, e1, fun q v hq => .there (.there (e2 q v hq))⟩) (RdM.vec .here uy fun e => absurd (uz e) (by simp [wantM]))) ?_
   rintro v1 L1 x1 ⟨rfl, rfl, rfl⟩
   rw [decide_eq_true rfl]
   repeat (first | refine wo_nil ?_ | refine wA ?_ | refine we_ret ?_)
   (first | refine or1 Try.func37 Try.results37 hQ rfl ?_ | refine on1 Try.func37 Try.results37 hQ rfl ?_)
   exact ⟨rfl, rfl, fun h st => Ent.star (.drop (.drop .refl)) st⟩
end
theorem filledN_len {n v : Nat} : (filledN n v).length = n := by simp [filledN]
theorem sizedF_len {n : Nat} {l : List Nat} : (sizedF l n).length = n := by simp [sizedF]
theorem filledN_lt {n v : Nat} (hn : n ≤ 16) (hv : v ≤ 1000000) : ∀ w ∈ filledN n v, w < 18446744073709551616 := by
 intro w hw
 simp only [filledN, List.mem_map, List.mem_range] at hw
 obtain ⟨i, hi, rfl⟩ := hw
 omega
theorem sizedF_lt {n : Nat} {l : List Nat} (hn : n ≤ 16) (hl : ∀ w ∈ l, w < 18446744073709551616) : ∀ w ∈ sizedF l n, w < 18446744073709551616 := by
 intro w hw
 simp only [sizedF, List.mem_map, List.mem_range] at hw
 obtain ⟨i, hi, rfl⟩ := hw
 rw [List.getD_eq_getElem?_getD]
 cases h : l[i]? with
 | none => simp; omega
 | some w => simpa using hl w (List.mem_of_getElem? h)
abbrev RowW := Option Addr × Nat × List Nat
def RwAt (L : List HProp) (a : Option Addr) (rs : List RowW) : Prop := ∀ (i : Nat) y, rs[i]? = some y → ∃ b o, a = some ⟨b, o, none⟩ ∧ Rd L b (o + i) (.slice y.1 y.2.2.length y.2.1) ∧ RdsO L y.1 y.2.2.length (y.2.2.map num)
def alnInv (r n : Nat) (rv : Value) (L : List HProp) : PB.Inv (Nat × Value × List Nat) MX where
 e := fun i => [(0, rv), (1, .int .i64 (n : Nat)), (5, .pointer (some ⟨r, 0, none⟩)), (7, i.2.1), (8, .int .i64 (i.1 : Nat))]
 L := fun i => sC r n (recF i.2.2 (2 * i.1)) :: vec 1 i.2.1 (i.2.2.map num) :: L
 x := fun _ => .idle
 ok := fun i => i.1 ≤ 30 ∧ i.2.2.length = n ∧ ∀ w ∈ i.2.2, w < 18446744073709551616
set_option maxHeartbeats 4000000 in
theorem salone_tr {L : List HProp} {ra : Option Addr} {rc : Nat} {rs : List RowW} {size : Int} (hr : RwAt L ra rs) (hb : ∀ y ∈ rs, ∀ w ∈ y.2.2, w < 18446744073709551616) (hsz : -9223372036854775808 ≤ size ∧ size ≤ 9223372036854775807) :
  Tr Try.prog mT 6 [.slice ra rs.length rc, .int .i64 size] L .idle fun v L' x' => v = .bool true ∧ L' = L ∧ x' = .idle := by
 refine Tr.post (R := fun v L' x' => v = .bool true ∧ x' = MX.idle ∧ ∀ h, Star L' h → Star L h) ?_
  (by rintro v L' x' ⟨rfl, rfl, h2⟩; exact ⟨_, ⟨rfl, rfl, rfl⟩, h2⟩)
 have e16 := Int.emod_nonneg size (by decide : (16 : Int) ≠ 0)
 have e16' := Int.emod_lt_of_pos size (by decide : (0 : Int) < 16)
 obtain ⟨n, hn⟩ : ∃ n : Nat, 1 + size % 16 = n := ⟨(1 + size % 16).toNat, by omega⟩
 have hw0 : IntKind.i64.wrap (1 + size % 16) = n := by rw [hn]; exact wrap_i64 (by omega) (by omega)
 have h1 : 1 ≤ n := by omega
 have h2 : n ≤ 16 := by omega
 refine tr_of_body Try.func6 rfl Try.ntmps6 (by simp) fun um Q _ hQ => ?_
 simp only [argE, Nat.zero_add, Nat.reduceAdd]
 repeat (first | refine we_seq ?_ | (refine wR ?_; try simp only [oS]) | refine wo_nil ?_ | refine wA ?_)
 refine wo_call .nil trivial awake_tr ?_
 rintro v1 L1 x1 ⟨rfl, hL1, rfl⟩
 rw [hL1]
 clear hL1
 repeat (first | refine we_seq ?_ | (refine wR ?_; try simp only [oS]) | refine wo_nil ?_ | refine wM ?_ | (apply wo_po; apply mo_not; exact rfl; exact gY) | refine wF ?_ | refine we_skip ?_)
 refine wo_call (.cons rfl (.cons rfl .nil)) trivial (within_tr hsz (by omega)) ?_
 rintro v1 L1 x1 ⟨rfl, hL1, rfl⟩
 rw [hL1]
 clear hL1
 repeat (first | (apply wo_po; apply mo_bin; exact rfl; exact rfl; apply bin_add; exact hw0; exact trivial) | refine we_seq ?_ | (refine wR ?_; try simp only [oS]) | refine wo_nil ?_ | refine wM ?_ | refine wA ?_)
 refine wo_call (.cons rfl (.cons rfl .nil)) trivial (filled_tr (n := n) (v := 3) h2 (by omega)) ?_
 rintro fv L1 x1 ⟨rfl, rfl⟩
 refine wo_pure (of_has .here (vec_shape (by omega))) ?_
 rintro ⟨fa, fn, fc, rfl, hfn, _, hfz, hfy⟩
 obtain rfl : fn = n := by simp [filledN] at hfn; omega
 skip
 refine wo_call (.cons rfl .nil) trivial (snew_tr h1 h2 filledN_len (filledN_lt h2 (by omega)) (rdsoV .here (by simp [filledN]) hfz hfy)) ?_
 rintro v1 L1 x1 ⟨r, rfl, rfl, rfl⟩
 repeat (first | refine wneqF ?_ | refine we_seq ?_ | (refine wR ?_; try simp only [oS]) | refine wo_nil ?_ | refine wM ?_ | refine wA ?_ | refine wJ ?_ | (apply wo_po; apply mo_extract; exact rfl; exact rfl; exact gY) | (apply wo_po; apply mo_bin; exact rfl; exact rfl; apply bin_eq; apply eql_ptr_nil; exact gY) | refine wF ?_ | refine we_skip ?_)
 refine wo_call (.cons rfl (.cons rfl .nil)) trivial (filled_tr (n := fn) (v := 3) h2 (by omega)) ?_
 rintro lv L1 x1 ⟨rfl, rfl⟩
 repeat (first | refine we_seq ?_ | (refine wR ?_; try simp only [oS]) | refine wo_nil ?_ | refine wA ?_ | refine we_block ?_)
 refine we_loopN (alnInv r fn (.slice ra rs.length rc) L) (fun i => 30 - i.1) (0, lv, filledN fn 3) ⟨Nat.zero_le _, filledN_len, filledN_lt h2 (by omega)⟩ ⟨rfl, rfl, rfl, rfl, rfl, trivial⟩ (.take (.there .here) (.take .here (.drop .refl))) rfl ?_
 rintro ⟨i, lv, last⟩ ⟨hi, hlen, hlb⟩
 dsimp only at hi hlen hlb
 simp only [alnInv]
 by_cases hlt : i < rs.length ∧ i < 30
 ·obtain ⟨hl1, hl2⟩ := hlt
  obtain ⟨y, hy⟩ : ∃ y, rs[i]? = some y := ⟨rs[i], List.getElem?_eq_getElem hl1⟩
  obtain ⟨ob, oo, rfl, hro, hri⟩ := hr i y hy
  have hro' : Rd (sC r fn (recF last (2 * i)) :: vec 1 lv (last.map num) :: L) ob (oo + i) (.slice y.1 y.2.2.length y.2.1) := .there (.there hro)
  repeat (first | (apply wo_po; apply mo_index1 (j := i); exact rfl; exact rfl; omega; exact trivial) | (apply wo_po; apply mo_load; exact rfl; exact hro'; exact trivial) | refine wlssT ?_ | refine we_seq ?_ | (refine wR ?_; try simp only [oS]) | refine wo_nil ?_ | refine wM ?_ | refine wK ?_ | refine wE ?_ | refine wT ?_ | refine we_skip ?_ | refine we_block ?_)
  refine wo_call (.cons rfl (.cons rfl .nil)) trivial (sized_tr h2 hri.there.there) ?_
  rintro nv L1 x1 ⟨rfl, rfl⟩
  refine wo_pure (of_has .here (vec_shape (by omega))) ?_
  rintro ⟨na, nn, nc, rfl, hnn, _, hnz, hny⟩
  obtain rfl : nn = fn := by simp [sizedF] at hnn; omega
  repeat (first | refine we_seq ?_ | (refine wR ?_; try simp only [oS]) | refine wo_nil ?_ | refine wA ?_)
  refine wo_call .nil trivial new_notes_tr ?_
  rintro v' L' x' ⟨nb, rfl, rfl, rfl⟩
  refine wo_star (all [sC r nn (recF last (2 * i)), notesC nb []] :: vec 1 (.slice na nn nc) ((sizedF y.2.2 nn).map num) :: L) (fun h st => star_shut (M := [_, _]) (Ent.star (.take (.there (.there .here)) (.take .here (.take .here (.drop .refl)))) st)) ?_
  repeat (first | (apply wo_po; apply mo_makeInterface; exact rfl; exact trivial) | refine we_seq ?_ | (refine wR ?_; try simp only [oS]) | refine wo_nil ?_ | refine wM ?_ | refine wA ?_)
  refine wo_call (.cons rfl .nil) trivial (copyW_tr (rdsoV (.there .here) (by simp [sizedF]) hnz hny) (by omega)) ?_
  rintro cv L' x' ⟨rfl, rfl⟩
  refine wo_pure (of_has .here (vec_shape (by omega))) ?_
  rintro ⟨ca, cn, cc, rfl, hcn, _, hcz, hcy⟩
  obtain rfl : cn = nn := by simp [sizedF] at hcn; omega
  skip
  refine wo_call (.cons rfl (.cons rfl (.cons rfl .nil))) trivial (write_note h1 h2 sizedF_len (sizedF_lt h2 (hb y (List.mem_of_getElem? hy))) (by omega) (by omega) (by simp) (.there .here) (rdsoV .here (by simp [sizedF]) hcz hcy)) ?_
  rintro v1 L1 x1 ⟨rfl, rfl, rfl⟩
  have m2 : IntKind.i64.wrap (2 * (i : Int)) = ((2 * i : Nat) : Int) := (wrap_i64 (by omega) (by omega)).trans (by omega)
  have a2 : IntKind.i64.wrap (((2 * i : Nat) : Int) + 2) = ((2 * i + 2 : Nat) : Int) := (wrap_i64 (by omega) (by omega)).trans (by omega)
  have a1 : IntKind.i64.wrap (1 + (i : Int)) = ((i + 1 : Nat) : Int) := (wrap_i64 (by omega) (by omega)).trans (by omega)
  repeat (first | (apply wo_po; apply mo_bin; exact rfl; exact rfl; apply bin_mul; exact m2; exact rfl) | (apply wo_po; apply mo_bin; exact rfl; exact rfl; apply bin_add; exact a2; exact rfl) | refine wneqF ?_ | refine we_seq ?_ | (refine wR ?_; try simp only [oS]) | refine wo_nil ?_ | refine wM ?_ | refine wA ?_ | refine wJ ?_ | (apply wo_po; apply mo_extract; exact rfl; exact rfl; exact gY) | (apply wo_po; apply mo_conv; exact rfl; (first | exact wrap_i64 (by omega) (by omega) | exact wrap_u64 (by omega) (by omega)); exact gY))
  refine wo_call (.cons rfl .nil) rfl (marks_tr (marks := [] ++ writeMs cn) (by simp [writeMs, wMarks_len]; omega) (.there .here)) ?_
  rintro mv L' x' ⟨rfl, rfl⟩
  refine wo_pure (of_has .here (vec_shape (by omega))) ?_
  rintro ⟨ma, ml, mc, rfl, hml, _, hmz, hmy⟩
  rw [List.nil_append, ← want_write] at hml
  rw [List.nil_append, ← want_write]
  obtain rfl : ml = (wantM cn true).length := by rw [flat2] at hml; omega
  repeat (first | refine wM ?_)
  refine wo_call (.cons rfl (.cons rfl (.cons rfl .nil))) rfl (steps_tr h2 rfl (RdM.vec .here hmy fun e => absurd (hmz e) (by simp [wantM]))) ?_
  rintro v1 L1 x1 ⟨rfl, rfl, rfl⟩
  repeat (first | refine we_seq ?_ | (refine wR ?_; try simp only [oS]) | refine wo_nil ?_ | refine wM ?_ | refine wA ?_ | refine wJ ?_ | (apply wo_po; apply mo_not; exact rfl; exact gY) | refine wF ?_ | refine we_skip ?_)
  refine wo_call .nil trivial new_notes_tr ?_
  rintro v' L' x' ⟨nb2, rfl, rfl, rfl⟩
  refine wo_star (all [sC r cn (recF (sizedF y.2.2 cn) (2 * i + 2)), notesC nb2 []] :: vec 1 (.slice na cn nc) ((sizedF y.2.2 cn).map num) :: L) (fun h st => star_shut (M := [_, _]) (Ent.star (.take (.there (.there (.there .here))) (.take .here (.take (.there (.there (.there .here))) (.drop (.drop (.drop .refl)))))) st)) ?_
  repeat (first | (apply wo_po; apply mo_makeInterface; exact rfl; exact trivial) | (apply wo_po; apply mo_bin; exact rfl; exact rfl; apply bin_add; exact a1; exact trivial) | refine we_seq ?_ | (refine wR ?_; try simp only [oS]) | refine wo_nil ?_ | refine wM ?_ | refine wA ?_)
  refine wo_call (.cons rfl (.cons rfl (.cons rfl .nil))) trivial (wait_note (k := i) h1 h2 sizedF_len (by omega) (by simp) (by omega) .here) ?_
  rintro v1 L1 x1 ⟨gv, rfl, rfl, rfl⟩
  refine wo_pure (of_has (.there (.there .here)) (vec_shape (by omega))) ?_
  rintro ⟨ga, gn, gc, rfl, hgn, _, hgz, hgy⟩
  obtain rfl : gn = cn := by simp [sizedF] at hgn; omega
  repeat (first | refine wneqF ?_ | refine we_seq ?_ | (refine wR ?_; try simp only [oS]) | refine wo_nil ?_ | refine wM ?_ | refine wA ?_ | refine wJ ?_ | (apply wo_po; apply mo_extract; exact rfl; exact rfl; exact gY))
  refine wo_call (.cons rfl (.cons rfl .nil)) rfl (same_words_tr (l := sizedF y.2.2 gn) (l' := sizedF y.2.2 gn) sizedF_len.symm sizedF_len.symm (by omega) (rdV_of (rdsoV (.there (.there .here)) (by simp [sizedF]) hgz hgy)) (rdV_of (rdsoV (.there (.there (.there .here))) (by simp [sizedF]) hnz hny))) ?_
  rintro v1 L1 x1 ⟨rfl, rfl, rfl⟩
  rw [decide_eq_true rfl]
  repeat (first | refine wM ?_ | refine wJ ?_ | (apply wo_po; apply mo_not; exact rfl; exact gY))
  refine wo_call (.cons rfl .nil) rfl (marks_tr (marks := [] ++ readMs gn) (by simp [readMs, rMarks_len]; omega) (.there .here)) ?_
  rintro mv L' x' ⟨rfl, rfl⟩
  refine wo_pure (of_has .here (vec_shape (by omega))) ?_
  rintro ⟨ma, ml, mc, rfl, hml, _, hmz, hmy⟩
  rw [List.nil_append, ← want_read] at hml
  rw [List.nil_append, ← want_read]
  obtain rfl : ml = (wantM gn false).length := by rw [flat2] at hml; omega
  repeat (first | refine wM ?_)
  refine wo_call (.cons rfl (.cons rfl (.cons rfl .nil))) rfl (steps_tr h2 rfl (RdM.vec .here hmy fun e => absurd (hmz e) (by simp [wantM]))) ?_
  rintro v1 L1 x1 ⟨rfl, rfl, rfl⟩
  repeat (first | (refine wR ?_; try simp only [oS]) | refine wo_nil ?_ | refine wM ?_ | refine wA ?_ | refine wJ ?_ | (apply wo_po; apply mo_not; exact rfl; exact gY) | refine wadd ?_ | refine wF ?_ | refine we_skip ?_)
  refine at_round (B := mT) (I := alnInv r gn (.slice (some ⟨ob, oo, none⟩) rs.length rc) L) (R := fun j => 30 - j.1 < 30 - i) (i + 1, .slice na gn nc, sizedF y.2.2 gn) (by show 30 - (i + 1) < 30 - i; omega) ⟨by show i + 1 ≤ 30; omega, sizedF_len, sizedF_lt h2 (hb y (List.mem_of_getElem? hy))⟩ ⟨rfl, rfl, rfl, rfl, rfl, trivial⟩ (.take (.there (.there .here)) (.take (.there (.there (.there .here))) (.drop (.drop (.drop .refl))))) rfl
 ·refine we_pure (of_has (.there .here) (vec_shape (by omega))) ?_
  rintro ⟨la, ln, lc, rfl, hln, _, hlz, hly⟩
  obtain rfl : ln = fn := by simp at hln; omega
  by_cases c1 : i < rs.length
  ·repeat (first | refine wlssT ?_ | refine wlssF ?_ | refine we_seq ?_ | (refine wR ?_; try simp only [oS]) | refine wo_nil ?_ | refine wM ?_ | refine wK ?_ | refine wE ?_ | refine wF ?_ | refine we_exit ?_)
   refine wo_call (.cons rfl (.cons rfl .nil)) trivial (read_lone (ws := last) (v := 2 * i) h1 h2 hlen (by omega) .here) ?_
   rintro v1 L1 x1 ⟨gv, rfl, rfl, rfl⟩
   refine wo_pure (of_has (.there .here) (vec_shape (by omega))) ?_
   rintro ⟨ga, gn, gc, rfl, hgn, _, hgz, hgy⟩
   obtain rfl : gn = ln := by simp at hgn; omega
   repeat (first | refine weqlT ?_ | refine we_seq ?_ | (refine wR ?_; try simp only [oS]) | refine wo_nil ?_ | refine wM ?_ | refine wA ?_ | (apply wo_po; apply mo_extract; exact rfl; exact rfl; exact gY))
   refine wo_call (.cons rfl (.cons rfl .nil)) rfl (same_words_tr (l := last) (l' := last) hlen.symm hlen.symm (by omega) (rdV_of (rdsoV (.there .here) (by simp; omega) hgz hgy)) (rdV_of (rdsoV (.there (.there .here)) (by simp; omega) hlz hly))) ?_
   rintro v1 L1 x1 ⟨rfl, rfl, rfl⟩
   rw [decide_eq_true rfl]
   repeat (first | refine wo_nil ?_ | refine wA ?_ | refine wK ?_ | refine we_ret ?_)
   (first | refine or1 Try.func6 Try.results6 hQ rfl ?_ | refine on1 Try.func6 Try.results6 hQ rfl ?_)
   exact ⟨rfl, rfl, fun h st => Ent.star (.drop (.drop (.drop .refl))) st⟩
  ·repeat (first | refine wlssF ?_ | refine we_seq ?_ | (refine wR ?_; try simp only [oS]) | refine wo_nil ?_ | refine wM ?_ | (apply wo_no; exact rfl) | refine wJ ?_ | refine wE ?_ | refine wF ?_ | refine we_exit ?_)
   refine wo_call (.cons rfl (.cons rfl .nil)) trivial (read_lone (ws := last) (v := 2 * i) h1 h2 hlen (by omega) .here) ?_
   rintro v1 L1 x1 ⟨gv, rfl, rfl, rfl⟩
   refine wo_pure (of_has (.there .here) (vec_shape (by omega))) ?_
   rintro ⟨ga, gn, gc, rfl, hgn, _, hgz, hgy⟩
   obtain rfl : gn = ln := by simp at hgn; omega
   repeat (first | refine weqlT ?_ | refine we_seq ?_ | (refine wR ?_; try simp only [oS]) | refine wo_nil ?_ | refine wM ?_ | refine wA ?_ | (apply wo_po; apply mo_extract; exact rfl; exact rfl; exact gY))
   refine wo_call (.cons rfl (.cons rfl .nil)) rfl (same_words_tr (l := last) (l' := last) hlen.symm hlen.symm (by omega) (rdV_of (rdsoV (.there .here) (by simp; omega) hgz hgy)) (rdV_of (rdsoV (.there (.there .here)) (by simp; omega) hlz hly))) ?_
   rintro v1 L1 x1 ⟨rfl, rfl, rfl⟩
   rw [decide_eq_true rfl]
   repeat (first | refine wo_nil ?_ | refine wA ?_ | refine wK ?_ | refine we_ret ?_)
   (first | refine or1 Try.func6 Try.results6 hQ rfl ?_ | refine on1 Try.func6 Try.results6 hQ rfl ?_)
   exact ⟨rfl, rfl, fun h st => Ent.star (.drop (.drop (.drop .refl))) st⟩
end
end Go.Proofs.Ytodgemainhokjaa
namespace Go.PB
open Go.Conc Go.Conc.Lib Go.ConcR.Gen
open Go.ConcR (KK stA smA rd wr mk DC0)
def WgAt (ty : TypeId) (wg : Nat) (w : World) (st sm : Int) : Prop := ∃ f : Nat × Nat, w.heap[wg]? = some (.cells #[.int .u64 st, .int .u32 sm] ty f) ∧ w.frozen? ⟨wg, 0, none⟩ = false ∧ w.frozen? ⟨wg, 1, none⟩ = false
section
variable {ty : TypeId} {wg : Nat} {w w' : World} {st sm : Int}
theorem WgAt.cellSt (h : WgAt ty wg w st sm) : w.cell? (stA wg) = some (.int .u64 st) := by obtain ⟨f, h, _⟩ := h; simp [World.cell?, stA, h]
theorem WgAt.cellSm (h : WgAt ty wg w st sm) : w.cell? (smA wg) = some (.int .u32 sm) := by obtain ⟨f, h, _⟩ := h; simp [World.cell?, smA, h]
theorem WgAt.thaw (h : WgAt ty wg w st sm) (n : Nat) (hn : n < 2 := by decide) : w.frozen? ⟨wg, n, none⟩ = false := by
 obtain ⟨f, _, h0, h1⟩ := h
 rcases n with _ | _ | n
 ·exact h0
 ·exact h1
 ·omega
theorem WgAt.unique {st' sm' : Int} (h : WgAt ty wg w st sm) (h' : WgAt ty wg w st' sm') : st = st' ∧ sm = sm' := by
 obtain ⟨f, h, _⟩ := h
 obtain ⟨f', h', _⟩ := h'
 rw [h] at h'
 simp at h'
 exact ⟨h'.1.1, h'.1.2⟩
theorem WgAt.setSt (h : WgAt ty wg w st sm) (v : Int) : WgAt ty wg (w.setCell (stA wg) (.int .u64 v)) v sm := by
 obtain ⟨f, h, h0, h1⟩ := h
 refine ⟨f, ?_, by rw [frozen_setCell]; exact h0, by rw [frozen_setCell]; exact h1⟩
 simp [World.setCell, stA, Array.getElem?_modify, h]
theorem WgAt.setSm (h : WgAt ty wg w st sm) (v : Int) : WgAt ty wg (w.setCell (smA wg) (.int .u32 v)) st v := by
 obtain ⟨f, h, h0, h1⟩ := h
 refine ⟨f, ?_, by rw [frozen_setCell]; exact h0, by rw [frozen_setCell]; exact h1⟩
 simp [World.setCell, smA, Array.getElem?_modify, h]
theorem WgAt.of_heap (h : WgAt ty wg w st sm) (e : w'.heap[wg]? = w.heap[wg]?) : WgAt ty wg w' st sm := by
 obtain ⟨f, h, h0, h1⟩ := h
 have hf : ∀ o, w'.frozen? ⟨wg, o, none⟩ = w.frozen? ⟨wg, o, none⟩ := fun o => by unfold World.frozen?; rw [e]
 exact ⟨f, e.trans h, (hf 0).trans h0, (hf 1).trans h1⟩
def WgLive (ty : TypeId) (Wg : Nat) (w : World) : Prop := ∃ st sm, WgAt ty Wg w st sm
end
def RL (ty : TypeId) (Wg : Nat) (w w₁ : World) : Prop := WgLive ty Wg w → WgLive ty Wg w₁
theorem live_cell {ty : TypeId} {Wg : Nat} {w : World} (h : WgLive ty Wg w) : ∃ v, w.cell? ⟨Wg, 0, none⟩ = some v := let ⟨_, _, x⟩ := h; ⟨_, WgAt.cellSt x⟩
section
variable (P : Program) (ty : TypeId) (Wg : Nat)
def Zg (Stop : Goroutine → World → Prop) (m : Nat) (g : Goroutine) (w : World) : Prop := Goes P false (RL ty Wg) DC0 Stop m g w
def Z4 (g : Goroutine) (w : World) : Prop :=
 g.status = .running ∧ mayWake P g = true ∧ (WgAt ty Wg w 0 0 → ∃ g' q, stepG P false g w = .go g' (w.setCell (smA Wg) (.int .u32 1)) (semEvents (smA Wg)) ∧ QuitsD P q 1 g')
def Z3 (g : Goroutine) (w : World) : Prop :=
 g.status = .running ∧ (WgAt ty Wg w 1 0 → ∃ g' m, stepG P false g w = .go g' (w.setCell (stA Wg) (.int .u64 0)) #[wr (stA Wg)] ∧ Zg P ty Wg (Z4 P ty Wg) m g' (w.setCell (stA Wg) (.int .u64 0)))
def Z2 (g : Goroutine) (w : World) : Prop :=
 g.status = .running ∧ (WgAt ty Wg w 1 0 → ∃ g' m, stepG P false g w = .go g' w #[rd (stA Wg)] ∧ Zg P ty Wg (Z3 P ty Wg) m g' w)
def Z1 (g : Goroutine) (w : World) : Prop :=
 g.status = .running ∧ ∀ v wt : Nat, wt ≤ 1 → v < 2147483647 → WgAt ty Wg w ((v + 1) * KK + wt) 0 →
  ∃ g', stepG P false g w = .go g' (w.setCell (stA Wg) (.int .u64 (v * KK + wt))) #[rd (stA Wg), wr (stA Wg)] ∧
   ((v = 0 ∧ wt = 1) → ∃ m, Zg P ty Wg (Z2 P ty Wg) m g' (w.setCell (stA Wg) (.int .u64 (v * KK + wt)))) ∧ (¬ (v = 0 ∧ wt = 1) → ∃ q, QuitsD P q 1 g')
def ZK (g : Goroutine) (w : World) : Prop :=
 g.status = .running ∧ ∃ g' m, stepG P false g w = .go g' w #[mk .disable] ∧ Zg P ty Wg (Z1 P ty Wg) m g' w
def ZR (g : Goroutine) (w : World) : Prop :=
 g.status = .running ∧ ∃ g' m, stepG P false g w = .go g' w #[mk (.releaseMerge (stA Wg))] ∧ Zg P ty Wg (ZK P ty Wg) m g' w
end
end Go.PB
namespace Go.PB
open Go.Conc Go.Conc.Lib Go.ConcR.Gen
open Go.ConcR (KK stA smA rd wr mk DC0)
theorem quits_more {P : Program} : ∀ {n d : Nat} {g : Goroutine}, QuitsD P n d g → QuitsD P (n + 1) d g
 | 0, _, _, h => .inl h
 | _ + 1, _, _, h => h.imp id fun ⟨hs, g', es, hm, hst, hq⟩ => ⟨hs, g', es, hm, hst, quits_more hq⟩
theorem quits_mono {P : Program} {n n' d : Nat} {g : Goroutine} (h : QuitsD P n d g) (hn : n ≤ n') : QuitsD P n' d g := by
 induction hn with
 | refl => exact h
 | step _ ih => exact quits_more ih
set_option maxRecDepth 100000 in
set_option maxHeartbeats 8000000 in
theorem add_goes [Go.ConcR.Payload] {P : Program} {L : WgLink} (H : WgLib P L) {Wg : Nat} {b₀ : Frame} {a₀ : Act} {ops₀ : Array Oper} {i₀ : Nat} {rest₀ : List Nat} {k₀ : List Item} {cs : List Frame} {qt : Nat}
  (hT : QuitsD P qt 0 (G (b₀.at (a₀.put ((ops₀[i₀]?).bind (·.dst)) (.tuple #[])) (.inRegion ops₀ rest₀ :: k₀)) cs)) (w : World) (hK : WgLive L.tWg Wg w) :
  Zg P L.tWg Wg (ZR P L.tWg Wg) 20 (G ((Go.Conc.base L.add).at ⟨#[.pointer (some ⟨Wg, 0, none⟩), .int .i64 (-1)] ++ Array.replicate 115 undef, []⟩ [.code (body_add L)]) (b₀.at a₀ (.inRegion ops₀ (i₀ :: rest₀) :: k₀) :: cs)) w := by
 lib_facts
 simp only [body_add, addFn, Option.getD_some, Array.replicate_succ, Array.replicate_zero]
 unfold Zg
 have key : ∀ {w w₁ : World}, WgLive L.tWg Wg w → RL L.tWg Wg w w₁ → WgLive L.tWg Wg w₁ := fun h r => r h
 walk_nrm
 repeat (first | u_c stepG_seq key hK | u_c stepG_region_end key hK | u_c stepG_skip key hK | u_reg key hK | u_skip key hK | u_op key hK | u_cond true key hK | u_cond false key hK | u_c stepG_ret' key hK | u_c stepG_block key hK | u_c stepG_loop key hK | u_c stepG_end key hK | u_defer key hK | u_leave1 H.f_uAdd key hK | u_leave1 H.f_uLoad key hK | u_leave0 H.f_uStore key hK | u_call H.f_uAdd (nm_uAdd L) uAddFn key hK | u_call H.f_uLoad (nm_uLoad L) uLoadFn key hK | u_call H.f_uStore (nm_uStore L) uStoreFn key hK | u_bub key hK)
 u_conv H.underlying_tWgP H.room_tWg (live_cell hK).choose_spec key hK
 refine Goes.stop (fun w₁ h₁ => ?_)
 replace hK := key hK h₁
 clear h₁
 refine ⟨rfl, _, 30, stepG_markAt .releaseMerge (by simp) rfl rfl (by k_ne) rfl H.f_relMerge (x_relMerge_n L) (x_relMerge_b L) (x_relMerge_x L) (x_relMerge_f L) (by simp [Act.eval, stA]), ?_⟩
 unfold Zg
 walk_nrm
 repeat (first | u_c stepG_seq key hK | u_c stepG_region_end key hK | u_c stepG_skip key hK | u_reg key hK | u_skip key hK | u_op key hK | u_cond true key hK | u_cond false key hK | u_c stepG_ret' key hK | u_c stepG_block key hK | u_c stepG_loop key hK | u_c stepG_end key hK | u_defer key hK | u_leave1 H.f_uAdd key hK | u_leave1 H.f_uLoad key hK | u_leave0 H.f_uStore key hK | u_call H.f_uAdd (nm_uAdd L) uAddFn key hK | u_call H.f_uLoad (nm_uLoad L) uLoadFn key hK | u_call H.f_uStore (nm_uStore L) uStoreFn key hK | u_bub key hK)
 refine Goes.stop (fun w₁ h₁ => ?_)
 replace hK := key hK h₁
 clear h₁
 refine ⟨rfl, _, 80, stepG_mark0 .disable (by simp) rfl rfl (by k_ne) rfl H.f_disable (x_disable_n L) (x_disable_b L) (x_disable_x L) (x_disable_f L), ?_⟩
 unfold Zg
 walk_nrm
 repeat (first | u_c stepG_seq key hK | u_c stepG_region_end key hK | u_c stepG_skip key hK | u_reg key hK | u_skip key hK | u_op key hK | u_cond true key hK | u_cond false key hK | u_c stepG_ret' key hK | u_c stepG_block key hK | u_c stepG_loop key hK | u_c stepG_end key hK | u_defer key hK | u_leave1 H.f_uAdd key hK | u_leave1 H.f_uLoad key hK | u_leave0 H.f_uStore key hK | u_call H.f_uAdd (nm_uAdd L) uAddFn key hK | u_call H.f_uLoad (nm_uLoad L) uLoadFn key hK | u_call H.f_uStore (nm_uStore L) uStoreFn key hK | u_bub key hK)
 refine Goes.stop (fun w₁ h₁ => ?_)
 clear h₁ hK
 refine ⟨rfl, fun v wt hwt hv hw => ?_⟩
 have e0 : IntKind.u64.wrap (KK + 18446744069414584320) = 0 := by decide
 have e1 : IntKind.u64.wrap (KK + 1 + 18446744069414584320) = 1 := by decide
 rcases Nat.eq_zero_or_pos v with rfl | hvp <;> (obtain rfl | rfl : wt = 0 ∨ wt = 1 := by omega)
 ·-- nobody is left, nobody waits
  replace hw : WgAt L.tWg Wg w₁ KK 0 := by simpa using hw
  have z : ((0 : Nat) : Int) * KK + ((0 : Nat) : Int) = 0 := by simp
  rw [z]
  refine ⟨_, (stepG_add_atomic rfl rfl (by k_ne) rfl H.f_addU64 (x_addU64_n L) (x_addU64_b L) (x_addU64_x L) .u64 (x_addU64_f L) rfl rfl (WgAt.cellSt hw) (WgAt.thaw hw 0)).trans (by rw [e0]; rfl), fun hl => absurd hl.2 (by decide), fun _ => ⟨qt + 200, ?_⟩⟩
  clear hw
  walk_nrm
  q_val (.int .u64 0)
  q_c stepG_region_end
  q_c stepG_ret'
  q_leave1 H.f_uAdd
  q_val (.int .u64 0)
  q_c stepG_region_end
  q_c stepG_seq
  q_c stepG_seq
  q_reg
  q_val (.int .u64 0)
  q_val (.int .u64 0)
  q_val (.bool false)
  q_val (.bool false)
  q_skip
  q_skip
  q_val (.bool false)
  q_c stepG_region_end
  q_cond false
  q_c stepG_skip
  q_c stepG_seq
  q_reg
  q_val (.int .u64 0)
  q_val (.int .u64 0)
  q_val (.int .i32 0)
  q_val (.int .i32 0)
  q_c stepG_region_end
  q_c stepG_seq
  q_reg
  q_val (.int .u64 0)
  q_val (.int .u64 0)
  q_val (.int .u32 0)
  q_val (.int .u32 0)
  q_c stepG_region_end
  q_c stepG_seq
  q_c stepG_seq
  q_reg
  q_val (.bool true)
  q_val (.int .i64 (-1))
  q_val (.bool false)
  q_val (.bool false)
  q_val (.bool false)
  q_skip
  q_skip
  q_skip
  q_skip
  q_val (.bool false)
  q_c stepG_region_end
  q_cond false
  q_c stepG_skip
  q_c stepG_seq
  q_c stepG_seq
  q_reg
  q_val (.int .i32 0)
  q_val (.bool false)
  q_c stepG_region_end
  q_cond false
  q_c stepG_skip
  q_c stepG_seq
  q_c stepG_seq
  q_reg
  q_val (.int .u32 0)
  q_val (.bool false)
  q_val (.bool false)
  q_skip
  q_skip
  q_val (.bool false)
  q_val (.bool false)
  q_skip
  q_skip
  q_skip
  q_skip
  q_val (.bool false)
  q_c stepG_region_end
  q_cond false
  q_c stepG_skip
  q_c stepG_seq
  q_c stepG_seq
  q_reg
  q_val (.int .i32 0)
  q_val (.bool false)
  q_val (.bool false)
  q_val (.int .u32 0)
  q_val (.bool true)
  q_val (.bool true)
  q_c stepG_region_end
  q_cond true
  q_c stepG_ret'
  q_enable
  q_leave0 H.f_add
  exact quits_mono hT (by omega)
 ·-- nobody is left, the starter waits: the last one
  replace hw : WgAt L.tWg Wg w₁ (KK + 1) 0 := by simpa using hw
  have z : ((0 : Nat) : Int) * KK + ((1 : Nat) : Int) = 1 := by simp
  rw [z]
  refine ⟨_, (stepG_add_atomic rfl rfl (by k_ne) rfl H.f_addU64 (x_addU64_n L) (x_addU64_b L) (x_addU64_x L) .u64 (x_addU64_f L) rfl rfl (WgAt.cellSt hw) (WgAt.thaw hw 0)).trans (by rw [e1]; rfl), fun _ => ⟨150, ?_⟩, fun hl => absurd ⟨rfl, rfl⟩ hl⟩
  have hK : WgLive L.tWg Wg (w₁.setCell (stA Wg) (.int .u64 1)) := ⟨_, _, WgAt.setSt hw 1⟩
  clear hw
  unfold Zg
  walk_nrm
  u_op key hK
  u_c stepG_region_end key hK
  u_c stepG_ret' key hK
  u_leave1 H.f_uAdd key hK
  u_op key hK
  u_c stepG_region_end key hK
  u_c stepG_seq key hK
  u_c stepG_seq key hK
  u_reg key hK
  u_op key hK
  u_op key hK
  u_op key hK
  u_op key hK
  u_skip key hK
  u_skip key hK
  u_op key hK
  u_c stepG_region_end key hK
  u_cond false key hK
  u_c stepG_skip key hK
  u_c stepG_seq key hK
  u_reg key hK
  u_op key hK
  u_op key hK
  u_op key hK
  u_op key hK
  u_c stepG_region_end key hK
  u_c stepG_seq key hK
  u_reg key hK
  u_op key hK
  u_op key hK
  u_op key hK
  u_op key hK
  u_c stepG_region_end key hK
  u_c stepG_seq key hK
  u_c stepG_seq key hK
  u_reg key hK
  u_op key hK
  u_op key hK
  u_op key hK
  u_op key hK
  u_op key hK
  u_skip key hK
  u_skip key hK
  u_skip key hK
  u_skip key hK
  u_op key hK
  u_c stepG_region_end key hK
  u_cond false key hK
  u_c stepG_skip key hK
  u_c stepG_seq key hK
  u_c stepG_seq key hK
  u_reg key hK
  u_op key hK
  u_op key hK
  u_c stepG_region_end key hK
  u_cond false key hK
  u_c stepG_skip key hK
  u_c stepG_seq key hK
  u_c stepG_seq key hK
  u_reg key hK
  u_op key hK
  u_op key hK
  u_op key hK
  u_op key hK
  u_op key hK
  u_op key hK
  u_op key hK
  u_skip key hK
  u_skip key hK
  u_skip key hK
  u_skip key hK
  u_op key hK
  u_c stepG_region_end key hK
  u_cond false key hK
  u_c stepG_skip key hK
  u_c stepG_seq key hK
  u_c stepG_seq key hK
  u_reg key hK
  u_op key hK
  u_op key hK
  u_op key hK
  u_op key hK
  u_op key hK
  u_op key hK
  u_c stepG_region_end key hK
  u_cond false key hK
  u_c stepG_skip key hK
  u_c stepG_seq key hK
  u_c stepG_seq key hK
  u_reg key hK
  u_op key hK
  u_op key hK
  u_op key hK
  u_call H.f_uLoad (nm_uLoad L) uLoadFn key hK
  u_c stepG_seq key hK
  u_reg key hK
  u_op key hK
  u_c stepG_region_end key hK
  u_c stepG_seq key hK
  u_reg key hK
  u_op key hK
  u_op key hK
  u_op key hK
  refine Goes.stop (fun w₂ h₂ => ?_)
  clear h₂ hK
  refine ⟨rfl, fun hw => ⟨_, 60, stepG_load_atomic rfl rfl (by k_ne) rfl H.f_loadU64 (x_loadU64_n L) (x_loadU64_b L) (x_loadU64_x L) .u64 (x_loadU64_f L) rfl (WgAt.cellSt hw), ?_⟩⟩
  have hK : WgLive L.tWg Wg w₂ := ⟨_, _, hw⟩
  clear hw
  unfold Zg
  walk_nrm
  u_op key hK
  u_c stepG_region_end key hK
  u_c stepG_ret' key hK
  u_leave1 H.f_uLoad key hK
  u_op key hK
  u_op key hK
  u_c stepG_region_end key hK
  u_cond false key hK
  u_c stepG_skip key hK
  u_c stepG_seq key hK
  u_reg key hK
  u_op key hK
  u_op key hK
  u_op key hK
  u_call H.f_uStore (nm_uStore L) uStoreFn key hK
  u_reg key hK
  u_op key hK
  u_op key hK
  u_op key hK
  u_op key hK
  refine Goes.stop (fun w₃ h₃ => ?_)
  clear h₃ hK
  refine ⟨rfl, fun hw => ⟨_, 60, stepG_store_atomic rfl rfl (by k_ne) rfl H.f_storeU64 (x_storeU64_n L) (x_storeU64_b L) (x_storeU64_x L) (x_storeU64_f L) rfl rfl (WgAt.cellSt hw) (WgAt.thaw hw 0), ?_⟩⟩
  have hK : WgLive L.tWg Wg (w₃.setCell (stA Wg) (.int .u64 0)) := ⟨_, _, WgAt.setSt hw 0⟩
  clear hw
  unfold Zg
  walk_nrm
  u_c stepG_region_end key hK
  u_c stepG_end key hK
  u_leave0 H.f_uStore key hK
  u_c stepG_region_end key hK
  u_c stepG_seq key hK
  u_c stepG_seq key hK
  u_reg key hK
  u_op key hK
  u_c stepG_region_end key hK
  u_cond false key hK
  u_c stepG_skip key hK
  u_c stepG_block key hK
  u_c stepG_loop key hK
  u_c stepG_seq key hK
  u_c stepG_seq key hK
  u_reg key hK
  u_op key hK
  u_op key hK
  u_c stepG_region_end key hK
  u_cond true key hK
  u_c stepG_skip key hK
  u_c stepG_seq key hK
  u_c stepG_block key hK
  u_reg key hK
  u_op key hK
  u_op key hK
  u_op key hK
  refine Goes.stop (fun w₄ h₄ => ?_)
  clear h₄ hK
  refine ⟨rfl, mayWake_entry rfl rfl H.f_semrelease (x_semrelease_b L), fun hw => ⟨_, qt + 40, (stepG_semrelease rfl rfl (by k_ne) rfl H.f_semrelease (x_semrelease_n L) (x_semrelease_b L) (x_semrelease_x L) (x_semrelease_f L) (by simp [Act.eval, smA]) (WgAt.cellSm hw) (WgAt.thaw hw 1)).trans (by rfl), ?_⟩⟩
  clear hw
  walk_nrm
  q_c stepG_region_end
  q_c stepG_inBlock
  q_reg
  q_val (.int .u32 1)
  q_val (.int .u32 0)
  q_val (.int .u32 0)
  q_c stepG_region_end
  q_c stepG_inLoop
  q_c stepG_seq
  q_c stepG_seq
  q_reg
  q_val (.int .u32 0)
  q_val (.bool false)
  q_c stepG_region_end
  q_cond false
  q_exit
  q_c stepG_end
  q_enable
  q_leave0 H.f_add
  exact quits_mono hT (by omega)
 ·-- some are left, nobody waits
  replace hw : WgAt L.tWg Wg w₁ (((v : Nat) + 1) * KK + 0) 0 := by simpa using hw
  have z : ((v : Nat) : Int) * KK + ((0 : Nat) : Int) = (v : Int) * KK + 0 := by simp
  rw [z]
  have eS : IntKind.u64.wrap (((v : Nat) + 1) * KK + 0 + 18446744069414584320) = (v : Int) * KK + 0 := by rw [IntKind.wrap_u64]; simp only [KK]; omega
  obtain ⟨S, hS⟩ : ∃ S : Int, S = (v : Int) * KK + 0 := ⟨_, rfl⟩
  rw [← hS] at eS ⊢
  have a1 : S / 4294967296 = (v : Int) := by rw [hS]; simp only [KK]; omega
  have a2 : 0 ≤ S ∧ S < 9223372036854775808 := by rw [hS]; simp only [KK]; omega
  have b1 : bits .and .u64 S 2147483648 = 0 := by rw [hS]; have := Go.ConcN.st_flag v 0 (by omega) (by omega); simpa [KK] using this
  have b2 : bits .and .u64 S 2147483647 = 0 := by rw [hS]; have := Go.ConcN.st_waiters v 0 (by omega) (by omega); simpa [KK] using this
  clear hS z
  refine ⟨_, (stepG_add_atomic rfl rfl (by k_ne) rfl H.f_addU64 (x_addU64_n L) (x_addU64_b L) (x_addU64_x L) .u64 (x_addU64_f L) rfl rfl (WgAt.cellSt hw) (WgAt.thaw hw 0)).trans (by rw [eS]; rfl), fun hl => absurd hl.1 (by omega), fun _ => ⟨qt + 150, ?_⟩⟩
  clear hw
  walk_nrm
  q_vn (.int .u64 S)
  q_c stepG_region_end
  q_c stepG_ret'
  q_leave1 H.f_uAdd
  q_vn (.int .u64 S)
  q_c stepG_region_end
  q_c stepG_seq
  q_c stepG_seq
  q_reg
  q_vn (.int .u64 S)
  q_vn (.int .u64 0)
  q_vn (.bool false)
  q_vn (.bool false)
  q_skip
  q_skip
  q_vn (.bool false)
  q_c stepG_region_end
  q_cond false
  q_c stepG_skip
  q_c stepG_seq
  q_reg
  q_vn (.int .u64 S)
  q_vn (.int .u64 (v:Int))
  q_vn (.int .i32 (v:Int))
  q_vn (.int .i32 (v:Int))
  q_c stepG_region_end
  q_c stepG_seq
  q_reg
  q_vn (.int .u64 S)
  q_vn (.int .u64 0)
  q_vn (.int .u32 0)
  q_vn (.int .u32 0)
  q_c stepG_region_end
  q_c stepG_seq
  q_c stepG_seq
  q_reg
  q_vn (.bool true)
  q_vn (.int .i64 (-1))
  q_vn (.bool false)
  q_vn (.bool false)
  q_vn (.bool false)
  q_skip
  q_skip
  q_skip
  q_skip
  q_vn (.bool false)
  q_c stepG_region_end
  q_cond false
  q_c stepG_skip
  q_c stepG_seq
  q_c stepG_seq
  q_reg
  q_vn (.int .i32 (v:Int))
  q_vn (.bool false)
  q_c stepG_region_end
  q_cond false
  q_c stepG_skip
  q_c stepG_seq
  q_c stepG_seq
  q_reg
  q_vn (.int .u32 0)
  q_vn (.bool false)
  q_vn (.bool false)
  q_skip
  q_skip
  q_vn (.bool false)
  q_vn (.bool false)
  q_skip
  q_skip
  q_skip
  q_skip
  q_vn (.bool false)
  q_c stepG_region_end
  q_cond false
  q_c stepG_skip
  q_c stepG_seq
  q_c stepG_seq
  q_reg
  q_vn (.int .i32 (v:Int))
  q_vn (.bool true)
  q_vn (.bool true)
  q_skip
  q_skip
  q_vn (.bool true)
  q_c stepG_region_end
  q_cond true
  q_c stepG_ret'
  q_enable
  q_leave0 H.f_add
  exact quits_mono hT (by omega)
 ·-- some are left, the starter waits
  replace hw : WgAt L.tWg Wg w₁ (((v : Nat) + 1) * KK + 1) 0 := by simpa using hw
  have z : ((v : Nat) : Int) * KK + ((1 : Nat) : Int) = (v : Int) * KK + 1 := by simp
  rw [z]
  have eS : IntKind.u64.wrap (((v : Nat) + 1) * KK + 1 + 18446744069414584320) = (v : Int) * KK + 1 := by rw [IntKind.wrap_u64]; simp only [KK]; omega
  obtain ⟨S, hS⟩ : ∃ S : Int, S = (v : Int) * KK + 1 := ⟨_, rfl⟩
  rw [← hS] at eS ⊢
  have a1 : S / 4294967296 = (v : Int) := by rw [hS]; simp only [KK]; omega
  have a2 : 0 ≤ S ∧ S < 9223372036854775808 := by rw [hS]; simp only [KK]; omega
  have b1 : bits .and .u64 S 2147483648 = 0 := by rw [hS]; have := Go.ConcN.st_flag v 1 (by omega) (by omega); simpa [KK] using this
  have b2 : bits .and .u64 S 2147483647 = 1 := by rw [hS]; have := Go.ConcN.st_waiters v 1 (by omega) (by omega); simpa [KK] using this
  clear hS z
  refine ⟨_, (stepG_add_atomic rfl rfl (by k_ne) rfl H.f_addU64 (x_addU64_n L) (x_addU64_b L) (x_addU64_x L) .u64 (x_addU64_f L) rfl rfl (WgAt.cellSt hw) (WgAt.thaw hw 0)).trans (by rw [eS]; rfl), fun hl => absurd hl.1 (by omega), fun _ => ⟨qt + 150, ?_⟩⟩
  clear hw
  walk_nrm
  q_vn (.int .u64 S)
  q_c stepG_region_end
  q_c stepG_ret'
  q_leave1 H.f_uAdd
  q_vn (.int .u64 S)
  q_c stepG_region_end
  q_c stepG_seq
  q_c stepG_seq
  q_reg
  q_vn (.int .u64 S)
  q_vn (.int .u64 0)
  q_vn (.bool false)
  q_vn (.bool false)
  q_skip
  q_skip
  q_vn (.bool false)
  q_c stepG_region_end
  q_cond false
  q_c stepG_skip
  q_c stepG_seq
  q_reg
  q_vn (.int .u64 S)
  q_vn (.int .u64 (v:Int))
  q_vn (.int .i32 (v:Int))
  q_vn (.int .i32 (v:Int))
  q_c stepG_region_end
  q_c stepG_seq
  q_reg
  q_vn (.int .u64 S)
  q_vn (.int .u64 1)
  q_vn (.int .u32 1)
  q_vn (.int .u32 1)
  q_c stepG_region_end
  q_c stepG_seq
  q_c stepG_seq
  q_reg
  q_vn (.bool true)
  q_vn (.int .i64 (-1))
  q_vn (.bool false)
  q_vn (.bool false)
  q_vn (.bool false)
  q_skip
  q_skip
  q_skip
  q_skip
  q_vn (.bool false)
  q_c stepG_region_end
  q_cond false
  q_c stepG_skip
  q_c stepG_seq
  q_c stepG_seq
  q_reg
  q_vn (.int .i32 (v:Int))
  q_vn (.bool false)
  q_c stepG_region_end
  q_cond false
  q_c stepG_skip
  q_c stepG_seq
  q_c stepG_seq
  q_reg
  q_vn (.int .u32 1)
  q_vn (.bool true)
  q_vn (.bool true)
  q_vn (.int .i64 (-1))
  q_vn (.bool false)
  q_vn (.bool false)
  q_vn (.bool false)
  q_skip
  q_skip
  q_skip
  q_skip
  q_vn (.bool false)
  q_c stepG_region_end
  q_cond false
  q_c stepG_skip
  q_c stepG_seq
  q_c stepG_seq
  q_reg
  q_vn (.int .i32 (v:Int))
  q_vn (.bool true)
  q_vn (.bool true)
  q_skip
  q_skip
  q_vn (.bool true)
  q_c stepG_region_end
  q_cond true
  q_c stepG_ret'
  q_enable
  q_leave0 H.f_add
  exact quits_mono hT (by omega)
end Go.PB
namespace Go.PB
open Go.Conc Go.Conc.Lib Go.ConcR.Gen
open Go.ConcR (KK stA smA rd wr mk DC0)
set_option maxRecDepth 100000 in
theorem add_goes2 [Go.ConcR.Payload] {P : Program} {L : WgLink} (H : WgLib P L) {Wg : Nat} {b₀ : Frame} {a₀ : Act} {ops₀ : Array Oper} {i₀ : Nat} {rest₀ : List Nat} {k₀ : List Item} {cs : List Frame} {qt : Nat}
  (hT : QuitsD P qt 0 (G (b₀.at (a₀.put ((ops₀[i₀]?).bind (·.dst)) (.tuple #[])) (.inRegion ops₀ rest₀ :: k₀)) cs)) (w : World) (hK : WgLive L.tWg Wg w) :
  Zg P L.tWg Wg (ZR P L.tWg Wg) 20 (G ((Go.Conc.base L.add).at ⟨#[.pointer (some ⟨Wg, 0, none⟩), .int .i64 (-1), undef, undef, undef, undef, undef, undef, undef, undef, undef, undef, undef, undef, undef, undef, undef, undef, undef, undef, undef, undef, undef, undef, undef, undef, undef, undef, undef, undef, undef, undef, undef, undef, undef, undef, undef, undef, undef, undef, undef, undef, undef, undef, undef, undef, undef, undef, undef, undef, undef, undef, undef, undef, undef, undef, undef, undef, undef, undef, undef, undef, undef, undef, undef, undef, undef, undef, undef, undef, undef, undef, undef, undef, undef, undef, undef, undef, undef, undef, undef, undef, undef, undef, undef, undef, undef, undef, undef, undef, undef, undef, undef, undef, undef, undef, undef, undef, undef, undef, undef, undef, undef, undef, undef, undef, undef, undef, undef, undef, undef, undef, undef, undef, undef, undef, undef], []⟩ [.code (body_add L)]) (b₀.at a₀ (.inRegion ops₀ (i₀ :: rest₀) :: k₀) :: cs)) w := by
 have e : (#[.pointer (some ⟨Wg, 0, none⟩), .int .i64 (-1), undef, undef, undef, undef, undef, undef, undef, undef, undef, undef, undef, undef, undef, undef, undef, undef, undef, undef, undef, undef, undef, undef, undef, undef, undef, undef, undef, undef, undef, undef, undef, undef, undef, undef, undef, undef, undef, undef, undef, undef, undef, undef, undef, undef, undef, undef, undef, undef, undef, undef, undef, undef, undef, undef, undef, undef, undef, undef, undef, undef, undef, undef, undef, undef, undef, undef, undef, undef, undef, undef, undef, undef, undef, undef, undef, undef, undef, undef, undef, undef, undef, undef, undef, undef, undef, undef, undef, undef, undef, undef, undef, undef, undef, undef, undef, undef, undef, undef, undef, undef, undef, undef, undef, undef, undef, undef, undef, undef, undef, undef, undef, undef, undef, undef, undef] : Array Value) = #[.pointer (some ⟨Wg, 0, none⟩), .int .i64 (-1)] ++ Array.replicate 115 undef := by kernel_rfl
 rw [e]
 exact add_goes H hT w hK
set_option maxHeartbeats 8000000 in
set_option maxRecDepth 100000 in
theorem done_goes [Go.ConcR.Payload] {P : Program} {L : WgLink} (H : WgLib P L) {Wg : Nat} {c : Frame} {cs : List Frame} {qt : Nat} (hcm : c.mode = .returning) (hT : QuitsD P qt 0 (G c cs)) (w : World) (hK : WgLive L.tWg Wg w) :
  Zg P L.tWg Wg (ZR P L.tWg Wg) 23 (G ((baseD L.done).at ⟨#[.pointer (some ⟨Wg, 0, none⟩), undef, undef, undef], []⟩ [.code (body_done L)]) (c :: cs)) w := by
 lib_facts
 have hA := @add_goes2 _ P L H Wg
 unfold Zg at hA ⊢
 have key : ∀ {w w₁ : World}, WgLive L.tWg Wg w → RL L.tWg Wg w w₁ → WgLive L.tWg Wg w₁ := fun h r => r h
 simp only [body_done, body_add, doneFn, addFn, Option.getD_some] at hA ⊢
 u_reg key hK
 u_op key hK
 u_in key hK
 refine goes_call rfl rfl (by k_ne) rfl H.f_add (nm_add L) rfl ⟨by u_nil, ?_⟩
 walk_nrmf addFn
 refine hA (qt := qt + 3) ?_ _ hK
 q_c stepG_region_end
 q_c stepG_end
 exact QuitsD.leaveD rfl rfl H.f_done rfl hcm hT
theorem done_enter {P : Program} {L : WgLink} (H : WgLib P L) {v : Value} : Frame.enter P L.done #[v] .deferred = (baseD L.done).at ⟨#[v, undef, undef, undef], []⟩ [.code (body_done L)] := by
 simp [Frame.enter, H.f_done, body_done, doneFn]
 rfl
end Go.PB
