/-
  Part 5 of 6.
-/
import Derived.Test.YtodgemainhokjaaNc4
import Derived.Test.YtodgemainhokjaaNc2
import Derived.Test.YtodgemainhokjaaNc3
import Derived.Conc.WgGenN2
set_option linter.unusedVariables false
set_option linter.unusedSimpArgs false
namespace Go.Proofs.Ytodgemainhokjaa
open Go Go.PB
attribute [local irreducible] Mo Bin Eql Tr Wo Ap Wle
attribute [local instance] Pass.of_no
section
structure Thr (g : Game) where
 fv : Value
 ini : g.σ → g.σ × g.θ
 M : HProp
section
variable {g : Game}
def startF : List (Thr g) → g.σ → g.σ × List g.θ
 | [], s => (s, [])
 | t :: ts, s => ((startF ts (t.ini s).1).1, (t.ini s).2 :: (startF ts (t.ini s).1).2)
theorem startF_snoc {t : Thr g} : ∀ (l : List (Thr g)) (s : g.σ), startF (l ++ [t]) s = ((t.ini (startF l s).1).1, (startF l s).2 ++ [(t.ini (startF l s).1).2])
 | [], s => rfl
 | a :: l, s => by simp only [List.cons_append, startF, startF_snoc l]
theorem startF_len : ∀ (l : List (Thr g)) (s : g.σ), (startF l s).2.length = l.length
 | [], s => rfl
 | a :: l, s => by simp [startF, startF_len l]
def ordF (p : PS g) (order : List Int) : PS g := order.foldl (fun p k => (takeF p k).1) p
def roundF (p : PS g) : Nat → PS g × Bool
 | 0 => (p, false)
 | k + 1 => ((takeF (roundF p k).1 k).1, (takeF (roundF p k).1 k).2 || (roundF p k).2)
def restF : Nat → PS g → PS g
 | 0, p => p
 | n + 1, p => if (roundF p p.qs.length).2 = true then restF n (roundF p p.qs.length).1 else (roundF p p.qs.length).1
def playF (ts : List (Thr g)) (s : g.σ) (order : List Int) : PS g := restF 16385 (ordF ⟨(startF ts s).1, (startF ts s).2, []⟩ order)
def cutC (l : List Nat) : List Value := l.map fun k => .int .i64 (k : Nat)
theorem roundF_len (p : PS g) : ∀ n, (roundF p n).1.qs.length = p.qs.length
 | 0 => rfl
 | n + 1 => by show (takeF _ _).1.qs.length = _; rw [takeF_len, roundF_len p n]
theorem roundF_le {p : PS g} (h : p.tr.length ≤ 16384) : ∀ n, (roundF p n).1.tr.length ≤ 16384
 | 0 => h
 | n + 1 => takeF_le (roundF_le h n) _
theorem takeF_cases (p : PS g) (k : Int) : takeF p k = (p, false) ∨ ∃ (n : Nat) (q : g.θ) (m : Int × Int) (f : g.σ → g.σ × g.θ), k = n ∧ p.qs[n]? = some q ∧ g.plan q = some (m, f) ∧ p.tr.length ≠ 16384 ∧ takeF p k = (⟨(f p.s).1, p.qs.set n (f p.s).2, p.tr ++ [(n, m)]⟩, true) := by
 by_cases h0 : k < 0
 ·left; unfold takeF; rw [if_pos h0]
 obtain ⟨n, rfl⟩ : ∃ n : Nat, k = n := ⟨k.toNat, by omega⟩
 cases hq : p.qs[n]? with
 | none => left; unfold takeF; rw [if_neg h0, Int.toNat_natCast, hq]
 | some q =>
  cases hpl : g.plan q with
  | none => left; unfold takeF; rw [if_neg h0, Int.toNat_natCast, hq]; simp only [hpl]
  | some mf =>
   obtain ⟨m, f⟩ := mf
   by_cases htr : p.tr.length = 16384
   ·left; unfold takeF; rw [if_neg h0, Int.toNat_natCast, hq]; simp only [hpl, if_pos htr]
   ·right; refine ⟨n, q, m, f, rfl, hq, hpl, htr, ?_⟩
    unfold takeF; rw [if_neg h0, Int.toNat_natCast, hq]; simp only [hpl, if_neg htr]
theorem takeF_grow (p : PS g) (k : Int) : p.tr.length + (if (takeF p k).2 = true then 1 else 0) ≤ (takeF p k).1.tr.length := by
 rcases takeF_cases p k with h | ⟨n, q, m, f, _, _, _, _, h⟩ <;> rw [h] <;> simp
theorem roundF_grow (p : PS g) : ∀ n, p.tr.length + (if (roundF p n).2 = true then 1 else 0) ≤ (roundF p n).1.tr.length
 | 0 => by simp [roundF]
 | n + 1 => by
  have h1 := roundF_grow p n
  have h2 := takeF_grow (roundF p n).1 n
  show p.tr.length + (if ((takeF (roundF p n).1 n).2 || (roundF p n).2) = true then 1 else 0) ≤ (takeF (roundF p n).1 n).1.tr.length
  cases h3 : (takeF (roundF p n).1 n).2 <;> cases h4 : (roundF p n).2 <;> simp [h3, h4] at h1 h2 ⊢ <;> omega
theorem ordF_len (order : List Int) : ∀ p : PS g, (ordF p order).qs.length = p.qs.length := by
 induction order with
 | nil => intro p; rfl
 | cons k l ih => intro p; show (ordF (takeF p k).1 l).qs.length = _; rw [ih, takeF_len]
theorem ordF_le (order : List Int) : ∀ p : PS g, p.tr.length ≤ 16384 → (ordF p order).tr.length ≤ 16384 := by
 induction order with
 | nil => intro p h; exact h
 | cons k l ih => intro p h; exact ih _ (takeF_le h k)
theorem ordF_snoc (p : PS g) (l : List Int) (k : Int) : ordF p (l ++ [k]) = (takeF (ordF p l) k).1 := by simp [ordF]
def cutN (g : Game) (qs : List g.θ) (j : Nat) : List Nat := (List.range j).filter fun k => ((qs[k]?).bind g.plan).isSome
theorem cutN_succ {qs : List g.θ} {j : Nat} : cutN g qs (j + 1) = cutN g qs j ++ (if ((qs[j]?).bind g.plan).isSome = true then [j] else []) := by
 unfold cutN
 rw [List.range_succ, List.filter_append]
 congr 1
 simp only [List.filter_cons, List.filter_nil]
def shutS (ids : List SId) (qs : List g.θ) (j : Nat) : List (Seat g.σ g.θ) := (List.zip ids qs).mapIdx fun k iq => if k < j then ⟨iq.1.says, iq.1.turn, iq.1.fin, .shut iq.2⟩ else seatS iq.1 iq.2
theorem shutS_zero {ids : List SId} {qs : List g.θ} : shutS ids qs 0 = seatSs ids qs := by
 apply List.ext_getElem?
 intro k
 simp only [shutS, List.getElem?_mapIdx, seatSs, List.getElem?_zipWith, List.getElem?_zip_eq_some, List.zip, Nat.not_lt_zero, if_false]
 cases ids[k]? <;> cases qs[k]? <;> rfl
theorem shutS_len {ids : List SId} {qs : List g.θ} {j : Nat} (h : ids.length = qs.length) : (shutS ids qs j).length = ids.length := by simp [shutS]; omega
theorem shutS_get {ids : List SId} {qs : List g.θ} {j k : Nat} {i : SId} {q : g.θ} (hi : ids[k]? = some i) (hq : qs[k]? = some q) : (shutS ids qs j)[k]? = some (if k < j then ⟨i.says, i.turn, i.fin, .shut q⟩ else seatS i q) := by
 simp [shutS, List.getElem?_mapIdx, List.zip, List.getElem?_zipWith, hi, hq]
theorem shutS_succ {ids : List SId} {qs : List g.θ} {j : Nat} {i : SId} {q : g.θ} (hi : ids[j]? = some i) (hq : qs[j]? = some q) : (shutS ids qs j).set j ⟨i.says, i.turn, i.fin, .shut q⟩ = shutS ids qs (j + 1) := by
 apply List.ext_getElem?
 intro k
 have hj : j < (shutS ids qs j).length := (List.getElem?_eq_some_iff.1 (shutS_get (j := j) hi hq)).1
 rw [List.getElem?_set]
 by_cases e : j = k
 ·subst e
  rw [if_pos rfl, if_pos hj, shutS_get hi hq, if_pos (by omega)]
 ·rw [if_neg e]
  simp only [shutS, List.getElem?_mapIdx]
  cases (ids.zip qs)[k]? with
  | none => rfl
  | some iq =>
   simp only [Option.map_some, Option.some.injEq]
   by_cases h : k < j
   ·rw [if_pos h, if_pos (by omega)]
   ·rw [if_neg h, if_neg (by omega)]
theorem shutS_all {ids : List SId} {qs : List g.θ} (h : ids.length = qs.length) : (shutS ids qs ids.length).map Seat.fins = qs.map g.Fin := by
 apply List.ext_getElem?
 intro k
 by_cases hk : k < ids.length
 ·have hi := List.getElem?_eq_getElem hk
  have hq := List.getElem?_eq_getElem (show k < qs.length by omega)
  rw [List.getElem?_map, shutS_get hi hq, if_pos hk, List.getElem?_map, hq]
  rfl
 ·rw [List.getElem?_eq_none (by simp [shutS_len h]; omega), List.getElem?_eq_none (by simp; omega)]
theorem shutS_closed {ids : List SId} {qs : List g.θ} (h : ids.length = qs.length) : ∀ s ∈ shutS ids qs ids.length, s.closed := by
 intro s hs
 obtain ⟨k, hk⟩ := List.mem_iff_getElem?.1 hs
 have hlt := (List.getElem?_eq_some_iff.1 hk).1
 rw [shutS_len h] at hlt
 rw [shutS_get (List.getElem?_eq_getElem hlt) (List.getElem?_eq_getElem (show k < qs.length by omega)), if_pos hlt] at hk
 cases hk
 trivial
end
section
variable {g : Game} {ts : List (Thr g)} {s0 : g.σ} {F : List HProp} {wg pb rb : Nat} {ov tv : Value}
theorem star_head {c : HProp} {M L : List HProp} {h : Hp} (s : Star (all (c :: M) :: L) h) : Star (c :: all M :: L) h :=
 star_map (star_open s) (fun _ a => a) (fun _ st => star_shut (M := M) st)
def startInvP (ts : List (Thr g)) (s0 : g.σ) (wg pb rb : Nat) (ov tv : Value) (F : List HProp) : PB.Inv (Nat × g.σ × List g.θ × List SId × Value) MX where
 e := fun i => [(0, ov), (1, tv), (4, .pointer (some ⟨rb, 0, none⟩)), (7, .pointer (some ⟨wg, 0, none⟩)), (8, .pointer (some ⟨pb, 0, none⟩)), (28, tv), (29, .int .i64 (ts.length : Nat)), (30, .int .i64 (i.1 : Nat))]
 L := fun i => g.U i.2.1 :: arr pb 0 [i.2.2.2.2, .slice none 0 0, .slice none 0 0] :: vec 1 i.2.2.2.2 (ptrs i.2.2.2.1) :: all (seatCs g i.2.2.2.1 i.2.2.1) :: all ((ts.drop i.1).map Thr.M) :: arr rb 0 [.slice none 0 0, .slice none 0 0] :: F
 x := fun i => gx g wg (seatSs i.2.2.2.1 i.2.2.1) (some i.2.1) 16384 (seatSs i.2.2.2.1 i.2.2.1).length
 ok := fun i => i.1 ≤ ts.length ∧ i.2.2.2.1.length = i.1 ∧ startF (ts.take i.1) s0 = (i.2.1, i.2.2.1)
def seatMid (wg pb rb j n : Nat) (ov tv fv : Value) (x : MX) (L : List HProp) : PB.Inv (Nat × Nat × Nat × Nat) MX where
 e := fun i => [(0, ov), (1, tv), (4, .pointer (some ⟨rb, 0, none⟩)), (7, .pointer (some ⟨wg, 0, none⟩)), (8, .pointer (some ⟨pb, 0, none⟩)), (28, tv), (29, .int .i64 (n : Nat)), (30, .int .i64 (j : Nat)), (10, fv), (11, .pointer (some ⟨i.1, 0, none⟩))]
 L := fun i => arr i.1 0 [.chan (some i.2.2.1), .chan (some i.2.2.2), .chan (some i.2.1), .int .u8 0, .int .i64 0, .bool false] :: ob i.2.1 newChan :: ob i.2.2.1 newChan :: ob i.2.2.2 newChan :: L
 x := fun _ => x
 ok := fun _ => True
def ordInv (p0 : PS g) (order : List Int) (ids : List SId) (wg pb rb : Nat) (ov : Value) (ss : Value) (F : List HProp) : PB.Inv (Nat × Value) MX where
 e := fun i => [(4, .pointer (some ⟨rb, 0, none⟩)), (7, .pointer (some ⟨wg, 0, none⟩)), (8, .pointer (some ⟨pb, 0, none⟩)), (49, ov), (50, .int .i64 (order.length : Nat)), (51, .int .i64 (i.1 : Nat))]
 L := fun i => playL g pb ss i.2 (.slice none 0 0) ids (ordF p0 (order.take i.1)) F
 x := fun i => playX g wg ids (ordF p0 (order.take i.1))
 ok := fun i => i.1 ≤ order.length
def restInv (I : PS g → Prop) (p0 : PS g) (ids : List SId) (wg pb rb : Nat) (ss : Value) (F : List HProp) : PB.Inv (Nat × PS g × Value × Bool) MX where
 e := fun i => [(4, .pointer (some ⟨rb, 0, none⟩)), (7, .pointer (some ⟨wg, 0, none⟩)), (8, .pointer (some ⟨pb, 0, none⟩)), (14, .bool i.2.2.2)]
 L := fun i => playL g pb ss i.2.2.1 (.slice none 0 0) ids i.2.1 F
 x := fun i => playX g wg ids i.2.1
 ok := fun i => I i.2.1 ∧ i.2.1.qs.length = p0.qs.length ∧ i.2.1.tr.length ≤ 16384 ∧ (if i.2.2.2 = true then restF i.1 i.2.1 = restF 16385 p0 ∧ 16384 < i.2.1.tr.length + i.1 else i.2.1 = restF 16385 p0)
def rndInvP (p : PS g) (ids : List SId) (wg pb rb : Nat) (ss : Value) (F : List HProp) : PB.Inv (Nat × Value) MX where
 e := fun i => [(4, .pointer (some ⟨rb, 0, none⟩)), (7, .pointer (some ⟨wg, 0, none⟩)), (8, .pointer (some ⟨pb, 0, none⟩)), (14, .bool (roundF p i.1).2), (61, .int .i64 (ids.length : Nat)), (62, .int .i64 (i.1 : Nat))]
 L := fun i => playL g pb ss i.2 (.slice none 0 0) ids (roundF p i.1).1 F
 x := fun i => playX g wg ids (roundF p i.1).1
 ok := fun i => i.1 ≤ ids.length
def cutInv (p : PS g) (ids : List SId) (wg pb rb : Nat) (ss tsv : Value) (F : List HProp) : PB.Inv (Nat × Value) MX where
 e := fun i => [(4, .pointer (some ⟨rb, 0, none⟩)), (7, .pointer (some ⟨wg, 0, none⟩)), (8, .pointer (some ⟨pb, 0, none⟩)), (72, ss), (73, .int .i64 (ids.length : Nat)), (74, .int .i64 (i.1 : Nat))]
 L := fun i => vec 1 i.2 (cutC (cutN g p.qs i.1)) :: arr pb 0 [ss, tsv, i.2] :: vec 1 ss (ptrs ids) :: vec 3 tsv (trCP p.tr) :: all (seatCs g ids p.qs) :: g.U p.s :: F
 x := fun i => gx g wg (shutS ids p.qs i.1) (some p.s) (16384 - p.tr.length) ids.length
 ok := fun i => i.1 ≤ ids.length
set_option maxHeartbeats 4000000 in
theorem plays_tr {oa ta : Option Addr} {on oc tn tc : Nat} {order : List Int} (I : PS g → Prop) (hS : ∀ j, j < ts.length → g.ok (startF (ts.take j) s0).1) (hI0 : I ⟨(startF ts s0).1, (startF ts s0).2, []⟩) (hIs : ∀ p k, I p → I (takeF p k).1) (hIo : ∀ p, I p → p.tr.length < 16384 → g.ok p.s) (hfin : ∀ q h, g.Pv q h → g.Fin q h) (hts : ∀ t ∈ ts, ThrOk g t.ini t.fv t.M) (h1 : 0 < ts.length) (h16 : ts.length ≤ 16) (hor : order.length ≤ 16384)
  (hrt : RdsO F ta tn (ts.map Thr.fv)) (hro : RdsO F oa on (order.map fun k => .int .i64 k)) :
  Tr Try.prog mT 18 [.slice oa on oc, .slice ta tn tc] (g.U s0 :: all (ts.map Thr.M) :: F) .idle fun v L' x' =>
   ∃ tv cv, v = .tuple #[.agg #[tv, cv], .int .i64 0] ∧ x' = .idle ∧ L' = vec 3 tv (trCP (playF ts s0 order).tr) :: vec 1 cv (cutC (cutN g (playF ts s0 order).qs ts.length)) :: g.U (playF ts s0 order).s :: all ((playF ts s0 order).qs.map g.Fin) :: F := by
 refine Tr.post (R := fun v L' x' => ∃ tv cv, v = .tuple #[.agg #[tv, cv], .int .i64 0] ∧ x' = MX.idle ∧ ∀ h, Star L' h → Star (vec 3 tv (trCP (playF ts s0 order).tr) :: vec 1 cv (cutC (cutN g (playF ts s0 order).qs ts.length)) :: g.U (playF ts s0 order).s :: all ((playF ts s0 order).qs.map g.Fin) :: F) h) ?_
  (by rintro v L' x' ⟨tv, cv, rfl, rfl, h2⟩; exact ⟨_, ⟨tv, cv, rfl, rfl, rfl⟩, h2⟩)
 have hfn : ∀ v ∈ ts.map Thr.fv, isFn v := by
  intro v hv
  obtain ⟨t, ht, rfl⟩ := List.mem_map.1 hv
  obtain ⟨f, first, cap, hc, _⟩ := (hts t ht).run
  revert hc
  cases t.fv with
  | func a b c => exact fun _ => ⟨a, b, c, rfl⟩
  | _ => intro hc; cases hc
 have hIord : ∀ (l : List Int) (p : PS g), I p → I (ordF p l) := by
  intro l
  induction l with
  | nil => exact fun p h => h
  | cons k l ih => exact fun p h => ih _ (hIs p k h)
 have hIrnd : ∀ (p : PS g) k, I p → I (roundF p k).1 := by
  intro p k h
  induction k with
  | zero => exact h
  | succ k ih => exact hIs _ _ ih
 have htn : tn = ts.length := by have := hrt.1; simpa using this
 have hon : on = order.length := by have := hro.1; simpa using this
 subst htn
 subst hon
 refine tr_of_body Try.func18 rfl Try.ntmps18 (by simp) fun um Q _ hQ => ?_
 simp only [argE, Nat.zero_add, Nat.reduceAdd]
 repeat (first | (apply wo_mo; apply mo_alloc; exact trivial) | refine we_seq ?_ | (refine wR ?_; try simp only [oS]))
 rintro v' L' ⟨rb, rfl, rfl⟩
 repeat (first | refine we_seq ?_ | (refine wR ?_; try simp only [oS]) | refine wo_nil ?_ | refine wM ?_ | refine wA ?_)
 refine wo_call (.cons rfl .nil) trivial (wrong_tr (fun v hv => .inr (hfn v hv)) hrt.there.there.there (by omega)) ?_
 rintro v' L' x' ⟨⟨k, rfl, hk⟩, rfl, rfl⟩
 obtain rfl : k = 0 := by
  rcases hk with ⟨_, h⟩ | ⟨_, h⟩
  ·obtain ⟨_, _, _, h⟩ := hfn _ h; cases h
  ·rw [h, List.length_map, if_neg (by omega), if_neg (by omega)]
 repeat (first | (apply wo_mo; apply mo_allocS; exact trivial) | refine wgtrF ?_ | refine wneqF ?_ | refine we_seq ?_ | (refine wR ?_; try simp only [oS]) | refine wo_nil ?_ | refine wM ?_ | refine wA ?_ | refine wE ?_ | refine wF ?_ | refine we_skip ?_)
 rintro v' L' ⟨wg, rfl, rfl⟩
 repeat (first | refine we_seq ?_ | (refine wR ?_; try simp only [oS]) | refine wo_nil ?_)
 refine wo_begin g s0 (wg := wg) (R := arr rb 0 [.slice none 0 0, .slice none 0 0] :: g.U s0 :: all (ts.map Thr.M) :: F) (fun h st => st) ?_
 repeat (first | (apply wo_mo; apply mo_alloc; exact trivial))
 rintro v' L' ⟨pb, rfl, rfl⟩
 repeat (first | refine we_seq ?_ | (refine wR ?_; try simp only [oS]) | refine wo_nil ?_ | refine wM ?_ | refine wE ?_ | refine we_block ?_)
 refine we_star (vec 1 (.slice none 0 0) (ptrs []) :: all (seatCs g [] []) :: arr pb 0 [.slice none 0 0, .slice none 0 0, .slice none 0 0] :: shpC wg 119 2 :: arr rb 0 [.slice none 0 0, .slice none 0 0] :: g.U s0 :: all (ts.map Thr.M) :: F) (fun h st => vec_nil (star_shut (M := []) st)) ?_
 refine we_loopN (startInvP ts s0 wg pb rb (.slice oa order.length oc) (.slice ta ts.length tc) (shpC wg 119 2 :: F)) (fun i => ts.length - i.1) (0, s0, [], [], .slice none 0 0) ⟨by omega, rfl, rfl⟩ ⟨rfl, rfl, rfl, rfl, rfl, rfl, rfl, rfl, trivial⟩ (.take (.there (.there (.there (.there (.there .here))))) (.take (.there (.there .here)) (.take .here (.take .here (.take (.there (.there .here)) (.take (.there .here) (.take .here .refl))))))) rfl ?_
 rintro ⟨j, s, qs, ids, ss⟩ ⟨hj, hids, hst⟩
 simp only at hj hids hst
 have hqs : qs.length = j := by have := startF_len (ts.take j) s0; rw [hst] at this; simpa [Nat.min_eq_left hj] using this
 have hsl : (seatSs ids qs).length = ids.length := by simp [seatSs]; omega
 simp only [startInvP]
 by_cases hlt : j < ts.length
 ·obtain ⟨tb, to, rfl, hrd⟩ := hrt.rds (by omega)
  have ht : ts[j]? = some ts[j] := List.getElem?_eq_getElem hlt
  have hrj := hrd j (ts[j].fv) (by simp [ht])
  have hTO := hts _ (List.getElem_mem hlt)
  have hdrop : ts.drop j = ts[j] :: ts.drop (j + 1) := List.drop_eq_getElem_cons hlt
  rw [hdrop]
  refine we_star (g.U s :: arr pb 0 [ss, .slice none 0 0, .slice none 0 0] :: vec 1 ss (ptrs ids) :: all (seatCs g ids qs) :: ts[j].M :: all ((ts.drop (j + 1)).map Thr.M) :: arr rb 0 [.slice none 0 0, .slice none 0 0] :: shpC wg 119 2 :: F) (fun h st => Ent.star (.take (.there (.there .here)) (.take (.there (.there .here)) (.take (.there (.there .here)) (.take (.there (.there .here)) (.take .here (.take .here .refl)))))) (star_head (((.there (.there (.there (.there .here)))) : Has _ (all ((ts[j] :: ts.drop (j + 1)).map Thr.M)) _).star st))) ?_
  repeat (first | (apply wo_po; apply mo_index1; exact rfl; exact rfl; omega; exact gY) | (apply wo_po; apply mo_load; exact rfl; exact .there (.there (.there (.there (.there (.there (.there (.there hrj))))))); exact trivial) | refine wlssT ?_ | refine we_seq ?_ | (refine wR ?_; try simp only [oS]) | refine wo_nil ?_ | refine wA ?_ | refine wT ?_ | refine we_skip ?_ | refine we_block ?_)
  let MI := seatMid wg pb rb j ts.length (.slice oa order.length oc) (.slice (some ⟨tb, to, none⟩) ts.length tc) ts[j].fv (gx g wg (seatSs ids qs) (some s) 16384 (seatSs ids qs).length) (g.U s :: arr pb 0 [ss, .slice none 0 0, .slice none 0 0] :: vec 1 ss (ptrs ids) :: all (seatCs g ids qs) :: ts[j].M :: all ((ts.drop (j + 1)).map Thr.M) :: arr rb 0 [.slice none 0 0, .slice none 0 0] :: shpC wg 119 2 :: F)
  refine we_join MI ?_ ?_
  ·refine we_draw (List.range' 0 6) (by kernel_rfl) ?_
   refine ap_fork3 (f := 1) (g := 2) (ordf := [1, 0, 2, 3, 4, 5]) (ordg := [2, 0, 1, 3, 4, 5]) (Rf := [2, 3, 4, 5]) (Rg := [1, 3, 4, 5]) (by kernel_rfl) (by kernel_rfl) (by kernel_rfl) (by kernel_rfl) (by kernel_rfl) (by kernel_rfl) (by kernel_rfl) (by kernel_rfl) (by kernel_rfl) ?_ ?_ ?_
   ·refine ap1_mo (Pd' := []) rfl rfl rfl trivial (mo_makeChan (m := 0) (k := .i64) rfl (by omega) (by omega)) (fun v L' _ p hp => by cases hp) ?_
    rintro v' L' ⟨ct, rfl, rfl⟩
    refine ap_fork2 (f := 2) (ordf := [0, 2, 1, 3, 4, 5]) (Rf := [3, 4, 5]) (by kernel_rfl) (by kernel_rfl) (by kernel_rfl) (by kernel_rfl) (by kernel_rfl) ?_ ?_
    ·refine ap1_mo (Pd' := []) rfl rfl rfl trivial (mo_makeChan (m := 0) (k := .i64) rfl (by omega) (by omega)) (fun v L' _ p hp => by cases hp) ?_
     rintro v' L' ⟨ce, rfl, rfl⟩
     refine ap_loud rfl rfl rfl rfl rfl trivial (mo_makeChan (m := 0) (k := .i64) rfl (by omega) (by omega)) ?_
     rintro v' L' ⟨cs, rfl, rfl⟩
     repeat (first | (apply ap_pure; exact rfl; exact rfl; exact trivial; intro L; apply mo_build (pv := [(0, _), (1, _), (2, _)]); exact rfl; exact .cons rfl (.cons rfl (.cons rfl .nil)); exact rfl))
     refine ap_loud rfl rfl rfl rfl rfl trivial (mo_box rfl) ?_
     rintro v' L' ⟨sb, rfl, rfl⟩
     repeat (first | refine aA ?_ | refine ap_end ?_)
     refine at_mid (B := mT) (I := MI) (sb, cs, ct, ce) trivial ?_ ?_ rfl
     exact ⟨rfl, rfl, rfl, rfl, rfl, rfl, rfl, rfl, rfl, rfl, trivial⟩
     repeat (first | exact Ent.refl | (apply Ent.take; (repeat (first | exact Has.here | apply Has.there))) | apply Ent.drop)
    ·refine ap1_mo (Pd' := []) rfl rfl rfl trivial (mo_makeChan (m := 0) (k := .i64) rfl (by omega) (by omega)) (fun v L' _ p hp => by cases hp) ?_
     rintro v' L' ⟨cs, rfl, rfl⟩
     refine ap_loud rfl rfl rfl rfl rfl trivial (mo_makeChan (m := 0) (k := .i64) rfl (by omega) (by omega)) ?_
     rintro v' L' ⟨ce, rfl, rfl⟩
     repeat (first | (apply ap_pure; exact rfl; exact rfl; exact trivial; intro L; apply mo_build (pv := [(0, _), (1, _), (2, _)]); exact rfl; exact .cons rfl (.cons rfl (.cons rfl .nil)); exact rfl))
     refine ap_loud rfl rfl rfl rfl rfl trivial (mo_box rfl) ?_
     rintro v' L' ⟨sb, rfl, rfl⟩
     repeat (first | refine aA ?_ | refine ap_end ?_)
     refine at_mid (B := mT) (I := MI) (sb, cs, ct, ce) trivial ?_ ?_ rfl
     exact ⟨rfl, rfl, rfl, rfl, rfl, rfl, rfl, rfl, rfl, rfl, trivial⟩
     repeat (first | exact Ent.refl | (apply Ent.take; (repeat (first | exact Has.here | apply Has.there))) | apply Ent.drop)
   ·refine ap1_mo (Pd' := []) rfl rfl rfl trivial (mo_makeChan (m := 0) (k := .i64) rfl (by omega) (by omega)) (fun v L' _ p hp => by cases hp) ?_
    rintro v' L' ⟨ce, rfl, rfl⟩
    refine ap_fork2 (f := 2) (ordf := [1, 2, 0, 3, 4, 5]) (Rf := [3, 4, 5]) (by kernel_rfl) (by kernel_rfl) (by kernel_rfl) (by kernel_rfl) (by kernel_rfl) ?_ ?_
    ·refine ap1_mo (Pd' := []) rfl rfl rfl trivial (mo_makeChan (m := 0) (k := .i64) rfl (by omega) (by omega)) (fun v L' _ p hp => by cases hp) ?_
     rintro v' L' ⟨ct, rfl, rfl⟩
     refine ap_loud rfl rfl rfl rfl rfl trivial (mo_makeChan (m := 0) (k := .i64) rfl (by omega) (by omega)) ?_
     rintro v' L' ⟨cs, rfl, rfl⟩
     repeat (first | (apply ap_pure; exact rfl; exact rfl; exact trivial; intro L; apply mo_build (pv := [(0, _), (1, _), (2, _)]); exact rfl; exact .cons rfl (.cons rfl (.cons rfl .nil)); exact rfl))
     refine ap_loud rfl rfl rfl rfl rfl trivial (mo_box rfl) ?_
     rintro v' L' ⟨sb, rfl, rfl⟩
     repeat (first | refine aA ?_ | refine ap_end ?_)
     refine at_mid (B := mT) (I := MI) (sb, cs, ct, ce) trivial ?_ ?_ rfl
     exact ⟨rfl, rfl, rfl, rfl, rfl, rfl, rfl, rfl, rfl, rfl, trivial⟩
     repeat (first | exact Ent.refl | (apply Ent.take; (repeat (first | exact Has.here | apply Has.there))) | apply Ent.drop)
    ·refine ap1_mo (Pd' := []) rfl rfl rfl trivial (mo_makeChan (m := 0) (k := .i64) rfl (by omega) (by omega)) (fun v L' _ p hp => by cases hp) ?_
     rintro v' L' ⟨cs, rfl, rfl⟩
     refine ap_loud rfl rfl rfl rfl rfl trivial (mo_makeChan (m := 0) (k := .i64) rfl (by omega) (by omega)) ?_
     rintro v' L' ⟨ct, rfl, rfl⟩
     repeat (first | (apply ap_pure; exact rfl; exact rfl; exact trivial; intro L; apply mo_build (pv := [(0, _), (1, _), (2, _)]); exact rfl; exact .cons rfl (.cons rfl (.cons rfl .nil)); exact rfl))
     refine ap_loud rfl rfl rfl rfl rfl trivial (mo_box rfl) ?_
     rintro v' L' ⟨sb, rfl, rfl⟩
     repeat (first | refine aA ?_ | refine ap_end ?_)
     refine at_mid (B := mT) (I := MI) (sb, cs, ct, ce) trivial ?_ ?_ rfl
     exact ⟨rfl, rfl, rfl, rfl, rfl, rfl, rfl, rfl, rfl, rfl, trivial⟩
     repeat (first | exact Ent.refl | (apply Ent.take; (repeat (first | exact Has.here | apply Has.there))) | apply Ent.drop)
   ·refine ap1_mo (Pd' := []) rfl rfl rfl trivial (mo_makeChan (m := 0) (k := .i64) rfl (by omega) (by omega)) (fun v L' _ p hp => by cases hp) ?_
    rintro v' L' ⟨cs, rfl, rfl⟩
    refine ap_fork2 (f := 1) (ordf := [2, 1, 0, 3, 4, 5]) (Rf := [3, 4, 5]) (by kernel_rfl) (by kernel_rfl) (by kernel_rfl) (by kernel_rfl) (by kernel_rfl) ?_ ?_
    ·refine ap1_mo (Pd' := []) rfl rfl rfl trivial (mo_makeChan (m := 0) (k := .i64) rfl (by omega) (by omega)) (fun v L' _ p hp => by cases hp) ?_
     rintro v' L' ⟨ct, rfl, rfl⟩
     refine ap_loud rfl rfl rfl rfl rfl trivial (mo_makeChan (m := 0) (k := .i64) rfl (by omega) (by omega)) ?_
     rintro v' L' ⟨ce, rfl, rfl⟩
     repeat (first | (apply ap_pure; exact rfl; exact rfl; exact trivial; intro L; apply mo_build (pv := [(0, _), (1, _), (2, _)]); exact rfl; exact .cons rfl (.cons rfl (.cons rfl .nil)); exact rfl))
     refine ap_loud rfl rfl rfl rfl rfl trivial (mo_box rfl) ?_
     rintro v' L' ⟨sb, rfl, rfl⟩
     repeat (first | refine aA ?_ | refine ap_end ?_)
     refine at_mid (B := mT) (I := MI) (sb, cs, ct, ce) trivial ?_ ?_ rfl
     exact ⟨rfl, rfl, rfl, rfl, rfl, rfl, rfl, rfl, rfl, rfl, trivial⟩
     repeat (first | exact Ent.refl | (apply Ent.take; (repeat (first | exact Has.here | apply Has.there))) | apply Ent.drop)
    ·refine ap1_mo (Pd' := []) rfl rfl rfl trivial (mo_makeChan (m := 0) (k := .i64) rfl (by omega) (by omega)) (fun v L' _ p hp => by cases hp) ?_
     rintro v' L' ⟨ce, rfl, rfl⟩
     refine ap_loud rfl rfl rfl rfl rfl trivial (mo_makeChan (m := 0) (k := .i64) rfl (by omega) (by omega)) ?_
     rintro v' L' ⟨ct, rfl, rfl⟩
     repeat (first | (apply ap_pure; exact rfl; exact rfl; exact trivial; intro L; apply mo_build (pv := [(0, _), (1, _), (2, _)]); exact rfl; exact .cons rfl (.cons rfl (.cons rfl .nil)); exact rfl))
     refine ap_loud rfl rfl rfl rfl rfl trivial (mo_box rfl) ?_
     rintro v' L' ⟨sb, rfl, rfl⟩
     repeat (first | refine aA ?_ | refine ap_end ?_)
     refine at_mid (B := mT) (I := MI) (sb, cs, ct, ce) trivial ?_ ?_ rfl
     exact ⟨rfl, rfl, rfl, rfl, rfl, rfl, rfl, rfl, rfl, rfl, trivial⟩
     repeat (first | exact Ent.refl | (apply Ent.take; (repeat (first | exact Has.here | apply Has.there))) | apply Ent.drop)
  ·rintro ⟨sb, cs, ct, ce⟩ _
   simp only [MI, seatMid]
   repeat (first | refine we_seq ?_ | (refine wR ?_; try simp only [oS]) | refine wM ?_)
   refine wo_call (.cons rfl (.cons rfl (.cons rfl .nil))) trivial (Tr.ent (L' := g.U s :: ts[j].M :: arr sb 0 [.chan (some ct), .chan (some ce), .chan (some cs), .int .u8 0, .int .i64 0, .bool false] :: ob cs newChan :: ob ct newChan :: ob ce newChan :: arr pb 0 [ss, .slice none 0 0, .slice none 0 0] :: vec 1 ss (ptrs ids) :: all (seatCs g ids qs) :: all ((ts.drop (j + 1)).map Thr.M) :: arr rb 0 [.slice none 0 0, .slice none 0 0] :: shpC wg 119 2 :: F) (.take (.there (.there (.there (.there .here)))) (.take (.there (.there (.there (.there (.there (.there (.there .here))))))) (.take .here (.take .here (.take .here (.take .here .refl)))))) (run_tr hTO (by have := hS j hlt; rw [hst] at this; exact this) hfin (by rw [hsl]; omega) (fun h st => shp_of (.there (.there (.there (.there (.there .here))))) st))) ?_
   rintro v' L' x' ⟨rfl, rfl, rfl⟩
   refine wo_pure (of_has (.there (.there (.there (.there .here)))) (vec_shape (by omega))) ?_
   rintro ⟨sa, sn, sc, rfl, hsn, _⟩
   have hsn : sn = ids.length := by simp [ptrs] at hsn; omega
   subst hsn
   repeat (first | (apply wo_mo; apply mo_buildSlice (sz := 1) (vs := [.pointer (some ⟨sb, 0, none⟩)]); exact rfl; exact .cons rfl .nil; exact rfl; (intro v hv; cases (List.mem_singleton.1 hv); exact rfl); omega; exact trivial) | (refine wR ?_; try simp only [oS]) | refine wo_nil ?_ | refine wM ?_ | refine wD ?_ | refine wL ?_)
   rintro v' L' ⟨nb, rfl, rfl⟩
   repeat (first | (apply wo_mo; apply mo_append (sz := 1) (new := [.pointer (some ⟨sb, 0, none⟩)]); exact rfl; exact rfl; exact rfl; exact rfl; exact (.there (.there (.there (.there (.there .here))))); exact rfl; exact .inr ⟨_, _, rfl, Rds.all .here⟩; (intro v hv; cases (List.mem_singleton.1 hv); exact rfl); (simp only [sliceLen]; omega); exact trivial))
   rintro v' L' rfl
   refine wo_pure (of_has .here (vec_shape (by omega))) ?_
   rintro ⟨ua, un, uc, rfl, hun, _⟩
   repeat (first | refine wS ?_ | (refine wR ?_; try simp only [oS]) | refine wo_nil ?_ | refine wM ?_ | refine wD ?_ | refine wadd ?_)
   have hseats : seatCs g (ids ++ [⟨sb, cs, ct, ce⟩]) (qs ++ [(ts[j].ini s).2]) = seatCs g ids qs ++ [seatC g ⟨sb, cs, ct, ce⟩ (ts[j].ini s).2] := by
    unfold seatCs; rw [List.zipWith_append (by omega)]; rfl
   have hseatS : seatSs (ids ++ [⟨sb, cs, ct, ce⟩]) (qs ++ [(ts[j].ini s).2]) = seatSs ids qs ++ [seatS ⟨sb, cs, ct, ce⟩ (ts[j].ini s).2] := by
    unfold seatSs; rw [List.zipWith_append (by omega)]; rfl
   refine at_roundS (B := mT) (I := startInvP ts s0 wg pb rb (.slice oa order.length oc) (.slice (some ⟨tb, to, none⟩) ts.length tc) (shpC wg 119 2 :: F)) (R := fun i' => ts.length - i'.1 < ts.length - j) (j + 1, (ts[j].ini s).1, qs ++ [(ts[j].ini s).2], ids ++ [⟨sb, cs, ct, ce⟩], .slice ua un uc) (by show ts.length - (j + 1) < ts.length - j; omega) ⟨by show j + 1 ≤ _; omega, by show (ids ++ [_]).length = j + 1; simp; omega, ?_⟩ ?_ (fun h st => ?_) ?_
   ·show startF (ts.take (j + 1)) s0 = _
    rw [List.take_succ_eq_append_getElem hlt, startF_snoc, hst]
   ·exact ⟨rfl, rfl, rfl, rfl, rfl, rfl, rfl, rfl, trivial⟩
   ·have s1 : Star (seatR sb cs ct ce :: arr sb 3 (lastC ((g.plan (ts[j].ini s).2).map (·.1))) :: all (seatCs g ids qs) :: g.U (ts[j].ini s).1 :: arr pb 0 [.slice ua un uc, .slice none 0 0, .slice none 0 0] :: vec 1 (.slice ua un uc) (ptrs ids ++ [.pointer (some ⟨sb, 0, none⟩)]) :: all ((ts.drop (j + 1)).map Thr.M) :: arr rb 0 [.slice none 0 0, .slice none 0 0] :: shpC wg 119 2 :: F) h := Ent.star (.take (.there (.there (.there .here))) (.take (.there (.there (.there .here))) (.take (.there (.there (.there (.there .here)))) (.take (.there (.there .here)) (.take (.there (.there .here)) (.take .here (.drop .refl))))))) st
    have s2 := star_push (c := seatC g ⟨sb, cs, ct, ce⟩ (ts[j].ini s).2) (star_shut (M := [_, _]) s1)
    rw [← hseats] at s2
    have e3 : ptrs ids ++ [.pointer (some ⟨sb, 0, none⟩)] = ptrs (ids ++ [⟨sb, cs, ct, ce⟩]) := by simp [ptrs]
    rw [e3] at s2
    exact Ent.star (.take (.there .here) (.take (.there .here) (.take (.there .here) (.take .here .refl)))) s2
   ·show gx g wg (seatSs (ids ++ [_]) (qs ++ [_])) _ _ _ = _
    rw [hseatS]
    simp only [List.length_append, List.length_singleton]
    rfl
 ·obtain rfl : j = ts.length := by omega
  rw [List.take_length] at hst
  rw [hsl]
  repeat (first | refine wlssF ?_ | refine we_seq ?_ | (refine wR ?_; try simp only [oS]) | refine wo_nil ?_ | refine wM ?_ | refine wE ?_ | refine wF ?_ | refine we_block ?_ | refine we_exit ?_)
  refine we_star (playL g pb ss (.slice none 0 0) (.slice none 0 0) ids (⟨s, qs, []⟩ : PS g) (arr rb 0 [.slice none 0 0, .slice none 0 0] :: shpC wg 119 2 :: F)) (fun h st => Ent.star (M := playL g pb ss (.slice none 0 0) (.slice none 0 0) ids (⟨s, qs, []⟩ : PS g) (arr rb 0 [.slice none 0 0, .slice none 0 0] :: shpC wg 119 2 :: F)) (.take (.there .here) (.take (.there .here) (.take (.there .here) (.take .here (.take .here (.drop .refl)))))) (vec_nil (sz := 3) st)) ?_
  refine we_loopN (ordInv (⟨s, qs, []⟩ : PS g) order ids wg pb rb (.slice oa order.length oc) ss (arr rb 0 [.slice none 0 0, .slice none 0 0] :: shpC wg 119 2 :: F)) (fun i => order.length - i.1) (0, .slice none 0 0) (Nat.zero_le _) ⟨rfl, rfl, rfl, rfl, rfl, rfl, trivial⟩ .refl rfl ?_
  have hI1 : I (⟨s, qs, []⟩ : PS g) := by rw [hst] at hI0; exact hI0
  rintro ⟨i, tsv⟩ hi
  replace hi : i ≤ order.length := hi
  have hpl : ids.length = (ordF (⟨s, qs, []⟩ : PS g) (order.take i)).qs.length := by rw [ordF_len]; show ids.length = qs.length; omega
  have hple := ordF_le (order.take i) (⟨s, qs, []⟩ : PS g) (Nat.zero_le _)
  simp only [ordInv]
  by_cases hlt2 : i < order.length
  ·obtain ⟨ob, oo, rfl, hrd⟩ := hro.rds (by omega)
   have hri := hrd i (.int .i64 order[i]) (by rw [List.getElem?_map, List.getElem?_eq_getElem hlt2]; rfl)
   repeat (first | (apply wo_po; apply mo_index1; exact rfl; exact rfl; omega; exact gY) | (apply wo_po; apply mo_load; exact rfl; exact .there (.there (.there (.there (.there (.there (.there hri)))))); exact trivial) | refine wlssT ?_ | refine we_seq ?_ | (refine wR ?_; try simp only [oS]) | refine wo_nil ?_ | refine wM ?_ | refine wA ?_ | refine wT ?_ | refine we_skip ?_ | refine we_block ?_)
   refine wo_call (.cons rfl (.cons rfl .nil)) trivial (takes_tr hpl hple (hIo _ (hIord _ _ hI1))) ?_
   rintro v' L' x' ⟨ts', rfl, rfl, rfl⟩
   repeat (first | (refine wR ?_; try simp only [oS]) | refine wo_nil ?_ | refine wM ?_ | refine wadd ?_)
   have htk : (takeF (ordF (⟨s, qs, []⟩ : PS g) (order.take i)) order[i]).1 = ordF (⟨s, qs, []⟩ : PS g) (order.take (i + 1)) := by
    rw [List.take_succ_eq_append_getElem hlt2, ordF_snoc]
   rw [htk]
   refine at_round (B := mT) (I := ordInv (⟨s, qs, []⟩ : PS g) order ids wg pb rb (.slice (some ⟨ob, oo, none⟩) order.length oc) ss (arr rb 0 [.slice none 0 0, .slice none 0 0] :: shpC wg 119 2 :: F)) (R := fun i' => order.length - i'.1 < order.length - i) (i + 1, ts') (by show order.length - (i + 1) < order.length - i; omega) (show i + 1 ≤ order.length by omega) ?_ .refl rfl
   exact ⟨rfl, rfl, rfl, rfl, rfl, rfl, trivial⟩
  ·obtain rfl : i = order.length := by omega
   rw [List.take_length] at hpl hple ⊢
   obtain ⟨p1, hp1⟩ : ∃ p1, ordF (⟨s, qs, []⟩ : PS g) order = p1 := ⟨_, rfl⟩
   rw [hp1] at hpl hple ⊢
   repeat (first | refine wlssF ?_ | refine we_seq ?_ | (refine wR ?_; try simp only [oS]) | refine wo_nil ?_ | refine wA ?_ | refine wF ?_ | refine we_block ?_ | refine we_exit ?_)
   refine we_loopN (restInv I p1 ids wg pb rb ss (arr rb 0 [.slice none 0 0, .slice none 0 0] :: shpC wg 119 2 :: F)) (fun i => if i.2.2.2 = true then i.1 + 1 else 0) (16385, p1, tsv, true) ⟨by rw [← hp1]; exact hIord _ _ hI1, rfl, hple, by simp only [if_true]; exact ⟨trivial, by omega⟩⟩ ⟨rfl, rfl, rfl, rfl, trivial⟩ .refl rfl ?_
   rintro ⟨n, p, tv2, more⟩ ⟨hIp, hq1, hq2, hq3⟩
   simp only at hIp hq1 hq2 hq3
   simp only [restInv]
   cases more with
   | true =>
    simp only [if_true] at hq3
    obtain ⟨n, rfl⟩ : ∃ m, n = m + 1 := ⟨n - 1, by omega⟩
    have hpq : p.qs.length = ids.length := by omega
    refine we_pure (of_has (.there (.there .here)) (vec_shape (by omega))) ?_
    rintro ⟨sa, sn, sc, rfl, hsn, _⟩
    have hsn : sn = ids.length := by simp [ptrs] at hsn; omega
    subst hsn
    repeat (first | refine we_seq ?_ | (refine wR ?_; try simp only [oS]) | refine wo_nil ?_ | refine wM ?_ | refine wA ?_ | refine wD ?_ | refine wL ?_ | refine wE ?_ | refine wT ?_ | refine we_skip ?_ | refine we_block ?_)
    refine we_loopN (rndInvP p ids wg pb rb (.slice sa ids.length sc) (arr rb 0 [.slice none 0 0, .slice none 0 0] :: shpC wg 119 2 :: F)) (fun i => ids.length - i.1) (0, tv2) (Nat.zero_le _) ⟨rfl, rfl, rfl, rfl, rfl, rfl, trivial⟩ .refl rfl ?_
    rintro ⟨k, tv3⟩ hk
    replace hk : k ≤ ids.length := hk
    simp only [rndInvP]
    by_cases hlt3 : k < ids.length
    ·repeat (first | refine wlssT ?_ | refine we_seq ?_ | (refine wR ?_; try simp only [oS]) | refine wo_nil ?_ | refine wM ?_ | refine wA ?_ | refine wT ?_ | refine we_skip ?_ | refine we_block ?_)
     refine wo_call (.cons rfl (.cons rfl .nil)) trivial (takes_tr (by rw [roundF_len]; omega) (roundF_le hq2 k) (hIo _ (hIrnd _ _ hIp))) ?_
     rintro v' L' x' ⟨ts', rfl, rfl, rfl⟩
     have hnx : roundF p (k + 1) = ((takeF (roundF p k).1 k).1, (takeF (roundF p k).1 k).2 || (roundF p k).2) := rfl
     have hr1 : (roundF p (k + 1)).1 = (takeF (roundF p k).1 k).1 := rfl
     obtain ⟨b, hb⟩ : ∃ b, (takeF (roundF p k).1 k).2 = b := ⟨_, rfl⟩
     rw [hb, ← hr1]
     cases b with
     | true =>
      repeat (first | (refine wR ?_; try simp only [oS]) | refine wo_nil ?_ | refine wM ?_ | refine wA ?_ | (apply wo_no; exact rfl) | refine wK ?_ | refine wadd ?_)
      refine at_round (B := mT) (I := rndInvP p ids wg pb rb (.slice sa ids.length sc) (arr rb 0 [.slice none 0 0, .slice none 0 0] :: shpC wg 119 2 :: F)) (R := fun i' => ids.length - i'.1 < ids.length - k) (k + 1, ts') (by show ids.length - (k + 1) < ids.length - k; omega) (show k + 1 ≤ ids.length by omega) ?_ .refl rfl
      exact ⟨rfl, rfl, rfl, by rw [hnx, hb]; rfl, rfl, rfl, trivial⟩
     | false =>
      repeat (first | (refine wR ?_; try simp only [oS]) | refine wo_nil ?_ | refine wM ?_ | refine wA ?_ | refine wJ ?_ | refine wadd ?_)
      refine at_round (B := mT) (I := rndInvP p ids wg pb rb (.slice sa ids.length sc) (arr rb 0 [.slice none 0 0, .slice none 0 0] :: shpC wg 119 2 :: F)) (R := fun i' => ids.length - i'.1 < ids.length - k) (k + 1, ts') (by show ids.length - (k + 1) < ids.length - k; omega) (show k + 1 ≤ ids.length by omega) ?_ .refl rfl
      exact ⟨rfl, rfl, rfl, by rw [hnx, hb]; rfl, rfl, rfl, trivial⟩
    ·obtain rfl : k = ids.length := by omega
     repeat (first | refine wlssF ?_ | refine we_seq ?_ | (refine wR ?_; try simp only [oS]) | refine wo_nil ?_ | refine wF ?_ | refine we_exit ?_)
     have hg := roundF_grow p ids.length
     have hle3 := roundF_le hq2 ids.length
     have hrest : restF (n + 1) p = if (roundF p ids.length).2 = true then restF n (roundF p ids.length).1 else (roundF p ids.length).1 := by
      show (if (roundF p p.qs.length).2 = true then restF n (roundF p p.qs.length).1 else (roundF p p.qs.length).1) = _
      rw [hpq]
     refine at_round (B := mT) (I := restInv I p1 ids wg pb rb (.slice sa ids.length sc) (arr rb 0 [.slice none 0 0, .slice none 0 0] :: shpC wg 119 2 :: F)) (R := fun i' => (if i'.2.2.2 = true then i'.1 + 1 else 0) < (if true = true then (n + 1) + 1 else 0)) (n, (roundF p ids.length).1, tv3, (roundF p ids.length).2) ?_ ⟨hIrnd _ _ hIp, by show (roundF p ids.length).1.qs.length = _; rw [roundF_len]; exact hq1, hle3, ?_⟩ ?_ .refl rfl
     ·show (if (roundF p ids.length).2 = true then n + 1 else 0) < (if true = true then (n + 1) + 1 else 0)
      simp only [if_true]
      split <;> omega
     ·simp only
      rw [hrest] at hq3
      cases hb : (roundF p ids.length).2 with
      | true => rw [hb] at hq3 hg; simp only [if_true] at hq3 hg ⊢; exact ⟨hq3.1, by omega⟩
      | false => rw [hb] at hq3; simpa using hq3.1
     ·exact ⟨rfl, rfl, rfl, rfl, trivial⟩
   | false =>
    simp only [Bool.false_eq_true, if_false] at hq3
    have hplay : playF ts s0 order = p := by rw [hq3, ← hp1]; unfold playF; rw [hst]
    rw [hplay] at hQ
    have hpq : p.qs.length = ids.length := by omega
    refine we_pure (of_has (.there (.there .here)) (vec_shape (by omega))) ?_
    rintro ⟨sa, sn, sc, rfl, hsn, _, hnz, hy⟩
    have hsn : sn = ids.length := by simp [ptrs] at hsn; omega
    subst hsn
    cases sa with
    | none => have := hnz rfl; omega
    | some ad =>
    obtain ⟨sb, so, sp⟩ := ad
    have := hy _ rfl
    simp only [Addr.mk.injEq, true_and] at this
    subst this
    repeat (first | refine we_seq ?_ | (refine wR ?_; try simp only [oS]) | refine wo_nil ?_ | refine wM ?_ | refine wD ?_ | refine wL ?_ | refine wE ?_ | refine wF ?_ | refine we_block ?_ | refine we_exit ?_)
    refine we_star (vec 1 (.slice none 0 0) (cutC (cutN g p.qs 0)) :: arr pb 0 [.slice (some ⟨sb, so, none⟩) ids.length sc, tv2, .slice none 0 0] :: vec 1 (.slice (some ⟨sb, so, none⟩) ids.length sc) (ptrs ids) :: vec 3 tv2 (trCP p.tr) :: all (seatCs g ids p.qs) :: g.U p.s :: arr rb 0 [.slice none 0 0, .slice none 0 0] :: shpC wg 119 2 :: F) (fun h st => vec_nil (Ent.star (.take (.there .here) (.take (.there .here) (.take (.there .here) (.take (.there .here) (.take .here .refl))))) st)) ?_
    refine we_loopN (cutInv p ids wg pb rb (.slice (some ⟨sb, so, none⟩) ids.length sc) tv2 (arr rb 0 [.slice none 0 0, .slice none 0 0] :: shpC wg 119 2 :: F)) (fun i => ids.length - i.1) (0, .slice none 0 0) (Nat.zero_le _) ⟨rfl, rfl, rfl, rfl, rfl, rfl, trivial⟩ .refl (by simp only [cutInv]; rw [shutS_zero]) ?_
    rintro ⟨k, cv⟩ hk
    replace hk : k ≤ ids.length := hk
    simp only [cutInv]
    by_cases hlt3 : k < ids.length
    ·have hi : ids[k]? = some ids[k] := List.getElem?_eq_getElem hlt3
     have hq : p.qs[k]? = some (p.qs[k]'(by omega)) := List.getElem?_eq_getElem _
     obtain ⟨i, hie⟩ : ∃ i, ids[k] = i := ⟨_, rfl⟩
     obtain ⟨q, hqe⟩ : ∃ q, (p.qs[k]'(by omega)) = q := ⟨_, rfl⟩
     rw [hie] at hi
     rw [hqe] at hq
     let er := all ((seatCs g ids p.qs).eraseIdx k)
     refine we_star (seatR i.sb i.says i.turn i.fin :: arr i.sb 3 (lastQ g q) :: er :: vec 1 cv (cutC (cutN g p.qs k)) :: arr pb 0 [.slice (some ⟨sb, so, none⟩) ids.length sc, tv2, cv] :: vec 1 (.slice (some ⟨sb, so, none⟩) ids.length sc) (ptrs ids) :: vec 3 tv2 (trCP p.tr) :: g.U p.s :: arr rb 0 [.slice none 0 0, .slice none 0 0] :: shpC wg 119 2 :: F) (fun h st => seat_pick hi hq (((.there (.there (.there (.there .here)))) : Has (_ :: _ :: _ :: _ :: all (seatCs g ids p.qs) :: _) _ _).star st)) ?_
     have hback : ∀ {cv' : Value} {cl : List Value} h, Star (seatR i.sb i.says i.turn i.fin :: arr i.sb 3 (lastQ g q) :: er :: vec 1 cv' cl :: arr pb 0 [.slice (some ⟨sb, so, none⟩) ids.length sc, tv2, cv'] :: vec 1 (.slice (some ⟨sb, so, none⟩) ids.length sc) (ptrs ids) :: vec 3 tv2 (trCP p.tr) :: g.U p.s :: arr rb 0 [.slice none 0 0, .slice none 0 0] :: shpC wg 119 2 :: F) h →
       Star (vec 1 cv' cl :: arr pb 0 [.slice (some ⟨sb, so, none⟩) ids.length sc, tv2, cv'] :: vec 1 (.slice (some ⟨sb, so, none⟩) ids.length sc) (ptrs ids) :: vec 3 tv2 (trCP p.tr) :: all (seatCs g ids p.qs) :: g.U p.s :: arr rb 0 [.slice none 0 0, .slice none 0 0] :: shpC wg 119 2 :: F) h := fun h st => by
      have s1 := seat_put (q' := q) hi hq st
      rw [set_same hq] at s1
      exact Ent.star (.take (.there .here) (.take (.there .here) (.take (.there .here) (.take (.there .here) (.take .here .refl))))) s1
     have hcl : (cutN g p.qs k).length ≤ k := by have := List.length_filter_le (fun k => ((p.qs[k]?).bind g.plan).isSome) (List.range k); rw [List.length_range] at this; exact this
     have hget : (shutS ids p.qs k)[k]? = some (⟨i.says, i.turn, i.fin, .said q⟩ : Seat g.σ g.θ) := by rw [shutS_get hi hq, if_neg (by omega)]; rfl
     have hsl2 : ids.length = (shutS ids p.qs k).length := (shutS_len hpq.symm).symm
     have rs : ∀ {a b c d e : HProp} {M : List HProp}, Rd (a :: b :: c :: d :: e :: vec 1 (.slice (some ⟨sb, so, none⟩) ids.length sc) (ptrs ids) :: M) sb (so + k) (.pointer (some ⟨i.sb, 0, none⟩)) := rd_vec (cs := ptrs ids) (.there (.there (.there (.there (.there .here))))) (by simp [ptrs, hi])
     refine we_pure (of_has (.there (.there (.there .here))) (vec_shape (by omega))) ?_
     rintro ⟨ca, cn, cc, rfl, hcn, _⟩
     have hcn : cn = (cutN g p.qs k).length := by simp [cutC] at hcn; omega
     subst hcn
     cases hpl2 : g.plan q with
     | none =>
      have hlq : lastQ g q = [.int .u8 0, .int .i64 0, .bool true] := by unfold lastQ; rw [hpl2]; rfl
      have hcut : cutN g p.qs (k + 1) = cutN g p.qs k := by rw [cutN_succ, hq]; simp [hpl2]
      rw [hlq] at hback ⊢
      have rl : ∀ {a : HProp} {M : List HProp}, Rd (a :: arr i.sb 3 [.int .u8 0, .int .i64 0, .bool true] :: M) i.sb 5 (.bool true) := .there (Rd.row (k := 2) rfl rfl)
      have re : ∀ {M : List HProp}, Rd (seatR i.sb i.says i.turn i.fin :: M) i.sb 1 (.chan (some i.fin)) := Rd.fro (k := 1) rfl rfl
      repeat (first | (apply wo_po; apply mo_index1; exact rfl; exact rfl; omega; exact gY) | (apply wo_po; apply mo_load; exact rfl; (first | exact rs | exact rl | exact re); exact trivial) | refine wlssT ?_ | refine we_seq ?_ | (refine wR ?_; try simp only [oS]) | refine wo_nil ?_ | refine wM ?_ | refine wA ?_ | refine wN ?_ | refine wD ?_ | (apply wo_po; apply mo_not; exact rfl; exact gY) | refine wT ?_ | refine wF ?_ | refine we_skip ?_ | refine we_block ?_)
      refine wo_shut (X := ⟨g, wg, shutS ids p.qs k, some p.s, 16384 - p.tr.length, ids.length, false, .play⟩) (j := k) (c := ⟨i.says, i.turn, i.fin, .said q⟩) (q0 := q) rfl rfl rfl hsl2 rfl hget rfl trivial (by decide) ?_
      repeat (first | (refine wR ?_; try simp only [oS]) | refine wo_nil ?_ | refine wM ?_ | refine wadd ?_)
      refine at_roundS (B := mT) (I := cutInv p ids wg pb rb (.slice (some ⟨sb, so, none⟩) ids.length sc) tv2 (arr rb 0 [.slice none 0 0, .slice none 0 0] :: shpC wg 119 2 :: F)) (R := fun i' => ids.length - i'.1 < ids.length - k) (k + 1, .slice ca (cutN g p.qs k).length cc) (by show ids.length - (k + 1) < ids.length - k; omega) (show k + 1 ≤ ids.length by omega) ?_ (fun h st => ?_) ?_
      ·exact ⟨rfl, rfl, rfl, rfl, rfl, rfl, trivial⟩
      ·show Star (vec 1 _ (cutC (cutN g p.qs (k + 1))) :: _) h
       rw [hcut]
       exact hback h st
      ·simp only [cutInv]
       rw [← shutS_succ hi hq]
     | some mf =>
      obtain ⟨m, f⟩ := mf
      have hlq : lastQ g q = [.int .u8 m.1, .int .i64 m.2, .bool false] := by unfold lastQ; rw [hpl2]; rfl
      have hcut : cutN g p.qs (k + 1) = cutN g p.qs k ++ [k] := by rw [cutN_succ, hq]; simp [hpl2]
      rw [hlq] at hback ⊢
      have rl : ∀ {a : HProp} {M : List HProp}, Rd (a :: arr i.sb 3 [.int .u8 m.1, .int .i64 m.2, .bool false] :: M) i.sb 5 (.bool false) := .there (Rd.row (k := 2) rfl rfl)
      have re : ∀ {a b : HProp} {M : List HProp}, Rd (a :: b :: seatR i.sb i.says i.turn i.fin :: M) i.sb 1 (.chan (some i.fin)) := .there (.there (Rd.fro (k := 1) rfl rfl))
      repeat (first | (apply wo_po; apply mo_index1; exact rfl; exact rfl; omega; exact gY) | (apply wo_po; apply mo_load; exact rfl; (first | exact rs | exact rl); exact trivial) | (apply wo_mo; apply mo_buildSlice (sz := 1) (vs := [.int .i64 (k : Nat)]); exact rfl; exact .cons rfl .nil; exact rfl; (intro v hv; cases (List.mem_singleton.1 hv); exact rfl); omega; exact trivial) | refine wlssT ?_ | refine we_seq ?_ | (refine wR ?_; try simp only [oS]) | refine wo_nil ?_ | refine wM ?_ | refine wA ?_ | refine wN ?_ | refine wD ?_ | (apply wo_po; apply mo_not; exact rfl; exact gY) | refine wL ?_ | refine wT ?_ | refine we_skip ?_ | refine we_block ?_)
      rintro v' L' ⟨nb, rfl, rfl⟩
      repeat (first | (apply wo_mo; apply mo_append (sz := 1) (new := [.int .i64 (k : Nat)]); exact rfl; exact rfl; exact rfl; exact rfl; exact (.there (.there (.there (.there .here)))); exact rfl; exact .inr ⟨_, _, rfl, Rds.all .here⟩; (intro v hv; cases (List.mem_singleton.1 hv); exact rfl); (simp only [sliceLen]; omega); exact trivial))
      rintro v' L' rfl
      refine wo_pure (of_has .here (vec_shape (by omega))) ?_
      rintro ⟨ua, un, uc, rfl, hun, _⟩
      repeat (first | refine wS ?_ | (apply wo_po; apply mo_load; exact rfl; exact re; exact trivial) | (refine wR ?_; try simp only [oS]) | refine wo_nil ?_ | refine wM ?_ | refine wN ?_ | refine wD ?_)
      refine wo_shut (X := ⟨g, wg, shutS ids p.qs k, some p.s, 16384 - p.tr.length, ids.length, false, .play⟩) (j := k) (c := ⟨i.says, i.turn, i.fin, .said q⟩) (q0 := q) rfl rfl rfl hsl2 rfl hget rfl trivial (by decide) ?_
      repeat (first | (refine wR ?_; try simp only [oS]) | refine wo_nil ?_ | refine wM ?_ | refine wadd ?_)
      refine at_roundS (B := mT) (I := cutInv p ids wg pb rb (.slice (some ⟨sb, so, none⟩) ids.length sc) tv2 (arr rb 0 [.slice none 0 0, .slice none 0 0] :: shpC wg 119 2 :: F)) (R := fun i' => ids.length - i'.1 < ids.length - k) (k + 1, .slice ua un uc) (by show ids.length - (k + 1) < ids.length - k; omega) (show k + 1 ≤ ids.length by omega) ?_ (fun h st => ?_) ?_
      ·exact ⟨rfl, rfl, rfl, rfl, rfl, rfl, trivial⟩
      ·show Star (vec 1 _ (cutC (cutN g p.qs (k + 1))) :: _) h
       have e4 : cutC (cutN g p.qs (k + 1)) = cutC (cutN g p.qs k) ++ [.int .i64 (k : Nat)] := by rw [hcut]; simp [cutC]
       rw [e4]
       exact hback h (Ent.star (.take (.there (.there .here)) (.take (.there (.there .here)) (.take (.there (.there .here)) (.take .here (.drop .refl))))) st)
      ·simp only [cutInv]
       rw [← shutS_succ hi hq]
    ·obtain rfl : k = ids.length := by omega
     repeat (first | refine wlssF ?_ | refine we_seq ?_ | (refine wR ?_; try simp only [oS]) | refine wo_nil ?_ | refine wF ?_ | refine we_exit ?_)
     refine wo_call (.cons rfl .nil) trivial (wgWait_tr (X := ⟨g, wg, shutS ids p.qs ids.length, some p.s, 16384 - p.tr.length, ids.length, false, .play⟩) rfl (by show ids.length < 1000; omega) (shutS_len hpq.symm).symm (shutS_closed hpq.symm) rfl (fun h st => shp_of (.there (.there (.there (.there (.there (.there (.there .here))))))) st)) ?_
     rintro v' L' x' ⟨rfl, rfl, rfl⟩
     rw [show (GX.seats ⟨g, wg, shutS ids p.qs ids.length, some p.s, 16384 - p.tr.length, ids.length, false, .play⟩).map Seat.fins = p.qs.map g.Fin from shutS_all hpq.symm]
     repeat (first | (apply wo_po; apply mo_loadA (vs := [tv2, cv]); exact rfl; exact rfl; exact Rds.row (k := 1) (.there (.there .here)) (by intro i v hv; match i, hv with | 0, hv => exact hv | 1, hv => exact hv); exact trivial) | refine we_seq ?_ | (refine wR ?_; try simp only [oS]) | refine wo_nil ?_ | refine wD ?_)
     refine wo_pure (of_has (.there .here) (vec_shape (by omega))) ?_
     rintro ⟨ca, cn, cc, rfl, _⟩
     refine wo_pure (of_has (.there (.there (.there (.there .here)))) (vec_shape (by omega))) ?_
     rintro ⟨ta2, tn2, tc2, rfl, _⟩
     repeat (first | (apply wo_pm; apply mo_storeA (c := 0) (k := 0) (a := 0) (vs := [.slice none 0 0, .slice none 0 0]); exact rfl; exact rfl; exact rfl; (intro w hw; simp [Value.cells] at hw; rcases hw with rfl | rfl <;> rfl); exact rfl; exact Nat.le_refl 2; exact (.there (.there (.there (.there (.there (.there (.there .here))))))); exact trivial) | refine wo_nil ?_ | refine wA ?_ | refine we_ret ?_)
     refine at_leaveM (rs := [.cell 4 49, .tmp 5]) Try.func18 Try.results18 hQ (.inl rfl) (.cons (.cell (vs := [.slice ta2 tn2 tc2, .slice ca cn cc]) rfl rfl (Rds.all (.there (.there (.there (.there (.there (.there (.there .here))))))))) (.cons (.tmp rfl) .nil)) ?_
     refine ⟨_, _, rfl, rfl, fun h st => ?_⟩
     rw [← hids]
     exact Ent.star (.take (.there (.there (.there (.there .here)))) (.take (.there .here) (.take (.there (.there (.there (.there .here)))) (.take .here (.drop (.drop (.drop (.drop (.drop .refl))))))))) st
end
end
end Go.Proofs.Ytodgemainhokjaa
namespace Go.PB.Mach
section
structure In where
 op : Nat
 on : Nat := 0
 a : Nat := 0
 b : Nat := 0
 c : Nat := 0
 d : Nat := 0
 n : Nat := 0
structure Cl where
 code : List In
 data : List Nat := []
structure Wd where
 words : List (List Nat)
 nl : Nat
structure Th where
 calls : List Cl
 call : Nat := 0
 pc : Nat := 0
 r : Nat → Nat := fun _ => 0
 ans : List (Bool × List Nat) := []
 over : Bool := false
def fin : In := { op := 23 }
def Th.cl (t : Th) : Cl := t.calls.getD t.call { code := [] }
def Th.next (t : Th) : In := t.cl.code.getD t.pc fin
def Th.put (t : Th) (i v : Nat) : Th := { t with r := upd t.r i (v % 18446744073709551616) }
def Th.tell (t : Th) (v : Nat) : Th := { t with ans := t.ans.modify t.call fun y => (y.1, y.2 ++ [v]) }
structure Wd.ok (w : Wd) : Prop where
 n : w.words.length < 1000000
 nl : w.nl < 1000000
 len : ∀ l ∈ w.words, l.length < 1000000
 lt : ∀ l ∈ w.words, ∀ v ∈ l, v < 18446744073709551616
def own (t0 : Th) (x : In) : Th :=
 let t := { t0 with pc := t0.pc + 1 }
 match x.op with
 | 6 => t.put x.a x.n
 | 7 => t.put x.a (t.r x.b)
 | 8 => t.put x.a (t.r x.b + t.r x.c + x.n)
 | 9 => t.put x.a (t.r x.b + 18446744073709551616 - t.r x.c)
 | 10 => t.put x.a (t.r x.b * t.r x.c)
 | 11 => t.put x.a (if t.r x.c = 0 then 0 else t.r x.b / t.r x.c)
 | 12 => t.put x.a (t.r x.b &&& t.r x.c)
 | 13 => t.put x.a (t.r x.b ||| t.r x.c)
 | 14 => t.put x.a (t.r x.b * 2 ^ x.n)
 | 15 => t.put x.a (t.r x.b / 2 ^ x.n)
 | 16 => t.put x.a (max (t.r x.b) (t.r x.c))
 | 17 => t.put x.a (t.cl.data.getD ((t.r x.b + x.n) % 18446744073709551616) 0)
 | 18 => { t with pc := x.n }
 | 19 => if t.r x.a = t.r x.b then { t with pc := x.n } else t
 | 20 => if t.r x.a < t.r x.b then { t with pc := x.n } else t
 | 21 => if 9223372036854775808 ≤ t.r x.a then { t with pc := x.n } else t
 | 22 => t.tell (t.r x.a)
 | _ => t
def told (op : Nat) : Bool := 1 ≤ op && op ≤ 5
def Th.begun (t : Th) : Th := if t.ans.length = t.call then { t with ans := t.ans ++ [(false, [])] } else t
def Th.done (t : Th) : Th := { t with ans := t.ans.modify t.call fun y => (true, y.2), call := t.call + 1, pc := 0, r := fun _ => 0 }
def onF : Nat → Th → Option Th
 | 0, _ => none
 | f + 1, t =>
  if t.over = true then some t
  else if t.calls.length ≤ t.call then some { t with over := true }
  else if told t.begun.next.op = true then some t.begun
  else if t.begun.next.op = 23 then onF f t.begun.done
  else onF f (own t.begun t.begun.next)
def Th.place (t : Th) : Nat := (t.r t.next.b + t.next.n) % 18446744073709551616
def op1 (x : In) (l : List Nat) (p : Nat) (r : Nat → Nat) : List Nat × (Nat → Nat) :=
 let v := l.getD p 0
 match x.op with
 | 1 => (l, upd r x.a v)
 | 2 => (l.set p (r x.a), r)
 | 3 => (l.set p ((v + r x.c) % 18446744073709551616), upd r x.a ((v + r x.c) % 18446744073709551616))
 | 4 => (l.set p (r x.c), upd r x.a v)
 | _ => if v = r x.c then (l.set p (r x.d), upd r x.a 1) else (l, upd r x.a 0)
def Wd.row (w : Wd) (on : Nat) : List Nat := w.words.getD on []
def opF (f : Nat) (w : Wd) (t : Th) : Option (Wd × Th) :=
 if t.place < (w.row t.next.on).length then
  let y := op1 t.next (w.row t.next.on) t.place t.r
  (onF f { t with pc := t.pc + 1, r := y.2 }).map fun t' => ({ w with words := w.words.set t.next.on y.1 }, t')
 else none
def Th.mark (t : Th) : Nat × Nat := (t.next.op, t.place)
structure St where
 w : Wd
 l : List Th
 tr : List (Nat × Nat × Nat) := []
def turn (f : Nat) (s : St) (k : Nat) : Option St :=
 match s.l[k]? with
 | some t => (opF f s.w t).map fun y => ⟨y.1, s.l.set k y.2, s.tr ++ [(k, t.mark)]⟩
 | none => some s
def may (s : St) (k : Nat) : Bool := s.tr.length < 16384 && (match s.l[k]? with | some t => !t.over | none => false)
def byOrder (f : Nat) : St → List (Option Nat) → Option St
 | s, [] => some s
 | s, none :: o => byOrder f s o
 | s, some k :: o => if may s k = true then (turn f s k).bind fun s => byOrder f s o else byOrder f s o
def round (f : Nat) : Nat → Nat → St → Bool → Option (St × Bool)
 | 0, _, s, q => some (s, q)
 | m + 1, k, s, q => if may s k = true then (turn f s k).bind fun s => round f m (k + 1) s true else round f m (k + 1) s q
def rounds (f : Nat) : Nat → St → Option St
 | 0, _ => none
 | g + 1, s => (round f s.l.length 0 s false).bind fun y => if y.2 = true then rounds f g y.1 else some y.1
def begin_ (f : Nat) : List Th → Option (List Th)
 | [] => some []
 | t :: l => (onF f t).bind fun t => (begin_ f l).map fun l => t :: l
def play (f g : Nat) (w : Wd) (o : List (Option Nat)) (l : List (List Cl)) : Option St :=
 (begin_ f (l.map fun c => { calls := c })).bind fun l => (byOrder f ⟨w, l, []⟩ o).bind fun s => rounds f g s
def In.ok (x : In) : Bool := 1 ≤ x.op && x.op ≤ 23 && x.a < 24 && x.b < 24 && x.c < 24 && x.d < 24 && x.on < 1000 && x.n < 18446744073709551616 && (!(18 ≤ x.op && x.op ≤ 21) || x.n < 1000000) && (!(x.op = 17) || !(x.a = x.b)) && (!(x.op = 14 || x.op = 15) || x.n < 64)
def Cl.ok (c : Cl) : Bool := c.code.all In.ok && c.data.all (fun v => v < 18446744073709551616) && c.code.length < 1000000 && c.data.length < 1000000
end
end Go.PB.Mach
namespace Go.Proofs.Ytodgemainhokjaa
open Go Go.PB
section
structure Wds where
 W : (Nat → Nat) → Mach.Wd
 un : Mach.Wd → (Nat → Nat)
 ok : (Nat → Nat) → Prop
 fu : Nat
 back : ∀ f, W (un (W f)) = W f
 okun : ∀ f, ok f → ok (un (W f))
def mF (D : Wds) (q : Nat × Mach.Th) (f : Nat → Nat) : (Nat → Nat) × (Nat × Mach.Th) :=
 match Mach.opF D.fu (D.W f) q.2 with
 | some y => (D.un y.1, (q.1, y.2))
 | none => (f, (q.1, { q.2 with over := true }))
def mkII (m : Nat × Nat) : Int × Int := (((m.1 : Nat) : Int), ((m.2 : Nat) : Int))
def mPlan (D : Wds) (q : Nat × Mach.Th) : Option ((Int × Int) × ((Nat → Nat) → (Nat → Nat) × (Nat × Mach.Th))) :=
 if q.2.over = true then none else some (mkII q.2.mark, mF D q)
def mG (D : Wds) (U : (Nat → Nat) → HProp) (Pv : Nat × Mach.Th → HProp) : Game where
 σ := Nat → Nat
 θ := Nat × Mach.Th
 U := U
 plan := mPlan D
 ok := D.ok
 Pv := Pv
 Fin := Pv
def GoodN (D : Wds) : Nat → Mach.Th → Prop
 | 0, _ => True
 | n + 1, t => t.over = true ∨ t.over = false ∧ ∀ f, D.ok f → ∃ f' t', Mach.opF D.fu (D.W f) t = some (D.W f', t') ∧ D.ok f' ∧ GoodN D n t'
def GoodT (D : Wds) (t : Mach.Th) : Prop := ∀ n, GoodN D n t
section
variable {D : Wds} {U : (Nat → Nat) → HProp} {Pv : Nat × Mach.Th → HProp}
structure Rel (p : PS (mG D U Pv)) (st : Mach.St) : Prop where
 w : st.w = D.W p.s
 len : p.qs.length = st.l.length
 qs : ∀ k : Nat, p.qs[k]? = (st.l[k]?).map fun t => (k, t)
 tr : p.tr = st.tr.map fun e => (e.1, mkII e.2)
 le : st.tr.length ≤ 16384
 good : ∀ t ∈ st.l, GoodT D t
 ok : D.ok p.s
structure Begins (D : Wds) (U : (Nat → Nat) → HProp) (Pv : Nat × Mach.Th → HProp) (k0 : Nat) (ts : List (Thr (mG D U Pv))) (cc : List (List Mach.Cl)) : Prop where
 len : ts.length = cc.length
 ini : ∀ (k : Nat) t c, ts[k]? = some t → cc[k]? = some c → ∃ u, Mach.onF D.fu { calls := c } = some u ∧ GoodT D u ∧ ∀ s : (mG D U Pv).σ, t.ini s = (s, ((k0 + k, u) : Nat × Mach.Th))
end
end
end Go.Proofs.Ytodgemainhokjaa
namespace Go.Proofs.Ytodgemainhokjaa
open Go Go.PB
attribute [local irreducible] Mo Bin Eql Tr Wo Ap Wle
section
theorem wds_congr {addr : Nat → Nat × Nat} {N : Nat} {K : List (Nat × Nat × Value)} {f f' : Nat → Nat} (e : ∀ i, i < N → f i = f' i) : ∀ h, wds addr N K f h → wds addr N K f' h := fun h s =>
 ⟨fun w hw => by rw [← e w hw]; exact s.1 w hw, s.2⟩
structure PlS where
 f : Nat → Nat
 g : Nat → Nat
 t : Mach.Th
 n : Nat
section
variable {D : Wds} {addr : Nat → Nat × Nat} {N : Nat} {K : List (Nat × Nat × Value)} {Z : HProp} {Pv : Nat × Mach.Th → HProp} {sb says turn fin wg : Nat}
end
end
section
structure WGm where
 σ : Type
 θ : Type
 ζ : Type
 wf : σ → Nat → Nat
 zf : σ → ζ
 Z : ζ → HProp
 plan : θ → Option ((Int × Int) × (σ → σ × θ))
 ok : σ → Prop
 Pv : θ → HProp
 up : ∀ q h, Star [Pv q] h → Pv q h
def WGm.g (G : WGm) (addr : Nat → Nat × Nat) (N : Nat) (K : List (Nat × Nat × Value)) : Game where
 σ := G.σ
 θ := G.θ
 U := fun s => all [wds addr N K (G.wf s), G.Z (G.zf s)]
 plan := G.plan
 ok := G.ok
 Pv := G.Pv
 Fin := G.Pv
structure GaS (G : WGm) where
 f : Nat → Nat
 c : G.ζ
 s : G.σ
 q : G.θ
 n : Nat
section
variable {G : WGm} {addr : Nat → Nat × Nat} {N : Nat} {K : List (Nat × Nat × Value)} {sb says turn fin wg : Nat}
def gaC (G : WGm) (addr : Nat → Nat × Nat) (N : Nat) (K : List (Nat × Nat × Value)) (sb says turn fin : Nat) (Pm : HProp) (f : Nat → Nat) (c : G.ζ) : HProp := all [wds addr N K f, G.Z c, seatR sb says turn fin, Pm]
def GaStep (G : WGm) (N : Nat) (Pm : HProp) (op : Int) (w : Nat) (s : GaS G) (R : GaS G → Prop) : Prop :=
 ∃ F, G.plan s.q = some ((op, ((w : Nat) : Int)), F) ∧ (∀ i, i < N → s.f i = G.wf s.s i) ∧ s.c = G.zf s.s ∧ (∀ h, Pm h → G.Pv s.q h) ∧ ∀ s' n, n < s.n → G.ok s' → R ⟨G.wf s', G.zf s', (F s').1, (F s').2, n⟩
theorem ga_step {Pm : HProp} {op : Int} {w : Nat} {s : GaS G} {R : GaS G → Prop} {L F : List HProp} (hs : GaStep G N Pm op w s R) (hh : Has L (gaC G addr N K sb says turn fin Pm s.f s.c) F) :
  Tr Try.prog tH 111 [.pointer (some ⟨sb, 0, none⟩), .agg #[.int .u8 op, .int .i64 (w : Nat)]] L (tx (G.g addr N K) says turn fin wg (.busy s.s s.q s.n)) fun v L' x' =>
   ∃ s', R s' ∧ v = .tuple #[] ∧ L' = gaC G addr N K sb says turn fin Pm s'.f s'.c :: F ∧ x' = tx (G.g addr N K) says turn fin wg (.busy s'.s s'.q s'.n) := by
 obtain ⟨FF, hp, hfg, hc, hpm, hR⟩ := hs
 refine tr_star ((G.g addr N K).U s.s :: seatR sb says turn fin :: Pm :: F) (fun h st => ?_) ?_
 ·have s1 : Star (wds addr N K s.f :: G.Z s.c :: seatR sb says turn fin :: Pm :: F) h := star_open (M := [_, _, _, _]) (hh.star st)
  rw [hc] at s1
  exact star_shut (M := [_, _]) (star_map s1 (wds_congr hfg) fun _ z => z)
 ·refine (seat_tr (g := G.g addr N K) (mk := (op, ((w : Nat) : Int))) (f := FF) hp .here .here fun h st => G.up _ _ ?_).post ?_
  ·exact star_map (star_drop st) hpm fun _ z => trivial
  ·rintro v L' x' ⟨m', s', hm, hok, rfl, rfl, rfl⟩
   refine ⟨_, ⟨⟨G.wf s', G.zf s', (FF s').1, (FF s').2, m'⟩, hR s' m' (by omega) hok, rfl, rfl, rfl⟩, fun h st => ?_⟩
   exact star_shut (M := [_, _, _, _]) (star_open (M := [_, _]) st)
def gamAcc (G : WGm) (addr : Nat → Nat × Nat) (N : Nat) (K : List (Nat × Nat × Value)) (A : Apart addr N K) (sb says turn fin wg : Nat) (Pm : HProp) : Acc tH (gateV sb) where
 S := GaS G
 C := fun s => gaC G addr N K sb says turn fin Pm s.f s.c
 x := fun s => tx (G.g addr N K) says turn fin wg (.busy s.s s.q s.n)
 step := GaStep G N Pm
 addr := addr
 load := fun w s R => w < N ∧ R (s.f w) s
 store := fun w n s R => w < N ∧ R { s with f := upd s.f w n }
 cas := fun w a n s R => w < N ∧ if s.f w = a then R true { s with f := upd s.f w n } else R false s
 add := fun w n s R => w < N ∧ R ((s.f w + n) % 18446744073709551616) { s with f := upd s.f w ((s.f w + n) % 18446744073709551616) }
 swap := fun w n s R => w < N ∧ R (s.f w) { s with f := upd s.f w n }
 gate := .inr ⟨_, _, 111, rfl, inferInstance, inferInstance, fun op w s R L F hs hh => ga_step hs hh⟩
 load_ok := fun w s R L F b o ha hl hh => tr_star _ (fun h st => star_open (hh.star st)) (tr_pure (of_has .here fun h hc => (hc.1 w hl.1).1) fun hs =>
  (load_lone (rd_wds .here hl.1 ha)).post fun v L' x' ⟨h1, h2, h3⟩ => ⟨_, ⟨s.f w, s, hs, hl.2, h1, rfl, h3⟩, fun h st => star_shut (M := [_, _, _, _]) (by rw [h2] at st; exact st)⟩)
 store_ok := fun w n s R L F b o ha hn hl hh => tr_star _ (fun h st => star_open (hh.star st))
  ((store_lone (wt_wds A .here hl.1 ha hn)).post fun v L' x' ⟨h1, h2, h3⟩ => ⟨_, ⟨{ s with f := upd s.f w n }, hl.2, h1, rfl, h3⟩, fun h st => star_shut (M := [_, _, _, _]) (by rw [h2] at st; exact st)⟩)
 cas_ok := fun w m n s R L F b o ha hn hl hh => tr_star _ (fun h st => star_open (hh.star st))
  ((cas_lone (rd_wds .here hl.1 ha) (wt_wds A .here hl.1 ha hn)).post fun v L' x' ⟨h1, h2, h3⟩ => by
   obtain ⟨h4, h5⟩ := hl
   by_cases e : s.f w = m
   ·rw [if_pos e] at h5; rw [if_pos (by omega)] at h2; exact ⟨_, ⟨true, _, h5, by rw [h1]; simp [e], rfl, h3⟩, fun h st => star_shut (M := [_, _, _, _]) (by rw [h2] at st; exact st)⟩
   ·rw [if_neg e] at h5; rw [if_neg (by omega)] at h2; exact ⟨_, ⟨false, _, h5, by rw [h1]; simp; omega, rfl, h3⟩, fun h st => star_shut (M := [_, _, _, _]) (by rw [h2] at st; exact st)⟩)
 add_ok := fun w n s R L F b o ha hn hl hh => tr_star _ (fun h st => star_open (hh.star st))
  ((add_lone (r := ((s.f w + n) % 18446744073709551616 : Nat)) (rd_wds .here hl.1 ha) (by rw [wrap_u64_mod]; omega) (wt_wds A .here hl.1 ha (Nat.mod_lt _ (by decide)))).post fun v L' x' ⟨h1, h2, h3⟩ => ⟨_, ⟨_, { s with f := _ }, Nat.mod_lt _ (by decide), hl.2, h1, rfl, h3⟩, fun h st => star_shut (M := [_, _, _, _]) (by rw [h2] at st; exact st)⟩)
theorem ga_go {A : Apart addr N K} {Pm : HProp} {op w : Nat} {o : Int} {s : GaS G} {R : GaS G → Prop} {F : G.σ → G.σ × G.θ} (ho : ((op : Nat) : Int) = o) (hp : G.plan s.q = some ((((op : Nat) : Int), ((w : Nat) : Int)), F)) (hf : ∀ i, i < N → s.f i = G.wf s.s i) (hc : s.c = G.zf s.s) (hpm : ∀ h, Pm h → G.Pv s.q h)
  (hR : ∀ s' n, n < s.n → G.ok s' → R ⟨G.wf s', G.zf s', (F s').1, (F s').2, n⟩) : (gamAcc G addr N K A sb says turn fin wg Pm).step o w s R := by
 subst ho
 exact ⟨F, hp, hf, hc, hpm, hR⟩
end
section
variable {g : Game}
end
end
section
abbrev SwS := (Nat × Nat × Nat) × Nat
abbrev SwT := Nat × Nat × Nat
def swPlan (q : SwT) : Option ((Int × Int) × (SwS → SwS × SwT)) :=
 match q.1, q.2.1 with
 | 0, 0 => some ((((1 : Nat) : Int), ((0 : Nat) : Int)), fun s => if s.1.1 % 2 = 0 then (s, (0, 1, s.1.1)) else ((s.1, 51), (0, 9, 0)))
 | 0, 1 => some ((((1 : Nat) : Int), ((1 : Nat) : Int)), fun s => (s, (0, 2, q.2.2)))
 | 0, 2 => some ((((1 : Nat) : Int), ((2 : Nat) : Int)), fun s => (s, (0, 3, q.2.2)))
 | 0, 3 => some ((((1 : Nat) : Int), ((0 : Nat) : Int)), fun s => if s.1.1 = q.2.2 then ((s.1, 0), (0, 9, 0)) else ((s.1, 51), (0, 9, 0)))
 | 1, 0 => some ((((1 : Nat) : Int), ((0 : Nat) : Int)), fun s => if s.1.1 % 2 = 0 then (s, (1, 1, s.1.1)) else (s, (1, 9, 0)))
 | 1, 1 => some ((((5 : Nat) : Int), ((0 : Nat) : Int)), fun s => if s.1.1 = q.2.2 then ((((q.2.2 + 1) % 18446744073709551616, s.1.2), s.2), (1, 2, q.2.2)) else (s, (1, 9, 0)))
 | 1, 2 => some ((((2 : Nat) : Int), ((1 : Nat) : Int)), fun s => (((s.1.1, 1, s.1.2.2), s.2), (1, 3, q.2.2)))
 | 1, 3 => some ((((2 : Nat) : Int), ((2 : Nat) : Int)), fun s => (((s.1.1, s.1.2.1, 2), s.2), (1, 4, q.2.2)))
 | 1, 4 => some ((((2 : Nat) : Int), ((0 : Nat) : Int)), fun s => ((((q.2.2 + 2) % 18446744073709551616, s.1.2), s.2), (1, 9, 0)))
 | _, _ => none
def swW (s : SwS) (i : Nat) : Nat := match i with | 0 => s.1.1 | 1 => s.1.2.1 | _ => s.1.2.2
def swZ (tb t : Nat) : HProp := all [arr tb 0 [.int .i64 (t : Nat)]]
def swG (tb : Nat) : WGm where
 σ := SwS
 θ := SwT
 ζ := Nat
 wf := swW
 zf := fun s => s.2
 Z := swZ tb
 plan := swPlan
 ok := fun _ => True
 Pv := fun _ _ => True
 up := fun _ _ _ => trivial
section
variable {tb r sb says turn fin wg : Nat} {Pm : HProp}
abbrev swAcc (tb r sb says turn fin wg : Nat) (Pm : HProp) : Acc tH (gateV sb) := gamAcc (swG tb) (sAddr r) 3 (sK r 2) (s_apart r 2) sb says turn fin wg Pm
theorem sw_at : SeqAt (swAcc tb r sb says turn fin wg Pm) r 2 := ⟨by omega, by omega, fun s => rd_in1 (Rd.of .here sC_rd), rfl, fun i _ => s_addr⟩
theorem sw_read {s : GaS (swG tb)} (hq : s.q = ((0, 0, 0) : SwT)) (hf : ∀ j, j < 3 → s.f j = swW s.s j) (hc : s.c = (show SwS from s.s).2) :
  ReadT (swAcc tb r sb says turn fin wg Pm) 2 s fun o s' => s'.q = ((0, 9, 0) : SwT) ∧ (∀ j, j < 3 → s'.f j = swW s'.s j) ∧ (show SwS from s'.s).2 = if o.isSome = true then 0 else 51 := by
 refine ga_go (op := 1) (F := fun s : SwS => if s.1.1 % 2 = 0 then (s, ((0, 1, s.1.1) : SwT)) else ((s.1, 51), ((0, 9, 0) : SwT))) rfl (by rw [hq]; rfl) hf hc (fun _ _ => trivial) fun s1 n1 hn1 _ => ⟨by omega, ?_⟩
 obtain ⟨⟨a1, b1, c1⟩, t1⟩ := s1
 show if a1 % 2 = 0 then _ else _
 by_cases c : a1 % 2 = 0
 ·rw [if_pos c]
  simp only [if_pos c]
  refine ga_go (op := 1) (w := 1) (F := fun s : SwS => (s, ((0, 2, a1) : SwT))) rfl rfl (fun j hj => rfl) rfl (fun _ _ => trivial) fun s2 n2 hn2 _ => ⟨by show 1 < 3; omega, ?_⟩
  refine ga_go (op := 1) (w := 2) (F := fun s : SwS => (s, ((0, 3, a1) : SwT))) rfl rfl (fun j hj => rfl) rfl (fun _ _ => trivial) fun s3 n3 hn3 _ => ⟨by show 2 < 3; omega, ?_⟩
  refine ga_go (op := 1) (w := 0) (F := fun s : SwS => if s.1.1 = a1 then ((s.1, 0), ((0, 9, 0) : SwT)) else ((s.1, 51), ((0, 9, 0) : SwT))) rfl rfl (fun j hj => rfl) rfl (fun _ _ => trivial) fun s4 n4 hn4 _ => ⟨by omega, ?_⟩
  obtain ⟨⟨a4, b4, c4⟩, t4⟩ := s4
  show if a4 = a1 then _ else _
  by_cases e : a4 = a1
  ·rw [if_pos e]
   simp only [if_pos e]
   exact ⟨rfl, fun j hj => by unfold swG swW; rfl, rfl⟩
  ·rw [if_neg e]
   simp only [if_neg e]
   exact ⟨rfl, fun j hj => by unfold swG swW; rfl, rfl⟩
 ·rw [if_neg c]
  simp only [if_neg c]
  exact ⟨rfl, fun j hj => by unfold swG swW; rfl, rfl⟩
theorem sw_write {s : GaS (swG tb)} (hq : s.q = ((1, 0, 0) : SwT)) (hf : ∀ j, j < 3 → s.f j = swW s.s j) (hc : s.c = (show SwS from s.s).2) :
  WriteT (swAcc tb r sb says turn fin wg Pm) [1, 2] s fun o s' => s'.q = ((1, 9, 0) : SwT) ∧ (∀ j, j < 3 → s'.f j = swW s'.s j) ∧ s'.c = (show SwS from s'.s).2 := by
 refine ga_go (op := 1) (F := fun s : SwS => if s.1.1 % 2 = 0 then (s, ((1, 1, s.1.1) : SwT)) else (s, ((1, 9, 0) : SwT))) rfl (by rw [hq]; rfl) hf hc (fun _ _ => trivial) fun s1 n1 hn1 _ => ⟨by omega, ?_⟩
 obtain ⟨⟨a1, b1, c1⟩, t1⟩ := s1
 show if a1 % 2 = 0 then _ else _
 by_cases c : a1 % 2 = 0
 ·rw [if_pos c]
  simp only [if_pos c]
  refine ga_go (op := 5) (w := 0) (F := fun s : SwS => if s.1.1 = a1 then ((((a1 + 1) % 18446744073709551616, s.1.2), s.2), ((1, 2, a1) : SwT)) else (s, ((1, 9, 0) : SwT))) rfl rfl (fun j hj => rfl) rfl (fun _ _ => trivial) fun s2 n2 hn2 _ => ⟨by omega, ?_⟩
  obtain ⟨⟨a2, b2, c2⟩, t2⟩ := s2
  show if a2 = a1 then _ else _
  by_cases e : a2 = a1
  ·rw [if_pos e]
   simp only [if_pos e]
   refine ga_go (op := 2) (w := 1) (F := fun s : SwS => (((s.1.1, 1, s.1.2.2), s.2), ((1, 3, a1) : SwT))) rfl rfl (fun j hj => ?_) rfl (fun _ _ => trivial) fun s3 n3 hn3 _ => ⟨by omega, ?_⟩
   ·match j, hj with
    | 0, _ => rfl
    | 1, _ => rfl
    | 2, _ => rfl
   refine ga_go (op := 2) (w := 2) (F := fun s : SwS => (((s.1.1, s.1.2.1, 2), s.2), ((1, 4, a1) : SwT))) rfl rfl (fun j hj => ?_) rfl (fun _ _ => trivial) fun s4 n4 hn4 _ => ⟨by omega, ?_⟩
   ·match j, hj with
    | 0, _ => rfl
    | 1, _ => rfl
    | 2, _ => rfl
   refine ga_go (op := 2) (w := 0) (F := fun s : SwS => ((((a1 + 2) % 18446744073709551616, s.1.2), s.2), ((1, 9, 0) : SwT))) rfl rfl (fun j hj => ?_) rfl (fun _ _ => trivial) fun s5 n5 hn5 _ => ⟨by omega, ?_⟩
   ·match j, hj with
    | 0, _ => rfl
    | 1, _ => rfl
    | 2, _ => rfl
   refine ⟨rfl, fun j hj => ?_, rfl⟩
   match j, hj with
   | 0, _ => rfl
   | 1, _ => rfl
   | 2, _ => rfl
  ·rw [if_neg e]
   simp only [if_neg e]
   exact ⟨rfl, fun j hj => rfl, rfl⟩
 ·rw [if_neg c]
  simp only [if_neg c]
  exact ⟨rfl, fun j hj => rfl, rfl⟩
abbrev swRo (rb r : Nat) : HProp := fro rb 0 [.pointer (some ⟨r, 0, none⟩)]
abbrev swF1 (rb tb : Nat) : Value := .func (.func 42) #[] #[.pointer (some ⟨rb, 0, none⟩), .pointer (some ⟨tb, 0, none⟩)]
abbrev swF2 (rb : Nat) : Value := .func (.func 43) #[] #[.pointer (some ⟨rb, 0, none⟩)]
theorem sw1_ok {rb : Nat} : ThrOk ((swG tb).g (sAddr r) 3 (sK r 2)) (fun s => (s, ((0, 0, 0) : SwT))) (swF1 rb tb) (swRo rb r) where
 run := by
  refine ⟨_, _, _, rfl, inferInstance, fun sb says turn fin wg (s : SwS) m F hok => ?_⟩
  show Tr Try.prog tH _ [gateV sb, .pointer (some ⟨rb, 0, none⟩), .pointer (some ⟨tb, 0, none⟩)] _ (tx ((swG tb).g (sAddr r) 3 (sK r 2)) says turn fin wg (.busy s ((0, 0, 0) : SwT) m)) _
  refine tr_star (gaC (swG tb) (sAddr r) 3 (sK r 2) sb says turn fin (all []) (swW s) s.2 :: swRo rb r :: F) (fun hp st => ?_) ?_
  ·have s1 : Star (wds (sAddr r) 3 (sK r 2) (swW s) :: swZ tb s.2 :: seatR sb says turn fin :: swRo rb r :: F) hp := star_open (M := [_, _]) st
   have s2 : Star (all [] :: wds (sAddr r) 3 (sK r 2) (swW s) :: swZ tb s.2 :: seatR sb says turn fin :: swRo rb r :: F) hp := star_shut (M := []) s1
   exact star_shut (M := [_, _, _, _]) (Ent.star (.take (.there .here) (.take (.there .here) (.take (.there .here) (.take .here .refl)))) s2)
  have q1 : ∀ {c : HProp}, Rd (c :: swRo rb r :: F) rb 0 (.pointer (some ⟨r, 0, none⟩)) := fun {c} => .there (Rd.fro (k := 0) rfl rfl)
  refine tr_of_body Try.func42 rfl Try.ntmps42 (by simp) fun um Q _ hQ => ?_
  simp only [argE, Nat.zero_add, Nat.reduceAdd]
  repeat (first | (apply wo_po; apply mo_load; exact rfl; exact q1; exact trivial) | (refine wR ?_; try simp only [oS]) | refine wM ?_)
  refine wo_call (.cons rfl (.cons rfl .nil)) trivial (read_tr (A := swAcc tb r sb says turn fin wg (all [])) sw_at (s := ⟨swW s, s.2, s, ((0, 0, 0) : SwT), m⟩) (sw_read rfl (fun j hj => rfl) rfl) .here) ?_
  rintro v L' x' ⟨q, s', rv, ⟨hq, hf, hz⟩, _, rfl, rfl, rfl⟩
  refine wo_star (arr tb 0 [.int .i64 ((show Nat from s'.c) : Nat)] :: wds (sAddr r) 3 (sK r 2) s'.f :: seatR sb says turn fin :: F) (fun hp st => ?_) ?_
  ·have s1 : Star (wds (sAddr r) 3 (sK r 2) s'.f :: swZ tb s'.c :: seatR sb says turn fin :: all [] :: vec 1 rv ((rdW q).map num) :: swRo rb r :: F) hp := star_open (M := [_, _, _, _]) st
   have s2 : Star (arr tb 0 [.int .i64 ((show Nat from s'.c) : Nat)] :: wds (sAddr r) 3 (sK r 2) s'.f :: seatR sb says turn fin :: all [] :: vec 1 rv ((rdW q).map num) :: swRo rb r :: F) hp := star_open (M := [_]) (Ent.star (.take (.there .here) .refl) s1)
   exact Ent.star (.take .here (.take .here (.take .here (.drop (.drop (.drop .refl)))))) s2
  repeat (first | refine wS ?_ | refine wo_nil ?_ | refine wM ?_ | (apply wo_po; apply mo_extract; exact rfl; exact rfl; exact gY))
  (first | refine or0 Try.func42 Try.results42 hQ ?_ | refine on0 Try.func42 Try.results42 hQ ?_)
  refine ⟨s'.s, s'.q, s'.n, rfl, ?_, fun hp st => ?_⟩
  ·show swPlan s'.q = none
   rw [hq]; rfl
  ·have e : (.int .i64 (if q.isSome = true then 0 else 51) : Value) = .int .i64 (((show SwS from s'.s).2 : Nat) : Int) := by rw [hz]; split <;> rfl
   have s1 : Star (swZ tb (show SwS from s'.s).2 :: wds (sAddr r) 3 (sK r 2) s'.f :: seatR sb says turn fin :: F) hp := star_shut (M := [_]) (by rw [e] at st; exact st)
   have s2 : Star (wds (sAddr r) 3 (sK r 2) (swW s'.s) :: swZ tb (show SwS from s'.s).2 :: seatR sb says turn fin :: F) hp := star_map (star_swap s1) (wds_congr hf) fun _ z => z
   exact star_map (star_shut (M := [_, _]) s2) (fun _ z => z) fun _ z => star_map z (fun _ z => z) fun _ z => star_shut (M := []) z
theorem sw2_ok {rb : Nat} : ThrOk ((swG tb).g (sAddr r) 3 (sK r 2)) (fun s => (s, ((1, 0, 0) : SwT))) (swF2 rb) (swRo rb r) where
 run := by
  refine ⟨_, _, _, rfl, inferInstance, fun sb says turn fin wg (s : SwS) m F hok => ?_⟩
  show Tr Try.prog tH _ [gateV sb, .pointer (some ⟨rb, 0, none⟩)] _ (tx ((swG tb).g (sAddr r) 3 (sK r 2)) says turn fin wg (.busy s ((1, 0, 0) : SwT) m)) _
  refine tr_star (gaC (swG tb) (sAddr r) 3 (sK r 2) sb says turn fin (all []) (swW s) s.2 :: swRo rb r :: F) (fun hp st => ?_) ?_
  ·have s1 : Star (wds (sAddr r) 3 (sK r 2) (swW s) :: swZ tb s.2 :: seatR sb says turn fin :: swRo rb r :: F) hp := star_open (M := [_, _]) st
   have s2 : Star (all [] :: wds (sAddr r) 3 (sK r 2) (swW s) :: swZ tb s.2 :: seatR sb says turn fin :: swRo rb r :: F) hp := star_shut (M := []) s1
   exact star_shut (M := [_, _, _, _]) (Ent.star (.take (.there .here) (.take (.there .here) (.take (.there .here) (.take .here .refl)))) s2)
  have q1 : ∀ {c d : HProp}, Rd (c :: swRo rb r :: F) rb 0 (.pointer (some ⟨r, 0, none⟩)) := fun {c d} => .there (Rd.fro (k := 0) rfl rfl)
  refine tr_of_body Try.func43 rfl Try.ntmps43 (by simp) fun um Q _ hQ => ?_
  simp only [argE, Nat.zero_add, Nat.reduceAdd]
  repeat (first | (apply wo_po; apply mo_load; exact rfl; exact q1 (d := all []); exact trivial) | (apply wo_mo; apply mo_buildSlice (sz := 1) (vs := [num 1, num 2]); exact rfl; exact .cons rfl (.cons rfl .nil); exact rfl; (intro v hv; simp at hv; rcases hv with rfl | rfl <;> rfl); omega; exact trivial) | (refine wR ?_; try simp only [oS]) | refine wM ?_)
  rintro v' L' ⟨nb, rfl, rfl⟩
  skip
  refine wo_call (.cons rfl (.cons rfl (.cons rfl .nil))) trivial (write_tr (A := swAcc tb r sb says turn fin wg (all [])) sw_at (ws := [1, 2]) rfl (by decide) (s := ⟨swW s, s.2, s, ((1, 0, 0) : SwT), m⟩) (sw_write rfl (fun j hj => rfl) rfl) (.there .here) ⟨rfl, .inr ⟨_, _, rfl, Rds.all .here⟩⟩) ?_
  rintro v L' x' ⟨q, s', ⟨hq, hf, hz⟩, rfl, rfl, rfl⟩
  repeat (first | refine wo_nil ?_)
  (first | refine or0 Try.func43 Try.results43 hQ ?_ | refine on0 Try.func43 Try.results43 hQ ?_)
  refine ⟨s'.s, s'.q, s'.n, rfl, ?_, fun hp st => ?_⟩
  ·show swPlan s'.q = none
   rw [hq]; rfl
  ·have s1 : Star (wds (sAddr r) 3 (sK r 2) s'.f :: swZ tb s'.c :: seatR sb says turn fin :: all [] :: _) hp := star_open (M := [_, _, _, _]) st
   rw [hz] at s1
   have s2 : Star (wds (sAddr r) 3 (sK r 2) (swW s'.s) :: swZ tb (show SwS from s'.s).2 :: seatR sb says turn fin :: all [] :: _) hp := star_map s1 (wds_congr hf) fun _ z => z
   exact star_map (star_shut (M := [_, _]) s2) (fun _ z => z) fun _ z => star_map z (fun _ z => z) fun _ z => star_map z (fun _ _ => trivial) fun _ z => Ent.star (.drop (.drop .refl)) z
end
def swT (rb tb r : Nat) : List (Thr ((swG tb).g (sAddr r) 3 (sK r 2))) := [⟨swF1 rb tb, fun s => (s, ((0, 0, 0) : SwT)), swRo rb r⟩, ⟨swF2 rb, fun s => (s, ((1, 0, 0) : SwT)), swRo rb r⟩]
theorem sw_plays {rb tb r : Nat} : playF (swT rb tb r) (((2, 7, 8), 0) : SwS) [0, 1, 0] = (⟨((4, 1, 2), 51), [((0, 9, 0) : SwT), ((1, 9, 0) : SwT)], [(0, (1, 0)), (1, (1, 0)), (0, (1, 1)), (0, (1, 2)), (1, (5, 0)), (0, (1, 0)), (1, (2, 1)), (1, (2, 2)), (1, (2, 0))]⟩ : PS ((swG tb).g (sAddr r) 3 (sK r 2))) := by kernel_rfl
theorem rdV_two {L F : List HProp} {b : Nat} {l : List Nat} (hh : Has L (arr b 0 (l.map num)) F) : RdV L (some ⟨b, 0, none⟩) l := fun i v hi =>
 ⟨b, 0, rfl, Rds.all hh i _ (by rw [List.getElem?_map, hi]; rfl)⟩
theorem rdV_vec {L F : List HProp} {a : Option Addr} {n c : Nat} {l : List Nat} (hh : Has L (vec 1 (.slice a n c) (l.map num)) F) (hz : a = none → n = 0) (hn : n = l.length) (hy : ∀ y, a = some y → y = ⟨y.block, y.off, none⟩) : RdV L a l :=
 RdV.vec hh hy fun e => List.length_eq_zero_iff.1 (by rw [← hn]; exact hz e)
set_option maxHeartbeats 2000000 in
theorem awake_tr {L : List HProp} : Tr Try.prog mT 9 [] L .idle fun v L' x' => v = .bool true ∧ L' = L ∧ x' = .idle := by
 refine Tr.post (R := fun v L' x' => v = .bool true ∧ x' = MX.idle ∧ ∀ h, Star L' h → Star L h) ?_
  (by rintro v L' x' ⟨rfl, rfl, h2⟩; exact ⟨_, ⟨rfl, rfl, rfl⟩, h2⟩)
 refine tr_of_body Try.func9 rfl Try.ntmps9 (by simp) fun um Q _ hQ => ?_
 simp only [argE, Nat.zero_add, Nat.reduceAdd]
 repeat (first | (apply wo_mo; apply mo_buildSlice (sz := 1) (vs := [num 5, num 6]); exact rfl; exact .cons rfl (.cons rfl .nil); exact rfl; (intro v hv; simp at hv; rcases hv with rfl | rfl <;> rfl); omega; exact trivial) | refine we_seq ?_ | (refine wR ?_; try simp only [oS]) | refine wo_nil ?_ | refine wA ?_)
 rintro v' L' ⟨b1, rfl, rfl⟩
 refine wo_ent (arr b1 0 ([5, 6].map num) :: L) .refl ?_
 skip
 refine wo_call (.cons rfl .nil) trivial (snew_tr (n := 2) (ws := [5, 6]) (by omega) (by omega) rfl (by decide) ⟨rfl, .inr ⟨_, _, rfl, Rds.all .here⟩⟩) ?_
 rintro v' L' x' ⟨r, rfl, rfl, rfl⟩
 repeat (first | (apply wo_mo; apply mo_alloc; exact trivial) | refine wM ?_ | (apply wo_po; apply mo_extract; exact rfl; exact rfl; exact gY))
 rintro v' L' ⟨rb, rfl, rfl⟩
 repeat (first | refine wS ?_ | refine wneqF ?_ | refine we_seq ?_ | (refine wR ?_; try simp only [oS]) | refine wo_nil ?_ | refine wM ?_ | refine wA ?_ | refine wJ ?_ | refine wL ?_ | (apply wo_po; apply mo_bin; exact rfl; exact rfl; apply bin_eq; apply eql_ptr_nil; exact gY) | refine wF ?_ | refine we_skip ?_)
 refine wo_call .nil trivial new_notes_tr ?_
 rintro v' L' x' ⟨nb, rfl, rfl, rfl⟩
 refine wo_star (all [sC r 2 (recF [5, 6] 0), notesC nb []] :: arr rb 0 [.pointer (some ⟨r, 0, none⟩)] :: arr b1 0 ([5, 6].map num) :: L) (fun h st => star_shut (M := [_, _]) (Ent.star (.take (.there (.there .here)) (.take .here (.take .here .refl))) st)) ?_
 repeat (first | (apply wo_po; apply mo_makeInterface; exact rfl; exact trivial) | (apply wo_mo; apply mo_buildSlice (sz := 1) (vs := [num 7, num 8]); exact rfl; exact .cons rfl (.cons rfl .nil); exact rfl; (intro v hv; simp at hv; rcases hv with rfl | rfl <;> rfl); omega; exact trivial) | refine we_seq ?_ | (refine wR ?_; try simp only [oS]) | refine wo_nil ?_ | refine wM ?_ | refine wA ?_ | refine wL ?_)
 rintro v' L' ⟨b2, rfl, rfl⟩
 refine wo_ent (arr b2 0 ([7, 8].map num) :: all [sC r 2 (recF [5, 6] 0), notesC nb []] :: arr rb 0 [.pointer (some ⟨r, 0, none⟩)] :: arr b1 0 ([5, 6].map num) :: L) .refl ?_
 skip
 refine wo_call (.cons rfl (.cons rfl (.cons rfl .nil))) trivial (write_note (n := 2) (ws := [5, 6]) (ws' := [7, 8]) (v := 0) (by omega) (by omega) rfl (by decide) rfl (by omega) (by decide) (.there .here) ⟨rfl, .inr ⟨_, _, rfl, Rds.all .here⟩⟩) ?_
 rintro v' L' x' ⟨rfl, rfl, rfl⟩
 repeat (first | refine we_seq ?_ | (refine wR ?_; try simp only [oS]) | refine wo_nil ?_ | refine wM ?_ | refine wA ?_ | (apply wo_po; apply mo_extract; exact rfl; exact rfl; exact gY) | refine wL ?_)
 refine wo_call (.cons rfl (.cons rfl .nil)) trivial (read_lone (n := 2) (ws := [7, 8]) (v := 2) (by omega) (by omega) rfl rfl .here) ?_
 rintro v' L' x' ⟨rv, rfl, rfl, rfl⟩
 refine wo_pure (of_has (.there .here) (vec_shape (by omega))) ?_
 rintro ⟨ra, rl, rc, rfl, hlen, hrc, hra, hra2⟩
 obtain rfl : rl = 2 := by simp at hlen; omega
 repeat (first | (apply wo_mo; apply mo_buildSlice (sz := 1) (vs := [num 7, num 8]); exact rfl; exact .cons rfl (.cons rfl .nil); exact rfl; (intro v hv; simp at hv; rcases hv with rfl | rfl <;> rfl); omega; exact rfl) | refine wneqF ?_ | refine we_seq ?_ | (refine wR ?_; try simp only [oS]) | refine wo_nil ?_ | refine wM ?_ | refine wA ?_ | refine wJ ?_ | (apply wo_po; apply mo_extract; exact rfl; exact rfl; exact gY))
 rintro v' L' ⟨b3, rfl, rfl⟩
 refine wo_ent (arr b3 0 ([7, 8].map num) :: sC r 2 (recF [7, 8] 2) :: vec 1 (.slice ra 2 rc) ([7, 8].map num) :: notesC nb (writeMs 2) :: arr rb 0 [.pointer (some ⟨r, 0, none⟩)] :: L) (.take .here (.take .here (.take .here (.take .here (.take (.there .here) (.drop (.drop .refl))))))) ?_
 skip
 refine wo_call (.cons rfl (.cons rfl .nil)) rfl (same_words_tr (l := [7, 8]) (l' := [7, 8]) rfl rfl (by omega) (rdV_vec (.there (.there .here)) hra rfl hra2) (rdV_two .here)) ?_
 rintro v' L' x' ⟨rfl, rfl, rfl⟩
 repeat (first | refine wM ?_ | refine wJ ?_ | (apply wo_po; apply mo_not; exact rfl; exact gY))
 refine wo_call (.cons rfl .nil) rfl (marks_tr (marks := writeMs 2) (by decide) (.there (.there (.there .here)))) ?_
 rintro mv L' x' ⟨rfl, rfl⟩
 refine wo_pure (of_has .here (vec_shape (by omega))) ?_
 rintro ⟨ma, ml, mc, rfl, hml, _⟩
 obtain rfl : ml = 5 := by simp [writeMs, wMarks, mark2] at hml; omega
 repeat (first | (apply wo_mo; apply mo_alloc; exact trivial) | refine wneqF ?_ | refine we_seq ?_ | (refine wR ?_; try simp only [oS]) | refine wo_nil ?_ | refine wJ ?_ | refine wE ?_ | refine wF ?_ | refine we_skip ?_)
 rintro v' L' ⟨tb, rfl, rfl⟩
 repeat (first | refine wS ?_ | refine we_seq ?_ | (refine wR ?_; try simp only [oS]) | refine wo_nil ?_)
 refine wo_ent (arr tb 0 [.int .i64 0] :: sC r 2 (recF [7, 8] 2) :: arr rb 0 [.pointer (some ⟨r, 0, none⟩)] :: L) (.take .here (.take (.there (.there (.there .here))) (.take (.there (.there (.there (.there .here)))) (.drop (.drop (.drop (.drop .refl))))))) ?_
 repeat (first | (apply wo_mo; apply mo_buildSlice (sz := 1) (vs := [.int .i64 0, .int .i64 1, .int .i64 0]); exact rfl; exact .cons rfl (.cons rfl (.cons rfl .nil)); exact rfl; (intro v hv; simp at hv; rcases hv with rfl | rfl | rfl <;> rfl); omega; exact trivial))
 rintro v' L' ⟨ob, rfl, rfl⟩
 repeat (first | (apply wo_po; apply mo_makeFunc (first := []) (cap := [_, _]) (vf := []); exact .nil; exact .cons rfl (.cons rfl .nil); exact trivial) | (apply wo_po; apply mo_makeFunc (first := []) (cap := [_]) (vf := []); exact .nil; exact .cons rfl .nil; exact trivial) | (apply wo_mo; apply mo_buildSlice (sz := 1) (vs := [swF1 rb tb, swF2 rb]); exact rfl; exact .cons rfl (.cons rfl .nil); exact rfl; (intro v hv; simp at hv; rcases hv with rfl | rfl <;> rfl); omega; exact trivial))
 rintro v' L' ⟨fb, rfl, rfl⟩
 refine wo_ent (arr fb 0 [swF1 rb tb, swF2 rb] :: arr ob 0 [.int .i64 0, .int .i64 1, .int .i64 0] :: arr tb 0 [.int .i64 0] :: sC r 2 (recF [7, 8] 2) :: arr rb 0 [.pointer (some ⟨r, 0, none⟩)] :: L) .refl ?_
 refine wo_frz (b := rb) (o := 0) (.there (.there (.there (.there .here)))) ?_
 refine wo_star (((swG tb).g (sAddr r) 3 (sK r 2)).U (((2, 7, 8), 0) : SwS) :: all ((swT rb tb r).map Thr.M) :: arr fb 0 [swF1 rb tb, swF2 rb] :: arr ob 0 [.int .i64 0, .int .i64 1, .int .i64 0] :: L) (fun h st => ?_) ?_
 ·have s1 : Star (swRo rb r :: swRo rb r :: _) h := fro_two st
  have s2 : Star (all ((swT rb tb r).map Thr.M) :: _) h := star_shut (M := [_, _]) s1
  have s3 : Star (swZ tb 0 :: _) h := star_shut (M := [_]) (Ent.star (.take (.there (.there (.there .here))) .refl) s2)
  have s4 : Star (wds (sAddr r) 3 (sK r 2) (swW ((2, 7, 8), 0)) :: swZ tb 0 :: _) h := star_map (Ent.star (.take (.there (.there (.there (.there .here)))) .refl) s3) (wds_congr fun j hj => by
   match j, hj with
   | 0, _ => rfl
   | 1, _ => rfl
   | 2, _ => rfl) fun _ z => z
  have s5 : Star (((swG tb).g (sAddr r) 3 (sK r 2)).U (((2, 7, 8), 0) : SwS) :: _) h := star_shut (M := [_, _]) s4
  exact Ent.star (.take .here (.take .here (.take .here (.take .here .refl)))) s5
 refine wo_call (.cons rfl (.cons rfl .nil)) trivial (plays_tr (order := [0, 1, 0]) (ts := swT rb tb r) (s0 := (((2, 7, 8), 0) : SwS)) (fun _ => True) (fun _ _ => trivial) trivial (fun _ _ _ => trivial) (fun _ _ _ => trivial) (fun _ _ _ => trivial)
   (by intro t ht; simp [swT] at ht; rcases ht with rfl | rfl; exact sw1_ok; exact sw2_ok) (Nat.zero_lt_succ _) (by show 2 ≤ 16; omega) (by show 3 ≤ 16384; omega)
   ⟨rfl, .inr ⟨_, _, rfl, Rds.all .here⟩⟩ ⟨rfl, .inr ⟨_, _, rfl, Rds.all (.there .here)⟩⟩) ?_
 rw [sw_plays]
 rintro v' L' x' ⟨tv, cv, rfl, rfl, rfl⟩
 refine wo_pure (of_has .here (vec_shape (by omega))) ?_
 rintro ⟨a1, n1, c1, rfl, hn1, _, hz1, hy1⟩
 refine wo_pure (of_has (.there .here) (vec_shape (by omega))) ?_
 rintro ⟨a2, n2, c2, rfl, hn2, _⟩
 refine wo_star (arr tb 0 [.int .i64 51] :: L) (fun h st => ?_) ?_
 ·have s1 : Star (wds (sAddr r) 3 (sK r 2) (swW ((4, 1, 2), 51)) :: swZ tb 51 :: _) h := star_open (M := [_, _]) (Ent.star (.take (.there (.there .here)) .refl) st)
  have s2 : Star (arr tb 0 [.int .i64 51] :: _) h := star_open (M := [_]) (Ent.star (.take (.there .here) .refl) s1)
  exact Ent.star (.take .here (.drop (.drop (.drop (.drop (.drop (.drop .refl))))))) s2
 repeat (first | (apply wo_mo; apply mo_alloc; exact trivial) | refine wM ?_ | (apply wo_po; apply mo_extract; exact rfl; exact rfl; exact gY))
 rintro v' L' ⟨pb, rfl, rfl⟩
 repeat (first | (apply wo_pm; apply mo_storeA (c := 0) (k := 0) (a := 0) (vs := [.slice none 0 0, .slice none 0 0]); exact rfl; exact rfl; exact rfl; (intro w hw; simp [Value.cells] at hw; rcases hw with rfl | rfl <;> rfl); exact rfl; exact Nat.le_refl 2; exact .here; exact trivial) | refine weqlT ?_ | refine we_seq ?_ | (refine wR ?_; try simp only [oS]) | refine wo_nil ?_ | refine wM ?_ | refine wA ?_ | refine wK ?_ | refine wL ?_ | refine we_ret ?_)
 (first | refine or1 Try.func9 Try.results9 hQ rfl ?_ | refine on1 Try.func9 Try.results9 hQ rfl ?_)
 exact ⟨rfl, rfl, fun h st => Ent.star (.drop (.drop .refl)) st⟩
end
section
section
variable {B : Hand} [Lets B] {x : B.X} {L F : List HProp}
theorem idle_of {f : FuncId} {args : List Value} {L : List HProp} (t : Tr Try.prog mT f args L .idle fun v L' x' => v = .bool true ∧ L' = L ∧ x' = .idle) : Tr Try.prog mT f args L .idle fun v L' x' => v = .bool true ∧ x' = .idle := t.mono fun v L' x' h => ⟨h.1, h.2.2⟩
end
end
section
def NoRec (L : List HProp) (p : Value) : Prop := p = .pointer none ∨ ∃ r, p = .pointer (some ⟨r, 0, none⟩) ∧ Rd L r 1 (.int .i64 0)
section
variable {B : Hand} [Lets B] {x : B.X} {L F : List HProp} {p gv : Value} {r n : Nat}
theorem snone_yes (h : NoRec L p) : Tr Try.prog B 45 [p] L x fun v L' x' => v = .bool true ∧ L' = L ∧ x' = x := by
 rcases h with rfl | ⟨r, rfl, hr⟩
 ·exact snone_nil
 ·exact snone_zero hr
theorem write_none {w : Value} (h : NoRec L p) : Tr Try.prog B 14 [p, gv, w] L x fun v L' x' => v = .tuple #[.int .u64 0, .int .i64 1] ∧ L' = L ∧ x' = x := by
 refine tr_of_body Try.func14 rfl Try.ntmps14 (by simp) fun um Q _ hQ => ?_
 simp only [argE, Nat.zero_add, Nat.reduceAdd]
 repeat (first | refine we_seq ?_ | (refine wR ?_; try simp only [oS]) | refine wo_nil ?_ | refine wM ?_ | refine wA ?_ | refine we_block ?_)
 refine wo_call (.cons rfl .nil) trivial (snone_yes h) ?_
 rintro v1 L1 x1 ⟨rfl, rfl, rfl⟩
 repeat (first | refine we_seq ?_ | (refine wR ?_; try simp only [oS]) | refine wo_nil ?_ | refine wA ?_ | refine wT ?_ | refine we_ret ?_)
 (first | refine or2 Try.func14 Try.results14 hQ rfl rfl ?_ | refine on2 Try.func14 Try.results14 hQ rfl rfl ?_)
 exact ⟨rfl, rfl, rfl⟩
theorem read_none (h : NoRec L p) : Tr Try.prog B 16 [p, gv] L x fun v L' x' => v = .tuple #[.slice none 0 0, .int .u64 0, .int .i64 1] ∧ L' = L ∧ x' = x := by
 refine tr_of_body Try.func16 rfl Try.ntmps16 (by simp) fun um Q _ hQ => ?_
 simp only [argE, Nat.zero_add, Nat.reduceAdd]
 repeat (first | refine we_seq ?_ | (refine wR ?_; try simp only [oS]) | refine wo_nil ?_ | refine wM ?_ | refine wA ?_)
 refine wo_call (.cons rfl .nil) trivial (snone_yes h) ?_
 rintro v1 L1 x1 ⟨rfl, rfl, rfl⟩
 repeat (first | refine we_seq ?_ | (refine wR ?_; try simp only [oS]) | refine wo_nil ?_ | refine wA ?_ | refine wT ?_ | refine we_ret ?_)
 (first | refine or3 Try.func16 Try.results16 hQ rfl rfl rfl ?_ | refine on3 Try.func16 Try.results16 hQ rfl rfl rfl ?_)
 exact ⟨rfl, rfl, rfl⟩
theorem wait_none {k : Value} (h : NoRec L p) : Tr Try.prog B 39 [p, gv, k] L x fun v L' x' => v = .tuple #[.slice none 0 0, .int .u64 0, .int .i64 1] ∧ L' = L ∧ x' = x := by
 refine tr_of_body Try.func39 rfl Try.ntmps39 (by simp) fun um Q _ hQ => ?_
 simp only [argE, Nat.zero_add, Nat.reduceAdd]
 repeat (first | refine we_seq ?_ | (refine wR ?_; try simp only [oS]) | refine wo_nil ?_ | refine wM ?_ | refine wA ?_ | refine we_block ?_)
 refine wo_call (.cons rfl .nil) trivial (snone_yes h) ?_
 rintro v1 L1 x1 ⟨rfl, rfl, rfl⟩
 repeat (first | refine we_seq ?_ | (refine wR ?_; try simp only [oS]) | refine wo_nil ?_ | refine wA ?_ | refine wT ?_ | refine we_ret ?_)
 (first | refine or3 Try.func39 Try.results39 hQ rfl rfl rfl ?_ | refine on3 Try.func39 Try.results39 hQ rfl rfl rfl ?_)
 exact ⟨rfl, rfl, rfl⟩
theorem wait_bad {k : Int} (hn : 1 ≤ n) (hr : Rd L r 1 (.int .i64 (n : Nat))) (hk : k < 1 ∨ 16384 < k) : Tr Try.prog B 39 [.pointer (some ⟨r, 0, none⟩), gv, .int .i64 k] L x fun v L' x' => v = .tuple #[.slice none 0 0, .int .u64 0, .int .i64 2] ∧ L' = L ∧ x' = x := by
 by_cases c : k < 1
 ·refine tr_of_body Try.func39 rfl Try.ntmps39 (by simp) fun um Q _ hQ => ?_
  simp only [argE, Nat.zero_add, Nat.reduceAdd]
  repeat (first | refine we_seq ?_ | (refine wR ?_; try simp only [oS]) | refine wo_nil ?_ | refine wM ?_ | refine wA ?_ | refine we_block ?_)
  refine wo_call (.cons rfl .nil) trivial (snone_no hr hn) ?_
  rintro v1 L1 x1 ⟨rfl, rfl, rfl⟩
  repeat (first | refine wlssT ?_ | refine we_seq ?_ | (refine wR ?_; try simp only [oS]) | refine wo_nil ?_ | refine wM ?_ | refine wA ?_ | (apply wo_no; exact rfl) | refine wK ?_ | refine wT ?_ | refine wF ?_ | refine we_ret ?_)
  (first | refine or3 Try.func39 Try.results39 hQ rfl rfl rfl ?_ | refine on3 Try.func39 Try.results39 hQ rfl rfl rfl ?_)
  exact ⟨rfl, rfl, rfl⟩
 ·refine tr_of_body Try.func39 rfl Try.ntmps39 (by simp) fun um Q _ hQ => ?_
  simp only [argE, Nat.zero_add, Nat.reduceAdd]
  repeat (first | refine we_seq ?_ | (refine wR ?_; try simp only [oS]) | refine wo_nil ?_ | refine wM ?_ | refine wA ?_ | refine we_block ?_)
  refine wo_call (.cons rfl .nil) trivial (snone_no hr hn) ?_
  rintro v1 L1 x1 ⟨rfl, rfl, rfl⟩
  repeat (first | refine wlssF ?_ | refine wgtrT ?_ | refine we_seq ?_ | (refine wR ?_; try simp only [oS]) | refine wo_nil ?_ | refine wM ?_ | refine wA ?_ | refine wJ ?_ | refine wT ?_ | refine wF ?_ | refine we_ret ?_)
  (first | refine or3 Try.func39 Try.results39 hQ rfl rfl rfl ?_ | refine on3 Try.func39 Try.results39 hQ rfl rfl rfl ?_)
  exact ⟨rfl, rfl, rfl⟩
theorem len_none (h : NoRec L p) : Tr Try.prog B 23 [p] L x fun v L' x' => v = .int .i64 0 ∧ L' = L ∧ x' = x := by
 refine tr_of_body Try.func23 rfl Try.ntmps23 (by simp) fun um Q _ hQ => ?_
 simp only [argE, Nat.zero_add, Nat.reduceAdd]
 repeat (first | refine we_seq ?_ | (refine wR ?_; try simp only [oS]) | refine wo_nil ?_ | refine wM ?_ | refine wA ?_)
 refine wo_call (.cons rfl .nil) trivial (snone_yes h) ?_
 rintro v1 L1 x1 ⟨rfl, rfl, rfl⟩
 repeat (first | refine we_seq ?_ | (refine wR ?_; try simp only [oS]) | refine wo_nil ?_ | refine wA ?_ | refine wT ?_ | refine we_ret ?_)
 (first | refine or1 Try.func23 Try.results23 hQ rfl ?_ | refine on1 Try.func23 Try.results23 hQ rfl ?_)
 exact ⟨rfl, rfl, rfl⟩
end
def namInv (L : List HProp) : PB.Inv (Nat × Value × HProp) MX where
 e := fun i => [(1, i.2.1), (2, .int .i64 (i.1 : Nat))]
 L := fun i => i.2.2 :: L
 x := fun _ => .idle
 ok := fun i => i.1 ≤ 2 ∧ NoRec (i.2.2 :: L) i.2.1
set_option maxHeartbeats 4000000 in
theorem names_tr {L : List HProp} : Tr Try.prog mT 7 [] L .idle fun v L' x' => v = .bool true ∧ L' = L ∧ x' = .idle := by
 refine Tr.post (R := fun v L' x' => v = .bool true ∧ x' = MX.idle ∧ ∀ h, Star L' h → Star L h) ?_
  (by rintro v L' x' ⟨rfl, rfl, h2⟩; exact ⟨_, ⟨rfl, rfl, rfl⟩, h2⟩)
 refine tr_of_body Try.func7 rfl Try.ntmps7 (by simp) fun um Q _ hQ => ?_
 simp only [argE, Nat.zero_add, Nat.reduceAdd]
 repeat (first | refine we_seq ?_ | (refine wR ?_; try simp only [oS]) | refine wo_nil ?_ | refine wA ?_ | refine we_block ?_)
 refine we_star (all [] :: L) (fun h st => star_shut (M := []) st) ?_
 refine we_loopN (namInv L) (fun i => 2 - i.1) (0, .pointer none, all []) ⟨Nat.zero_le _, .inl rfl⟩ ⟨rfl, rfl, trivial⟩ .refl rfl ?_
 rintro ⟨i, p, E⟩ ⟨hi, hp⟩
 dsimp only at hi hp
 simp only [namInv]
 by_cases hlt : i < 2
 ·repeat (first | refine wlssT ?_ | refine we_seq ?_ | (refine wR ?_; try simp only [oS]) | refine wo_nil ?_ | refine wM ?_ | refine wT ?_ | refine we_skip ?_ | refine we_block ?_)
  refine wo_call (.cons rfl (.cons rfl (.cons rfl .nil))) trivial (write_none hp) ?_
  rintro v1 L1 x1 ⟨rfl, rfl, rfl⟩
  repeat (first | refine we_seq ?_ | (refine wR ?_; try simp only [oS]) | refine wo_nil ?_ | refine wM ?_ | refine wA ?_ | (apply wo_po; apply mo_extract; exact rfl; exact rfl; exact gY))
  refine wo_call (.cons rfl (.cons rfl .nil)) trivial (read_none hp) ?_
  rintro v1 L1 x1 ⟨rfl, rfl, rfl⟩
  repeat (first | refine we_seq ?_ | (refine wR ?_; try simp only [oS]) | refine wo_nil ?_ | refine wM ?_ | refine wA ?_ | (apply wo_po; apply mo_extract; exact rfl; exact rfl; exact gY))
  refine wo_call (.cons rfl (.cons rfl (.cons rfl .nil))) trivial (wait_none hp) ?_
  rintro v1 L1 x1 ⟨rfl, rfl, rfl⟩
  repeat (first | refine wneqF ?_ | refine we_seq ?_ | (refine wR ?_; try simp only [oS]) | refine wo_nil ?_ | refine wM ?_ | refine wA ?_ | refine wJ ?_ | (apply wo_po; apply mo_extract; exact rfl; exact rfl; exact gY))
  refine wo_call (.cons rfl .nil) rfl (len_none hp) ?_
  rintro v1 L1 x1 ⟨rfl, rfl, rfl⟩
  repeat (first | (apply wo_po; apply mo_build (pv := []); exact rfl; exact .nil; exact rfl; exact trivial) | (apply wo_mo; apply mo_box; exact rfl; exact trivial) | refine wneqF ?_ | (refine wR ?_; try simp only [oS]) | refine wo_nil ?_ | refine wJ ?_ | refine wF ?_ | refine we_skip ?_)
  rintro v' L' ⟨r, rfl, rfl⟩
  repeat (first | (refine wR ?_; try simp only [oS]) | refine wo_nil ?_ | refine wM ?_ | refine wA ?_ | refine wadd ?_)
  refine at_round (B := mT) (I := namInv L) (R := fun j => 2 - j.1 < 2 - i) (i + 1, .pointer (some ⟨r, 0, none⟩), arr r 0 (.int .u64 0 :: .int .i64 0 :: List.replicate 16 (.int .u64 0))) (by show 2 - (i + 1) < 2 - i; omega) ⟨by show i + 1 ≤ 2; omega, .inr ⟨r, rfl, Rd.row (k := 1) rfl rfl⟩⟩ ⟨rfl, rfl, trivial⟩ (.take .here (.drop .refl)) rfl
 ·refine we_ent L (.drop .refl) ?_
  repeat (first | (apply wo_mo; apply mo_buildSlice (sz := 1) (vs := [num 1]); exact rfl; exact .cons rfl .nil; exact rfl; (intro v hv; cases (List.mem_singleton.1 hv); exact rfl); omega; exact trivial) | refine wlssF ?_ | refine we_seq ?_ | (refine wR ?_; try simp only [oS]) | refine wo_nil ?_ | refine wM ?_ | refine wF ?_ | refine we_exit ?_)
  rintro v' L' ⟨b1, rfl, rfl⟩
  refine wo_ent (arr b1 0 ([1].map num) :: L) .refl ?_
  skip
  refine wo_call (.cons rfl .nil) trivial (snew_tr (n := 1) (ws := [1]) (by omega) (by omega) rfl (by decide) ⟨rfl, .inr ⟨_, _, rfl, Rds.all .here⟩⟩) ?_
  rintro v' L' x' ⟨r, rfl, rfl, rfl⟩
  repeat (first | refine wneqF ?_ | refine we_seq ?_ | (refine wR ?_; try simp only [oS]) | refine wo_nil ?_ | refine wM ?_ | refine wA ?_ | refine wJ ?_ | (apply wo_po; apply mo_extract; exact rfl; exact rfl; exact gY) | (apply wo_po; apply mo_bin; exact rfl; exact rfl; apply bin_eq; apply eql_ptr_nil; exact gY) | refine wF ?_ | refine we_skip ?_)
  refine wo_call .nil trivial new_notes_tr ?_
  rintro v' L' x' ⟨nb, rfl, rfl, rfl⟩
  refine wo_ent (notesC nb [] :: sC r 1 (recF [1] 0) :: L) (.take .here (.take .here (.drop .refl))) ?_
  have hr : Rd (notesC nb [] :: sC r 1 (recF [1] 0) :: L) r 1 (.int .i64 ((1 : Nat) : Int)) := .there (Rd.of .here sC_rd)
  repeat (first | (apply wo_po; apply mo_makeInterface; exact rfl; exact trivial) | refine we_seq ?_ | (refine wR ?_; try simp only [oS]) | refine wo_nil ?_ | refine wM ?_ | refine wA ?_)
  refine wo_call (.cons rfl (.cons rfl (.cons rfl .nil))) trivial (wait_bad (n := 1) (by omega) hr (.inl (by omega))) ?_
  rintro v1 L1 x1 ⟨rfl, rfl, rfl⟩
  repeat (first | (apply wo_po; apply mo_makeInterface; exact rfl; exact trivial) | refine we_seq ?_ | (refine wR ?_; try simp only [oS]) | refine wo_nil ?_ | refine wM ?_ | refine wA ?_ | (apply wo_po; apply mo_extract; exact rfl; exact rfl; exact gY))
  refine wo_call (.cons rfl (.cons rfl (.cons rfl .nil))) trivial (wait_bad (n := 1) (by omega) hr (.inr (by omega))) ?_
  rintro v1 L1 x1 ⟨rfl, rfl, rfl⟩
  repeat (first | refine we_seq ?_ | (refine wR ?_; try simp only [oS]) | refine wo_nil ?_ | refine wM ?_ | refine wA ?_ | (apply wo_po; apply mo_extract; exact rfl; exact rfl; exact gY))
  refine wo_call (.cons rfl (.cons rfl (.cons rfl .nil))) trivial (wait_lone (k := 16383) (n := 1) (ws := [1]) (v := 0) (by omega) (by omega) rfl rfl (by omega) (.there .here)) ?_
  rintro v1 L1 x1 ⟨gv, rfl, rfl, rfl⟩
  refine wo_ent (notesC nb [] :: sC r 1 (recF [1] 0) :: L) (.take (.there (.there .here)) (.take .here (.drop .refl))) ?_
  repeat (first | (apply wo_po; apply mo_makeInterface; exact rfl; exact trivial) | refine we_seq ?_ | (refine wR ?_; try simp only [oS]) | refine wo_nil ?_ | refine wM ?_ | refine wA ?_ | (apply wo_po; apply mo_extract; exact rfl; exact rfl; exact gY))
  refine wo_call (.cons rfl (.cons rfl (.cons rfl .nil))) trivial (write_bad (n := 1) (m := 0) (by omega) (by omega) (by omega) hr) ?_
  rintro v1 L1 x1 ⟨rfl, rfl, rfl⟩
  repeat (first | refine we_seq ?_ | (refine wR ?_; try simp only [oS]) | refine wo_nil ?_ | refine wM ?_ | refine wA ?_ | (apply wo_po; apply mo_extract; exact rfl; exact rfl; exact gY))
  refine wo_call .nil rfl awake_tr ?_
  rintro v1 L1 x1 ⟨rfl, rfl, rfl⟩
  repeat (first | refine weqlT ?_ | refine wM ?_ | refine wK ?_)
  refine wo_call (.cons rfl .nil) rfl (marks_tr (marks := []) (by simp) .here) ?_
  rintro mv L' x' ⟨rfl, rfl⟩
  refine wo_pure (of_has .here (vec_shape (by omega))) ?_
  rintro ⟨ma, ml, mc, rfl, hml, _⟩
  obtain rfl : ml = 0 := by simp at hml; omega
  repeat (first | refine weqlT ?_ | refine wo_nil ?_ | refine wA ?_ | refine wK ?_ | refine wE ?_ | refine we_ret ?_)
  (first | refine or1 Try.func7 Try.results7 hQ rfl ?_ | refine on1 Try.func7 Try.results7 hQ rfl ?_)
  exact ⟨rfl, rfl, fun h st => Ent.star (.drop (.drop (.drop .refl))) st⟩
end
end Go.Proofs.Ytodgemainhokjaa
namespace Go.PB
open Go.Conc Go.Conc.Lib Go.ConcR.Gen
open Go.ConcR (KK stA smA rd wr mk DC0)
def WgAt (ty : TypeId) (wg : Nat) (w : World) (st sm : Int) : Prop := ∃ f : Nat × Nat, w.heap[wg]? = some (.cells #[.int .u64 st, .int .u32 sm] ty f) ∧ w.frozen? ⟨wg, 0, none⟩ = false ∧ w.frozen? ⟨wg, 1, none⟩ = false
section
variable {ty : TypeId} {wg : Nat} {w w' : World} {st sm : Int}
theorem WgAt.cellSt (h : WgAt ty wg w st sm) : w.cell? (stA wg) = some (.int .u64 st) := by obtain ⟨f, h, _⟩ := h; simp [World.cell?, stA, h]
theorem WgAt.cellSm (h : WgAt ty wg w st sm) : w.cell? (smA wg) = some (.int .u32 sm) := by obtain ⟨f, h, _⟩ := h; simp [World.cell?, smA, h]
theorem WgAt.thaw (h : WgAt ty wg w st sm) (n : Nat) (hn : n < 2 := by decide) : w.frozen? ⟨wg, n, none⟩ = false := by
 obtain ⟨f, _, h0, h1⟩ := h
 rcases n with _ | _ | n
 ·exact h0
 ·exact h1
 ·omega
theorem WgAt.unique {st' sm' : Int} (h : WgAt ty wg w st sm) (h' : WgAt ty wg w st' sm') : st = st' ∧ sm = sm' := by
 obtain ⟨f, h, _⟩ := h
 obtain ⟨f', h', _⟩ := h'
 rw [h] at h'
 simp at h'
 exact ⟨h'.1.1, h'.1.2⟩
theorem WgAt.setSt (h : WgAt ty wg w st sm) (v : Int) : WgAt ty wg (w.setCell (stA wg) (.int .u64 v)) v sm := by
 obtain ⟨f, h, h0, h1⟩ := h
 refine ⟨f, ?_, by rw [frozen_setCell]; exact h0, by rw [frozen_setCell]; exact h1⟩
 simp [World.setCell, stA, Array.getElem?_modify, h]
theorem WgAt.setSm (h : WgAt ty wg w st sm) (v : Int) : WgAt ty wg (w.setCell (smA wg) (.int .u32 v)) st v := by
 obtain ⟨f, h, h0, h1⟩ := h
 refine ⟨f, ?_, by rw [frozen_setCell]; exact h0, by rw [frozen_setCell]; exact h1⟩
 simp [World.setCell, smA, Array.getElem?_modify, h]
theorem WgAt.of_heap (h : WgAt ty wg w st sm) (e : w'.heap[wg]? = w.heap[wg]?) : WgAt ty wg w' st sm := by
 obtain ⟨f, h, h0, h1⟩ := h
 have hf : ∀ o, w'.frozen? ⟨wg, o, none⟩ = w.frozen? ⟨wg, o, none⟩ := fun o => by unfold World.frozen?; rw [e]
 exact ⟨f, e.trans h, (hf 0).trans h0, (hf 1).trans h1⟩
def WgLive (ty : TypeId) (Wg : Nat) (w : World) : Prop := ∃ st sm, WgAt ty Wg w st sm
end
def RL (ty : TypeId) (Wg : Nat) (w w₁ : World) : Prop := WgLive ty Wg w → WgLive ty Wg w₁
theorem live_cell {ty : TypeId} {Wg : Nat} {w : World} (h : WgLive ty Wg w) : ∃ v, w.cell? ⟨Wg, 0, none⟩ = some v := let ⟨_, _, x⟩ := h; ⟨_, WgAt.cellSt x⟩
section
variable (P : Program) (ty : TypeId) (Wg : Nat)
def Zg (Stop : Goroutine → World → Prop) (m : Nat) (g : Goroutine) (w : World) : Prop := Goes P false (RL ty Wg) DC0 Stop m g w
def Z4 (g : Goroutine) (w : World) : Prop :=
 g.status = .running ∧ mayWake P g = true ∧ (WgAt ty Wg w 0 0 → ∃ g' q, stepG P false g w = .go g' (w.setCell (smA Wg) (.int .u32 1)) (semEvents (smA Wg)) ∧ QuitsD P q 1 g')
def Z3 (g : Goroutine) (w : World) : Prop :=
 g.status = .running ∧ (WgAt ty Wg w 1 0 → ∃ g' m, stepG P false g w = .go g' (w.setCell (stA Wg) (.int .u64 0)) #[wr (stA Wg)] ∧ Zg P ty Wg (Z4 P ty Wg) m g' (w.setCell (stA Wg) (.int .u64 0)))
def Z2 (g : Goroutine) (w : World) : Prop :=
 g.status = .running ∧ (WgAt ty Wg w 1 0 → ∃ g' m, stepG P false g w = .go g' w #[rd (stA Wg)] ∧ Zg P ty Wg (Z3 P ty Wg) m g' w)
def Z1 (g : Goroutine) (w : World) : Prop :=
 g.status = .running ∧ ∀ v wt : Nat, wt ≤ 1 → v < 2147483647 → WgAt ty Wg w ((v + 1) * KK + wt) 0 →
  ∃ g', stepG P false g w = .go g' (w.setCell (stA Wg) (.int .u64 (v * KK + wt))) #[rd (stA Wg), wr (stA Wg)] ∧
   ((v = 0 ∧ wt = 1) → ∃ m, Zg P ty Wg (Z2 P ty Wg) m g' (w.setCell (stA Wg) (.int .u64 (v * KK + wt)))) ∧ (¬ (v = 0 ∧ wt = 1) → ∃ q, QuitsD P q 1 g')
def ZK (g : Goroutine) (w : World) : Prop :=
 g.status = .running ∧ ∃ g' m, stepG P false g w = .go g' w #[mk .disable] ∧ Zg P ty Wg (Z1 P ty Wg) m g' w
def ZR (g : Goroutine) (w : World) : Prop :=
 g.status = .running ∧ ∃ g' m, stepG P false g w = .go g' w #[mk (.releaseMerge (stA Wg))] ∧ Zg P ty Wg (ZK P ty Wg) m g' w
end
end Go.PB
namespace Go.PB
open Go.Conc Go.Conc.Lib Go.ConcR.Gen
open Go.ConcR (KK stA smA rd wr mk DC0)
theorem quits_more {P : Program} : ∀ {n d : Nat} {g : Goroutine}, QuitsD P n d g → QuitsD P (n + 1) d g
 | 0, _, _, h => .inl h
 | _ + 1, _, _, h => h.imp id fun ⟨hs, g', es, hm, hst, hq⟩ => ⟨hs, g', es, hm, hst, quits_more hq⟩
theorem quits_mono {P : Program} {n n' d : Nat} {g : Goroutine} (h : QuitsD P n d g) (hn : n ≤ n') : QuitsD P n' d g := by
 induction hn with
 | refl => exact h
 | step _ ih => exact quits_more ih
set_option maxRecDepth 100000 in
set_option maxHeartbeats 8000000 in
theorem add_goes [Go.ConcR.Payload] {P : Program} {L : WgLink} (H : WgLib P L) {Wg : Nat} {b₀ : Frame} {a₀ : Act} {ops₀ : Array Oper} {i₀ : Nat} {rest₀ : List Nat} {k₀ : List Item} {cs : List Frame} {qt : Nat}
  (hT : QuitsD P qt 0 (G (b₀.at (a₀.put ((ops₀[i₀]?).bind (·.dst)) (.tuple #[])) (.inRegion ops₀ rest₀ :: k₀)) cs)) (w : World) (hK : WgLive L.tWg Wg w) :
  Zg P L.tWg Wg (ZR P L.tWg Wg) 20 (G ((Go.Conc.base L.add).at ⟨#[.pointer (some ⟨Wg, 0, none⟩), .int .i64 (-1)] ++ Array.replicate 115 undef, []⟩ [.code (body_add L)]) (b₀.at a₀ (.inRegion ops₀ (i₀ :: rest₀) :: k₀) :: cs)) w := by
 lib_facts
 simp only [body_add, addFn, Option.getD_some, Array.replicate_succ, Array.replicate_zero]
 unfold Zg
 have key : ∀ {w w₁ : World}, WgLive L.tWg Wg w → RL L.tWg Wg w w₁ → WgLive L.tWg Wg w₁ := fun h r => r h
 walk_nrm
 repeat (first | u_c stepG_seq key hK | u_c stepG_region_end key hK | u_c stepG_skip key hK | u_reg key hK | u_skip key hK | u_op key hK | u_cond true key hK | u_cond false key hK | u_c stepG_ret' key hK | u_c stepG_block key hK | u_c stepG_loop key hK | u_c stepG_end key hK | u_defer key hK | u_leave1 H.f_uAdd key hK | u_leave1 H.f_uLoad key hK | u_leave0 H.f_uStore key hK | u_call H.f_uAdd (nm_uAdd L) uAddFn key hK | u_call H.f_uLoad (nm_uLoad L) uLoadFn key hK | u_call H.f_uStore (nm_uStore L) uStoreFn key hK | u_bub key hK)
 u_conv H.underlying_tWgP H.room_tWg (live_cell hK).choose_spec key hK
 refine Goes.stop (fun w₁ h₁ => ?_)
 replace hK := key hK h₁
 clear h₁
 refine ⟨rfl, _, 30, stepG_markAt .releaseMerge (by simp) rfl rfl (by k_ne) rfl H.f_relMerge (x_relMerge_n L) (x_relMerge_b L) (x_relMerge_x L) (x_relMerge_f L) (by simp [Act.eval, stA]), ?_⟩
 unfold Zg
 walk_nrm
 repeat (first | u_c stepG_seq key hK | u_c stepG_region_end key hK | u_c stepG_skip key hK | u_reg key hK | u_skip key hK | u_op key hK | u_cond true key hK | u_cond false key hK | u_c stepG_ret' key hK | u_c stepG_block key hK | u_c stepG_loop key hK | u_c stepG_end key hK | u_defer key hK | u_leave1 H.f_uAdd key hK | u_leave1 H.f_uLoad key hK | u_leave0 H.f_uStore key hK | u_call H.f_uAdd (nm_uAdd L) uAddFn key hK | u_call H.f_uLoad (nm_uLoad L) uLoadFn key hK | u_call H.f_uStore (nm_uStore L) uStoreFn key hK | u_bub key hK)
 refine Goes.stop (fun w₁ h₁ => ?_)
 replace hK := key hK h₁
 clear h₁
 refine ⟨rfl, _, 80, stepG_mark0 .disable (by simp) rfl rfl (by k_ne) rfl H.f_disable (x_disable_n L) (x_disable_b L) (x_disable_x L) (x_disable_f L), ?_⟩
 unfold Zg
 walk_nrm
 repeat (first | u_c stepG_seq key hK | u_c stepG_region_end key hK | u_c stepG_skip key hK | u_reg key hK | u_skip key hK | u_op key hK | u_cond true key hK | u_cond false key hK | u_c stepG_ret' key hK | u_c stepG_block key hK | u_c stepG_loop key hK | u_c stepG_end key hK | u_defer key hK | u_leave1 H.f_uAdd key hK | u_leave1 H.f_uLoad key hK | u_leave0 H.f_uStore key hK | u_call H.f_uAdd (nm_uAdd L) uAddFn key hK | u_call H.f_uLoad (nm_uLoad L) uLoadFn key hK | u_call H.f_uStore (nm_uStore L) uStoreFn key hK | u_bub key hK)
 refine Goes.stop (fun w₁ h₁ => ?_)
 clear h₁ hK
 refine ⟨rfl, fun v wt hwt hv hw => ?_⟩
 have e0 : IntKind.u64.wrap (KK + 18446744069414584320) = 0 := by decide
 have e1 : IntKind.u64.wrap (KK + 1 + 18446744069414584320) = 1 := by decide
 rcases Nat.eq_zero_or_pos v with rfl | hvp <;> (obtain rfl | rfl : wt = 0 ∨ wt = 1 := by omega)
 ·-- nobody is left, nobody waits
  replace hw : WgAt L.tWg Wg w₁ KK 0 := by simpa using hw
  have z : ((0 : Nat) : Int) * KK + ((0 : Nat) : Int) = 0 := by simp
  rw [z]
  refine ⟨_, (stepG_add_atomic rfl rfl (by k_ne) rfl H.f_addU64 (x_addU64_n L) (x_addU64_b L) (x_addU64_x L) .u64 (x_addU64_f L) rfl rfl (WgAt.cellSt hw) (WgAt.thaw hw 0)).trans (by rw [e0]; rfl), fun hl => absurd hl.2 (by decide), fun _ => ⟨qt + 200, ?_⟩⟩
  clear hw
  walk_nrm
  q_val (.int .u64 0)
  q_c stepG_region_end
  q_c stepG_ret'
  q_leave1 H.f_uAdd
  q_val (.int .u64 0)
  q_c stepG_region_end
  q_c stepG_seq
  q_c stepG_seq
  q_reg
  q_val (.int .u64 0)
  q_val (.int .u64 0)
  q_val (.bool false)
  q_val (.bool false)
  q_skip
  q_skip
  q_val (.bool false)
  q_c stepG_region_end
  q_cond false
  q_c stepG_skip
  q_c stepG_seq
  q_reg
  q_val (.int .u64 0)
  q_val (.int .u64 0)
  q_val (.int .i32 0)
  q_val (.int .i32 0)
  q_c stepG_region_end
  q_c stepG_seq
  q_reg
  q_val (.int .u64 0)
  q_val (.int .u64 0)
  q_val (.int .u32 0)
  q_val (.int .u32 0)
  q_c stepG_region_end
  q_c stepG_seq
  q_c stepG_seq
  q_reg
  q_val (.bool true)
  q_val (.int .i64 (-1))
  q_val (.bool false)
  q_val (.bool false)
  q_val (.bool false)
  q_skip
  q_skip
  q_skip
  q_skip
  q_val (.bool false)
  q_c stepG_region_end
  q_cond false
  q_c stepG_skip
  q_c stepG_seq
  q_c stepG_seq
  q_reg
  q_val (.int .i32 0)
  q_val (.bool false)
  q_c stepG_region_end
  q_cond false
  q_c stepG_skip
  q_c stepG_seq
  q_c stepG_seq
  q_reg
  q_val (.int .u32 0)
  q_val (.bool false)
  q_val (.bool false)
  q_skip
  q_skip
  q_val (.bool false)
  q_val (.bool false)
  q_skip
  q_skip
  q_skip
  q_skip
  q_val (.bool false)
  q_c stepG_region_end
  q_cond false
  q_c stepG_skip
  q_c stepG_seq
  q_c stepG_seq
  q_reg
  q_val (.int .i32 0)
  q_val (.bool false)
  q_val (.bool false)
  q_val (.int .u32 0)
  q_val (.bool true)
  q_val (.bool true)
  q_c stepG_region_end
  q_cond true
  q_c stepG_ret'
  q_enable
  q_leave0 H.f_add
  exact quits_mono hT (by omega)
 ·-- nobody is left, the starter waits: the last one
  replace hw : WgAt L.tWg Wg w₁ (KK + 1) 0 := by simpa using hw
  have z : ((0 : Nat) : Int) * KK + ((1 : Nat) : Int) = 1 := by simp
  rw [z]
  refine ⟨_, (stepG_add_atomic rfl rfl (by k_ne) rfl H.f_addU64 (x_addU64_n L) (x_addU64_b L) (x_addU64_x L) .u64 (x_addU64_f L) rfl rfl (WgAt.cellSt hw) (WgAt.thaw hw 0)).trans (by rw [e1]; rfl), fun _ => ⟨150, ?_⟩, fun hl => absurd ⟨rfl, rfl⟩ hl⟩
  have hK : WgLive L.tWg Wg (w₁.setCell (stA Wg) (.int .u64 1)) := ⟨_, _, WgAt.setSt hw 1⟩
  clear hw
  unfold Zg
  walk_nrm
  u_op key hK
  u_c stepG_region_end key hK
  u_c stepG_ret' key hK
  u_leave1 H.f_uAdd key hK
  u_op key hK
  u_c stepG_region_end key hK
  u_c stepG_seq key hK
  u_c stepG_seq key hK
  u_reg key hK
  u_op key hK
  u_op key hK
  u_op key hK
  u_op key hK
  u_skip key hK
  u_skip key hK
  u_op key hK
  u_c stepG_region_end key hK
  u_cond false key hK
  u_c stepG_skip key hK
  u_c stepG_seq key hK
  u_reg key hK
  u_op key hK
  u_op key hK
  u_op key hK
  u_op key hK
  u_c stepG_region_end key hK
  u_c stepG_seq key hK
  u_reg key hK
  u_op key hK
  u_op key hK
  u_op key hK
  u_op key hK
  u_c stepG_region_end key hK
  u_c stepG_seq key hK
  u_c stepG_seq key hK
  u_reg key hK
  u_op key hK
  u_op key hK
  u_op key hK
  u_op key hK
  u_op key hK
  u_skip key hK
  u_skip key hK
  u_skip key hK
  u_skip key hK
  u_op key hK
  u_c stepG_region_end key hK
  u_cond false key hK
  u_c stepG_skip key hK
  u_c stepG_seq key hK
  u_c stepG_seq key hK
  u_reg key hK
  u_op key hK
  u_op key hK
  u_c stepG_region_end key hK
  u_cond false key hK
  u_c stepG_skip key hK
  u_c stepG_seq key hK
  u_c stepG_seq key hK
  u_reg key hK
  u_op key hK
  u_op key hK
  u_op key hK
  u_op key hK
  u_op key hK
  u_op key hK
  u_op key hK
  u_skip key hK
  u_skip key hK
  u_skip key hK
  u_skip key hK
  u_op key hK
  u_c stepG_region_end key hK
  u_cond false key hK
  u_c stepG_skip key hK
  u_c stepG_seq key hK
  u_c stepG_seq key hK
  u_reg key hK
  u_op key hK
  u_op key hK
  u_op key hK
  u_op key hK
  u_op key hK
  u_op key hK
  u_c stepG_region_end key hK
  u_cond false key hK
  u_c stepG_skip key hK
  u_c stepG_seq key hK
  u_c stepG_seq key hK
  u_reg key hK
  u_op key hK
  u_op key hK
  u_op key hK
  u_call H.f_uLoad (nm_uLoad L) uLoadFn key hK
  u_c stepG_seq key hK
  u_reg key hK
  u_op key hK
  u_c stepG_region_end key hK
  u_c stepG_seq key hK
  u_reg key hK
  u_op key hK
  u_op key hK
  u_op key hK
  refine Goes.stop (fun w₂ h₂ => ?_)
  clear h₂ hK
  refine ⟨rfl, fun hw => ⟨_, 60, stepG_load_atomic rfl rfl (by k_ne) rfl H.f_loadU64 (x_loadU64_n L) (x_loadU64_b L) (x_loadU64_x L) .u64 (x_loadU64_f L) rfl (WgAt.cellSt hw), ?_⟩⟩
  have hK : WgLive L.tWg Wg w₂ := ⟨_, _, hw⟩
  clear hw
  unfold Zg
  walk_nrm
  u_op key hK
  u_c stepG_region_end key hK
  u_c stepG_ret' key hK
  u_leave1 H.f_uLoad key hK
  u_op key hK
  u_op key hK
  u_c stepG_region_end key hK
  u_cond false key hK
  u_c stepG_skip key hK
  u_c stepG_seq key hK
  u_reg key hK
  u_op key hK
  u_op key hK
  u_op key hK
  u_call H.f_uStore (nm_uStore L) uStoreFn key hK
  u_reg key hK
  u_op key hK
  u_op key hK
  u_op key hK
  u_op key hK
  refine Goes.stop (fun w₃ h₃ => ?_)
  clear h₃ hK
  refine ⟨rfl, fun hw => ⟨_, 60, stepG_store_atomic rfl rfl (by k_ne) rfl H.f_storeU64 (x_storeU64_n L) (x_storeU64_b L) (x_storeU64_x L) (x_storeU64_f L) rfl rfl (WgAt.cellSt hw) (WgAt.thaw hw 0), ?_⟩⟩
  have hK : WgLive L.tWg Wg (w₃.setCell (stA Wg) (.int .u64 0)) := ⟨_, _, WgAt.setSt hw 0⟩
  clear hw
  unfold Zg
  walk_nrm
  u_c stepG_region_end key hK
  u_c stepG_end key hK
  u_leave0 H.f_uStore key hK
  u_c stepG_region_end key hK
  u_c stepG_seq key hK
  u_c stepG_seq key hK
  u_reg key hK
  u_op key hK
  u_c stepG_region_end key hK
  u_cond false key hK
  u_c stepG_skip key hK
  u_c stepG_block key hK
  u_c stepG_loop key hK
  u_c stepG_seq key hK
  u_c stepG_seq key hK
  u_reg key hK
  u_op key hK
  u_op key hK
  u_c stepG_region_end key hK
  u_cond true key hK
  u_c stepG_skip key hK
  u_c stepG_seq key hK
  u_c stepG_block key hK
  u_reg key hK
  u_op key hK
  u_op key hK
  u_op key hK
  refine Goes.stop (fun w₄ h₄ => ?_)
  clear h₄ hK
  refine ⟨rfl, mayWake_entry rfl rfl H.f_semrelease (x_semrelease_b L), fun hw => ⟨_, qt + 40, (stepG_semrelease rfl rfl (by k_ne) rfl H.f_semrelease (x_semrelease_n L) (x_semrelease_b L) (x_semrelease_x L) (x_semrelease_f L) (by simp [Act.eval, smA]) (WgAt.cellSm hw) (WgAt.thaw hw 1)).trans (by rfl), ?_⟩⟩
  clear hw
  walk_nrm
  q_c stepG_region_end
  q_c stepG_inBlock
  q_reg
  q_val (.int .u32 1)
  q_val (.int .u32 0)
  q_val (.int .u32 0)
  q_c stepG_region_end
  q_c stepG_inLoop
  q_c stepG_seq
  q_c stepG_seq
  q_reg
  q_val (.int .u32 0)
  q_val (.bool false)
  q_c stepG_region_end
  q_cond false
  q_exit
  q_c stepG_end
  q_enable
  q_leave0 H.f_add
  exact quits_mono hT (by omega)
 ·-- some are left, nobody waits
  replace hw : WgAt L.tWg Wg w₁ (((v : Nat) + 1) * KK + 0) 0 := by simpa using hw
  have z : ((v : Nat) : Int) * KK + ((0 : Nat) : Int) = (v : Int) * KK + 0 := by simp
  rw [z]
  have eS : IntKind.u64.wrap (((v : Nat) + 1) * KK + 0 + 18446744069414584320) = (v : Int) * KK + 0 := by rw [IntKind.wrap_u64]; simp only [KK]; omega
  obtain ⟨S, hS⟩ : ∃ S : Int, S = (v : Int) * KK + 0 := ⟨_, rfl⟩
  rw [← hS] at eS ⊢
  have a1 : S / 4294967296 = (v : Int) := by rw [hS]; simp only [KK]; omega
  have a2 : 0 ≤ S ∧ S < 9223372036854775808 := by rw [hS]; simp only [KK]; omega
  have b1 : bits .and .u64 S 2147483648 = 0 := by rw [hS]; have := Go.ConcN.st_flag v 0 (by omega) (by omega); simpa [KK] using this
  have b2 : bits .and .u64 S 2147483647 = 0 := by rw [hS]; have := Go.ConcN.st_waiters v 0 (by omega) (by omega); simpa [KK] using this
  clear hS z
  refine ⟨_, (stepG_add_atomic rfl rfl (by k_ne) rfl H.f_addU64 (x_addU64_n L) (x_addU64_b L) (x_addU64_x L) .u64 (x_addU64_f L) rfl rfl (WgAt.cellSt hw) (WgAt.thaw hw 0)).trans (by rw [eS]; rfl), fun hl => absurd hl.1 (by omega), fun _ => ⟨qt + 150, ?_⟩⟩
  clear hw
  walk_nrm
  q_vn (.int .u64 S)
  q_c stepG_region_end
  q_c stepG_ret'
  q_leave1 H.f_uAdd
  q_vn (.int .u64 S)
  q_c stepG_region_end
  q_c stepG_seq
  q_c stepG_seq
  q_reg
  q_vn (.int .u64 S)
  q_vn (.int .u64 0)
  q_vn (.bool false)
  q_vn (.bool false)
  q_skip
  q_skip
  q_vn (.bool false)
  q_c stepG_region_end
  q_cond false
  q_c stepG_skip
  q_c stepG_seq
  q_reg
  q_vn (.int .u64 S)
  q_vn (.int .u64 (v:Int))
  q_vn (.int .i32 (v:Int))
  q_vn (.int .i32 (v:Int))
  q_c stepG_region_end
  q_c stepG_seq
  q_reg
  q_vn (.int .u64 S)
  q_vn (.int .u64 0)
  q_vn (.int .u32 0)
  q_vn (.int .u32 0)
  q_c stepG_region_end
  q_c stepG_seq
  q_c stepG_seq
  q_reg
  q_vn (.bool true)
  q_vn (.int .i64 (-1))
  q_vn (.bool false)
  q_vn (.bool false)
  q_vn (.bool false)
  q_skip
  q_skip
  q_skip
  q_skip
  q_vn (.bool false)
  q_c stepG_region_end
  q_cond false
  q_c stepG_skip
  q_c stepG_seq
  q_c stepG_seq
  q_reg
  q_vn (.int .i32 (v:Int))
  q_vn (.bool false)
  q_c stepG_region_end
  q_cond false
  q_c stepG_skip
  q_c stepG_seq
  q_c stepG_seq
  q_reg
  q_vn (.int .u32 0)
  q_vn (.bool false)
  q_vn (.bool false)
  q_skip
  q_skip
  q_vn (.bool false)
  q_vn (.bool false)
  q_skip
  q_skip
  q_skip
  q_skip
  q_vn (.bool false)
  q_c stepG_region_end
  q_cond false
  q_c stepG_skip
  q_c stepG_seq
  q_c stepG_seq
  q_reg
  q_vn (.int .i32 (v:Int))
  q_vn (.bool true)
  q_vn (.bool true)
  q_skip
  q_skip
  q_vn (.bool true)
  q_c stepG_region_end
  q_cond true
  q_c stepG_ret'
  q_enable
  q_leave0 H.f_add
  exact quits_mono hT (by omega)
 ·-- some are left, the starter waits
  replace hw : WgAt L.tWg Wg w₁ (((v : Nat) + 1) * KK + 1) 0 := by simpa using hw
  have z : ((v : Nat) : Int) * KK + ((1 : Nat) : Int) = (v : Int) * KK + 1 := by simp
  rw [z]
  have eS : IntKind.u64.wrap (((v : Nat) + 1) * KK + 1 + 18446744069414584320) = (v : Int) * KK + 1 := by rw [IntKind.wrap_u64]; simp only [KK]; omega
  obtain ⟨S, hS⟩ : ∃ S : Int, S = (v : Int) * KK + 1 := ⟨_, rfl⟩
  rw [← hS] at eS ⊢
  have a1 : S / 4294967296 = (v : Int) := by rw [hS]; simp only [KK]; omega
  have a2 : 0 ≤ S ∧ S < 9223372036854775808 := by rw [hS]; simp only [KK]; omega
  have b1 : bits .and .u64 S 2147483648 = 0 := by rw [hS]; have := Go.ConcN.st_flag v 1 (by omega) (by omega); simpa [KK] using this
  have b2 : bits .and .u64 S 2147483647 = 1 := by rw [hS]; have := Go.ConcN.st_waiters v 1 (by omega) (by omega); simpa [KK] using this
  clear hS z
  refine ⟨_, (stepG_add_atomic rfl rfl (by k_ne) rfl H.f_addU64 (x_addU64_n L) (x_addU64_b L) (x_addU64_x L) .u64 (x_addU64_f L) rfl rfl (WgAt.cellSt hw) (WgAt.thaw hw 0)).trans (by rw [eS]; rfl), fun hl => absurd hl.1 (by omega), fun _ => ⟨qt + 150, ?_⟩⟩
  clear hw
  walk_nrm
  q_vn (.int .u64 S)
  q_c stepG_region_end
  q_c stepG_ret'
  q_leave1 H.f_uAdd
  q_vn (.int .u64 S)
  q_c stepG_region_end
  q_c stepG_seq
  q_c stepG_seq
  q_reg
  q_vn (.int .u64 S)
  q_vn (.int .u64 0)
  q_vn (.bool false)
  q_vn (.bool false)
  q_skip
  q_skip
  q_vn (.bool false)
  q_c stepG_region_end
  q_cond false
  q_c stepG_skip
  q_c stepG_seq
  q_reg
  q_vn (.int .u64 S)
  q_vn (.int .u64 (v:Int))
  q_vn (.int .i32 (v:Int))
  q_vn (.int .i32 (v:Int))
  q_c stepG_region_end
  q_c stepG_seq
  q_reg
  q_vn (.int .u64 S)
  q_vn (.int .u64 1)
  q_vn (.int .u32 1)
  q_vn (.int .u32 1)
  q_c stepG_region_end
  q_c stepG_seq
  q_c stepG_seq
  q_reg
  q_vn (.bool true)
  q_vn (.int .i64 (-1))
  q_vn (.bool false)
  q_vn (.bool false)
  q_vn (.bool false)
  q_skip
  q_skip
  q_skip
  q_skip
  q_vn (.bool false)
  q_c stepG_region_end
  q_cond false
  q_c stepG_skip
  q_c stepG_seq
  q_c stepG_seq
  q_reg
  q_vn (.int .i32 (v:Int))
  q_vn (.bool false)
  q_c stepG_region_end
  q_cond false
  q_c stepG_skip
  q_c stepG_seq
  q_c stepG_seq
  q_reg
  q_vn (.int .u32 1)
  q_vn (.bool true)
  q_vn (.bool true)
  q_vn (.int .i64 (-1))
  q_vn (.bool false)
  q_vn (.bool false)
  q_vn (.bool false)
  q_skip
  q_skip
  q_skip
  q_skip
  q_vn (.bool false)
  q_c stepG_region_end
  q_cond false
  q_c stepG_skip
  q_c stepG_seq
  q_c stepG_seq
  q_reg
  q_vn (.int .i32 (v:Int))
  q_vn (.bool true)
  q_vn (.bool true)
  q_skip
  q_skip
  q_vn (.bool true)
  q_c stepG_region_end
  q_cond true
  q_c stepG_ret'
  q_enable
  q_leave0 H.f_add
  exact quits_mono hT (by omega)
end Go.PB
namespace Go.PB
open Go.Conc Go.Conc.Lib Go.ConcR.Gen
open Go.ConcR (KK stA smA rd wr mk DC0)
set_option maxRecDepth 100000 in
theorem add_goes2 [Go.ConcR.Payload] {P : Program} {L : WgLink} (H : WgLib P L) {Wg : Nat} {b₀ : Frame} {a₀ : Act} {ops₀ : Array Oper} {i₀ : Nat} {rest₀ : List Nat} {k₀ : List Item} {cs : List Frame} {qt : Nat}
  (hT : QuitsD P qt 0 (G (b₀.at (a₀.put ((ops₀[i₀]?).bind (·.dst)) (.tuple #[])) (.inRegion ops₀ rest₀ :: k₀)) cs)) (w : World) (hK : WgLive L.tWg Wg w) :
  Zg P L.tWg Wg (ZR P L.tWg Wg) 20 (G ((Go.Conc.base L.add).at ⟨#[.pointer (some ⟨Wg, 0, none⟩), .int .i64 (-1), undef, undef, undef, undef, undef, undef, undef, undef, undef, undef, undef, undef, undef, undef, undef, undef, undef, undef, undef, undef, undef, undef, undef, undef, undef, undef, undef, undef, undef, undef, undef, undef, undef, undef, undef, undef, undef, undef, undef, undef, undef, undef, undef, undef, undef, undef, undef, undef, undef, undef, undef, undef, undef, undef, undef, undef, undef, undef, undef, undef, undef, undef, undef, undef, undef, undef, undef, undef, undef, undef, undef, undef, undef, undef, undef, undef, undef, undef, undef, undef, undef, undef, undef, undef, undef, undef, undef, undef, undef, undef, undef, undef, undef, undef, undef, undef, undef, undef, undef, undef, undef, undef, undef, undef, undef, undef, undef, undef, undef, undef, undef, undef, undef, undef, undef], []⟩ [.code (body_add L)]) (b₀.at a₀ (.inRegion ops₀ (i₀ :: rest₀) :: k₀) :: cs)) w := by
 have e : (#[.pointer (some ⟨Wg, 0, none⟩), .int .i64 (-1), undef, undef, undef, undef, undef, undef, undef, undef, undef, undef, undef, undef, undef, undef, undef, undef, undef, undef, undef, undef, undef, undef, undef, undef, undef, undef, undef, undef, undef, undef, undef, undef, undef, undef, undef, undef, undef, undef, undef, undef, undef, undef, undef, undef, undef, undef, undef, undef, undef, undef, undef, undef, undef, undef, undef, undef, undef, undef, undef, undef, undef, undef, undef, undef, undef, undef, undef, undef, undef, undef, undef, undef, undef, undef, undef, undef, undef, undef, undef, undef, undef, undef, undef, undef, undef, undef, undef, undef, undef, undef, undef, undef, undef, undef, undef, undef, undef, undef, undef, undef, undef, undef, undef, undef, undef, undef, undef, undef, undef, undef, undef, undef, undef, undef, undef] : Array Value) = #[.pointer (some ⟨Wg, 0, none⟩), .int .i64 (-1)] ++ Array.replicate 115 undef := by kernel_rfl
 rw [e]
 exact add_goes H hT w hK
set_option maxHeartbeats 8000000 in
set_option maxRecDepth 100000 in
theorem done_goes [Go.ConcR.Payload] {P : Program} {L : WgLink} (H : WgLib P L) {Wg : Nat} {c : Frame} {cs : List Frame} {qt : Nat} (hcm : c.mode = .returning) (hT : QuitsD P qt 0 (G c cs)) (w : World) (hK : WgLive L.tWg Wg w) :
  Zg P L.tWg Wg (ZR P L.tWg Wg) 23 (G ((baseD L.done).at ⟨#[.pointer (some ⟨Wg, 0, none⟩), undef, undef, undef], []⟩ [.code (body_done L)]) (c :: cs)) w := by
 lib_facts
 have hA := @add_goes2 _ P L H Wg
 unfold Zg at hA ⊢
 have key : ∀ {w w₁ : World}, WgLive L.tWg Wg w → RL L.tWg Wg w w₁ → WgLive L.tWg Wg w₁ := fun h r => r h
 simp only [body_done, body_add, doneFn, addFn, Option.getD_some] at hA ⊢
 u_reg key hK
 u_op key hK
 u_in key hK
 refine goes_call rfl rfl (by k_ne) rfl H.f_add (nm_add L) rfl ⟨by u_nil, ?_⟩
 walk_nrmf addFn
 refine hA (qt := qt + 3) ?_ _ hK
 q_c stepG_region_end
 q_c stepG_end
 exact QuitsD.leaveD rfl rfl H.f_done rfl hcm hT
theorem done_enter {P : Program} {L : WgLink} (H : WgLib P L) {v : Value} : Frame.enter P L.done #[v] .deferred = (baseD L.done).at ⟨#[v, undef, undef, undef], []⟩ [.code (body_done L)] := by
 simp [Frame.enter, H.f_done, body_done, doneFn]
 rfl
end Go.PB
namespace Go.PB
open Go.Conc Go.Conc.Lib
open Go.ConcR (KK stA smA rd wr mk DC0)
section
variable {P : Program} {main : Bool} {fr : Frame} {cs : List Frame} {o : Oper} {w w' : World}
theorem atOp_step (a : AtOp fr o) : ∃ ops i l k, fr = mkFr ⟨fr.fn, fr.kind⟩ fr.tmps fr.defers (.inRegion ops (i :: l) :: k) ∧ ops[i]? = some o ∧ Region.wanted o (yielded ops fr.tmps) = true ∧ fr.eval = evT fr.tmps := by
 obtain ⟨hm, hr, ops, i, l, k, htd, ho, hw⟩ := a
 refine ⟨ops, i, l, k, ?_, ho, hw, ?_⟩
 ·cases fr; simp only at hm hr htd; subst hm; subst hr; subst htd; rfl
 ·funext q; cases q <;> rfl
theorem step_value {v : Value} {es : Array Event} (a : AtOp fr o) (ne : fr.kind ≠ .early) (hr : (execOp fr.eval o).runT P w #[] = (.ok (.value v) w', es)) :
  stepG P main (G fr cs) w = .go (G (fr.finish v) cs) w' (seen P fr.fn es) := by
 obtain ⟨ops, i, l, k, e, ho, hw, he⟩ := atOp_step a
 have hs := stepG_op (P := P) (main := main) (b := ⟨fr.fn, fr.kind⟩) (t := fr.tmps) (d := fr.defers) (l := l) (k := k) (cs := cs) (w := w) ho hw
 rw [← e] at hs
 rw [hs]
 rw [he] at hr
 have hk : (fr.kind == .early) = false := by cases hx : fr.kind <;> first | rfl | exact absurd hx ne
 have hk' : ((mkFr ⟨fr.fn, fr.kind⟩ fr.tmps fr.defers (.inRegion ops (i :: l) :: k)).kind == .early) = false := hk
 simp only [stepG.apply, if_true, hr, hk, GStep.after, Bool.false_eq_true, if_false, Array.append_empty]
 rfl
theorem step_comm {cases : Array CommCase} {bl : Bool} {sh : CommShape} (a : AtOp fr o) (hr : (execOp fr.eval o).runT P w #[] = (.ok (.comm cases bl sh) w, #[])) :
  stepG P main (G fr cs) w = .comm (G fr cs) cases bl sh w #[] := by
 obtain ⟨ops, i, l, k, e, ho, hw, he⟩ := atOp_step a
 have hs := stepG_op (P := P) (main := main) (b := ⟨fr.fn, fr.kind⟩) (t := fr.tmps) (d := fr.defers) (l := l) (k := k) (cs := cs) (w := w) ho hw
 rw [← e] at hs
 rw [hs]
 rw [he] at hr
 simp only [stepG.apply, if_true, hr, GStep.after, ite_self]
 rfl
theorem step_spawn {d : Deferred} {f : Fn} {cap : Array Value} (hd : d.target = .fn f cap) (a : AtOp fr o) (hr : (execOp fr.eval o).runT P w #[] = (.ok (.spawn d) w, #[])) :
  stepG P main (G fr cs) w = .spawn (G (fr.finish undef) cs) (G (goFr P d) []) w #[] := by
 obtain ⟨ops, i, l, k, e, ho, hw, he⟩ := atOp_step a
 have hs := stepG_op (P := P) (main := main) (b := ⟨fr.fn, fr.kind⟩) (t := fr.tmps) (d := fr.defers) (l := l) (k := k) (cs := cs) (w := w) ho hw
 rw [← e] at hs
 rw [hs]
 rw [he] at hr
 simp only [stepG.apply, if_true, hr, GStep.after, ite_self, hd, Bool.and_false, Bool.false_and, Bool.false_eq_true, if_false]
 rfl
theorem step_block {es : Array Event} (a : AtOp fr o) (hr : (execOp fr.eval o).runT P w #[] = (.halt .blocked w', es)) :
  stepG P main (G fr cs) w = .go { G fr cs with status := .blocked } w' #[] := by
 obtain ⟨ops, i, l, k, e, ho, hw, he⟩ := atOp_step a
 have hs := stepG_op (P := P) (main := main) (b := ⟨fr.fn, fr.kind⟩) (t := fr.tmps) (d := fr.defers) (l := l) (k := k) (cs := cs) (w := w) ho hw
 rw [← e] at hs
 rw [hs]
 rw [he] at hr
 simp only [stepG.apply, if_true, hr, GStep.after, ite_self]
 rfl
end
structure Runs (g : Goroutine) (fr : Frame) (cs : List Frame) : Prop where
 frame : g.frame = fr
 callers : g.callers = cs
 status : g.status = .running
 dying : g.dying = none
structure Parks (g : Goroutine) (fr : Frame) (cs : List Frame) (cases : Array CommCase) (sh : CommShape) : Prop where
 frame : g.frame = fr
 callers : g.callers = cs
 status : g.status = .blocked
 dying : g.dying = none
 offers : g.offers = some (cases, sh)
structure Sleeps (g : Goroutine) (fr : Frame) (cs : List Frame) : Prop where
 frame : g.frame = fr
 callers : g.callers = cs
 status : g.status = .blocked
 dying : g.dying = none
 offers : g.offers = none
theorem Runs.step {P : Program} {main : Bool} {g : Goroutine} {fr : Frame} {cs : List Frame} (r : Runs g fr cs) (w : World) : stepG P main g w = stepG P main (G fr cs) w :=
 stepG_same r.frame r.callers r.dying w
theorem runs_G {fr : Frame} {cs : List Frame} : Runs (G fr cs) fr cs := ⟨rfl, rfl, rfl, rfl⟩
theorem Parks.eq {g : Goroutine} {fr : Frame} {cs : List Frame} {cases : Array CommCase} {sh : CommShape} (p : Parks g fr cs cases sh) : g = parked (G fr cs) cases sh := by
 obtain ⟨h1, h2, h3, h4, h5⟩ := p
 cases g; simp only at h1 h2 h3 h4 h5; subst h1; subst h2; subst h3; subst h4; subst h5; rfl
section
variable (P : Program) (cv : Value) (L : WgLink) (Em : Frame → List Frame → Hp → MX → Prop)
abbrev TN := Node P (tHand cv) false (tEnd P L.done)
abbrev MN := Node P (mHand P cv L.done L.tWg) true Em
inductive Slot : Type 1
 | act (n : TN P cv L)
 | out (k m : Nat)
variable {P cv L}
def SBel : Slot P cv L → Slot P cv L → Prop
 | .act n, .act n' => Relation.TransGen Below n n'
 | .out _ _, .act _ => True
 | .act _, .out _ _ => False
 | .out k m, .out k' m' => k < k' ∨ (k = k' ∧ m < m')
theorem sbel_wf : WellFounded (SBel (P := P) (cv := cv) (L := L)) := by
 have ho : ∀ k m, Acc (SBel (P := P) (cv := cv) (L := L)) (.out k m) := by
  intro k
  induction k using Nat.strongRecOn with
  | _ k ihk =>
   intro m
   induction m using Nat.strongRecOn with
   | _ m ihm =>
    refine ⟨_, fun s hs => ?_⟩
    cases s with
    | act n => exact hs.elim
    | out k' m' =>
     rcases hs with h | ⟨rfl, h⟩
     ·exact ihk k' h m'
     ·exact ihm m' h
 refine ⟨fun s => ?_⟩
 cases s with
 | out k m => exact ho k m
 | act n =>
  induction n using (WellFounded.transGen (below_wf (P := P) (B := tHand cv) (main := false) (E := tEnd P L.done))).induction with
  | _ n ih =>
   refine ⟨_, fun s hs => ?_⟩
   cases s with
   | act n' => exact ih n' hs
   | out k m => exact ho k m
def ZS (P : Program) (ty : TypeId) (Wg : Nat) : Nat → Goroutine → World → Prop
 | 6 => ZR P ty Wg
 | 5 => ZK P ty Wg
 | 4 => Z1 P ty Wg
 | 3 => Z2 P ty Wg
 | 2 => Z3 P ty Wg
 | 1 => Z4 P ty Wg
 | _ => fun _ _ => False
theorem zs_running {P : Program} {ty : TypeId} {Wg k : Nat} {g : Goroutine} {w : World} (h : ZS P ty Wg k g w) : g.status = .running := by
 unfold ZS at h
 split at h <;> first | exact h.1 | exact h.elim
theorem zg_running {P : Program} {ty : TypeId} {Wg k m : Nat} {g : Goroutine} {w : World} (h : Zg P ty Wg (ZS P ty Wg k) m g w) : g.status = .running := by
 unfold Zg at h
 cases m with
 | zero => exact zs_running (h w fun x => x)
 | succ m => exact h.elim (fun h => zs_running (h w fun x => x)) (fun h => h.1)
theorem zg_step {P : Program} {ty : TypeId} {Wg k m : Nat} {g : Goroutine} {w : World} (h : Zg P ty Wg (ZS P ty Wg k) m g w) :
  ZS P ty Wg k g w ∨ ∃ m' g', m = m' + 1 ∧ stepG P false g w = .go g' w #[] ∧ Zg P ty Wg (ZS P ty Wg k) m' g' w := by
 unfold Zg at h
 cases m with
 | zero => exact .inl (h w fun x => x)
 | succ m =>
  rcases h with h | ⟨_, h⟩
  ·exact .inl (h w fun x => x)
  ·right
   have := h w fun x => x
   revert this
   cases e : stepG P false g w <;> simp only [GStep.goes, false_imp_iff]
   rintro ⟨⟨rfl, rfl⟩, q⟩
   exact ⟨m, _, rfl, rfl, q⟩
theorem zg_rely {P : Program} {ty : TypeId} {Wg m : Nat} {S : Goroutine → World → Prop} {g : Goroutine} {w w' : World} (h : Zg P ty Wg S m g w) (r : RL ty Wg w w') : Zg P ty Wg S m g w' :=
 Goes.rely (fun _ _ _ a b x => b (a x)) h r
structure Mem (w : World) (t : Trace) (hp : Nat → Hp) : Prop where
 fits : ∀ i, Fits (hp i) w
 sep : ∀ i j, i ≠ j → Sep (hp i) (hp j)
 nr : ∀ said, ¬ Race said t
 low : Low t w.heap.size
 norel : ∀ op ∈ t, ∀ a, op.act ≠ .mark (.release a)
def put (hp : Nat → Hp) (a : Nat) (h : Hp) : Nat → Hp := fun i => if i = a then h else hp i
theorem put_self {hp : Nat → Hp} {a : Nat} {h : Hp} : put hp a h a = h := by simp [put]
theorem put_ne {hp : Nat → Hp} {a i : Nat} {h : Hp} (hi : i ≠ a) : put hp a h i = hp i := by simp [put, hi]
structure Own (a : Nat) (h : Hp) (w w' : World) (h' : Hp) (u : Trace) : Prop where
 guar : Guar h w w' h'
 g : ∀ op ∈ u, op.g = a
 mine : ∀ op ∈ u, ∀ b, op.act.touch? = some b → Mine h w w'.heap.size b
 plain : ∀ op ∈ u, Plain op
theorem Mem.own {w w' : World} {t u : Trace} {hp : Nat → Hp} {a : Nat} {h' : Hp} (m : Mem w t hp) (o : Own a (hp a) w w' h' u) (k : Kn t (Knows t a) (hp a)) : Mem w' (t ++ u) (put hp a h') where
 fits := fun i => by
  by_cases hi : i = a
  ·subst hi; rw [put_self]; exact o.guar.fits
  ·rw [put_ne hi]; exact fits_other o.guar (m.sep a i fun e => hi e.symm) (m.fits a) (m.fits i)
 sep := fun i j hij => by
  by_cases hi : i = a
  ·subst hi; rw [put_self, put_ne fun e => hij e.symm]; exact sep_other o.guar (m.sep _ _ hij) (m.fits j)
  ·by_cases hj : j = a
   ·subst hj; rw [put_self, put_ne hi]; exact (sep_other o.guar (m.sep _ _ fun e => hij e.symm) (m.fits i)).symm
   ·rw [put_ne hi, put_ne hj]; exact m.sep _ _ hij
 nr := fun said => (kn_step (m.nr said) k m.low o.guar o.g o.mine).1
 low := (kn_step (m.nr false) k m.low o.guar o.g o.mine).2.2
 norel := fun op ho b => by
  rcases Array.mem_append.1 ho with ho | ho
  ·exact m.norel op ho b
  ·intro e; rcases o.plain op ho _ e with h | ⟨f, h⟩ <;> cases h
theorem Mem.mute {w w' : World} {t u : Trace} {hp : Nat → Hp} (m : Mem w t hp) (hf : ∀ i, Fits (hp i) w') (hs : w.heap.size ≤ w'.heap.size) (hm : ∀ op ∈ u, op.act.touch? = none) (hr : ∀ op ∈ u, ∀ a, op.act ≠ .mark (.release a)) : Mem w' (t ++ u) hp :=
 ⟨hf, m.sep, fun said => race_mute (m.nr said) hm, (low_mute m.low hm).mono hs, fun op ho b => (Array.mem_append.1 ho).elim (fun ho => m.norel op ho b) (fun ho => hr op ho b)⟩
theorem counts_old {t u : Trace} {j : Nat} (hj : j < t.size) : (t ++ u).counts j ↔ t.counts j := by
 unfold Trace.counts
 rw [act?_old hj]
 have : (t ++ u).heard j ↔ t.heard j := by
  unfold Trace.heard Trace.g?
  simp only [getElem?_append_old hj, deaf_old (Nat.le_of_lt hj)]
 rw [this]
theorem g?_lt {t : Trace} {j i : Nat} (h : t.g? j = some i) : j < t.size := by
 unfold Trace.g? at h
 obtain ⟨op, ho, _⟩ := Option.map_eq_some_iff.1 h
 exact lt_size_of_getElem? ho
theorem g?_app {t u : Trace} {j : Nat} (h : j < t.size) : (t ++ u).g? j = t.g? j := by unfold Trace.g?; rw [getElem?_append_old h]
theorem g?_new {t u : Trace} {i j : Nat} (hu : ∀ op ∈ u, op.g ≠ i) (h : (t ++ u).g? j = some i) : j < t.size ∧ t.g? j = some i := by
 unfold Trace.g? at h
 obtain ⟨op, ho, hg⟩ := Option.map_eq_some_iff.1 h
 rcases getElem?_append_cases ho with ⟨h1, h2⟩ | ⟨_, h2⟩
 ·exact ⟨h1, by simp [Trace.g?, h2, hg]⟩
 ·exact absurd hg (hu op h2)
def AllK (t : Trace) (i : Nat) (K : Nat → Prop) : Prop := ∀ j, t.g? j = some i → t.counts j → K j
theorem AllK.app {t u : Trace} {i : Nat} {K K' : Nat → Prop} (h : AllK t i K) (hK : ∀ j, K j → K' j) (hu : ∀ op ∈ u, op.g ≠ i) : AllK (t ++ u) i K' := fun j hj hc => by
 obtain ⟨h1, h2⟩ := g?_new hu hj
 exact hK _ (h j h2 ((counts_old h1).1 hc))
structure Rel (t : Trace) (wg i p : Nat) : Prop where
 act : t.act? p = some (.mark (.releaseMerge ⟨wg, 0, none⟩))
 g : t.g? p = some i
 heard : t.heard p
theorem Rel.app {t : Trace} {wg i p : Nat} (r : Rel t wg i p) (u : Trace) : Rel (t ++ u) wg i p := by
 have hp := g?_lt r.g
 refine ⟨by rw [act?_old hp]; exact r.act, by rw [g?_app hp]; exact r.g, ?_⟩
 obtain ⟨g, h1, h2⟩ := r.heard
 exact ⟨g, by rw [g?_app hp]; exact h1, by rw [deaf_old (Nat.le_of_lt hp)]; exact h2⟩
def SlotKn (t : Trace) (wg i : Nat) (h : Hp) : Slot P cv L → Prop
 | .act n => Kn t (Knows t i) h ∧ n.h = h ∧ Deaf t i = 0
 | .out k m => (k = 6 ∧ Kn t (Knows t i) h ∧ Deaf t i = 0) ∨
   (k ≤ 5 ∧ (∃ p, Rel t wg i p ∧ Kn t (fun j => Before t j p) h ∧ AllK t i fun j => Before t j p) ∧ (k = 5 → Deaf t i = 0) ∧ (1 ≤ k → k ≤ 4 → Deaf t i = 1))
theorem SlotKn.app {t u : Trace} {wg i : Nat} {h : Hp} {s : Slot P cv L} (k : SlotKn t wg i h s) (hu : ∀ op ∈ u, op.g ≠ i) (hk : ∀ {K K' : Nat → Prop}, Kn t K h → (∀ j, K j → K' j) → Kn (t ++ u) K' h) : SlotKn (t ++ u) wg i h s := by
 cases s with
 | act n => exact ⟨hk k.1 fun j h => h.app u, k.2.1, by rw [Deaf_others hu]; exact k.2.2⟩
 | out c m =>
  rcases k with ⟨h1, h2, h3⟩ | ⟨h1, ⟨p, h2, h3, h4⟩, h5, h6⟩
  ·exact .inl ⟨h1, hk h2 fun j h => h.app u, by rw [Deaf_others hu]; exact h3⟩
  ·exact .inr ⟨h1, ⟨p, h2.app u, hk h3 fun j h => h.app u, h4.app (fun j h => h.app u) hu⟩, by rw [Deaf_others hu]; exact h5, by rw [Deaf_others hu]; exact h6⟩
structure Old (t : Trace) (i : Nat) (h : Hp) (s : Slot P cv L) : Prop where
 out : ∃ m, s = .out 0 m
 empty : h = Hp.empty
 all : AllK t i (Knows t 0)
theorem Old.app {t u : Trace} {i : Nat} {h : Hp} {s : Slot P cv L} (o : Old t i h s) (hu : ∀ op ∈ u, op.g ≠ i) : Old (t ++ u) i h s := ⟨o.out, o.empty, o.all.app (fun j h => h.app u) hu⟩
end
end Go.PB
namespace Go.PB
open Go.Conc Go.Conc.Lib
open Go.ConcR (KK stA smA rd wr mk DC0)
def Seat.ch {σ θ : Type} (c : Seat σ θ) : Nat → Nat
 | 0 => c.says
 | 1 => c.turn
 | _ => c.fin
def NewG (W0 : World) : MX → Prop
 | .idle => True
 | .game X => W0.heap.size ≤ X.wg ∧ ∀ (j : Nat) (c : Seat X.g.σ X.g.θ) (a : Nat), X.seats[j]? = some c → W0.heap.size ≤ c.ch a
structure Side (w w' : World) : Prop where
 os : w'.os = w.os
 tape : w'.tape = w.tape
 output : w'.output = w.output
 frz : ∀ a, w'.frozen? a = w.frozen? a
theorem Side.refl {w : World} : Side w w := ⟨rfl, rfl, rfl, fun _ => rfl⟩
theorem side_setCell {w : World} {a : Addr} {v : Value} : Side w (w.setCell a v) := ⟨rfl, rfl, rfl, fun a' => frozen_setCell ..⟩
structure Aft (W0 w : World) (hp : Nat → Hp) (x : MX) : Prop where
 after : After W0 w
 own : ∀ i b o v, (hp i).own b o = some v → W0.heap.size ≤ b
 obj : ∀ i b v, (hp i).obj b = some v → W0.heap.size ≤ b
 game : NewG W0 x
section
variable {W0 w w' : World} {hp : Nat → Hp} {x x' : MX} {t u : Trace} {a : Nat} {h' : Hp}
theorem Aft.le (A : Aft W0 w hp x) : W0.heap.size ≤ w.heap.size := A.after.1.size
theorem Aft.own_step (A : Aft W0 w hp x) (o : Own a (hp a) w w' h' u) : Aft W0 w' (put hp a h') x where
 after := ⟨⟨o.guar.os.trans A.after.1.os, o.guar.tape.trans A.after.1.tape, o.guar.output.trans A.after.1.output, Nat.le_trans A.after.1.size o.guar.size, fun i hi => by
  rw [o.guar.block i (Nat.lt_of_lt_of_le hi A.le) (fun o => none_of fun v e => by have := A.own _ _ _ _ e; omega) (none_of fun v e => by have := A.obj _ _ _ e; omega)]
  exact A.after.1.block i hi⟩, fun a => (o.guar.frz a).trans (A.after.2 a)⟩
 own := fun i b k v e => by
  by_cases hi : i = a
  ·subst hi
   rw [put_self] at e
   refine Nat.le_of_not_lt fun hlt => ?_
   have hlt' := Nat.lt_of_lt_of_le hlt A.le
   cases eh : (hp i).own b k with
   | none => rw [o.guar.newo _ _ hlt' eh] at e; cases e
   | some v' => have := A.own _ _ _ _ eh; omega
  ·rw [put_ne hi] at e; exact A.own _ _ _ _ e
 obj := fun i b v e => by
  by_cases hi : i = a
  ·subst hi
   rw [put_self] at e
   refine Nat.le_of_not_lt fun hlt => ?_
   have hlt' := Nat.lt_of_lt_of_le hlt A.le
   cases eh : (hp i).obj b with
   | none => rw [o.guar.newb _ hlt' eh] at e; cases e
   | some v' => have := A.obj _ _ _ eh; omega
  ·rw [put_ne hi] at e; exact A.obj _ _ _ e
 game := A.game
theorem Aft.at_block (A : Aft W0 w hp x) {c : Nat} (hc : W0.heap.size ≤ c) (s : Side w w') (hw : ∀ b, b ≠ c → w'.heap[b]? = w.heap[b]?) (hs : w'.heap.size = w.heap.size) (hx : NewG W0 x') : Aft W0 w' hp x' where
 after := ⟨⟨s.os.trans A.after.1.os, s.tape.trans A.after.1.tape, s.output.trans A.after.1.output, by rw [hs]; exact A.after.1.size, fun i hi => by rw [hw i (by omega)]; exact A.after.1.block i hi⟩, fun a => (s.frz a).trans (A.after.2 a)⟩
 own := A.own
 obj := A.obj
 game := hx
theorem Aft.parts' (A : Aft W0 w hp x) {hp' : Nat → Hp} (h1 : ∀ i b o v, (hp' i).own b o = some v → ∃ k, (hp k).own b o = some v) (h2 : ∀ i b v, (hp' i).obj b = some v → ∃ k, (hp k).obj b = some v) (hx : NewG W0 x') : Aft W0 w hp' x' where
 after := A.after
 own := fun i b o v e => by obtain ⟨k, e⟩ := h1 _ _ _ _ e; exact A.own _ _ _ _ e
 obj := fun i b v e => by obtain ⟨k, e⟩ := h2 _ _ _ e; exact A.obj _ _ _ e
 game := hx
theorem side_chan {ch : Nat} {o : Obj} {c n m : Nat} {bf : Array Value} {cl tm : Bool} (e : w.heap[ch]? = some (.chan c bf cl n m tm)) (ho : isCells o = false) (hos : w'.os = w.os) (ht : w'.tape = w.tape) (hou : w'.output = w.output) (hw : w'.heap = w.heap.setIfInBounds ch o) : Side w w' where
 os := hos
 tape := ht
 output := hou
 frz := fun a => by
  unfold World.frozen?
  rw [hw]
  by_cases h : ch = a.block
  ·subst h
   rw [Array.getElem?_setIfInBounds_self_of_lt (Array.getElem?_eq_some_iff.1 e).1, e]
   cases o <;> simp [isCells] at ho ⊢
  ·rw [Array.getElem?_setIfInBounds_ne h]
end
end Go.PB
namespace Go.PB
open Go.Conc Go.Conc.Lib
open Go.ConcR (KK stA smA rd wr mk DC0)
variable {W0 : World} {P : Program} {cv : Value} {L : WgLink} {Em : Frame → List Frame → Hp → MX → Prop}
def SeatSt.isShut {σ θ : Type} : SeatSt σ θ → Bool
 | .shut _ => true
 | _ => false
def SeatSt.isRun {σ θ : Type} : SeatSt σ θ → Bool
 | .run _ _ => true
 | _ => false
inductive PhOk {g : Game} (left : Nat) : SeatSt g.σ g.θ → Ph g.σ g.θ → Prop
 | run {s q n} (h : left ≤ n) : PhOk left (.run s q) (.busy s q n)
 | said {q n} (h : left ≤ n) (hp : (g.plan q).isSome = true) : PhOk left (.said q) (.said q n)
 | over {q} (hp : g.plan q = none) : PhOk left (.said q) (.over q)
 | shutS {q n} (hp : (g.plan q).isSome = true) : PhOk left (.shut q) (.said q n)
 | shutO {q} : PhOk left (.shut q) (.over q)
 | shutC {q} : PhOk left (.shut q) (.cut q)
def SlotG (w : World) (wg d : Nat) (g : Goroutine) : Slot P cv L → Prop
 | .act n => Runs g n.fr n.cs ∨ ∃ cases sh, Parks g n.fr n.cs cases sh ∧ ∃ fr cs h x o bl O at_ rr a k, n = ⟨fr, cs, h, x, .comm o cases bl sh O at_ rr a k⟩
 | .out 0 m => QuitsD P m d g
 | .out (k + 1) m => Zg P L.tWg wg (ZS P L.tWg wg (k + 1)) m g w
def SeatAt (X : GX) (c : Seat X.g.σ X.g.θ) (h : Hp) : Slot P cv L → Prop
 | .act n => ∃ ph, n.x = ⟨X.g, c.says, c.turn, c.fin, X.wg, ph⟩ ∧ PhOk X.left c.st ph
 | .out k m => k ≤ 6 ∧ ∃ q, ((c.st = .said q ∧ X.g.plan q = none) ∨ c.st = .shut q) ∧ Star [X.g.Fin q] h
def Slot.stage : Slot P cv L → Nat
 | .act _ => 7
 | .out k _ => k
inductive WgPh (L : WgLink) (X : GX) (st : List Nat) (w : World) : Prop
 | quiet (v wt : Nat) (at_ : WgAt L.tWg X.wg w (v * KK + wt) 0) (hv : v + X.seats.length = (st.filter fun k => decide (4 ≤ k)).length + X.ad) (late : ∀ k ∈ st, k = 0 ∨ 4 ≤ k)
   (hw : wt = match X.wt with | .parked => 1 | _ => 0) (park : X.wt = .parked → 0 < v)
   (b : match X.wt with | .wait b => v ≤ b | .seen v0 => v ≤ v0 | .woken => v = 0 | .zero => v = 0 | _ => True)
 | late (p : X.wt = .parked) (i k : Nat) (hi : st[i]? = some k) (hk : k = 3 ∨ k = 2) (at_ : WgAt L.tWg X.wg w 1 0) (oth : ∀ j k, st[j]? = some k → j ≠ i → k = 0)
 | late1 (p : X.wt = .parked) (i : Nat) (hi : st[i]? = some 1) (at_ : WgAt L.tWg X.wg w 0 0) (oth : ∀ j k, st[j]? = some k → j ≠ i → k = 0)
 | free (p : X.wt = .parked) (at_ : WgAt L.tWg X.wg w 0 1) (oth : ∀ k ∈ st, k = 0)
abbrev St (X : GX) := Seat X.g.σ X.g.θ
structure GameAt (X : GX) (gs : Array Goroutine) (w : World) (t : Trace) (sl : List (Slot P cv L)) (hp : Nat → Hp) (nb : Nat) : Prop where
 len : sl.length = nb + X.seats.length
 old : ∀ (i : Nat) (s : Slot P cv L), i < nb → sl[i]? = some s → Old t (i + 1) (hp (i + 1)) s
 seat : ∀ (j : Nat) (c : St X), X.seats[j]? = some c → ∃ s, sl[nb + j]? = some s ∧ SeatAt X c (hp (nb + j + 1)) s
 know : ∀ (j : Nat) (s : Slot P cv L), sl[nb + j]? = some s → SlotKn t X.wg (nb + j + 1) (hp (nb + j + 1)) s
 chan : ∀ (j : Nat) (c : St X), X.seats[j]? = some c → ∀ a, a < 3 → ∃ n, w.heap[c.ch a]? = some (Obj.chan 0 #[] (decide (a = 2) && c.st.isShut) n n false)
 dist : ∀ (j j' : Nat) (c c' : St X) (a a' : Nat), X.seats[j]? = some c → X.seats[j']? = some c' → a < 3 → a' < 3 → c.ch a = c'.ch a' → j = j' ∧ a = a'
 noch : ∀ (i j : Nat) (c : St X) (a : Nat), X.seats[j]? = some c → a < 3 → (hp i).obj (c.ch a) = none
 nowg : ∀ i o, (hp i).own X.wg o = none ∧ (hp i).ro X.wg o = none
 wg : WgPh L X (sl.map Slot.stage) w
 wgt : ∀ (i : Nat) (a : Touch) (o : Nat), o < 2 → touchAt t i = some a → a.loc = .cell ⟨X.wg, o, none⟩ →
  (a.kind ≠ .plain ∧ (a.kind = .said → t.g? i = some 0)) ∨ (Knows t 0 i ∧ ∀ (j : Nat) (c : St X), X.seats[j]? = some c → Knows t (nb + j + 1) i)
 deaf : Deaf t 0 = if X.deaf then 1 else 0
 tok0 : X.tok = none → ∃ (j : Nat) (c : St X), X.seats[j]? = some c ∧ c.st.isRun = true ∧ ∀ (j' : Nat) (c' : St X), X.seats[j']? = some c' → j' ≠ j → c'.st.isRun = false
 tok1 : X.tok.isSome = true → ∀ (j : Nat) (c : St X), X.seats[j]? = some c → c.st.isRun = false
 adp : X.wt = .play → X.ad = X.seats.length ∨ (X.ad = X.seats.length + 1 ∧ X.tok.isSome = true)
 ads : X.wt ≠ .play → X.ad = X.seats.length ∧ ∀ (j : Nat) (c : St X), X.seats[j]? = some c → c.st.isShut = true
 adl : X.ad ≤ 1000
 live : ∀ (j : Nat) (c : St X) (g : Goroutine), X.seats[j]? = some c → gs[nb + j + 1]? = some g → c.st.isShut = true → g.status ≠ .blocked
 park : ∀ (g0 : Goroutine) (cases : Array CommCase) (sh : CommShape), gs[0]? = some g0 → g0.status = .blocked → g0.offers = some (cases, sh) → ∃ (j : Nat) (c : St X), X.seats[j]? = some c ∧ X.wt = .play ∧
   ((∃ z, cases = #[rcase c.says z]) ∨ (∃ v z, cases = #[scase c.turn v z])) ∧ ∀ (g : Goroutine), gs[nb + j + 1]? = some g → g.status ≠ .blocked
 sleep : ∀ (g0 : Goroutine), gs[0]? = some g0 → g0.status = .blocked → g0.offers = none → X.wt = .parked ∧ ¬ WgAt L.tWg X.wg w 0 1
 cht : ∀ (j : Nat) (c : St X) (a i : Nat) (b : Touch), X.seats[j]? = some c → a < 3 → touchAt t i = some b → b.loc = .obj (c.ch a) → Knows t 0 i
structure IdleAt (t : Trace) (sl : List (Slot P cv L)) (hp : Nat → Hp) (gs : Array Goroutine) : Prop where
 old : ∀ (i : Nat) (s : Slot P cv L), sl[i]? = some s → Old t (i + 1) (hp (i + 1)) s
 deaf : Deaf t 0 = 0
 runs : ∀ (g0 : Goroutine), gs[0]? = some g0 → g0.status ≠ .blocked
def MainG (g : Goroutine) (n : MN P cv L Em) : Prop :=
 Runs g n.fr n.cs ∨ (∃ cases sh, Parks g n.fr n.cs cases sh ∧ ∃ fr cs h x o bl O at_ rr a k, n = ⟨fr, cs, h, x, .comm o cases bl sh O at_ rr a k⟩) ∨
  (Sleeps g n.fr n.cs ∧ ∃ fr cs h x o O at_ ne a k, n = ⟨fr, cs, h, x, .act o O at_ ne a k⟩)
structure Cfg (W0 : World) (gs : Array Goroutine) (w : World) (t : Trace) (M : MN P cv L Em) (sl : List (Slot P cv L)) (hp : Nat → Hp) : Prop where
 size : gs.size = sl.length + 1
 main : ∃ g, gs[0]? = some g ∧ MainG g M
 thr : ∀ i s, sl[i]? = some s → ∃ g, gs[i + 1]? = some g ∧ SlotG w (match M.x with | .game X => X.wg | .idle => 0) (Deaf t (i + 1)) g s
 mem : Mem w t hp
 aft : Aft W0 w hp M.x
 hp0 : hp 0 = M.h
 hpn : ∀ i, sl.length < i → hp i = Hp.empty
 tg : ∀ (i : Nat) (op : MemOp), t[i]? = some op → op.g ≤ sl.length
 kn0 : Kn t (Knows t 0) (hp 0)
 game : match M.x with
  | .idle => IdleAt t sl hp gs
  | .game X => ∃ nb, GameAt X gs w t sl hp nb
end Go.PB
namespace Go.PB
open Go.Conc Go.Conc.Lib
open Go.ConcR (KK stA smA rd wr mk DC0)
variable {W0 : World} {P : Program} {cv : Value} {L : WgLink} {Em : Frame → List Frame → Hp → MX → Prop}
theorem woken_cases (g g' : Goroutine) (w' : World) (o : Goroutine) : woken P g g' w' o = o ∨ (woken P g g' w' o = { o with status := .running } ∧ (o.status = .blocked ∨ o.status = .waiting)) := by
 unfold woken
 split
 ·unfold Goroutine.again
  split
  ·rename_i h1 h2
   simp only
   split
   ·exact .inr ⟨rfl, .inl h1⟩
   ·exact .inl rfl
  ·rename_i h1 h2; exact .inr ⟨rfl, .inl h1⟩
  ·rename_i h1; exact .inr ⟨rfl, .inr h1⟩
  ·exact .inl rfl
 ·exact .inl rfl
theorem woken_blocked {g g' : Goroutine} {w' : World} {o : Goroutine} (h : (woken P g g' w' o).status = .blocked) : woken P g g' w' o = o := by
 rcases woken_cases (P := P) g g' w' o with e | ⟨e, _⟩
 ·exact e
 ·rw [e] at h; cases h
theorem woken_run {g g' : Goroutine} {w' : World} {o : Goroutine} (h : o.status = .running) : woken P g g' w' o = o := by
 rcases woken_cases (P := P) g g' w' o with e | ⟨e, h' | h'⟩
 ·exact e
 ·rw [h] at h'; cases h'
 ·rw [h] at h'; cases h'
theorem woken_fin {g g' : Goroutine} {w' : World} {o : Goroutine} (h : o.status = .running ∨ o.status = .finished) : woken P g g' w' o = o := by
 rcases woken_cases (P := P) g g' w' o with e | ⟨e, h' | h'⟩
 ·exact e
 ·rcases h with h | h <;> (rw [h] at h'; cases h')
 ·rcases h with h | h <;> (rw [h] at h'; cases h')
theorem SlotG.woken {w w' : World} {wg d : Nat} {g g' o : Goroutine} {s : Slot P cv L} (h : SlotG w wg d o s) (r : RL L.tWg wg w w') : SlotG w' wg d (woken P g g' w' o) s := by
 cases s with
 | act n =>
  rcases h with h | ⟨cases, sh, h, hx⟩
  ·exact .inl (by rw [woken_run h.status]; exact h)
  ·rcases woken_cases (P := P) g g' w' o with e | ⟨e, _⟩
   ·exact .inr ⟨cases, sh, by rw [e]; exact h, hx⟩
   ·exact .inl (by rw [e]; exact ⟨h.frame, h.callers, rfl, h.dying⟩)
 | out k m =>
  cases k with
  | zero => show QuitsD P m d _; rw [woken_fin (QuitsD.status h)]; exact h
  | succ k => show Zg P L.tWg wg _ m _ w'; rw [woken_run (zg_running h)]; exact zg_rely h r
theorem MainG.woken {w' : World} {g g' o : Goroutine} {n : MN P cv L Em} (h : MainG o n) : MainG (woken P g g' w' o) n := by
 rcases woken_cases (P := P) g g' w' o with e | ⟨e, hb⟩
 ·rw [e]; exact h
 ·rw [e]
  rcases h with h | ⟨_, _, h, _⟩ | ⟨h, _⟩
  ·exact .inl ⟨h.frame, h.callers, rfl, h.dying⟩
  ·exact .inl ⟨h.frame, h.callers, rfl, h.dying⟩
  ·exact .inl ⟨h.frame, h.callers, rfl, h.dying⟩
structure Gs (P : Program) (a : Nat) (gs gs' : Array Goroutine) (g' : Goroutine) : Prop where
 size : gs'.size = gs.size
 self : gs'[a]? = some g'
 other : ∀ (i : Nat) (g : Goroutine), i ≠ a → gs[i]? = some g → ∃ x x' w, gs'[i]? = some (woken P x x' w g)
 back : ∀ (i : Nat) (g : Goroutine), i ≠ a → gs'[i]? = some g → g.status = .blocked → gs[i]? = some g
theorem gs_go {a : Nat} {gs : Array Goroutine} {g g' : Goroutine} {w' : World} (h : gs[a]? = some g) : Gs P a gs ((gs.map (woken P g g' w')).setIfInBounds a g') g' := by
 have hlt := (Array.getElem?_eq_some_iff.1 h).1
 refine ⟨by simp, by simp [hlt], fun i o hi ho => ⟨g, g', w', ?_⟩, fun i o hi ho hb => ?_⟩
 ·rw [Array.getElem?_setIfInBounds_ne fun e => hi e.symm, Array.getElem?_map, ho]; rfl
 ·rw [Array.getElem?_setIfInBounds_ne fun e => hi e.symm, Array.getElem?_map] at ho
  obtain ⟨o', h1, h2⟩ := Option.map_eq_some_iff.1 ho
  subst h2
  rw [woken_blocked hb]; exact h1
theorem own_chan {w w' : World} {h h' : Hp} {b : Nat} {ob : Obj} (g : Guar h w w' h') (f : Fits h w) (hn : h.obj b = none) (hc : isCells ob = false) (e : w.heap[b]? = some ob) : w'.heap[b]? = some ob := by
 rw [g.block b (Array.getElem?_eq_some_iff.1 e).1 (fun o => none_of fun v hv => ?_) hn]
 ·exact e
 ·have h1 := f.own _ _ _ hv
  unfold World.cell? at h1
  simp only [e] at h1
  cases ob <;> simp [isCells] at h1 hc
theorem own_wg {w w' : World} {h h' : Hp} {ty : TypeId} {wg : Nat} {st sm : Int} (g : Guar h w w' h') (f : Fits h w) (hn : ∀ o, h.own wg o = none ∧ h.ro wg o = none) (e : WgAt ty wg w st sm) : WgAt ty wg w' st sm := by
 refine e.of_heap ?_
 obtain ⟨fz, e, _⟩ := e
 rw [g.block wg (Array.getElem?_eq_some_iff.1 e).1 (fun o => (hn o).1) (none_of fun v hv => ?_)]
 ·have h1 := f.obj _ _ hv
  rw [e] at h1; cases h1
  have := f.objn _ _ hv
  simp [isCells] at this
theorem WgPh.at {X : GX} {st : List Nat} {w w' : World} (p : WgPh L X st w) (h : ∀ a b, WgAt L.tWg X.wg w a b → WgAt L.tWg X.wg w' a b) : WgPh L X st w' := by
 cases p with
 | quiet v wt a hv late hw park b => exact .quiet v wt (h _ _ a) hv late hw park b
 | late p i k hi hk a oth => exact .late p i k hi hk (h _ _ a) oth
 | late1 p i hi a oth => exact .late1 p i hi (h _ _ a) oth
 | free p a oth => exact .free p (h _ _ a) oth
theorem WgPh.ex {X : GX} {st : List Nat} {w : World} (p : WgPh L X st w) : ∃ a b, WgAt L.tWg X.wg w a b := by
 cases p with
 | quiet v wt a => exact ⟨_, _, a⟩
 | late p i k hi hk a => exact ⟨_, _, a⟩
 | late1 p i hi a => exact ⟨_, _, a⟩
 | free p a => exact ⟨_, _, a⟩
theorem wgAt_lt {ty : TypeId} {wg : Nat} {w : World} {a b : Int} (h : WgAt ty wg w a b) : wg < w.heap.size := by obtain ⟨_, h, _⟩ := h; exact (Array.getElem?_eq_some_iff.1 h).1
structure Sl (a : Nat) (sl sl' : List (Slot P cv L)) (h' : Hp) : Prop where
 len : sl'.length = sl.length
 other : ∀ j, j + 1 ≠ a → sl'[j]? = sl[j]?
 self : ∀ j, j + 1 = a → ∃ n n' : TN P cv L, sl[j]? = some (.act n) ∧ sl'[j]? = some (.act n') ∧ n'.x = n.x ∧ n'.h = h'
theorem Sl.stages {a : Nat} {sl sl' : List (Slot P cv L)} {h' : Hp} (s : Sl a sl sl' h') : sl'.map Slot.stage = sl.map Slot.stage := by
 apply List.ext_getElem?
 intro j
 simp only [List.getElem?_map]
 by_cases hj : j + 1 = a
 ·obtain ⟨n, n', h1, h2, _⟩ := s.self j hj
  rw [h1, h2]; rfl
 ·rw [s.other j hj]
theorem GameAt.own {X : GX} {gs gs' : Array Goroutine} {w w' : World} {t u : Trace} {sl sl' : List (Slot P cv L)} {hp : Nat → Hp} {nb a : Nat} {h' : Hp} {g' : Goroutine}
  (G : GameAt X gs w t sl hp nb) (m : Mem w t hp) (o : Own a (hp a) w w' h' u) (k : Kn t (Knows t a) (hp a)) (q : Gs P a gs gs' g') (s : Sl a sl sl' h') (hr : g'.status ≠ .blocked) : GameAt X gs' w' (t ++ u) sl' (put hp a h') nb := by
 have hwg := G.wg.ex
 obtain ⟨wa, wb, hwa⟩ := hwg
 have hnew : ∀ i a' o', touchAt (t ++ u) i = some a' → a'.loc = .cell ⟨X.wg, o', none⟩ → touchAt t i = some a' := fun i a' o' ha hl => by
  rcases touch_split ha with ha | ⟨op, ho, _, hb⟩
  ·exact ha
  ·exfalso
   rcases o.mine op ho a' hb with ⟨bl, o2, h1, _, h3⟩ | ⟨r, h1, _⟩
   ·rw [h1] at hl; cases hl
    have := G.nowg a o'
    rcases h3 with h3 | h3 | ⟨_, h3⟩
    ·have := wgAt_lt hwa; omega
    ·rw [this.1] at h3; cases h3
    ·rw [this.2] at h3; cases h3
   ·rw [h1] at hl; cases hl
 have hna : ∀ i, i ≠ a → ∀ op ∈ u, op.g ≠ i := fun i hi op ho e => hi (by rw [← e, o.g op ho])
 refine ⟨by rw [s.len]; exact G.len, fun i c hi hc => ?_, fun j c hc => ?_, fun j c hc => ?_, fun j c hc b hb => ?_, G.dist, fun i j c b hc hb => ?_, fun i b => ?_, ?_, fun i b o' ho2 hb hl => ?_, ?_, G.tok0, G.tok1, G.adp, G.ads, G.adl, fun j c g hc hg hs hb => ?_, fun g0 cases sh hg hb ho => ?_, fun g0 hg hb ho => ?_, fun j c b i x hc hb hx hl => ?_⟩
 ·by_cases ha : i + 1 = a
  ·obtain ⟨n, n', h1, _⟩ := s.self i ha
   obtain ⟨m', e⟩ := (G.old i _ hi h1).out
   cases e
  ·rw [s.other i ha] at hc
   rw [put_ne ha]
   exact (G.old i c hi hc).app (hna _ ha)
 ·obtain ⟨sx, h1, h2⟩ := G.seat j c hc
  by_cases ha : nb + j + 1 = a
  ·obtain ⟨n, n', h3, h4, h5, h6⟩ := s.self _ ha
   rw [h1] at h3; cases h3
   exact ⟨_, h4, by
    obtain ⟨ph, e1, e2⟩ := h2
    exact ⟨ph, h5.trans e1, e2⟩⟩
  ·exact ⟨sx, by rw [s.other _ ha]; exact h1, by rw [put_ne ha]; exact h2⟩
 ·by_cases ha : nb + j + 1 = a
  ·obtain ⟨n, n', h3, h4, h5, h6⟩ := s.self _ ha
   rw [h4] at hc; cases hc
   have hk := G.know j _ h3
   subst ha
   rw [put_self]
   exact ⟨(kn_step (m.nr false) k m.low o.guar o.g o.mine).2.1, h6, by rw [Deaf_plain o.plain]; exact hk.2.2⟩
  ·rw [s.other _ ha] at hc
   rw [put_ne ha]
   exact (G.know j c hc).app (hna _ ha) fun kk hK => kn_other kk (fun j hj => hK j hj) (m.sep a _ fun e => ha e.symm) (m.fits _) o.mine
 ·obtain ⟨n, e⟩ := G.chan j c hc b hb
  exact ⟨n, own_chan o.guar (m.fits a) (G.noch a j c b hc hb) rfl e⟩
 ·by_cases ha : i = a
  ·subst ha
   obtain ⟨n, e⟩ := G.chan j c hc b hb
   rw [put_self]
   exact o.guar.newb _ (Array.getElem?_eq_some_iff.1 e).1 (G.noch i j c b hc hb)
  ·rw [put_ne ha]; exact G.noch i j c b hc hb
 ·by_cases ha : i = a
  ·subst ha
   rw [put_self]
   exact ⟨o.guar.newo _ _ (wgAt_lt hwa) (G.nowg i b).1, o.guar.newr _ _ (wgAt_lt hwa) (G.nowg i b).1 (G.nowg i b).2⟩
  ·rw [put_ne ha]; exact G.nowg i b
 ·rw [s.stages]
  exact G.wg.at fun x y hxy => own_wg o.guar (m.fits a) (G.nowg a) hxy
 ·have hb' := hnew i b o' hb hl
  rcases G.wgt i b o' ho2 hb' hl with this | ⟨k0, k1⟩
  ·refine .inl ⟨this.1, fun hs => ?_⟩
   have h1 := this.2 hs
   rw [g?_app (g?_lt h1)]; exact h1
  ·exact .inr ⟨k0.app u, fun j c hj => (k1 j c hj).app u⟩
 ·rw [Deaf_plain o.plain]; exact G.deaf
 ·by_cases ha : nb + j + 1 = a
  ·subst ha; rw [q.self] at hg; cases hg; exact hr hb
  ·exact G.live j c g hc (q.back _ _ ha hg hb) hs hb
 ·by_cases ha : 0 = a
  ·subst ha; rw [q.self] at hg; cases hg; exact absurd hb hr
  ·obtain ⟨j, c, h1, h2, h3, h4⟩ := G.park g0 cases sh (q.back _ _ ha hg hb) hb ho
   refine ⟨j, c, h1, h2, h3, fun g hg2 hb2 => ?_⟩
   by_cases ha2 : nb + j + 1 = a
   ·subst ha2; rw [q.self] at hg2; cases hg2; exact hr hb2
   ·exact h4 g (q.back _ _ ha2 hg2 hb2) hb2
 ·by_cases ha : 0 = a
  ·subst ha; rw [q.self] at hg; cases hg; exact absurd hb hr
  ·have := G.sleep g0 (q.back _ _ ha hg hb) hb ho
   refine ⟨this.1, fun hx => this.2 ?_⟩
   have hz := own_wg o.guar (m.fits a) (G.nowg a) hwa
   have := WgAt.unique hz hx
   rw [this.1, this.2] at hwa; exact hwa
 ·rcases touch_split hx with hx | ⟨op, ho, _, h2⟩
  ·exact (G.cht j c b i x hc hb hx hl).app u
  ·exfalso
   obtain ⟨n, e⟩ := G.chan j c hc b hb
   rcases o.mine op ho x h2 with ⟨bl, o2, h1, _⟩ | ⟨r, h1, _, h3⟩
   ·rw [h1] at hl; cases hl
   ·rw [h1] at hl; cases hl
    rcases h3 with h3 | h3
    ·have := (Array.getElem?_eq_some_iff.1 e).1; omega
    ·rw [G.noch a j c b hc hb] at h3; cases h3
end Go.PB
namespace Go.PB
open Go.Conc Go.Conc.Lib
open Go.ConcR (KK stA smA rd wr mk DC0)
variable {W0 : World} {P : Program} {cv : Value} {L : WgLink} {Em : Frame → List Frame → Hp → MX → Prop}
theorem own_of_events {a : Nat} {h h' : Hp} {w w' : World} {fn : FuncId} {pos : String} {es : Array Event} (g : Guar h w w' h') (he : ∀ e ∈ es, EvOk Still h w w'.heap.size e) : Own a h w w' h' (MemOp.ofEvents a fn pos es) where
 guar := g
 g := fun op ho => by obtain ⟨e, _, rfl⟩ := ofEvents_mem ho; rfl
 mine := fun op ho b hb => by obtain ⟨e, h1, rfl⟩ := ofEvents_mem ho; exact (mine_of_event (fun _ x => x) (he e h1)).2 b hb
 plain := fun op ho m hm => by obtain ⟨e, h1, rfl⟩ := ofEvents_mem ho; exact (mine_of_event (fun _ x => x) (he e h1)).1 m hm
theorem slot_woken {w w' w2 : World} {wg d d' : Nat} {g g' o : Goroutine} {s : Slot P cv L} (hd : d' = d) (r : RL L.tWg wg w w') (hs : SlotG w wg d o s) : SlotG w' wg d' (woken P g g' w2 o) s := by
 subst hd
 cases s with
 | act n =>
  rcases hs with h | ⟨cases, sh, h, hx⟩
  ·exact .inl (by rw [woken_run h.status]; exact h)
  ·rcases woken_cases (P := P) g g' w2 o with e | ⟨e, _⟩
   ·exact .inr ⟨cases, sh, by rw [e]; exact h, hx⟩
   ·exact .inl (by rw [e]; exact ⟨h.frame, h.callers, rfl, h.dying⟩)
 | out k m =>
  cases k with
  | zero => show QuitsD P m d' _; rw [woken_fin (QuitsD.status hs)]; exact hs
  | succ k => show Zg P L.tWg wg _ m _ w'; rw [woken_run (zg_running hs)]; exact zg_rely hs r
theorem old_woken {w w' w2 : World} {wg d d' : Nat} {g g' o : Goroutine} {t : Trace} {i : Nat} {h : Hp} {s : Slot P cv L} (ol : Old t i h s) (hd : d' = d) (hs : SlotG w wg d o s) : SlotG w' wg d' (woken P g g' w2 o) s := by
 obtain ⟨m, rfl⟩ := ol.out
 subst hd
 show QuitsD P m d' _
 rw [woken_fin (QuitsD.status hs)]; exact hs
theorem Cfg.own {gs gs' : Array Goroutine} {w w' : World} {t u : Trace} {M M' : MN P cv L Em} {sl sl' : List (Slot P cv L)} {hp : Nat → Hp} {a : Nat} {h' : Hp} {fr' : Frame} {cs' : List Frame}
  (c : Cfg W0 gs w t M sl hp) (ha : a ≤ sl.length) (o : Own a (hp a) w w' h' u) (kn : Kn t (Knows t a) (hp a)) (q : Gs P a gs gs' (G fr' cs')) (s : Sl a sl sl' h') (hx : M'.x = M.x) (hh : M'.h = put hp a h' 0)
  (hm : a ≠ 0 → M' = M) (hm0 : a = 0 → M'.fr = fr' ∧ M'.cs = cs') (hs : ∀ j n', j + 1 = a → sl'[j]? = some (.act n') → n'.fr = fr' ∧ n'.cs = cs') : Cfg W0 gs' w' (t ++ u) M' sl' (put hp a h') where
 size := by rw [q.size, s.len]; exact c.size
 main := by
  by_cases h0 : a = 0
  ·subst h0
   obtain ⟨e1, e2⟩ := hm0 rfl
   exact ⟨_, q.self, .inl (by rw [e1, e2]; exact runs_G)⟩
  ·rw [hm h0]
   obtain ⟨g, h1, h2⟩ := c.main
   obtain ⟨x, x', w2, h3⟩ := q.other 0 g (fun e => h0 e.symm) h1
   exact ⟨_, h3, h2.woken⟩
 thr := fun i sx hi => by
  by_cases hia : i + 1 = a
  ·obtain ⟨n, n', h1, h2, h3, h4⟩ := s.self i hia
   rw [h2] at hi; cases hi
   obtain ⟨e1, e2⟩ := hs i n' hia h2
   exact ⟨_, by rw [hia]; exact q.self, .inl (by rw [e1, e2]; exact runs_G)⟩
  ·rw [s.other i hia] at hi
   obtain ⟨g, h1, h2⟩ := c.thr i sx hi
   obtain ⟨x, x', w2, h3⟩ := q.other (i + 1) g hia h1
   refine ⟨_, h3, ?_⟩
   have hd : Deaf (t ++ u) (i + 1) = Deaf t (i + 1) := Deaf_others fun op ho e => hia (by rw [← e, o.g op ho])
   have hgame := c.game
   rw [hx]
   cases hM : M.x with
   | idle => rw [hM] at hgame h2; exact old_woken (hgame.old i sx hi) hd h2
   | game X =>
    rw [hM] at hgame h2
    obtain ⟨nb, hG⟩ := hgame
    obtain ⟨p1, p2, hp'⟩ := hG.wg.ex
    exact slot_woken hd (fun _ => ⟨_, _, own_wg o.guar (c.mem.fits a) (hG.nowg a) hp'⟩) h2
 mem := c.mem.own o kn
 aft := by rw [hx]; exact c.aft.own_step o
 hp0 := hh.symm
 hpn := fun i hi => by
  rw [s.len] at hi
  rw [put_ne (by omega)]; exact c.hpn i hi
 tg := fun i op hi => by
  rw [s.len]
  rcases getElem?_append_cases hi with ⟨_, h⟩ | ⟨_, h⟩
  ·exact c.tg i op h
  ·rw [o.g op h]; exact ha
 kn0 := by
  by_cases h0 : a = 0
  ·subst h0; rw [put_self]; exact (kn_step (c.mem.nr false) kn c.mem.low o.guar o.g o.mine).2.1
  ·rw [put_ne fun e => h0 e.symm]
   exact kn_other c.kn0 (fun j hj => hj.app u) (c.mem.sep a 0 h0) (c.mem.fits 0) o.mine
 game := by
  have hgame := c.game
  rw [hx]
  cases hM : M.x with
  | idle =>
   rw [hM] at hgame
   refine ⟨fun i sx hi => ?_, by rw [Deaf_plain o.plain]; exact hgame.deaf, fun g0 hg hb => ?_⟩
   ·by_cases hia : i + 1 = a
    ·obtain ⟨n, n', h1, h2, h3, h4⟩ := s.self i hia
     obtain ⟨m', e⟩ := (hgame.old i _ h1).out
     cases e
    ·rw [s.other i hia] at hi
     rw [put_ne hia]
     exact (hgame.old i sx hi).app fun op ho e => hia (by rw [← e, o.g op ho])
   ·by_cases h0 : 0 = a
    ·subst h0; rw [q.self] at hg; cases hg; cases hb
    ·exact hgame.runs g0 (q.back _ _ h0 hg hb) hb
  | game X =>
   rw [hM] at hgame
   obtain ⟨nb, hG⟩ := hgame
   exact ⟨nb, hG.own c.mem o kn q s (by intro e; cases e)⟩
theorem cfg_priv0 {gs : Array Goroutine} {w : World} {t : Trace} {fr : Frame} {cs : List Frame} {h : Hp} {x : MX} {r : Run P (mHand P cv L.done L.tWg) true Em fr cs h x} {sl : List (Slot P cv L)} {hp : Nat → Hp} {g : Goroutine} {sc : Option (Nat × Nat)}
  (c : Cfg W0 gs w t (⟨fr, cs, h, x, r⟩ : MN P cv L Em) sl hp) (hg : gs[0]? = some g) (hr : Runs g fr cs) (nx : Nx P Still true fr cs h w) (r' : Run P (mHand P cv L.done L.tWg) true Em nx.fr' nx.cs' nx.h' x) :
  ∃ gs' ops, runT P (crowd gs w sc) 0 = (.next (crowd gs' nx.w' sc), ops) ∧ Cfg W0 gs' nx.w' (t ++ ops) (⟨nx.fr', nx.cs', nx.h', x, r'⟩ : MN P cv L Em) sl (put hp 0 nx.h') := by
 have hst : stepG P ((0 : Nat) == 0) g w = .go (G nx.fr' nx.cs') nx.w' nx.es := by rw [hr.step]; exact nx.step
 have h0 : hp 0 = h := c.hp0
 refine ⟨_, _, runT_crowd_go hg hst, ?_⟩
 refine Cfg.own c (Nat.zero_le _) (by rw [h0]; exact own_of_events nx.guar nx.evs) c.kn0 (gs_go hg) ⟨rfl, fun j _ => rfl, fun j hj => by omega⟩ rfl (by rw [put_self]) (fun e => absurd rfl e) (fun _ => ⟨rfl, rfl⟩) (fun j n' hj => by omega)
theorem cfg_priv1 {gs : Array Goroutine} {w : World} {t : Trace} {M : MN P cv L Em} {sl : List (Slot P cv L)} {hp : Nat → Hp} {g : Goroutine} {sc : Option (Nat × Nat)} {i : Nat} {fr : Frame} {cs : List Frame} {h : Hp} {x : TX} {r : Run P (tHand cv) false (tEnd P L.done) fr cs h x}
  (c : Cfg W0 gs w t M sl hp) (hi : sl[i]? = some (.act ⟨fr, cs, h, x, r⟩)) (hg : gs[i + 1]? = some g) (hr : Runs g fr cs) (nx : Nx P Still false fr cs h w) (r' : Run P (tHand cv) false (tEnd P L.done) nx.fr' nx.cs' nx.h' x) :
  ∃ gs' ops, runT P (crowd gs w sc) (i + 1) = (.next (crowd gs' nx.w' sc), ops) ∧ Cfg W0 gs' nx.w' (t ++ ops) M (sl.set i (.act ⟨nx.fr', nx.cs', nx.h', x, r'⟩)) (put hp (i + 1) nx.h') := by
 have hlt : i < sl.length := (List.getElem?_eq_some_iff.1 hi).1
 have hst : stepG P (i + 1 == 0) g w = .go (G nx.fr' nx.cs') nx.w' nx.es := by rw [hr.step]; exact nx.step
 have hkn : Kn t (Knows t (i + 1)) (hp (i + 1)) ∧ h = hp (i + 1) := by
  have hgame := c.game
  cases hM : M.x with
  | idle => rw [hM] at hgame; obtain ⟨m', e⟩ := (hgame.old i _ hi).out; cases e
  | game X =>
   rw [hM] at hgame
   obtain ⟨nb, hG⟩ := hgame
   by_cases hin : i < nb
   ·obtain ⟨m', e⟩ := (hG.old i _ hin hi).out; cases e
   ·have := hG.know (i - nb) _ (by rw [Nat.add_sub_cancel' (by omega)]; exact hi)
    rw [Nat.add_sub_cancel' (by omega)] at this
    exact ⟨this.1, this.2.1⟩
 obtain ⟨hkn, he⟩ := hkn
 refine ⟨_, _, runT_crowd_go hg hst, ?_⟩
 refine Cfg.own c (by omega) (by rw [← he]; exact own_of_events nx.guar nx.evs) hkn (gs_go hg) ⟨by simp, fun j hj => by rw [List.getElem?_set_ne (by omega)], fun j hj => ?_⟩ rfl (by rw [put_ne (by omega)]; exact c.hp0.symm) (fun _ => rfl) (fun e => by omega) (fun j n' hj hn => ?_)
 ·obtain rfl : j = i := by omega
  exact ⟨_, ⟨nx.fr', nx.cs', nx.h', x, r'⟩, hi, by simp [hlt], rfl, rfl⟩
 ·obtain rfl : j = i := by omega
  simp [hlt] at hn
  subst hn
  exact ⟨rfl, rfl⟩
end Go.PB
namespace Go.PB
open Go.Conc Go.Conc.Lib
open Go.ConcR (KK stA smA rd wr mk DC0)
variable {W0 : World} {P : Program} {cv : Value} {L : WgLink} {Em : Frame → List Frame → Hp → MX → Prop}
theorem fits_wg {h : Hp} {w w' : World} {ty : TypeId} {wg : Nat} {a b a' b' : Int} (f : Fits h w) (hn : ∀ o, h.own wg o = none ∧ h.ro wg o = none) (e : WgAt ty wg w a b) (e' : WgAt ty wg w' a' b') (hw : ∀ c, c ≠ wg → w'.heap[c]? = w.heap[c]?) : Fits h w' := by
 obtain ⟨fz, e, _⟩ := e
 obtain ⟨fz', e', _⟩ := e'
 have hc : ∀ c o, c ≠ wg → w'.cell? ⟨c, o, none⟩ = w.cell? ⟨c, o, none⟩ := fun c o hne => by unfold World.cell?; rw [hw c hne]
 have hfz : ∀ c o, c ≠ wg → w'.frozen? ⟨c, o, none⟩ = w.frozen? ⟨c, o, none⟩ := fun c o hne => by unfold World.frozen?; rw [hw c hne]
 have no : ∀ c o v, h.own c o = some v → c ≠ wg := fun c o v hv he => by subst he; rw [(hn o).1] at hv; cases hv
 have nr : ∀ c o v, h.ro c o = some v → c ≠ wg := fun c o v hv he => by subst he; rw [(hn o).2] at hv; cases hv
 refine ⟨fun c o v hv => by rw [hc _ _ (no _ _ _ hv)]; exact f.own _ _ _ hv, fun c o v hv => by rw [hfz _ _ (no _ _ _ hv)]; exact f.thaw _ _ _ hv, fun c o v hv => by rw [hc _ _ (nr _ _ _ hv)]; exact f.ro _ _ _ hv, f.disj, fun c ob hv => ?_, f.objn, fun c y hv => ?_⟩
 ·by_cases hcw : c = wg
  ·subst hcw
   have h1 := f.obj _ _ hv
   rw [e] at h1; cases h1
   have := f.objn _ _ hv
   simp [isCells] at this
  ·rw [hw c hcw]; exact f.obj _ _ hv
 ·by_cases hcw : c = wg
  ·subst hcw
   have h1 := f.shp _ _ hv
   unfold World.shape? at h1 ⊢
   rw [e] at h1; rw [e']
   simpa using h1
  ·unfold World.shape?; rw [hw c hcw]; exact f.shp _ _ hv
structure Shy (wg a : Nat) (u : Trace) : Prop where
 g : ∀ op ∈ u, op.g = a
 touch : ∀ op ∈ u, ∀ b, op.act.touch? = some b → (∃ o, o < 2 ∧ b.loc = .cell ⟨wg, o, none⟩) ∧ b.kind = .atomic
 norel : ∀ op ∈ u, ∀ a, op.act ≠ .mark (.release a)
theorem shy_race {said : Bool} {t u : Trace} {wg a : Nat} (nr : ¬ Race said t) (s : Shy wg a u) (h : ∀ i b o, o < 2 → touchAt t i = some b → b.loc = .cell ⟨wg, o, none⟩ → (b.kind ≠ .plain ∧ (b.kind = .said → t.g? i = some 0)) ∨ Knows t a i) : ¬ Race said (t ++ u) :=
 noRace_append nr s.g fun i b hb op ho b' hb' hc => by
  obtain ⟨⟨o, ho2, h1⟩, h2⟩ := s.touch op ho b' hb'
  obtain ⟨hl, _, _, h3⟩ := hc
  rw [h1] at hl
  rcases h i b o ho2 hb hl with this | hk
  rotate_left
  ·exact hk
  rcases h3 with h3 | h3 | ⟨_, _, h3⟩
  ·exact absurd h3 this.1
  ·rw [h2] at h3; cases h3
  ·rw [h2] at h3; cases h3
theorem shy_kn {t u : Trace} {K K' : Nat → Prop} {h : Hp} {wg a : Nat} (kn : Kn t K h) (hK : ∀ j, K j → K' j) (s : Shy wg a u) (hn : ∀ o, h.own wg o = none ∧ h.ro wg o = none) : Kn (t ++ u) K' h where
 own := fun b o v e i b' hb hl => by
  rcases touch_split hb with hb | ⟨op, ho, _, h2⟩
  ·exact hK _ (kn.own _ _ _ e _ _ hb hl)
  ·obtain ⟨⟨o', _, h1⟩, _⟩ := s.touch op ho b' h2
   rw [h1] at hl; cases hl; rw [(hn o).1] at e; cases e
 ro := fun b o v e i b' hb hl hw => by
  rcases touch_split hb with hb | ⟨op, ho, _, h2⟩
  ·exact hK _ (kn.ro _ _ _ e _ _ hb hl hw)
  ·obtain ⟨⟨o', _, h1⟩, _⟩ := s.touch op ho b' h2
   rw [h1] at hl; cases hl; rw [(hn o).2] at e; cases e
 obj := fun b v e i b' hb hl => by
  rcases touch_split hb with hb | ⟨op, ho, _, h2⟩
  ·exact hK _ (kn.obj _ _ e _ _ hb hl)
  ·obtain ⟨⟨o', _, h1⟩, _⟩ := s.touch op ho b' h2
   rw [h1] at hl; cases hl
theorem Mem.shy {w w' : World} {t u : Trace} {hp : Nat → Hp} {wg a : Nat} {ty : TypeId} {p q p' q' : Int} (m : Mem w t hp) (s : Shy wg a u) (hn : ∀ i o, (hp i).own wg o = none ∧ (hp i).ro wg o = none)
  (h : ∀ i b o, o < 2 → touchAt t i = some b → b.loc = .cell ⟨wg, o, none⟩ → (b.kind ≠ .plain ∧ (b.kind = .said → t.g? i = some 0)) ∨ Knows t a i) (e : WgAt ty wg w p q) (e' : WgAt ty wg w' p' q') (hw : ∀ c, c ≠ wg → w'.heap[c]? = w.heap[c]?) (hs : w'.heap.size = w.heap.size) : Mem w' (t ++ u) hp where
 fits := fun i => fits_wg (m.fits i) (hn i) e e' hw
 sep := m.sep
 nr := fun said => shy_race (m.nr said) s h
 low := fun i b hb => by
  rw [hs]
  rcases touch_split hb with hb | ⟨op, ho, _, h2⟩
  ·exact m.low i b hb
  ·obtain ⟨⟨o', _, h1⟩, _⟩ := s.touch op ho b h2
   exact ⟨fun d hd => (by rw [h1] at hd; cases hd; exact wgAt_lt e), fun r hr => by rw [h1] at hr; cases hr⟩
 norel := fun op ho b => (Array.mem_append.1 ho).elim (fun ho => m.norel op ho b) (fun ho => s.norel op ho b)
theorem Cfg.slot {gs gs' : Array Goroutine} {w w' : World} {t u : Trace} {M : MN P cv L Em} {sl : List (Slot P cv L)} {hp : Nat → Hp} {X : GX} {nb j : Nat} {s s' : Slot P cv L} {g' : Goroutine}
  (c : Cfg W0 gs w t M sl hp) (hX : M.x = .game X) (hG : GameAt X gs w t sl hp nb) (hs : sl[nb + j]? = some s) (q : Gs P (nb + j + 1) gs gs' g') (hr : g'.status ≠ .blocked)
  (hsd : Side w w') (hw : ∀ b, b ≠ X.wg → w'.heap[b]? = w.heap[b]?) (hsz : w'.heap.size = w.heap.size) (ph : WgPh L X ((sl.map Slot.stage).set (nb + j) s'.stage) w') (sh : Shy X.wg (nb + j + 1) u)
  (sg : SlotG w' X.wg (Deaf (t ++ u) (nb + j + 1)) g' s') (sk : SlotKn (t ++ u) X.wg (nb + j + 1) (hp (nb + j + 1)) s') (sa : ∀ c : St X, X.seats[j]? = some c → SeatAt X c (hp (nb + j + 1)) s')
  (hsl : ∀ g0, gs'[0]? = some g0 → g0.status = .blocked → g0.offers = none → ¬ WgAt L.tWg X.wg w' 0 1) : Cfg W0 gs' w' (t ++ u) M (sl.set (nb + j) s') hp := by
 have hlt : nb + j < sl.length := (List.getElem?_eq_some_iff.1 hs).1
 obtain ⟨p1, p2, e1⟩ := hG.wg.ex
 obtain ⟨p3, p4, e2⟩ := ph.ex
 have hwg0 : W0.heap.size ≤ X.wg := by have := c.aft.game; rw [hX] at this; exact this.1
 have hng : ∀ i, i ≠ nb + j + 1 → ∀ op ∈ u, op.g ≠ i := fun i hi op ho e => hi (by rw [← e, sh.g op ho])
 have hrl : RL L.tWg X.wg w w' := fun _ => ⟨_, _, e2⟩
 obtain ⟨cs, hcs⟩ : ∃ cs : St X, X.seats[j]? = some cs := by
  have := hG.len
  exact ⟨X.seats[j]'(by omega), List.getElem?_eq_getElem _⟩
 have hmem := c.mem.shy sh hG.nowg (fun i b o ho2 hb hl => (hG.wgt i b o ho2 hb hl).imp id fun k => k.2 j cs hcs) e1 e2 hw hsz
 refine ⟨by rw [q.size, List.length_set]; exact c.size, ?_, fun i sx hi => ?_, hmem, c.aft.at_block hwg0 hsd hw hsz c.aft.game, c.hp0, fun i hi => c.hpn i (by simpa using hi), fun i op hi => ?_, ?_, ?_⟩
 ·obtain ⟨g, h1, h2⟩ := c.main
  obtain ⟨x, x', w2, h3⟩ := q.other 0 g (by omega) h1
  exact ⟨_, h3, h2.woken⟩
 ·rw [hX]
  by_cases hij : i = nb + j
  ·subst hij
   simp [hlt] at hi
   subst hi
   exact ⟨_, q.self, sg⟩
  ·rw [List.getElem?_set_ne fun e => hij e.symm] at hi
   obtain ⟨g, h1, h2⟩ := c.thr i sx hi
   rw [hX] at h2
   obtain ⟨x, x', w2, h3⟩ := q.other (i + 1) g (by omega) h1
   exact ⟨_, h3, slot_woken (Deaf_others (hng _ (by omega))) hrl h2⟩
 ·simp only [List.length_set]
  rcases getElem?_append_cases hi with ⟨_, h⟩ | ⟨_, h⟩
  ·exact c.tg i op h
  ·rw [sh.g op h]; omega
 ·exact shy_kn c.kn0 (fun j h => h.app u) sh (hG.nowg 0)
 ·rw [hX]
  refine ⟨nb, ⟨by rw [List.length_set]; exact hG.len, fun i sx hi hc => ?_, fun k cx hc => ?_, fun k sx hc => ?_, fun k cx hc b hb => ?_, hG.dist, hG.noch, hG.nowg, by simpa only [List.map_set] using ph, fun i b o ho2 hb hl => ?_, ?_, hG.tok0, hG.tok1, hG.adp, hG.ads, hG.adl, fun k cx g hc hg hsx hb => ?_, fun g0 cases shp hg hb ho => ?_, fun g0 hg hb ho => ⟨?_, hsl g0 hg hb ho⟩, fun k cx b i x hc hb hx hl => ?_⟩⟩
  ·rw [List.getElem?_set_ne (by omega)] at hc
   exact (hG.old i sx hi hc).app (hng _ (by omega))
  ·obtain ⟨sx, h1, h2⟩ := hG.seat k cx hc
   by_cases hkj : k = j
   ·subst hkj; exact ⟨s', by simp [hlt], sa cx hc⟩
   ·exact ⟨sx, by rw [List.getElem?_set_ne (by omega)]; exact h1, h2⟩
  ·by_cases hkj : k = j
   ·subst hkj
    simp [hlt] at hc
    subst hc; exact sk
   ·rw [List.getElem?_set_ne (by omega)] at hc
    exact (hG.know k sx hc).app (hng _ (by omega)) fun kk hK => shy_kn kk hK sh (hG.nowg _)
  ·obtain ⟨n, e⟩ := hG.chan k cx hc b hb
   refine ⟨n, ?_⟩
   rw [hw _ fun he => ?_]
   ·exact e
   ·obtain ⟨_, e1, _⟩ := e1; rw [he] at e; rw [e1] at e; cases e
  ·rcases touch_split hb with hb | ⟨op, ho, hi, h2⟩
   ·rcases hG.wgt i b o ho2 hb hl with this | ⟨k0, k1⟩
    ·refine .inl ⟨this.1, fun hsd => ?_⟩
     have h1 := this.2 hsd
     rw [g?_app (g?_lt h1)]; exact h1
    ·exact .inr ⟨k0.app u, fun j c hj => (k1 j c hj).app u⟩
   ·have := (sh.touch op ho b h2).2
    rw [this]; exact .inl ⟨by simp, fun h => by cases h⟩
  ·rw [Deaf_others (hng 0 (by omega))]; exact hG.deaf
  ·by_cases hkj : k = j
   ·subst hkj; rw [q.self] at hg; cases hg; exact hr hb
   ·exact hG.live k cx g hc (q.back _ _ (by omega) hg hb) hsx hb
  ·obtain ⟨k, cx, h1, h2, h3, h4⟩ := hG.park g0 cases shp (q.back _ _ (by omega) hg hb) hb ho
   refine ⟨k, cx, h1, h2, h3, fun g hg2 hb2 => ?_⟩
   by_cases hkj : k = j
   ·subst hkj; rw [q.self] at hg2; cases hg2; exact hr hb2
   ·exact h4 g (q.back _ _ (by omega) hg2 hb2) hb2
  ·exact (hG.sleep g0 (q.back _ _ (by omega) hg hb) hb ho).1
  ·rcases touch_split hx with hx | ⟨op, ho, _, h2⟩
   ·exact (hG.cht k cx b i x hc hb hx hl).app u
   ·obtain ⟨⟨o', _, h1⟩, _⟩ := sh.touch op ho x h2
    rw [h1] at hl; cases hl
end Go.PB
namespace Go.PB
open Go.Conc Go.Conc.Lib
open Go.ConcR (KK stA smA rd wr mk DC0)
theorem count_set {p : Nat → Bool} : ∀ {l : List Nat} {i a : Nat} (b : Nat), l[i]? = some a → ((l.set i b).filter p).length + (if p a then 1 else 0) = (l.filter p).length + (if p b then 1 else 0)
 | x :: l, 0, a, b, h => by
  simp at h; subst h
  simp only [List.set_cons_zero, List.filter_cons]
  cases p b <;> cases p x <;> simp
 | x :: l, i + 1, a, b, h => by
  have ih := count_set (p := p) (l := l) (i := i) b (by simpa using h)
  simp only [List.set_cons_succ, List.filter_cons]
  cases p x <;> simp <;> omega
 | [], i, a, b, h => by simp at h
theorem count_pos {p : Nat → Bool} {l : List Nat} {i a : Nat} (h : l[i]? = some a) (hp : p a = true) : 0 < (l.filter p).length :=
 List.length_pos_of_mem (List.mem_filter.2 ⟨List.mem_of_getElem? h, hp⟩)
theorem count_one {p : Nat → Bool} {l : List Nat} {i a : Nat} (h : l[i]? = some a) (hp : p a = true) (h0 : p 0 = false) (h1 : (l.filter p).length = 1) : ∀ j k, l[j]? = some k → j ≠ i → p k = false := by
 intro j k hj hne
 have := count_set (p := p) 0 h
 rw [hp, h0, h1] at this
 simp at this
 by_cases hk : p k = true
 ·have h2 : (l.set i 0)[j]? = some k := by rw [List.getElem?_set_ne fun e => hne e.symm]; exact hj
  have := this k (List.mem_of_getElem? h2)
  rw [hk] at this; cases this
 ·simpa using hk
theorem count_tail {p : Nat → Bool} (h0 : p 0 = false) : ∀ {l : List Nat} {n : Nat}, (∀ i k, i < n → l[i]? = some k → k = 0) → (l.filter p).length ≤ l.length - n
 | [], n, _ => by simp
 | x :: l, 0, _ => by simpa using List.length_filter_le p (x :: l)
 | x :: l, n + 1, h => by
  have hx : x = 0 := h 0 x (by omega) rfl
  subst hx
  have := count_tail (p := p) h0 (l := l) (n := n) fun i k hi hk => h (i + 1) k (by omega) (by simpa using hk)
  simp only [List.filter_cons, h0]
  simpa using this
section
variable {L : WgLink} {X : GX} {st : List Nat} {w w' : World} {I : Nat}
theorem WgPh.far {a b : Nat} (p : WgPh L X st w) (hi : st[I]? = some a) (ha : 4 ≤ a) (hb : 4 ≤ b) (h : ∀ x y, WgAt L.tWg X.wg w x y → WgAt L.tWg X.wg w' x y) : WgPh L X (st.set I b) w' := by
 have hlt := (List.getElem?_eq_some_iff.1 hi).1
 cases p with
 | quiet v wt at_ hv late hw park bb =>
  have := count_set (p := fun k => decide (4 ≤ k)) b hi
  simp only [ha, hb, decide_true, if_true] at this
  refine .quiet v wt (h _ _ at_) (by omega) (fun k hk => ?_) hw park bb
  rcases List.mem_or_eq_of_mem_set hk with hk | rfl
  ·exact late k hk
  ·exact .inr hb
 | late p i k hik hk at_ oth =>
  exfalso
  by_cases e : I = i
  ·subst e; rw [hi] at hik; cases hik; omega
  ·have := oth I a hi e; omega
 | late1 p i hik at_ oth =>
  exfalso
  by_cases e : I = i
  ·subst e; rw [hi] at hik; cases hik; omega
  ·have := oth I a hi e; omega
 | free p at_ oth => exfalso; have := oth a (List.mem_of_getElem? hi); omega
theorem WgPh.same {a : Nat} (p : WgPh L X st w) (hi : st[I]? = some a) (h : ∀ x y, WgAt L.tWg X.wg w x y → WgAt L.tWg X.wg w' x y) : WgPh L X (st.set I a) w' := by
 have hlt := (List.getElem?_eq_some_iff.1 hi).1
 have e : st.set I a = st := by
  apply List.ext_getElem?
  intro j
  by_cases hj : I = j
  ·subst hj; rw [List.getElem?_set_self hlt, hi]
  ·rw [List.getElem?_set_ne hj]
 rw [e]
 exact p.at h
theorem WgPh.at4 (p : WgPh L X st w) (hi : st[I]? = some 4) : ∃ v wt : Nat, WgAt L.tWg X.wg w (v * KK + wt) 0 ∧ v + X.seats.length = (st.filter fun k => decide (4 ≤ k)).length + X.ad ∧ (∀ k ∈ st, k = 0 ∨ 4 ≤ k) ∧
  wt = (match X.wt with | .parked => 1 | _ => 0) ∧ (X.wt = .parked → 0 < v) ∧ (match X.wt with | .wait b => v ≤ b | .seen v0 => v ≤ v0 | .woken => v = 0 | .zero => v = 0 | _ => True) := by
 cases p with
 | quiet v wt at_ hv late hw park bb => exact ⟨v, wt, at_, hv, late, hw, park, bb⟩
 | late p i k hik hk at_ oth =>
  exfalso
  by_cases e : I = i
  ·subst e; rw [hi] at hik; cases hik; omega
  ·have := oth I 4 hi e; omega
 | late1 p i hik at_ oth =>
  exfalso
  by_cases e : I = i
  ·subst e; rw [hi] at hik; cases hik
  ·have := oth I 4 hi e; omega
 | free p at_ oth => exfalso; have := oth 4 (List.mem_of_getElem? hi); omega
theorem WgPh.at23 {k : Nat} (p : WgPh L X st w) (hi : st[I]? = some k) (hk : k = 3 ∨ k = 2) : X.wt = .parked ∧ WgAt L.tWg X.wg w 1 0 ∧ ∀ j k, st[j]? = some k → j ≠ I → k = 0 := by
 cases p with
 | quiet v wt at_ hv late hw park bb => exfalso; have := late k (List.mem_of_getElem? hi); omega
 | late p i k' hik hk' at_ oth =>
  by_cases e : I = i
  ·subst e; exact ⟨p, at_, oth⟩
  ·exfalso; have := oth I k hi e; omega
 | late1 p i hik at_ oth =>
  exfalso
  by_cases e : I = i
  ·subst e; rw [hi] at hik; cases hik; omega
  ·have := oth I k hi e; omega
 | free p at_ oth => exfalso; have := oth k (List.mem_of_getElem? hi); omega
theorem WgPh.at1 (p : WgPh L X st w) (hi : st[I]? = some 1) : X.wt = .parked ∧ WgAt L.tWg X.wg w 0 0 ∧ ∀ j k, st[j]? = some k → j ≠ I → k = 0 := by
 cases p with
 | quiet v wt at_ hv late hw park bb => exfalso; have := late 1 (List.mem_of_getElem? hi); omega
 | late p i k' hik hk' at_ oth =>
  exfalso
  by_cases e : I = i
  ·subst e; rw [hi] at hik; cases hik; omega
  ·have := oth I 1 hi e; omega
 | late1 p i hik at_ oth =>
  by_cases e : I = i
  ·subst e; exact ⟨p, at_, oth⟩
  ·exfalso; have := oth I 1 hi e; omega
 | free p at_ oth => exfalso; have := oth 1 (List.mem_of_getElem? hi); omega
theorem WgPh.notFree {k : Nat} (p : WgPh L X st w) (hi : st[I]? = some k) (hk : 0 < k) : ¬ WgAt L.tWg X.wg w 0 1 := by
 intro hx
 cases p with
 | quiet v wt at_ hv late hw park bb => exact absurd (at_.unique hx).2 (by decide)
 | late p i k' hik hk' at_ oth => exact absurd (at_.unique hx).2 (by decide)
 | late1 p i hik at_ oth => exact absurd (at_.unique hx).2 (by decide)
 | free p at_ oth => have := oth k (List.mem_of_getElem? hi); omega
end
def EvShy (wg : Nat) (e : Event) : Prop := (∃ m, e = ⟨.mark m, false, true⟩ ∧ (MemAct.mark m).touch? = none ∧ ∀ a, m ≠ .release a) ∨ ∃ o wr, e = ⟨.cell ⟨wg, o, none⟩, wr, true⟩ ∧ o < 2
theorem evShy_act {wg : Nat} {e : Event} (h : EvShy wg e) : (∀ b, (MemAct.ofEvent e).touch? = some b → (∃ o, o < 2 ∧ b.loc = .cell ⟨wg, o, none⟩) ∧ b.kind = .atomic) ∧ ∀ a, MemAct.ofEvent e ≠ .mark (.release a) := by
 rcases h with ⟨m, rfl, h1, h2⟩ | ⟨o, wr, rfl, ho2⟩
 ·refine ⟨fun b hb => ?_, fun a ha => ?_⟩
  ·have : (MemAct.ofEvent ⟨.mark m, false, true⟩).touch? = none := h1
   rw [this] at hb; cases hb
  ·have : MemAct.ofEvent ⟨.mark m, false, true⟩ = .mark m := rfl
   rw [this] at ha; cases ha; exact h2 a rfl
 ·refine ⟨fun b hb => ?_, fun a ha => ?_⟩
  ·have : (MemAct.ofEvent ⟨.cell ⟨wg, o, none⟩, wr, true⟩).touch? = some ⟨.cell ⟨wg, o, none⟩, wr, .atomic⟩ := by cases wr <;> rfl
   rw [this] at hb; cases hb; exact ⟨⟨o, ho2, rfl⟩, rfl⟩
  ·cases wr <;> cases ha
theorem shy_of {wg a : Nat} {fn : FuncId} {pos : String} {es : Array Event} (h : ∀ e ∈ es, EvShy wg e) : Shy wg a (MemOp.ofEvents a fn pos es) where
 g := fun op ho => by obtain ⟨e, _, rfl⟩ := ofEvents_mem ho; rfl
 touch := fun op ho b hb => by obtain ⟨e, h1, rfl⟩ := ofEvents_mem ho; exact (evShy_act (h e h1)).1 b hb
 norel := fun op ho b => by obtain ⟨e, h1, rfl⟩ := ofEvents_mem ho; exact (evShy_act (h e h1)).2 b
theorem allK_deaf {t : Trace} {K K' : Nat → Prop} {a wg : Nat} {fn : FuncId} {pos : String} {es : Array Event} (h : AllK t a K) (hK : ∀ j, K j → K' j) (hes : ∀ e ∈ es, EvShy wg e)
  (hd : ∀ (j : Nat) (e : Event), es[j]? = some e → (MemAct.ofEvent e).touch? ≠ none → 0 < deafBehind (Deaf t a) (es.extract 0 j)) : AllK (t ++ MemOp.ofEvents a fn pos es) a K' := by
 intro j hj hc
 rcases Nat.lt_or_ge j t.size with hlt | hge
 ·exact hK _ (h j (by rw [← g?_app hlt]; exact hj) ((counts_old hlt).1 hc))
 ·exfalso
  obtain ⟨x, h1, h2, h3⟩ := hc
  obtain ⟨op, ho, hx⟩ := touch_of h1
  obtain ⟨i, rfl⟩ : ∃ i, j = t.size + i := ⟨j - t.size, by omega⟩
  have ho' : (MemOp.ofEvents a fn pos es)[i]? = some op := by
   rw [Array.getElem?_append_right (by omega)] at ho
   simpa using ho
  rw [ofEvents_eq] at ho'
  rw [Array.getElem?_map] at ho'
  obtain ⟨e, he, rfl⟩ := Option.map_eq_some_iff.1 ho'
  have hem : e ∈ es := Array.mem_of_getElem? he
  have hk := ((evShy_act (hes e hem)).1 x hx).2
  rcases h3 with h3 | ⟨g, hg, hd0⟩
  ·exact h3 hk
  ·have hlt := (Array.getElem?_eq_some_iff.1 he).1
   rw [hj] at hg; cases hg
   rw [deaf_inside t a fn pos es i (by omega)] at hd0
   have := hd i e he (by rw [hx]; simp)
   omega
end Go.PB
namespace Go.PB
open Go.Conc Go.Conc.Lib
open Go.ConcR (KK stA smA rd wr mk DC0)
variable {W0 : World} {P : Program} {cv : Value} {L : WgLink} {Em : Frame → List Frame → Hp → MX → Prop}
theorem again_offers {o : Goroutine} {w : World} (h : (o.again w).status = .blocked) : (o.again w).offers ≠ none := by
 intro hn
 rcases ho : o.offers with _ | ⟨a, b⟩ <;> cases hs : o.status <;> simp only [Goroutine.again, hs, ho] at h hn <;> first | (cases h; done) | (rw [hs] at h; cases h; done) | (split at hn <;> (simp only [ho] at hn; cases hn; done)) | (rw [ho] at hn; cases hn; done) | skip
theorem g?_of {t : Trace} {i : Nat} {op : MemOp} (h : t[i]? = some op) : t.g? i = some op.g := by simp [Trace.g?, h]
theorem setCell_ne {w : World} {a : Addr} {v : Value} {b : Nat} (h : b ≠ a.block) : (w.setCell a v).heap[b]? = w.heap[b]? := by
 unfold World.setCell
 simp only [Array.getElem?_modify]
 rw [if_neg fun e => h e.symm]
theorem setCell_size {w : World} {a : Addr} {v : Value} : (w.setCell a v).heap.size = w.heap.size := by
 unfold World.setCell; simp
theorem leaves_shy {t : Trace} {wg a : Nat} {h : Hp} {fn : FuncId} {pos : String} {es : Array Event} (k : ∃ p, Rel t wg a p ∧ Kn t (fun j => Before t j p) h ∧ AllK t a fun j => Before t j p) (hn : ∀ o, h.own wg o = none ∧ h.ro wg o = none) (hes : ∀ e ∈ es, EvShy wg e)
  (hd : ∀ (j : Nat) (e : Event), es[j]? = some e → (MemAct.ofEvent e).touch? ≠ none → 0 < deafBehind (Deaf t a) (es.extract 0 j)) :
  ∃ p, Rel (t ++ MemOp.ofEvents a fn pos es) wg a p ∧ Kn (t ++ MemOp.ofEvents a fn pos es) (fun j => Before (t ++ MemOp.ofEvents a fn pos es) j p) h ∧ AllK (t ++ MemOp.ofEvents a fn pos es) a fun j => Before (t ++ MemOp.ofEvents a fn pos es) j p := by
 obtain ⟨p, h1, h2, h3⟩ := k
 exact ⟨p, h1.app _, shy_kn h2 (fun j h => h.app _) (shy_of hes) hn, allK_deaf h3 (fun j h => h.app _) hes hd⟩
section
variable {gs : Array Goroutine} {w : World} {t : Trace} {M : MN P cv L Em} {sl : List (Slot P cv L)} {hp : Nat → Hp} {X : GX} {nb j k m : Nat} {g : Goroutine} {sc : Option (Nat × Nat)}
theorem cfg_out (c : Cfg W0 gs w t M sl hp) (hX : M.x = .game X) (hG : GameAt X gs w t sl hp nb) (hs : sl[nb + j]? = some (.out (k + 1) m)) (hg : gs[nb + j + 1]? = some g) :
  ∃ gs' w' ops k' m', runT P (crowd gs w sc) (nb + j + 1) = (.next (crowd gs' w' sc), ops) ∧ (k' < k + 1 ∨ (k' = k + 1 ∧ m' < m)) ∧ Cfg W0 gs' w' (t ++ ops) M (sl.set (nb + j) (.out k' m')) hp := by
 obtain ⟨g0, hg0, hz⟩ := c.thr _ _ hs
 rw [hg] at hg0; cases hg0
 rw [hX] at hz
 replace hz : Zg P L.tWg X.wg (ZS P L.tWg X.wg (k + 1)) m g w := hz
 have hst : (sl.map Slot.stage)[nb + j]? = some (k + 1) := by rw [List.getElem?_map, hs]; rfl
 obtain ⟨cs, hcs⟩ : ∃ cs : St X, X.seats[j]? = some cs := by
  have := hG.len
  have hlt := (List.getElem?_eq_some_iff.1 hs).1
  exact ⟨X.seats[j]'(by omega), List.getElem?_eq_getElem _⟩
 have hseat : SeatAt X cs (hp (nb + j + 1)) (.out (k + 1) m : Slot P cv L) := by
  obtain ⟨s, h1, h2⟩ := hG.seat j cs hcs
  rw [hs] at h1; cases h1; exact h2
 obtain ⟨hk6, hseat⟩ := hseat
 have hkn := hG.know j _ hs
 have hnw := hG.nowg (nb + j + 1)
 have key : ∀ {g' : Goroutine} {w' : World} {es : Array Event} {k' m' : Nat}, stepG P false g w = .go g' w' es → (∀ e ∈ es, EvShy X.wg e) → (k' < k + 1 ∨ (k' = k + 1 ∧ m' < m)) → Side w w' → (∀ b, b ≠ X.wg → w'.heap[b]? = w.heap[b]?) → w'.heap.size = w.heap.size →
   WgPh L X ((sl.map Slot.stage).set (nb + j) k') w' → SlotG w' X.wg (deafBehind (Deaf t (nb + j + 1)) es) g' (.out k' m' : Slot P cv L) → SlotKn (t ++ MemOp.ofEvents (nb + j + 1) g.frame.fn g.frame.place es) X.wg (nb + j + 1) (hp (nb + j + 1)) (.out k' m' : Slot P cv L) →
   g'.status ≠ .blocked → (¬ WgAt L.tWg X.wg w' 0 1 ∨ (mayWake P g = true ∧ g'.status ≠ .waiting)) →
   ∃ gs' w' ops k' m', runT P (crowd gs w sc) (nb + j + 1) = (.next (crowd gs' w' sc), ops) ∧ (k' < k + 1 ∨ (k' = k + 1 ∧ m' < m)) ∧ Cfg W0 gs' w' (t ++ ops) M (sl.set (nb + j) (.out k' m')) hp := by
  intro g' w' es k' m' hstep hes hlt hsd hw hsz ph sg sk hnb hsl
  have hst' : stepG P (nb + j + 1 == 0) g w = .go g' w' es := hstep
  refine ⟨_, _, _, k', m', runT_crowd_go hg hst', hlt, ?_⟩
  refine Cfg.slot c hX hG hs (gs_go hg) hnb hsd hw hsz ph (shy_of hes) (by rw [Deaf_own]; exact sg) sk (fun cx hcx => ?_) (fun g0 h0 hb ho hx => ?_)
  ·rw [hcs] at hcx; cases hcx
   exact ⟨by omega, hseat⟩
  ·rcases hsl with hsl | ⟨h1, h2⟩
   ·exact hsl hx
   ·rw [Array.getElem?_setIfInBounds_ne (by omega), Array.getElem?_map] at h0
    obtain ⟨o, e1, e2⟩ := Option.map_eq_some_iff.1 h0
    have hwk : woken P g g' w' o = o.again w' := by
     unfold woken
     rw [if_pos]
     simp only [h1, Bool.true_and, Bool.and_eq_true]
     exact ⟨by simpa using hnb, by simpa using h2⟩
    rw [hwk] at e2
    subst e2
    exact again_offers hb ho
 rcases zg_step hz with hz | ⟨m', g', rfl, hstep, hz'⟩
 ·rcases k with _ | _ | _ | _ | _ | _ | k
  ·-- it lets the starter go
   obtain ⟨hr, hmw, hz⟩ := (show Z4 P L.tWg X.wg g w from hz)
   obtain ⟨hp1, hat, hoth⟩ := hG.wg.at1 hst
   obtain ⟨g', q, hstep, hq⟩ := hz hat
   obtain ⟨h6, _, _⟩ | ⟨_, hlv, _, hdf⟩ := hkn
   ·omega
   have hd : Deaf t (nb + j + 1) = 1 := hdf (by omega) (by omega)
   refine key (k' := 0) (m' := q) hstep (fun e he => ?_) (by omega) side_setCell (fun b hb => setCell_ne hb) setCell_size (.free hp1 (hat.setSm 1) fun k hk => ?_) (by rw [hd]; exact hq) (.inr ⟨by omega, leaves_shy hlv hnw ?_ ?_, fun h => by omega, fun h => by omega⟩) (fun h => by have := QuitsD.status hq; rw [h] at this; rcases this with h | h <;> cases h) (.inr ⟨hmw, fun h => by have := QuitsD.status hq; rw [h] at this; rcases this with h | h <;> cases h⟩)
   ·simp only [semEvents, List.mem_toArray, List.mem_cons, List.not_mem_nil, or_false] at he
    rcases he with rfl | rfl | rfl | rfl
    ·exact .inl ⟨_, rfl, rfl, fun a h => by cases h⟩
    ·exact .inr ⟨_, _, rfl, by decide⟩
    ·exact .inr ⟨_, _, rfl, by decide⟩
    ·exact .inl ⟨_, rfl, rfl, fun a h => by cases h⟩
   ·obtain ⟨i, hi⟩ := List.getElem?_of_mem hk
    by_cases e : i = nb + j
    ·subst e
     rw [List.getElem?_set_self (by simpa using (List.getElem?_eq_some_iff.1 hst).1)] at hi
     cases hi; rfl
    ·rw [List.getElem?_set_ne fun h => e h.symm] at hi
     exact hoth i k hi e
   ·intro e he
    simp only [semEvents, List.mem_toArray, List.mem_cons, List.not_mem_nil, or_false] at he
    rcases he with rfl | rfl | rfl | rfl
    ·exact .inl ⟨_, rfl, rfl, fun a h => by cases h⟩
    ·exact .inr ⟨_, _, rfl, by decide⟩
    ·exact .inr ⟨_, _, rfl, by decide⟩
    ·exact .inl ⟨_, rfl, rfl, fun a h => by cases h⟩
   ·intro i e he ht
    rw [hd]
    rcases i with _ | _ | _ | _ | i
    ·simp only [semEvents] at he ⊢; simp [deafBehind]
    ·simp only [semEvents] at he ⊢; simp [deafBehind]
    ·simp only [semEvents] at he ⊢; simp [deafBehind]
    ·simp only [semEvents] at he ⊢; simp [deafBehind]
    ·simp [semEvents] at he
  ·-- the count is laid to nought
   obtain ⟨hr, hz⟩ := (show Z3 P L.tWg X.wg g w from hz)
   obtain ⟨hp1, hat, hoth⟩ := hG.wg.at23 hst (.inr rfl)
   obtain ⟨g', q, hstep, hq⟩ := hz hat
   obtain ⟨h6, _, _⟩ | ⟨_, hlv, _, hdf⟩ := hkn
   ·omega
   have hd : Deaf t (nb + j + 1) = 1 := hdf (by omega) (by omega)
   have hes : ∀ e ∈ #[wr (stA X.wg)], EvShy X.wg e := fun e he => by simp at he; subst he; exact .inr ⟨_, _, rfl, by decide⟩
   refine key (k' := 1) (m' := q) hstep hes (by omega) side_setCell (fun b hb => setCell_ne hb) setCell_size (.late1 hp1 (nb + j) (List.getElem?_set_self (List.getElem?_eq_some_iff.1 hst).1) (hat.setSt 0) fun i k hi e => hoth i k (by rwa [List.getElem?_set_ne fun h => e h.symm] at hi) e) hq
    (.inr ⟨by omega, leaves_shy hlv hnw hes fun i e he ht => ?_, fun h => by omega, fun _ _ => ?_⟩) (fun h => by have := zg_running (k := 1) hq; rw [h] at this; cases this) (.inl fun hx => absurd ((hat.setSt 0).unique hx).2 (by decide))
   ·rw [hd]
    rcases i with _ | i
    ·simp [deafBehind]
    ·simp at he
   ·rw [Deaf_own, hd]; rfl
  ·-- the count is looked at again
   obtain ⟨hr, hz⟩ := (show Z2 P L.tWg X.wg g w from hz)
   obtain ⟨hp1, hat, hoth⟩ := hG.wg.at23 hst (.inl rfl)
   obtain ⟨g', q, hstep, hq⟩ := hz hat
   obtain ⟨h6, _, _⟩ | ⟨_, hlv, _, hdf⟩ := hkn
   ·omega
   have hd : Deaf t (nb + j + 1) = 1 := hdf (by omega) (by omega)
   have hes : ∀ e ∈ #[rd (stA X.wg)], EvShy X.wg e := fun e he => by simp at he; subst he; exact .inr ⟨_, _, rfl, by decide⟩
   refine key (k' := 2) (m' := q) hstep hes (by omega) Side.refl (fun b hb => rfl) rfl (.late hp1 (nb + j) 2 (List.getElem?_set_self (List.getElem?_eq_some_iff.1 hst).1) (.inr rfl) hat fun i k hi e => hoth i k (by rwa [List.getElem?_set_ne fun h => e h.symm] at hi) e) hq
    (.inr ⟨by omega, leaves_shy hlv hnw hes fun i e he ht => ?_, fun h => by omega, fun _ _ => ?_⟩) (fun h => by have := zg_running (k := 2) hq; rw [h] at this; cases this) (.inl fun hx => absurd (hat.unique hx).2 (by decide))
   ·rw [hd]
    rcases i with _ | i
    ·simp [deafBehind]
    ·simp at he
   ·rw [Deaf_own, hd]; rfl
  ·-- it counts itself out
   obtain ⟨hr, hz⟩ := (show Z1 P L.tWg X.wg g w from hz)
   obtain ⟨v, wt, hat, hv, hlate, hwt, hpark, hb⟩ := hG.wg.at4 hst
   have hcnt := count_pos (p := fun k => decide (4 ≤ k)) hst rfl
   have htail := count_tail (p := fun k => decide (4 ≤ k)) rfl (l := sl.map Slot.stage) (n := nb) fun i k hi hk => by
    rw [List.getElem?_map] at hk
    obtain ⟨s, e1, e2⟩ := Option.map_eq_some_iff.1 hk
    obtain ⟨m', rfl⟩ := (hG.old i s hi e1).out
    exact e2.symm
   have hlen := hG.len
   have hadl := hG.adl
   have hadn : X.seats.length ≤ X.ad := by
    by_cases hpl : X.wt = .play
    ·rcases hG.adp hpl with h | h <;> omega
    ·exact Nat.le_of_eq (hG.ads hpl).1.symm
   simp only [List.length_map] at htail
   obtain ⟨v, rfl⟩ : ∃ v', v = v' + 1 := ⟨v - 1, by omega⟩
   have hwt1 : wt ≤ 1 := by rw [hwt]; split <;> omega
   obtain ⟨g', hstep, hq1, hq0⟩ := hz v wt hwt1 (by omega) (by push_cast at hat; exact hat)
   obtain ⟨h6, _, _⟩ | ⟨_, hlv, _, hdf⟩ := hkn
   ·omega
   have hd : Deaf t (nb + j + 1) = 1 := hdf (by omega) (by omega)
   have hes : ∀ e ∈ #[rd (stA X.wg), wr (stA X.wg)], EvShy X.wg e := fun e he => by
    simp at he
    rcases he with rfl | rfl <;> exact .inr ⟨_, _, rfl, by decide⟩
   have hdi : ∀ (i : Nat) (e : Event), (#[rd (stA X.wg), wr (stA X.wg)] : Array Event)[i]? = some e → (MemAct.ofEvent e).touch? ≠ none → 0 < deafBehind (Deaf t (nb + j + 1)) ((#[rd (stA X.wg), wr (stA X.wg)] : Array Event).extract 0 i) := fun i e he ht => by
    rw [hd]
    rcases i with _ | _ | i
    ·simp [deafBehind]
    ·simp [deafBehind, rd]
    ·simp at he
   have hset := count_set (p := fun k => decide (4 ≤ k)) (b := 0) hst
   simp at hset
   by_cases hl : v = 0 ∧ wt = 1
   ·obtain ⟨q, hq⟩ := hq1 hl
    obtain ⟨rfl, rfl⟩ := hl
    have hp1 : X.wt = .parked := by
     revert hwt
     cases X.wt <;> simp
    have had := (hG.ads (by rw [hp1]; simp)).1
    have hone := count_one (p := fun k => decide (4 ≤ k)) hst rfl rfl (by omega)
    refine key (k' := 3) (m' := q) hstep hes (by omega) side_setCell (fun b hb => setCell_ne hb) setCell_size (.late hp1 (nb + j) 3 (List.getElem?_set_self (List.getElem?_eq_some_iff.1 hst).1) (.inl rfl) (by simpa using hat.setSt _) fun i k hi e => ?_) hq
     (.inr ⟨by omega, leaves_shy hlv hnw hes hdi, fun h => by omega, fun _ _ => ?_⟩) (fun h => by have := zg_running (k := 3) hq; rw [h] at this; cases this) (.inl fun hx => absurd ((hat.setSt _).unique hx).2 (by decide))
    ·rw [List.getElem?_set_ne fun h => e h.symm] at hi
     have h1 := hone i k hi e
     have h2 := hlate k (List.mem_of_getElem? hi)
     simp at h1
     omega
    ·rw [Deaf_own, hd]; rfl
   ·obtain ⟨q, hq⟩ := hq0 hl
    refine key (k' := 0) (m' := q) hstep hes (by omega) side_setCell (fun b hb => setCell_ne hb) setCell_size (.quiet v wt (hat.setSt _) (by omega) (fun k hk => ?_) hwt (fun hp1 => ?_) ?_) (by rw [hd]; exact hq)
     (.inr ⟨by omega, leaves_shy hlv hnw hes hdi, fun h => by omega, fun h => by omega⟩) (fun h => by have := QuitsD.status hq; rw [h] at this; rcases this with h | h <;> cases h) (.inl fun hx => absurd ((hat.setSt _).unique hx).2 (by decide))
    ·rcases List.mem_or_eq_of_mem_set hk with hk | rfl
     ·exact hlate k hk
     ·exact .inl rfl
    ·have : wt = 1 := by rw [hwt, hp1]
     omega
    ·revert hb
     cases X.wt <;> simp <;> omega
  ·-- it is deaf from here on
   obtain ⟨hr, g', q, hstep, hq⟩ := (show ZK P L.tWg X.wg g w from hz)
   obtain ⟨h6, _, _⟩ | ⟨_, hlv, hdf, _⟩ := hkn
   ·omega
   have hd : Deaf t (nb + j + 1) = 0 := hdf rfl
   have hes : ∀ e ∈ #[mk .disable], EvShy X.wg e := fun e he => by simp at he; subst he; exact .inl ⟨_, rfl, rfl, fun a h => by cases h⟩
   refine key (k' := 4) (m' := q) hstep hes (by omega) Side.refl (fun b hb => rfl) rfl (hG.wg.far hst (by omega) (by omega) fun _ _ h => h) hq
    (.inr ⟨by omega, leaves_shy hlv hnw hes fun i e he ht => ?_, fun h => by omega, fun _ _ => ?_⟩) (fun h => by have := zg_running (k := 4) hq; rw [h] at this; cases this) (.inl (hG.wg.notFree hst (by omega)))
   ·rcases i with _ | i
    ·simp at he; subst he; exact absurd rfl ht
    ·simp at he
   ·rw [Deaf_own, hd]; rfl
  ·-- it says that it's through
   obtain ⟨hr, g', q, hstep, hq⟩ := (show ZR P L.tWg X.wg g w from hz)
   obtain ⟨_, hkh, hd⟩ | ⟨h5, _⟩ := hkn
   ·have hes : ∀ e ∈ #[mk (.releaseMerge (stA X.wg))], EvShy X.wg e := fun e he => by simp at he; subst he; exact .inl ⟨_, rfl, rfl, fun a h => by cases h⟩
    have e0 : (t ++ MemOp.ofEvents (nb + j + 1) g.frame.fn g.frame.place #[mk (.releaseMerge (stA X.wg))])[t.size]? = some { g := nb + j + 1, fn := g.frame.fn, pos := g.frame.place, act := .mark (.releaseMerge (stA X.wg)) } := by
     rw [ofEvents_eq, Array.getElem?_append_right (Nat.le_refl _)]; simp [mk]; rfl
    have hkb : ∀ i, Knows t (nb + j + 1) i → Before (t ++ MemOp.ofEvents (nb + j + 1) g.frame.fn g.frame.place #[mk (.releaseMerge (stA X.wg))]) i t.size := fun i hi => .inr (hi.hb_new (Nat.le_refl _) e0 rfl)
    refine key (k' := 5) (m' := q) hstep hes (by omega) Side.refl (fun b hb => rfl) rfl (hG.wg.far hst (by omega) (by omega) fun _ _ h => h) hq
     (.inr ⟨by omega, ⟨t.size, ⟨act?_of e0, g?_of e0, _, g?_of e0, by rw [deaf_old (Nat.le_refl _)]; exact hd⟩, shy_kn hkh hkb (shy_of hes) hnw, fun i hi hc => ?_⟩, fun _ => ?_, fun h => by omega⟩)
     (fun h => by have := zg_running (k := 5) hq; rw [h] at this; cases this) (.inl (hG.wg.notFree hst (by omega)))
    ·rcases Nat.lt_or_ge i t.size with hlt | hge
     ·rw [g?_app hlt] at hi
      obtain ⟨op, ho, hog⟩ := Option.map_eq_some_iff.1 (show (t[i]?).map (·.g) = some (nb + j + 1) from hi)
      exact hkb i (by have := knows_own ho; rwa [hog] at this)
     ·have := g?_lt hi
      rw [ofEvents_eq] at this
      simp at this
      exact .inl (by omega)
    ·rw [Deaf_own, hd]; rfl
   ·omega
  ·exact hz.elim
 ·refine key (k' := k + 1) (m' := m') hstep (fun e he => by simp at he) (by omega) Side.refl (fun b hb => rfl) rfl (hG.wg.same hst fun _ _ h => h) hz' ?_ (fun h => by have := zg_running hz'; rw [h] at this; cases this) (.inl (hG.wg.notFree hst (by omega)))
  rw [ofEvents_none, Array.append_empty]
  exact hkn
end
end Go.PB
