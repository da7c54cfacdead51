/-
  Part 5 of 6.
-/
import Derived.Test.YtcladnioicackaaOm4
import Derived.Test.YtcladnioicackaaOm3
import Derived.Test.YtcladnioicackaaOm2
import Derived.Eval
import Derived.Leaving
import Derived.Handed
import Derived.RowKit3
import Derived.Below
import Derived.Carry
import Derived.Conc.LeavingOf
import Derived.Conc.LoneSelect
import Derived.Deep.Slices
import Derived.ProofKit
import Derived.OpenShut
set_option linter.unusedVariables false
set_option linter.unusedSimpArgs false
namespace Go.Proofs.Ytcladnioicackaa
open Go Go.PB
attribute [local irreducible] Mo Bin Eql Tr Wo Ap
section
variable {B : Hand} [Lets B] {L F G : List HProp} {x : B.X}
def clC (kv dv : Value) (cl : Mach.Cl) : HProp := all [vec 7 kv (cl.code.map inC).flatten, vec 1 dv (cl.data.map num)]
theorem code_obs {cb kn kc dn dc c : Nat} {ka da : Option Addr} {cl : Mach.Cl} (hk : kn = cl.code.length) (hd : dn = cl.data.length) (hka : ∀ y, ka = some y → y = ⟨y.block, y.off, none⟩) (hda : ∀ y, da = some y → y = ⟨y.block, y.off, none⟩) (hkn : ka = none → kn = 0) (hdn : da = none → dn = 0) :
  Obs (arr cb 0 [.slice ka kn kc, .slice da dn dc] :: vec 7 (.slice ka kn kc) (cl.code.map inC).flatten :: vec 1 (.slice da dn dc) (cl.data.map num) :: F) (codeC ⟨some ⟨cb, 0, none⟩, c, fun _ => (ka, kc), fun _ => (da, dc)⟩ [cl]) := by
 subst hk
 subst hd
 intro h s i y hy
 obtain ⟨rfl, rfl⟩ : i = 0 ∧ cl = y := by
  cases i with
  | zero => exact ⟨rfl, by simpa using hy⟩
  | succ i => simp at hy
 refine ⟨cb, 0, rfl, (Rd.row0 rfl) h s, (Rd.row0 rfl) h s, fun j z hz => ?_, fun j v hv => ?_⟩
 ·have hlt := (List.getElem?_eq_some_iff.1 hz).1
  cases ka with
  | none => have : cl.code.length = 0 := hkn rfl; omega
  | some a =>
   obtain ⟨kb, ko, sp⟩ := a
   cases hka _ rfl
   refine ⟨kb, ko, rfl, fun m v hm => ?_⟩
   have hm7 : m < 7 := (List.getElem?_eq_some_iff.1 hm).1
   have := (rd_vec (i := 7 * j + m) (v := v) (L := arr cb 0 [.slice (some ⟨kb, ko, none⟩) cl.code.length kc, .slice da cl.data.length dc] :: vec 7 (.slice (some ⟨kb, ko, none⟩) cl.code.length kc) (cl.code.map inC).flatten :: vec 1 (.slice da cl.data.length dc) (cl.data.map num) :: F) (.there .here) (by rw [flat_get (k := 7) (fun _ => rfl) _ _ _ _ hz hm7]; exact hm)) h s
   rwa [← Nat.add_assoc] at this
 ·have hlt := (List.getElem?_eq_some_iff.1 hv).1
  cases da with
  | none => have : cl.data.length = 0 := hdn rfl; omega
  | some a =>
   obtain ⟨db, dq, sp⟩ := a
   cases hda _ rfl
   exact ⟨db, dq, rfl, (rd_vec (i := j) (v := num v) (L := arr cb 0 [.slice ka cl.code.length kc, .slice (some ⟨db, dq, none⟩) cl.data.length dc] :: vec 7 (.slice ka cl.code.length kc) (cl.code.map inC).flatten :: vec 1 (.slice (some ⟨db, dq, none⟩) cl.data.length dc) (cl.data.map num) :: F) (.there (.there .here)) (by rw [List.getElem?_map, hv]; rfl)) h s⟩
def mkC (m : Nat × Nat) : List Value := [.int .u8 (m.1 : Nat), .int .i64 (m.2 : Nat)]
def aloneInv (b5 pb nb : Nat) (ansv : Value) (st : Mach.St) (x : B.X) (F : List HProp) : Inv (Nat × Value) B.X where
 e := fun i => [(5, .pointer (some ⟨b5, 0, none⟩)), (7, .pointer (some ⟨pb, 0, none⟩)), (8, ansv), (9, .pointer (some ⟨nb, 0, none⟩)), (10, i.2), (11, .int .i64 (i.1 : Nat))]
 L := fun i => vec 2 i.2 (((st.tr.take i.1).map (·.2)).map mkC).flatten :: F
 x := fun _ => x
 ok := fun i => i.1 ≤ st.tr.length
set_option maxHeartbeats 8000000 in
theorem alone_tr {wv lv kv dv : Value} {w : Mach.Wd} {cl : Mach.Cl} {st : Mach.St} {f g : Nat} {d : Bool} {told : List Nat} {t : Mach.Th} (hp : Mach.play f g w [] [[cl]] = some st) (hf : 16384 * (f + 1) + f < 1000000000) (hcl : cl.ok = true) (htr : st.tr.length ≤ 16384) (hl : st.l = [t]) (hans : t.ans = [(d, told)])
  (hh : Has L (wvC wv lv w) G) (hc : Has G (clC kv dv cl) F) :
  Tr Try.prog B 16 [.agg #[wv, lv], .agg #[kv, dv]] L x fun v L' x' => ∃ toldV wv' lv' marksV : Value, v = .tuple #[toldV, .agg #[wv', lv'], marksV] ∧ L' = vec 1 toldV (told.map num) :: wvC wv' lv' st.w :: vec 2 marksV ((st.tr.map (·.2)).map mkC).flatten :: wvC wv lv w :: F ∧ x' = x := by
 refine tr_star (vec 7 kv (cl.code.map inC).flatten :: vec 1 dv (cl.data.map num) :: wvC wv lv w :: F) (fun h s => ?_) ?_
 ·have s1 : Star (clC kv dv cl :: wvC wv lv w :: F) h := star_swap (star_map (hh.star s) (fun _ z => z) (fun _ z => hc.star z))
  exact star_open s1
 clear hh hc
 refine Tr.post (R := fun v L' x' => ∃ toldV wv' lv' marksV : Value, v = .tuple #[toldV, .agg #[wv', lv'], marksV] ∧ x' = x ∧ ∀ h, Star L' h → Star (vec 1 toldV (told.map num) :: wvC wv' lv' st.w :: vec 2 marksV ((st.tr.map (·.2)).map mkC).flatten :: wvC wv lv w :: F) h) ?_
  (by rintro v L' x' ⟨toldV, wv', lv', marksV, rfl, rfl, hs⟩; exact ⟨_, ⟨toldV, wv', lv', marksV, rfl, rfl, rfl⟩, hs⟩)
 refine tr_pure (of_has .here (vec_shape (by omega))) ?_
 rintro ⟨ka, kn, kc, rfl, hkn, _, hka, hka2⟩
 refine tr_pure (of_has (.there .here) (vec_shape (by omega))) ?_
 rintro ⟨da, dn, dc, rfl, hdn, _, hda, hda2⟩
 refine tr_pure (of_has (.there (.there .here)) wv_shape) ?_
 rintro ⟨⟨wa, wn, wc, rfl⟩, la, ln, lc, rfl⟩
 have hkn' : kn = cl.code.length := by rw [flat_len (k := 7) (fun _ => rfl)] at hkn; omega
 have hdn' : dn = cl.data.length := by rw [List.length_map] at hdn; omega
 have hclo := hcl
 simp only [Mach.Cl.ok, Bool.and_eq_true, decide_eq_true_eq] at hclo
 refine tr_of_body Try.func16 rfl Try.ntmps16 (by simp) fun um Q _ hQ => ?_
 simp only [argE, Nat.zero_add, Nat.reduceAdd]
 repeat (first | (apply wo_mo; apply mo_box; exact rfl; exact trivial) | refine we_seq ?_ | (refine wR ?_; try simp only [oS]))
 rintro v' L' ⟨b2, rfl, rfl⟩
 repeat (first | (apply wo_mo; apply mo_box; exact rfl; exact trivial))
 rintro v' L' ⟨b3, rfl, rfl⟩
 repeat (first | (apply wo_mo; apply mo_alloc; exact trivial) | refine wA ?_)
 rintro v' L' ⟨b5, rfl, rfl⟩
 refine wo_ent (arr b5 0 [.slice none 0 0, .slice none 0 0] :: arr b3 0 [.slice ka kn kc, .slice da dn dc] :: arr b2 0 [.slice wa wn wc, .slice la ln lc] :: vec 7 (.slice ka kn kc) (cl.code.map inC).flatten :: vec 1 (.slice da dn dc) (cl.data.map num) :: wvC (.slice wa wn wc) (.slice la ln lc) w :: F) .refl ?_
 have hr2 : ∀ {d1 d2 : HProp} {F : List HProp}, Rds (d1 :: d2 :: arr b2 0 [.slice wa wn wc, .slice la ln lc] :: F) b2 0 [.slice wa wn wc, .slice la ln lc] := fun {d1 d2 F} => Rds.all (.there (.there .here))
 have hr3 : ∀ {d1 : HProp} {F : List HProp}, Rds (d1 :: arr b3 0 [.slice ka kn kc, .slice da dn dc] :: F) b3 0 [.slice ka kn kc, .slice da dn dc] := fun {d1 F} => Rds.all (.there .here)
 repeat (first | (apply wo_po; apply mo_loadA (vs := [.slice wa wn wc, .slice la ln lc]); exact rfl; exact rfl; exact hr2; exact trivial) | (apply wo_po; apply mo_loadA (vs := [.slice ka kn kc, .slice da dn dc]); exact rfl; exact rfl; exact hr3; exact trivial) | (apply wo_mo; apply mo_buildSlice (sz := 2) (vs := [.agg #[.slice ka kn kc, .slice da dn dc]]); exact rfl; exact .cons rfl .nil; exact rfl; (intro v hv; cases (List.mem_singleton.1 hv); exact rfl); omega; exact trivial) | refine we_seq ?_ | (refine wR ?_; try simp only [oS]) | refine wo_nil ?_ | refine wA ?_)
 rintro v' L' ⟨cb, rfl, rfl⟩
 repeat (first | (apply wo_mo; apply mo_buildSlice (sz := 1) (vs := [.slice (some ⟨cb, 0, none⟩) 1 1]); exact rfl; exact .cons rfl .nil; exact rfl; (intro v hv; cases (List.mem_singleton.1 hv); exact rfl); omega; exact trivial))
 rintro v' L' ⟨tb, rfl, rfl⟩
 obtain ⟨cw, hcw⟩ : ∃ cw : CW, cw = ⟨some ⟨cb, 0, none⟩, 1, fun _ => (ka, kc), fun _ => (da, dc)⟩ := ⟨_, rfl⟩
 obtain ⟨FF, hFF⟩ : ∃ FF, FF = arr cb 0 [.slice ka kn kc, .slice da dn dc] :: vec 7 (.slice ka kn kc) (cl.code.map inC).flatten :: vec 1 (.slice da dn dc) (cl.data.map num) :: arr b5 0 [.slice none 0 0, .slice none 0 0] :: F := ⟨_, rfl⟩
 have hcc : CallsOk FF [(cw, [cl])] := by
  refine ⟨by show 1 < 1000; omega, fun y hy => ?_, fun y hy => ?_, fun y hy => ?_⟩
  ·cases List.mem_singleton.1 hy
   rw [hFF, hcw]
   exact code_obs hkn' hdn' hka2 hda2 hka hda
  ·cases List.mem_singleton.1 hy
   show ([cl].all Mach.Cl.ok) = true
   simp [hcl]
  ·cases List.mem_singleton.1 hy
   show 1 < 1000000; omega
 refine wo_star (wvC (.slice wa wn wc) (.slice la ln lc) w :: vec 1 (.slice (some ⟨tb, 0, none⟩) 1 1) ([(cw, [cl])].map cvK) :: FF) (fun h st => ?_) ?_
 ·rw [hFF]
  have s1 : Star (arr tb 0 [.slice (some ⟨cb, 0, none⟩) 1 1] :: wvC (.slice wa wn wc) (.slice la ln lc) w :: arr cb 0 [.slice ka kn kc, .slice da dn dc] :: vec 7 (.slice ka kn kc) (cl.code.map inC).flatten :: vec 1 (.slice da dn dc) (cl.data.map num) :: arr b5 0 [.slice none 0 0, .slice none 0 0] :: F) h := by
   refine Ent.star ?_ st
   exact (.take .here (.take (.there (.there (.there (.there (.there (.there .here)))))) (.take .here (.take (.there (.there (.there .here))) (.take (.there (.there (.there .here))) (.take .here (.drop (.drop .refl))))))))
  refine star_swap ?_
  rw [hcw]
  exact vec_new (n := 1) rfl s1
 refine wo_call (.cons rfl (.cons rfl (.cons rfl .nil))) trivial (play_tr (F := FF) (st := st) (o := []) (oa := none) (oc := 0) (cc := [(cw, [cl])]) (f := f) (g := g) hp hf hcc (by show 0 < 1000000; omega) (fun k hk => by cases hk) (fun i k hk => by simp at hk) .here .here) ?_
 rintro v L' x' ⟨trv, cutv, ansv, wv', lv', os, rfl, rfl, hos, hs⟩
 refine wo_star _ hs ?_
 rw [hFF]
 refine wo_pure (of_has .here (vec_shape (by omega))) ?_
 rintro ⟨ra, rn, rc, rfl, hrn, _, hra, hra2⟩
 have hrnn := tr_len hrn
 subst hrnn
 refine wo_pure (of_has (.there .here) (vec_shape (by omega))) ?_
 rintro ⟨ca, cn, cc, rfl, _⟩
 refine wo_pure (of_has (.there (.there (.there (.there .here)))) wv_shape) ?_
 rintro ⟨⟨wa', wn', wc', rfl⟩, la', ln', lc', rfl⟩
 repeat (first | (apply wo_mo; apply mo_alloc; exact trivial) | refine wM ?_ | (apply wo_po; apply mo_extract; exact rfl; exact rfl; exact gY))
 rintro v' L' ⟨pb, rfl, rfl⟩
 repeat (first | (apply wo_mo; apply mo_alloc; exact trivial))
 rintro v' L' ⟨nb, rfl, rfl⟩
 repeat (first | (apply wo_pm; apply mo_storeA (b := pb) (c := 0) (k := 0) (a := 0) (vs := [.slice none 0 0, .slice none 0 0]); exact rfl; exact rfl; exact rfl; (intro w hw; simp [Value.cells] at hw; rcases hw with rfl | rfl <;> rfl); exact rfl; exact Nat.le_refl 2; exact (.there .here); exact trivial) | (apply wo_pm; apply mo_storeA (b := nb) (c := 0) (k := 0) (a := 0) (vs := [.slice none 0 0, .slice none 0 0]); exact rfl; exact rfl; exact rfl; (intro w hw; simp [Value.cells] at hw; rcases hw with rfl | rfl <;> rfl); exact rfl; exact Nat.le_refl 2; exact .here; exact trivial) | refine we_seq ?_ | (refine wR ?_; try simp only [oS]) | refine wo_nil ?_ | refine wA ?_)
 refine we_block ?_
 obtain ⟨F4, hF4⟩ : ∃ F4, F4 = vec 1 ansv (os.map (·.1)) :: all (os.map ansK) :: wvC (.slice wa' wn' wc') (.slice la' ln' lc') st.w :: wvC (.slice wa wn wc) (.slice la ln lc) w :: F := ⟨_, rfl⟩
 obtain ⟨F3, hF3⟩ : ∃ F3, F3 = arr nb 0 [.slice wa' wn' wc', .slice la' ln' lc'] :: arr pb 0 [.slice ra st.tr.length rc, .slice ca cn cc] :: vec 3 (.slice ra st.tr.length rc) (st.tr.map trC).flatten :: arr b5 0 [.slice none 0 0, .slice none 0 0] :: F4 := ⟨_, rfl⟩
 refine we_star ((aloneInv b5 pb nb ansv st x' F3).L (0, .slice none 0 0)) (fun h hs => ?_) ?_
 ·dsimp only [aloneInv]
  refine vec_nil ?_
  rw [hF3, hF4]
  have s0 : Star (arr nb 0 [.slice wa' wn' wc', .slice la' ln' lc'] :: arr pb 0 [.slice ra st.tr.length rc, .slice ca cn cc] :: vec 3 (.slice ra st.tr.length rc) (st.tr.map trC).flatten :: vec 1 (.slice ca cn cc) (st.cut.map cI) :: vec 1 ansv (os.map (·.1)) :: all (os.map ansK) :: wvC (.slice wa' wn' wc') (.slice la' ln' lc') st.w :: vec 1 (.slice (some ⟨tb, 0, none⟩) 1 1) ([(cw, [cl])].map cvK) :: wvC (.slice wa wn wc) (.slice la ln lc) w :: arr cb 0 [.slice ka kn kc, .slice da dn dc] :: vec 7 (.slice ka kn kc) (cl.code.map inC).flatten :: vec 1 (.slice da dn dc) (cl.data.map num) :: arr b5 0 [.slice none 0 0, .slice none 0 0] :: F) h := hs
  refine Ent.star ?_ s0
  exact (.take .here (.take .here (.take .here (.take (.there (.there (.there (.there (.there (.there (.there (.there (.there .here))))))))) (.take (.there .here) (.take (.there .here) (.take (.there .here) (.take (.there (.there .here)) (.drop (.drop (.drop (.drop (.drop .refl)))))))))))))
 refine we_loopN (aloneInv b5 pb nb ansv st x' F3) (fun i => st.tr.length - i.1) (0, .slice none 0 0) (Nat.zero_le _) ⟨rfl, rfl, rfl, rfl, rfl, rfl, trivial⟩ .refl rfl ?_
 rintro ⟨i, mv⟩ hi
 dsimp only [aloneInv] at hi ⊢
 have htrl : ∀ d1 : HProp, Rd (d1 :: F3) pb 0 (.slice ra st.tr.length rc) := fun d1 => by rw [hF3]; exact .there (.there (Rd.row0 rfl))
 by_cases hc : i < st.tr.length
 ·obtain ⟨⟨tk, m1, m2⟩, hti⟩ : ∃ z, st.tr[i]? = some z := ⟨st.tr[i], by simp [hc]⟩
  obtain ⟨⟨rb, ro, sp⟩, rfl⟩ : ∃ z, ra = some z := by
   cases ra with
   | none => have : st.tr.length = 0 := hra rfl; omega
   | some z => exact ⟨z, rfl⟩
  cases hra2 _ rfl
  refine we_pure (of_has .here (vec_shape (by omega))) ?_
  rintro ⟨ma, mn, mc, rfl, hmn, _⟩
  have hmn' : mn = i := by
   rw [flat_len (k := 2) (fun _ => rfl)] at hmn
   simp at hmn; omega
  subst hmn'
  have hmk : ∀ d1 : HProp, Rds (d1 :: F3) rb (ro + 3 * mn + 1) [.int .u8 (m1 : Nat), .int .i64 (m2 : Nat)] := fun d1 j v hj => by
   rw [hF3]
   have hj2 : j < 2 := (List.getElem?_eq_some_iff.1 hj).1
   have := rd_vec (i := 3 * mn + (1 + j)) (v := v) (L := d1 :: arr nb 0 [.slice wa' wn' wc', .slice la' ln' lc'] :: arr pb 0 [.slice (some ⟨rb, ro, none⟩) st.tr.length rc, .slice ca cn cc] :: vec 3 (.slice (some ⟨rb, ro, none⟩) st.tr.length rc) (st.tr.map trC).flatten :: arr b5 0 [.slice none 0 0, .slice none 0 0] :: F4) (.there (.there (.there .here))) (by
    rw [flat_get (k := 3) (fun _ => rfl) _ _ _ _ hti (by omega)]
    show (trC (tk, m1, m2))[1 + j]? = some v
    rw [← hj]
    show ([.int .i64 (tk : Nat), .int .u8 (m1 : Nat), .int .i64 (m2 : Nat)] : List Value)[1 + j]? = _
    rw [Nat.add_comm]; rfl)
   rwa [← Nat.add_assoc, ← Nat.add_assoc] at this
  repeat (first | (apply wo_po; apply mo_indexAddr (r := ro + 3 * mn); exact rfl; exact rfl; omega; omega; omega; exact trivial) | (apply wo_po; apply mo_load; exact rfl; exact htrl _; exact trivial) | (apply wo_po; apply mo_loadA (vs := [.int .u8 (m1 : Nat), .int .i64 (m2 : Nat)]); exact rfl; exact rfl; exact hmk _; exact trivial) | (apply wo_mo; apply mo_buildSlice (sz := 2) (vs := [.agg #[.int .u8 (m1 : Nat), .int .i64 (m2 : Nat)]]); exact rfl; exact .cons rfl .nil; exact rfl; (intro v hv; cases (List.mem_singleton.1 hv); exact rfl); omega; exact trivial) | refine wlssT ?_ | refine we_seq ?_ | (refine wR ?_; try simp only [oS]) | refine wo_nil ?_ | refine wM ?_ | refine wD ?_ | refine wE ?_ | refine wT ?_ | refine we_skip ?_ | refine we_block ?_)
  rintro v' L' ⟨sb, rfl, rfl⟩
  repeat (first | (apply wo_mo; apply mo_append (sz := 2) (new := mkC (m1, m2)); exact rfl; exact rfl; exact rfl; exact rfl; exact (.there .here); exact rfl; exact .inr ⟨_, _, rfl, Rds.all .here⟩; (intro v hv; simp [mkC] at hv; rcases hv with rfl | rfl <;> rfl); (simp only [sliceLen]; omega); exact trivial))
  rintro v' L' rfl
  repeat (first | (refine wR ?_; try simp only [oS]) | refine wo_nil ?_ | refine wM ?_ | refine wA ?_ | refine wadd ?_)
  refine at_round (I := aloneInv b5 pb nb ansv st x' F3) (R := fun i' => st.tr.length - i'.1 < st.tr.length - mn) (mn + 1, v') (by simp only; omega) (by show mn + 1 ≤ _; omega) ⟨rfl, rfl, rfl, rfl, rfl, rfl, trivial⟩ ?_ rfl
  dsimp only [aloneInv]
  rw [List.take_add_one, hti]
  have : ((List.map (·.2) (st.tr.take mn ++ (some (tk, m1, m2)).toList)).map mkC).flatten = ((List.map (·.2) (st.tr.take mn)).map mkC).flatten ++ mkC (m1, m2) := by simp
  rw [this]
  exact (.take .here (.drop .refl))
 ·have hi2 : i = st.tr.length := by omega
  subst hi2
  repeat (first | (apply wo_po; apply mo_load; exact rfl; exact htrl _; exact trivial) | refine wlssF ?_ | refine we_seq ?_ | (refine wR ?_; try simp only [oS]) | refine wo_nil ?_ | refine wM ?_ | refine wD ?_ | refine wE ?_ | refine wF ?_ | refine we_exit ?_)
  rw [List.take_length]
  subst hF3
  subst hF4
  rw [hl] at hos
  obtain ⟨⟨av, aa0⟩, rfl⟩ : ∃ y, os = [y] := by
   have hos1 : os.length = 1 := by have := congrArg List.length hos; simpa using this
   exact List.length_eq_one_iff.1 hos1
  have haa : aa0 = [(d, told)] := by
   simp only [List.map_cons, List.map_nil, hans, List.cons.injEq, and_true] at hos
   exact hos
  subst haa
  refine we_star (ansK (av, [(d, told)]) :: arr nb 0 [.slice wa' wn' wc', .slice la' ln' lc'] :: arr b5 0 [.slice none 0 0, .slice none 0 0] :: vec 1 ansv [av] :: vec 2 mv ((st.tr.map (·.2)).map mkC).flatten :: wvC (.slice wa' wn' wc') (.slice la' ln' lc') st.w :: wvC (.slice wa wn wc) (.slice la ln lc) w :: F) (fun h hs => ?_) ?_
  ·have s1 : Star (all [ansK (av, [(d, told)])] :: arr nb 0 [.slice wa' wn' wc', .slice la' ln' lc'] :: arr b5 0 [.slice none 0 0, .slice none 0 0] :: vec 1 ansv [av] :: vec 2 mv ((st.tr.map (·.2)).map mkC).flatten :: wvC (.slice wa' wn' wc') (.slice la' ln' lc') st.w :: wvC (.slice wa wn wc) (.slice la ln lc) w :: F) h := by
    refine Ent.star ?_ hs
    exact (.take (.there (.there (.there (.there (.there (.there .here)))))) (.take (.there .here) (.take (.there (.there (.there .here))) (.take (.there (.there (.there .here))) (.take .here (.take (.there (.there .here)) (.take (.there (.there .here)) (.drop (.drop .refl)))))))))
   exact star_open s1
  refine we_ex .here fun al => we_and .here fun e1 => we_open .here ?_
  obtain ⟨⟨d', tv, told'⟩, rfl⟩ : ∃ y, al = [y] := by
   have hal1 : al.length = 1 := by have := congrArg List.length e1; simpa using this
   exact List.length_eq_one_iff.1 hal1
  obtain ⟨rfl, rfl⟩ : d' = d ∧ told' = told := by
   simp only [List.map_cons, List.map_nil, ansOf, List.cons.injEq, Prod.mk.injEq, and_true] at e1
   exact e1
  refine we_star (vec 2 av [.bool d', tv] :: vec 1 tv (told'.map num) :: arr nb 0 [.slice wa' wn' wc', .slice la' ln' lc'] :: arr b5 0 [.slice none 0 0, .slice none 0 0] :: vec 1 ansv [av] :: vec 2 mv ((st.tr.map (·.2)).map mkC).flatten :: wvC (.slice wa' wn' wc') (.slice la' ln' lc') st.w :: wvC (.slice wa wn wc) (.slice la ln lc) w :: F) (fun h hs => ?_) ?_
  ·exact star_map hs (fun _ z => z) (fun _ z => star_open z)
  refine we_pure (of_has .here (vec_shape (by omega))) ?_
  rintro ⟨aa, an, ac, rfl, han, _, haa, haa2⟩
  have han1 : an = 1 := by simp at han; omega
  subst han1
  obtain ⟨⟨ab, ao, sp⟩, rfl⟩ : ∃ z, aa = some z := by
   cases aa with
   | none => have : (1 : Nat) = 0 := haa rfl; omega
   | some z => exact ⟨z, rfl⟩
  cases haa2 _ rfl
  refine we_pure (of_has (.there (.there (.there (.there .here)))) (vec_shape (by omega))) ?_
  rintro ⟨qa, qn, qc, rfl, hqn, _, hqa, hqa2⟩
  have hqn1 : qn = 1 := by simp at hqn; omega
  subst hqn1
  obtain ⟨⟨qb, qo, sp⟩, rfl⟩ : ∃ z, qa = some z := by
   cases qa with
   | none => have : (1 : Nat) = 0 := hqa rfl; omega
   | some z => exact ⟨z, rfl⟩
  cases hqa2 _ rfl
  obtain ⟨F5, hF5⟩ : ∃ F5, F5 = vec 1 (.slice (some ⟨qb, qo, none⟩) 1 qc) [.slice (some ⟨ab, ao, none⟩) 1 ac] :: vec 2 mv ((st.tr.map (·.2)).map mkC).flatten :: wvC (.slice wa' wn' wc') (.slice la' ln' lc') st.w :: wvC (.slice wa wn wc) (.slice la ln lc) w :: F := ⟨_, rfl⟩
  rw [← hF5]
  have hq0 : ∀ d1 d2 d3 d4 : HProp, Rd (d1 :: d2 :: d3 :: d4 :: F5) qb (qo + 0) (.slice (some ⟨ab, ao, none⟩) 1 ac) := fun d1 d2 d3 d4 => by rw [hF5]; exact rd_vec (.there (.there (.there (.there .here)))) rfl
  have ht0 : ∀ {F : List HProp}, Rd (vec 2 (.slice (some ⟨ab, ao, none⟩) 1 ac) [.bool d', tv] :: F) ab (ao + 0 + 1) tv := fun {F} => rd_vec (i := 1) .here rfl
  have hn0 : ∀ {d1 d2 : HProp} {F : List HProp}, Rds (d1 :: d2 :: arr nb 0 [.slice wa' wn' wc', .slice la' ln' lc'] :: F) nb 0 [.slice wa' wn' wc', .slice la' ln' lc'] := fun {d1 d2 F} => Rds.all (.there (.there .here))
  refine we_draw (List.range' 0 11) (by kernel_rfl) ?_
  repeat (first | (apply ap_pure; exact rfl; exact rfl; exact trivial; intro L; apply mo_indexAddr (r := qo + 0); exact rfl; exact rfl; omega; omega; omega) | (apply ap_pure; exact rfl; exact rfl; exact trivial; intro L; apply mo_indexAddr (r := ao + 0); exact rfl; exact rfl; omega; omega; omega) | (apply ap_read; exact rfl; exact rfl; exact trivial; apply mo_load; exact rfl; exact hq0 _ _ _ _) | (apply ap_read; exact rfl; exact rfl; exact trivial; apply mo_load; exact rfl; exact ht0) | (apply ap_read; exact rfl; exact rfl; exact trivial; apply mo_loadA (vs := [.slice wa' wn' wc', .slice la' ln' lc']); exact rfl; exact rfl; exact hn0) | refine aM ?_ | refine aA ?_ | refine aD ?_)
  refine ap_loud rfl rfl rfl rfl rfl trivial (mo_storeA (c := 0) (k := 0) (a := 0) (vs := [.slice none 0 0, .slice none 0 0]) rfl rfl rfl (by intro w hw; simp [Value.cells] at hw; rcases hw with rfl | rfl <;> rfl) rfl (Nat.le_refl 2) (.there (.there (.there .here)))) ?_
  rintro v' L' ⟨rfl, rfl⟩
  repeat (first | refine aA ?_ | refine ap_end ?_)
  repeat (first | refine we_ret ?_)
  refine at_leaveM (rs := [.tmp 4, .cell 5 38, .tmp 6]) Try.func16 Try.results16 hQ (.inl rfl) (.cons (.tmp rfl) (.cons (.cell (vs := [.slice wa' wn' wc', .slice la' ln' lc']) rfl rfl (Rds.all (.there (.there (.there .here))))) (.cons (.tmp rfl) .nil))) ?_
  refine ⟨tv, _, _, mv, rfl, rfl, fun h hs => ?_⟩
  rw [hF5] at hs
  refine Ent.star ?_ hs
  exact (.take (.there .here) (.take (.there (.there (.there (.there (.there .here))))) (.take (.there (.there (.there (.there .here)))) (.take (.there (.there (.there (.there .here)))) (.drop (.drop (.drop (.drop .refl))))))))
end
end Go.Proofs.Ytcladnioicackaa
namespace Go.Proofs.Ytcladnioicackaa
open Go Go.PB
attribute [local irreducible] Mo Bin Eql Tr Wo
section
structure Acc (B : Hand) (gv : Value) where
 S : Type
 C : S → HProp
 x : S → B.X
 step : Int → Nat → S → (S → Prop) → Prop
 addr : Nat → Nat × Nat
 load : Nat → S → (Nat → S → Prop) → Prop
 store : Nat → Nat → S → (S → Prop) → Prop
 cas : Nat → Nat → Nat → S → (Bool → S → Prop) → Prop
 add : Nat → Nat → S → (Nat → S → Prop) → Prop
 swap : Nat → Nat → S → (Nat → S → Prop) → Prop
 gate : (gv = .nilIface ∧ ∀ op w s R, step op w s R → R s) ∨
  ∃ t p f, gv = .iface t p ∧ Met Try.prog t "Step" f ∧ Ent' Try.prog f ∧ ∀ op w s R L F, step op w s R → Has L (C s) F →
   Tr Try.prog B f [p, .agg #[.int .u8 op, .int .i64 (w : Nat)]] L (x s) fun v L' x' => ∃ s', R s' ∧ v = .tuple #[] ∧ L' = C s' :: F ∧ x' = x s'
 load_ok : ∀ w s R L F b o, addr w = (b, o) → load w s R → Has L (C s) F → Tr Try.prog B 53 [.pointer (some ⟨b, o, none⟩)] L (x s) fun v L' x' => ∃ n s', n < 18446744073709551616 ∧ R n s' ∧ v = .int .u64 (n : Nat) ∧ L' = C s' :: F ∧ x' = x s'
 store_ok : ∀ w n s R L F b o, addr w = (b, o) → n < 18446744073709551616 → store w n s R → Has L (C s) F → Tr Try.prog B 93 [.pointer (some ⟨b, o, none⟩), .int .u64 (n : Nat)] L (x s) fun v L' x' => ∃ s', R s' ∧ v = .tuple #[] ∧ L' = C s' :: F ∧ x' = x s'
 cas_ok : ∀ w m n s R L F b o, addr w = (b, o) → n < 18446744073709551616 → cas w m n s R → Has L (C s) F → Tr Try.prog B 98 [.pointer (some ⟨b, o, none⟩), .int .u64 (m : Nat), .int .u64 (n : Nat)] L (x s) fun v L' x' => ∃ q s', R q s' ∧ v = .bool q ∧ L' = C s' :: F ∧ x' = x s'
 add_ok : ∀ w n s R L F b o, addr w = (b, o) → n < 18446744073709551616 → add w n s R → Has L (C s) F → Tr Try.prog B 91 [.pointer (some ⟨b, o, none⟩), .int .u64 (n : Nat)] L (x s) fun v L' x' => ∃ m s', m < 18446744073709551616 ∧ R m s' ∧ v = .int .u64 (m : Nat) ∧ L' = C s' :: F ∧ x' = x s'
section
variable {B : Hand} [Lets B] {L F L1 : List HProp}
theorem load_lone {b o : Nat} {n : Int} {x : B.X} (hr : Rd L b o (.int .u64 n)) : Tr Try.prog B 53 [.pointer (some ⟨b, o, none⟩)] L x fun v L' x' => v = .int .u64 n ∧ L' = L ∧ x' = x := by
 refine tr_of_body Try.func53 rfl Try.ntmps53 (by simp) fun um Q _ hQ => ?_
 simp only [argE, Nat.zero_add, Nat.reduceAdd]
 repeat (first | (apply wo_po; apply mo_ext (args := [_]); exact .cons rfl .nil; exact at_loadI hr; exact trivial) | refine we_seq ?_ | (refine wR ?_; try simp only [oS]) | refine wo_nil ?_ | refine wM ?_ | refine wA ?_ | refine wN ?_ | refine wD ?_ | refine we_ret ?_)
 (first | refine or1 Try.func53 Try.results53 hQ rfl ?_ | refine on1 Try.func53 Try.results53 hQ rfl ?_)
 exact ⟨rfl, rfl, rfl⟩
theorem store_lone {b o : Nat} {n : Int} {x : B.X} (hw : Wt L b o (.int .u64 n) L1) : Tr Try.prog B 93 [.pointer (some ⟨b, o, none⟩), .int .u64 n] L x fun v L' x' => v = .tuple #[] ∧ L' = L1 ∧ x' = x := by
 refine tr_of_body Try.func93 rfl Try.ntmps93 (by simp) fun um Q _ hQ => ?_
 simp only [argE, Nat.zero_add, Nat.reduceAdd]
 repeat (first | (apply wo_pm; apply mo_ext (args := [_, _]); exact .cons rfl (.cons rfl .nil); exact at_storeI rfl hw; exact trivial) | (refine wR ?_; try simp only [oS]) | refine wo_nil ?_ | refine wM ?_ | refine wN ?_ | refine wD ?_)
 (first | refine or0 Try.func93 Try.results93 hQ ?_ | refine on0 Try.func93 Try.results93 hQ ?_)
 exact ⟨rfl, rfl, rfl⟩
theorem cas_lone {b o : Nat} {n m y : Int} {x : B.X} (hr : Rd L b o (.int .u64 n)) (hw : Wt L b o (.int .u64 y) L1) : Tr Try.prog B 98 [.pointer (some ⟨b, o, none⟩), .int .u64 m, .int .u64 y] L x fun v L' x' => v = .bool (decide (n = m)) ∧ L' = (if n = m then L1 else L) ∧ x' = x := by
 refine tr_of_body Try.func98 rfl Try.ntmps98 (by simp) fun um Q _ hQ => ?_
 simp only [argE, Nat.zero_add, Nat.reduceAdd]
 repeat (first | (apply wo_pm; apply mo_ext (args := [_, _, _]); exact .cons rfl (.cons rfl (.cons rfl .nil)); exact at_casI hr hw; exact trivial) | refine we_seq ?_ | (refine wR ?_; try simp only [oS]) | refine wo_nil ?_ | refine wM ?_ | refine wA ?_ | refine wN ?_ | refine wD ?_ | refine we_ret ?_)
 (first | refine or1 Try.func98 Try.results98 hQ rfl ?_ | refine on1 Try.func98 Try.results98 hQ rfl ?_)
 exact ⟨rfl, rfl, rfl⟩
theorem add_lone {b o : Nat} {n y r : Int} {x : B.X} (hr : Rd L b o (.int .u64 n)) (hn : IntKind.u64.wrap (n + y) = r) (hw : Wt L b o (.int .u64 r) L1) : Tr Try.prog B 91 [.pointer (some ⟨b, o, none⟩), .int .u64 y] L x fun v L' x' => v = .int .u64 r ∧ L' = L1 ∧ x' = x := by
 refine tr_of_body Try.func91 rfl Try.ntmps91 (by simp) fun um Q _ hQ => ?_
 simp only [argE, Nat.zero_add, Nat.reduceAdd]
 repeat (first | (apply wo_pm; apply mo_ext (args := [_, _]); exact .cons rfl (.cons rfl .nil); exact at_addI hr hn hw; exact trivial) | refine we_seq ?_ | (refine wR ?_; try simp only [oS]) | refine wo_nil ?_ | refine wM ?_ | refine wA ?_ | refine wN ?_ | refine wD ?_ | refine we_ret ?_)
 (first | refine or1 Try.func91 Try.results91 hQ rfl ?_ | refine on1 Try.func91 Try.results91 hQ rfl ?_)
 exact ⟨rfl, rfl, rfl⟩
end
end
section
variable {B : Hand} [Lets B]
def loneAcc (x : B.X) (addr : Nat → Nat × Nat) (N : Nat) (K : List (Nat × Nat × Value)) (A : Apart addr N K) : Acc B .nilIface where
 S := Nat → Nat
 C := wds addr N K
 x := fun _ => x
 step := fun _ _ s R => R s
 addr := addr
 load := fun w s R => w < N ∧ R (s w) s
 store := fun w n s R => w < N ∧ R (upd s w n)
 cas := fun w a n s R => w < N ∧ if s w = a then R true (upd s w n) else R false s
 add := fun w n s R => w < N ∧ R ((s w + n) % 18446744073709551616) (upd s w ((s w + n) % 18446744073709551616))
 swap := fun w n s R => w < N ∧ R (s w) (upd s w n)
 gate := .inl ⟨rfl, fun _ _ _ _ h => h⟩
 load_ok := fun w s R L F b o ha hl hh => tr_pure (of_has hh fun h hc => (hc.1 w hl.1).1) fun hs =>
  (load_lone (rd_wds hh hl.1 ha)).post fun v L' x' ⟨h1, h2, h3⟩ => ⟨_, ⟨s w, s, hs, hl.2, h1, rfl, h3⟩, fun h st => hh.star (h2 ▸ st)⟩
 store_ok := fun w n s R L F b o ha hn hl hh =>
  (store_lone (wt_wds A hh hl.1 ha hn)).mono fun v L' x' ⟨h1, h2, h3⟩ => ⟨upd s w n, hl.2, h1, h2, h3⟩
 cas_ok := fun w m n s R L F b o ha hn hl hh =>
  (cas_lone (rd_wds hh hl.1 ha) (wt_wds A hh hl.1 ha hn)).post fun v L' x' ⟨h1, h2, h3⟩ => by
   obtain ⟨h4, h5⟩ := hl
   by_cases e : s w = m
   ·rw [if_pos e] at h5; rw [if_pos (by omega)] at h2; exact ⟨_, ⟨true, _, h5, by rw [h1]; simp [e], rfl, h3⟩, fun h st => h2 ▸ st⟩
   ·rw [if_neg e] at h5; rw [if_neg (by omega)] at h2; exact ⟨_, ⟨false, _, h5, by rw [h1]; simp; omega, rfl, h3⟩, fun h st => hh.star (h2 ▸ st)⟩
 add_ok := fun w n s R L F b o ha hn hl hh =>
  (add_lone (r := ((s w + n) % 18446744073709551616 : Nat)) (rd_wds hh hl.1 ha) (by rw [wrap_u64_mod]; omega) (wt_wds A hh hl.1 ha (Nat.mod_lt _ (by decide)))).mono fun v L' x' ⟨h1, h2, h3⟩ => ⟨_, _, Nat.mod_lt _ (by decide), hl.2, h1, h2, h3⟩
end
end Go.Proofs.Ytcladnioicackaa
namespace Go.PB
open Go.Conc
def tries (cases : Array CommCase) (bl : Bool) (sh : CommShape) (h : Hp) (k : Value → Hp → Prop) : Prop :=
 ∃ (c : Nat) (v z : Value) (cap : Nat) (buf : Array Value) (s r : Nat) (tm : Bool), cases = #[scase c v z] ∧ bl = false ∧ sh = .select ∧ h.obj c = some (.chan cap buf false s r tm) ∧
  (buf.size < cap → k (.tuple #[goInt 0, .bool false]) (h.setObj c (.chan cap (buf.push v) false (s + 1) r tm))) ∧ (cap ≤ buf.size → k (.tuple #[goInt (-1), .bool false]) h)
def solo0 : Hand := ⟨Unit, fun _ => True, fun _ _ _ _ _ => False, fun cases bl sh h x k => tries cases bl sh h fun v h' => k v h' x, fun _ _ _ _ => False, fun _ _ _ => False, fun _ _ _ _ => False, fun _ _ _ => False⟩
instance : NoCut solo0 := ⟨fun _ _ _ h => h⟩
instance : Lets solo0 := ⟨trivial, fun _ => trivial⟩
def start (W : World) : Hp := ⟨fun _ _ => none, fun b o => W.cell? ⟨b, o, none⟩, fun _ => none, fun b => W.shape? b⟩
theorem fits_start (W : World) : Fits (start W) W where
 own := fun _ _ _ h => by cases h
 thaw := fun _ _ _ h => by cases h
 ro := fun _ _ _ h => h
 disj := fun _ _ _ h => by cases h
 obj := fun _ _ h => by cases h
 objn := fun _ _ h => by cases h
 shp := fun _ _ h => h
def After (W W' : World) : Prop := RowKit.Below W.heap.size W W' ∧ ∀ a, W'.frozen? a = W.frozen? a
theorem after_of {W W' : World} {h' : Hp} (g : Guar (start W) W W' h') : After W W' :=
 ⟨⟨g.os, g.tape, g.output, g.size, fun i hi => g.block i hi (fun _ => rfl) rfl⟩, g.frz⟩
def Ends (P : Program) (f : FuncId) (W : World) (R : Value → Hp → Prop) (fr : Frame) (cs : List Frame) (h : Hp) (w : World) : Prop :=
 Fits h w → Guar (start W) W w h → ∃ n fr' v w' w'' h' h'', runN P n (lone fr cs w) = .next (lone fr' [] w') ∧ step P (lone fr' [] w') = .ended (.done v) w'' ∧ Guar (start W) W w' h' ∧ Guar (start W) W w'' h'' ∧ R v h''
theorem stepG_bare_go {P : Program} {fr fr' : Frame} {cs cs' : List Frame} {w w' : World} {es : Array Event} (h : stepG P true (G fr cs) w = .go (G fr' cs') w' es) :
  step P (lone fr cs w) = .next (lone fr' cs' w') := by
 refine step_lone_go ?_
 unfold G at h
 rw [h]; rfl
theorem ends_closed {P : Program} {f : FuncId} {W : World} {R : Value → Hp → Prop} : Closed P solo0 true (fun fr cs h _ => ∀ w, Ends P f W R fr cs h w) where
 priv := by
  intro fr cs h x hs w fw gw
  obtain ⟨fr', cs', w', es, h', hstep, g, _, hk⟩ := hs w fw
  obtain ⟨n, fr2, v, w2, w3, h2, h3, e1, e2, e3, e4, e5⟩ := hk w' g.fits (gw.trans g)
  refine ⟨n + 1, fr2, v, w2, w3, h2, h3, ?_, e2, e3, e4, e5⟩
  have := stepG_bare_go hstep
  simp only [runN, this]
  exact e1
 act := fun _ _ _ _ _ _ _ h => h.elim
 comm := by
  rintro ⟨fn, tmps, todo, defers, mode, kind, roundOf⟩ cs h x o cases bl sh ⟨hm, hr, ops, i, r, k, htd, ho, hw⟩ hx ⟨c, v, z, cap, buf, s, rc, tm, rfl, rfl, rfl, hob, h1, h2⟩ w fw gw
  simp only at hm hr htd hw
  subst hm; subst hr; subst htd
  have hc := fw.obj c _ hob
  have hs := stepG_op (P := P) (main := true) (b := ⟨fn, kind⟩) (t := tmps) (d := defers) (l := r) (k := k) (cs := cs) (w := w) ho hw
  have he := eval_mkFr (b := ⟨fn, kind⟩) (t := tmps) (d := defers) (todo := .inRegion ops (i :: r) :: k)
  have hx' : (execOp (evT tmps) o).runT P w #[] = (.ok (.comm #[scase c v z] false .select) w, #[]) := by
   rw [← he]; exact hx w fw
  have hs2 : ∃ es, stepG P true (G (mkFr ⟨fn, kind⟩ tmps defers (.inRegion ops (i :: r) :: k)) cs) w = .comm (G (mkFr ⟨fn, kind⟩ tmps defers (.inRegion ops (i :: r) :: k)) cs) #[scase c v z] false .select w es :=
   ⟨_, by rw [hs]; simp only [stepG.apply, if_true, hx', GStep.after, mkFr]; rfl⟩
  obtain ⟨es, hs2⟩ := hs2
  by_cases hlt : buf.size < cap
  ·have g := Guar.setObj fw (by rw [hob]; rfl) (.chan cap (buf.push v) false (s + 1) rc tm) rfl
   obtain ⟨n, fr2, v2, w2, w3, h2', h3, e1, e2, e3, e4, e5⟩ := h1 hlt _ g.fits (gw.trans g)
   refine ⟨n + 1, fr2, v2, w2, w3, h2', h3, ?_, e2, e3, e4, e5⟩
   have hst : step P (lone { fn := fn, tmps := tmps, todo := .inRegion ops (i :: r) :: k, defers := defers, mode := .run, kind := kind, roundOf := none } cs w) = _ := step_lone_select_send_room hs2 hc hlt
   simp only [runN]
   rw [hst]
   exact e1
  ·obtain ⟨n, fr2, v2, w2, w3, h2', h3, e1, e2, e3, e4, e5⟩ := h2 (by omega) _ fw gw
   refine ⟨n + 1, fr2, v2, w2, w3, h2', h3, ?_, e2, e3, e4, e5⟩
   have hst : step P (lone { fn := fn, tmps := tmps, todo := .inRegion ops (i :: r) :: k, defers := defers, mode := .run, kind := kind, roundOf := none } cs w) = _ := step_lone_select_send_full hs2 hc (by omega)
   simp only [runN]
   rw [hst]
   exact e1
 spawn := fun _ _ _ _ _ _ _ _ h => h.elim
 ghost := fun _ _ _ _ h => h.elim
 late := fun _ _ _ _ _ _ _ _ _ _ h => h.elim
theorem end_alone {P : Program} {fr : Frame} {f : FuncId} {v : Value} {h : Hp} {w : World} (hi : P.inits.idxOf? f = none) (a : AtEnd P fr f .normal h (.ret v)) (fw : Fits h w) :
  ∃ w', step P (lone fr [] w) = .ended (.done v) w' ∧ Guar h w w' h := by
 obtain ⟨h1, h2, h3, h4, h5, fn, hf, hr⟩ := a
 rcases wpS_sound _ hr w #[] fw with ⟨v', w', es', h', e1, g, e2, rfl, rfl⟩ | ⟨_, _, _, _, _, _, _, hx⟩
 ·refine ⟨w', step_lone_ended ?_, g⟩
  simp only [Array.empty_append] at e1
  obtain ⟨f1, tmps, f3, f4, f5, f6, f7⟩ := fr
  simp only at h1 h2 h3 h4 h5
  subst h1; subst h2; subst h3; subst h4; subst h5
  have er : (results fn tmps).run P w = .ok v' w' := by rw [← Sem.runT_fst P _ w #[], e1]
  simp [stepG, unwind, hf, er, GStep.after, doReturn, hi, GStep.bare]
 ·exact hx.elim
theorem run_of_tr {P : Program} {f : FuncId} {args : List Value} {W : World} {R : Value → List HProp → Unit → Prop} (hi : P.inits.idxOf? f = none)
  (t : Tr P solo0 f args [base W] () R) :
  ∃ n fr v w' w'' h'', runN P n (lone (Frame.enter P f args.toArray .normal) [] W) = .next (lone fr [] w') ∧ step P (lone fr [] w') = .ended (.done v) w'' ∧ Guar (start W) W w'' h'' ∧ ∃ L', R v L' () ∧ Star L' h'' := by
 have hst : Star [base W] (start W) := ⟨start W, ⟨fun _ _ => none, fun _ _ => none, fun _ => none, fun _ => none⟩,
  ⟨fun _ _ _ e => e, fun _ _ _ e => (by cases e), fun _ _ _ e => e, fun _ _ _ e => (by cases e), fun _ _ => .inl rfl, fun _ _ e => e, fun _ _ e => (by cases e), fun _ => .inl rfl, fun _ _ e => e, fun _ _ e => (by cases e)⟩, fun _ _ _ e => e, trivial⟩
 have key := t (start W) .run (fun e _ h' _ => ∃ v, e = .ret v ∧ ∃ L', R v L' () ∧ Star L' h') hst (fun v L' x' h' r s => ⟨v, rfl, L', r, s⟩) (fun _ _ _ h => h.elim)
  true _ (ends_closed (f := f) (W := W) (R := fun v h => ∃ L', R v L' () ∧ Star L' h)) [] (fun h => by cases h) (by
   rintro fr e um' h' x' ha ⟨v, rfl, L', r, s⟩ w fw gw
   obtain ⟨w', e1, g⟩ := end_alone hi ha fw
   exact ⟨0, fr, v, w, w', h', h', rfl, e1, gw, gw.trans g, L', r, s⟩)
  W (fits_start W) (.refl (fits_start W))
 obtain ⟨n, fr, v, w', w'', h', h'', e1, e2, e3, e4, e5⟩ := key
 exact ⟨n, fr, v, w', w'', h'', e1, e2, e4, e5⟩
theorem good_of_tr {P : Program} {f : FuncId} {args : Array Value} {W : World} {Post : Value → World → Prop} {R : Value → List HProp → Unit → Prop} (hi : P.inits.idxOf? f = none)
  (t : Tr P solo0 f args.toList [base W] () R) (hR : ∀ v L' w', R v L' () → After W w' → Post v w') :
  ∃ M last o w' t', runNT P (M + 1) (solo (G (Frame.enter P f args .normal) []) W) #[] = (.ended o w', t') ∧ runN P M (solo (G (Frame.enter P f args .normal) []) W) = .next last ∧
    step P last = .ended o w' ∧ Conc.Good P Post last o w' t' := by
 obtain ⟨n, fr, v, w', w'', h'', e1, e2, e3, L', r, s⟩ := run_of_tr hi t
 have hend : runN P (n + 1) (lone (Frame.enter P f args .normal) [] W) = .ended (.done v) w'' := by
  rw [runN_add, e1]; simp only [runN, e2]
 have ht : (runNT P (n + 1) (lone (Frame.enter P f args .normal) [] W) #[]).1 = .ended (.done v) w'' := by rw [runNT_fst]; exact hend
 have ha := alone_of_lone (w' := w'') e1
 have hc := (clean_of_lone e1).2
 obtain ⟨a1, a2, a3⟩ := ha
 refine ⟨n, lone fr [] w', .done v, w'', (runNT P (n + 1) (lone (Frame.enter P f args .normal) [] W) #[]).2, Prod.ext ht rfl, e1, e2, v, rfl, hR v L' w'' r (after_of e3), ?_, ?_, onlyLeaving_of_quiet a1, ?_⟩
 ·exact fun said => (no_race_of_lone (said := said) P n _ _ e1 (by simp [lone]) rfl).2
 ·exact a2
 ·exact a3
end Go.PB
namespace Go.PB
open Go.ChangeShapes Go.WideShapes Go.ChangeAt Go.RowKit
structure Sh (α : Type) where
 n : Nat
 rel : World → List Value → α → Prop
def Opens {α : Type} (P : Program) (t : TypeId) (s : Sh α) : Prop :=
 P.cellsOf t = s.n ∧ ∀ (H : Type) (enc : TypeId × Value → H) (w : World) (fuel : Nat) (cs : List Value) (x : DataW H × List MemPlace), DataW.trod enc P w 0 (fun _ => true) true fuel t cs = some x → ∃ a, s.rel w cs a
def shI64 : Sh Int := ⟨1, fun _ cs a => cs = [.int .i64 a] ∧ -9223372036854775808 ≤ a ∧ a ≤ 9223372036854775807⟩
def shU64 : Sh Nat := ⟨1, fun _ cs a => cs = [.int .u64 (a : Nat)] ∧ a < 18446744073709551616⟩
def shPair {α β : Type} (s : Sh α) (t : Sh β) : Sh (α × β) := ⟨s.n + t.n, fun w cs x => s.rel w (cs.take s.n) x.1 ∧ t.rel w (cs.drop s.n) x.2⟩
def shUnit : Sh Unit := ⟨0, fun _ cs _ => cs = []⟩
section
variable {P : Program} {t e : TypeId} {α β : Type}
theorem opens_i64 (ht : P.underlying t = some (.int .i64)) (hc : P.cellsOf t = 1) : Opens P t shI64 := ⟨hc, fun _ enc w fuel cs x h => by
 cases fuel with
 | zero => simp [DataW.trod] at h
 | succ n =>
  unfold DataW.trod at h
  rw [ht] at h
  simp only at h
  split at h <;> try contradiction
  all_goals (rename_i k n he; cases he)
  split at h
  ·rename_i hw
   obtain ⟨rfl, hw⟩ := hw
   exact ⟨_, rfl, by simpa [Lit.wf, IntKind.min, IntKind.max, IntKind.signed, IntKind.bits] using hw⟩
  ·cases h⟩
theorem opens_u64 (ht : P.underlying t = some (.int .u64)) (hc : P.cellsOf t = 1) : Opens P t shU64 := ⟨hc, fun _ enc w fuel cs x h => by
 cases fuel with
 | zero => simp [DataW.trod] at h
 | succ n =>
  unfold DataW.trod at h
  rw [ht] at h
  simp only at h
  split at h <;> try contradiction
  all_goals (rename_i k n he; cases he)
  split at h
  ·rename_i hw
   obtain ⟨rfl, hw⟩ := hw
   have hw' : 0 ≤ n ∧ n ≤ 18446744073709551615 := by simpa [Lit.wf, IntKind.min, IntKind.max, IntKind.signed, IntKind.bits] using hw
   exact ⟨n.toNat, by rw [Int.toNat_of_nonneg hw'.1], by omega⟩
  ·cases h⟩
def OpensF {α : Type} (P : Program) : List Field → Nat → Sh α → Prop := fun fs o s =>
 ∀ (H : Type) (enc : TypeId × Value → H) (w : World) (n : Nat) (cs : List Value), cs.length = o + s.n → (∀ (i : Nat) (f : Field), fs[i]? = some f → ∃ x, DataW.trod enc P w 0 (fun _ => true) true n f.type ((cs.drop f.offset).take (P.cellsOf f.type)) = some x) → ∃ a, s.rel w (cs.drop o) a
theorem opensF_nil {o : Nat} : OpensF P [] o shUnit := fun _ enc w n cs hl _ => ⟨(), by simp [shUnit] at hl ⊢; omega⟩
theorem opensF_cons {f : Field} {fs : List Field} {o o' : Nat} {s : Sh α} {s' : Sh β} (ho : f.offset = o) (ht : Opens P f.type s) (he : o' = o + s.n) (hf : OpensF P fs o' s') : OpensF P (f :: fs) o (shPair s s') := fun _ enc w n cs hl hx => by
 subst he
 obtain ⟨x, h1⟩ := hx 0 f rfl
 obtain ⟨a, ha⟩ := ht.2 _ enc w n _ _ h1
 rw [ho, ht.1] at ha
 obtain ⟨b, hb⟩ := hf _ enc w n cs (by simp only [shPair] at hl; omega) (fun i g hg => hx (i + 1) g hg)
 exact ⟨(a, b), ha, by simpa [List.drop_drop] using hb⟩
theorem opens_struct {fs : Array Field} {s : Sh α} (ht : P.underlying t = some (.struct fs)) (hc : P.cellsOf t = s.n) (hf : OpensF P fs.toList 0 s) : Opens P t s := ⟨hc, fun _ enc w fuel cs x h => by
 obtain ⟨xs, n, rfl, rfl, h1, h2, h3⟩ := DataW.trod_struct ht h
 obtain ⟨a, ha⟩ := hf _ enc w n cs (by omega) (fun i f hi => by
  have hi' : fs[i]? = some f := by simpa using hi
  have hlt := (Array.getElem?_eq_some_iff.1 hi').1
  exact ⟨xs[i]'(by omega), by rw [h3 i f hi']; simp⟩)
 exact ⟨a, by simpa using ha⟩⟩
theorem arg_one {H : Type} {enc : TypeId × Value → H} {w : World} {v : Value} {d : DataW H} {ps : List MemPlace} {s : Sh α} (hs : Opens P t s) (h : DataW.Trod enc P w 0 (fun _ => true) true t v d ps) : ∃ a, s.rel w v.cells.toList a := by
 obtain ⟨fuel, hf⟩ := h
 exact hs.2 _ enc w fuel _ _ hf
theorem all_stays (hl : laidOutB P = true) {H : Type} {enc : TypeId × Value → H} {W W' : World} {sp' : Nat → Bool} : ∀ {ts : List TypeId} {vs : List Value} {ds : List (DataW H)} {ps : List MemPlace}, (∀ t ∈ ts, P.readableRec t = true ∧ t < P.types.size) →
  DataW.TrodAll enc P W 0 (fun _ => true) true ts vs ds ps → (∀ p ∈ ps, W.sameAt W' p) → (∀ p ∈ ps, sp' p.block = true) → DataW.TrodAll enc P W' 0 sp' true ts vs ds ps := by
 intro ts
 induction ts with
 | nil => intro vs ds ps _ h _ _; cases vs <;> cases ds <;> simp_all [DataW.TrodAll]
 | cons t ts ih =>
  intro vs ds ps ht h h1 h2
  obtain ⟨v, vs', d, ds', p, q, rfl, rfl, rfl, h3, h4⟩ := trodAll_cons h
  exact ⟨p, q, WideElems.Trod_stays hl (ht t (by simp)).1 (ht t (by simp)).2 h3 (fun x hx => h1 x (by simp [hx])) (fun x hx => h2 x (by simp [hx])),
   ih (fun t' h' => ht t' (by simp [h'])) h4 (fun x hx => h1 x (by simp [hx])) (fun x hx => h2 x (by simp [hx])), rfl⟩
theorem all_length {H : Type} {enc : TypeId × Value → H} {W : World} {sp' : Nat → Bool} {hd : Bool} : ∀ {ts : List TypeId} {vs : List Value} {ds : List (DataW H)} {ps : List MemPlace}, DataW.TrodAll enc P W 0 sp' hd ts vs ds ps → ds.length = ts.length := by
 intro ts
 induction ts with
 | nil => intro vs ds ps h; cases vs <;> cases ds <;> simp_all [DataW.TrodAll]
 | cons t ts ih =>
  intro vs ds ps h
  obtain ⟨v, vs', d, ds', p, q, rfl, rfl, rfl, h3, h4⟩ := trodAll_cons h
  simp [ih h4]
theorem post_true {H : Type} {enc : TypeId × Value → H} {f : Func} {s : ChangeSpec} {bt : TypeId} (hl : laidOutB P = true) (hp : ∀ t ∈ f.params.toList, P.readableRec t = true ∧ t < P.types.size) (hr : f.resultTypes = #[bt]) (hb : P.underlying bt = some .bool)
  (hv : s.vars = []) (hs : ∀ ds : List (DataW H), ds.length = f.params.size → s.fn H ds = { results := [.lit (.bool true)], args := ds })
  {W W' : World} {args : Array Value} {ds gs : List (DataW H)} {before : List MemPlace} (hW : DataW.Whole enc P f.params.toList s.vars false W args.toList ds gs before) (ha : After W W') :
  s.post enc P f false true false false W args (.bool true) W' := by
 have hW' := hW
 obtain ⟨p, q, hA, hV, rfl, hfz, hnd⟩ := hW
 rw [hv] at hV
 obtain ⟨rfl, rfl⟩ := trodVars_none hV
 have hlen := all_length hA
 simp only [Array.length_toList] at hlen
 have hfn := hs (ds ++ []) (by simpa using hlen)
 have hlt : ∀ x ∈ p, x.block < W.heap.size := fun x hx => hW'.lt x (by simpa using hx)
 refine post_of_same (pa := p) (pv := []) hW' ?_ ?_ ?_ (by simp) (ha.1.frame _) ha.2 (ok_one hr rfl (okWide_bool_mk hb _))
 ·intro b sp hd
  rw [hfn, hr]
  exact trodAll_cons_mk (shut_bool hb _) trodAll_mk0
 ·intro sp hsp
  rw [hfn, List.append_nil]
  exact all_stays hl hp hA (fun x hx => ha.1.same (hlt x hx)) (fun x hx => hsp x (by simpa using hx))
 ·intro sp _
  rw [hfn, hv]
  exact rfl
end
end Go.PB
namespace Go.Proofs.Ytcladnioicackaa
open Go Go.PB
attribute [local irreducible] Mo Bin Eql Tr Wo
section
variable {B : Hand} [Lets B]
def mark2 (m : Int × Nat) : List Value := [.int .u8 m.1, .int .i64 (m.2 : Nat)]
def notesC (nb : Nat) (marks : List (Int × Nat)) : HProp := fun h => ∃ mv, all [arr nb 0 [.bool true, mv], vec 2 mv (marks.map mark2).flatten] h
section
variable {L F : List HProp} {x : B.X} {nb : Nat} {marks : List (Int × Nat)}
theorem flat2 (marks : List (Int × Nat)) : (marks.map mark2).flatten.length = marks.length * 2 := by
 induction marks with
 | nil => rfl
 | cons m l ih => simp only [List.map_cons, List.flatten_cons, List.length_append, ih, mark2, List.length_cons, List.length_nil]; omega
theorem notes_step_tr {op : Int} {w : Nat} (hl : marks.length < 1000000) (hh : Has L (notesC nb marks) F) :
  Tr Try.prog B 156 [.pointer (some ⟨nb, 0, none⟩), .agg #[.int .u8 op, .int .i64 (w : Nat)]] L x fun v L' x' => v = .tuple #[] ∧ L' = notesC nb (marks ++ [(op, w)]) :: F ∧ x' = x := by
 refine tr_ex hh fun mv => tr_star _ (fun h st => star_open st) ?_
 refine Tr.post (R := fun v L' x' => v = .tuple #[] ∧ x' = x ∧ ∃ v', ∀ h, Star L' h → Star (arr nb 0 [.bool true, v'] :: vec 2 v' ((marks ++ [(op, w)]).map mark2).flatten :: F) h) ?_
  (by
   rintro v L' x' ⟨rfl, rfl, v', hs⟩
   refine ⟨_, ⟨rfl, rfl, rfl⟩, fun h st => ?_⟩
   exact star_map (star_shut (M := [_, _]) (hs h st)) (fun _ y => ⟨v', y⟩) (fun _ y => y))
 refine tr_pure (of_has (.there .here) (vec_shape (by omega))) ?_
 rintro ⟨ra, rl, rc, rfl, hlen, hrc, hra, hra2⟩
 rw [flat2] at hlen
 have hrl : rl = marks.length := by omega
 subst hrl
 simp only [List.cons_append, List.nil_append]
 refine tr_of_body Try.func156 rfl Try.ntmps156 (by simp) fun um Q _ hQ => ?_
 simp only [argE, Nat.zero_add, Nat.reduceAdd]
 have hr0 : ∀ {c : HProp}, Rd (c :: arr nb 0 [.bool true, .slice ra marks.length rc] :: vec 2 (.slice ra marks.length rc) (marks.map mark2).flatten :: F) nb 0 (.bool true) := fun {c} => Rd.there (Rd.row (k := 0) rfl rfl)
 have hr1 : ∀ {c : HProp}, Rd (c :: arr nb 0 [.bool true, .slice ra marks.length rc] :: vec 2 (.slice ra marks.length rc) (marks.map mark2).flatten :: F) nb 1 (.slice ra marks.length rc) := fun {c} => Rd.there (Rd.row (k := 1) rfl rfl)
 repeat (first | (apply wo_mo; apply mo_box; exact rfl; exact trivial) | refine we_seq ?_ | (refine wR ?_; try simp only [oS]))
 rintro v' L' ⟨pb, rfl, rfl⟩
 have hrds : Rds (arr pb 0 (mark2 (op, w)) :: arr nb 0 [.bool true, .slice ra marks.length rc] :: vec 2 (.slice ra marks.length rc) (marks.map mark2).flatten :: F) pb 0 [.int .u8 op, .int .i64 (w : Nat)] := Rds.all (vs := mark2 (op, w)) .here
 refine wo_ent (arr pb 0 (mark2 (op, w)) :: arr nb 0 [.bool true, .slice ra marks.length rc] :: vec 2 (.slice ra marks.length rc) (marks.map mark2).flatten :: F) .refl ?_
 repeat (first | (apply wo_po; apply mo_load; exact rfl; exact hr0; exact gY) | refine we_seq ?_ | (refine wR ?_; try simp only [oS]) | refine wo_nil ?_ | refine wM ?_ | refine wK ?_ | refine wN ?_ | refine wD ?_ | (apply wo_po; apply mo_bin; exact rfl; exact rfl; apply bin_ne; apply eql_ptr_nil; exact gY) | refine wT ?_)
 have hr2 : ∀ {c d : HProp}, Rd (c :: d :: arr nb 0 [.bool true, .slice ra marks.length rc] :: vec 2 (.slice ra marks.length rc) (marks.map mark2).flatten :: F) nb 1 (.slice ra marks.length rc) := fun {c d} => Rd.there hr1
 refine we_draw [0, 1, 2, 3, 4, 5, 6, 7, 8, 9, 10] (by kernel_rfl) ?_
 repeat (first | (apply ap_read; exact rfl; exact rfl; exact trivial; apply mo_load; exact rfl; exact hr1) | (apply ap_read; exact rfl; exact rfl; exact trivial; apply mo_loadA (vs := [.int .u8 op, .int .i64 (w : Nat)]); exact rfl; exact rfl; exact hrds) | refine aM ?_ | refine aN ?_ | refine aD ?_)
 refine ap_loudR rfl rfl rfl rfl trivial (mo_buildSlice (sz := 2) (vs := [.agg #[.int .u8 op, .int .i64 (w : Nat)]]) rfl (.cons rfl .nil) rfl (by intro v hv; cases (List.mem_singleton.1 hv); exact rfl) (by omega)) ?_ ?_
 ·rintro v L' ⟨sb, rfl, rfl⟩ p hp
  replace hp := (List.mem_filter.1 hp).1
  simp only [List.mem_cons, List.not_mem_nil, or_false] at hp
  rcases hp with rfl | rfl | rfl | rfl | rfl | rfl <;> first | exact .inl rfl | exact .inr ⟨_, rfl, trivial, mo_load rfl hr2⟩ | exact .inr ⟨_, rfl, trivial, mo_loadA (vs := [.int .u8 op, .int .i64 (w : Nat)]) rfl rfl (fun i v hi => Rd.there (hrds i v hi))⟩
 rintro v L' ⟨sb, rfl, rfl⟩
 refine ap_loud rfl rfl rfl rfl rfl trivial (mo_append (sz := 2) (new := mark2 (op, w)) rfl rfl rfl rfl (.there (.there (.there .here))) rfl (.inr ⟨_, _, rfl, Rds.all .here⟩) (by intro v hv; simp [mark2] at hv; rcases hv with rfl | rfl <;> rfl) (by simp only [sliceLen]; omega)) ?_
 rintro v' L' rfl
 refine ap_know (of_has .here (vec_shape (by omega))) ?_
 rintro ⟨qa, ql, qc, rfl, _⟩
 repeat (first | refine aN ?_ | refine aD ?_)
 refine ap_loud rfl rfl rfl rfl rfl trivial (mo_store rfl rfl rfl (Wt.row (k := 1) (vs := [.bool true, .slice ra marks.length rc]) (Nat.lt_succ_self 1) rfl (.there (.there (.there .here))))) ?_
 rintro v' L' ⟨rfl, rfl⟩
 refine ap_end ?_
 (first | refine or0 Try.func156 Try.results156 hQ ?_ | refine on0 Try.func156 Try.results156 hQ ?_)
 refine ⟨rfl, rfl, .slice qa ql qc, fun h st => ?_⟩
 rw [show ((marks ++ [(op, w)]).map mark2).flatten = (marks.map mark2).flatten ++ mark2 (op, w) by simp]
 exact (Ent.take (.there (.there (.there .here))) (.take .here (.drop (.drop .refl)))).star st
end
def notesAcc (x : B.X) (addr : Nat → Nat × Nat) (N : Nat) (K : List (Nat × Nat × Value)) (A : Apart addr N K) (nb : Nat) : Acc B (.iface 41 (.pointer (some ⟨nb, 0, none⟩))) where
 S := (Nat → Nat) × List (Int × Nat)
 C := fun s => all [wds addr N K s.1, notesC nb s.2]
 x := fun _ => x
 step := fun op w s R => s.2.length < 1000000 ∧ R (s.1, s.2 ++ [(op, w)])
 addr := addr
 load := fun w s R => w < N ∧ R (s.1 w) s
 store := fun w n s R => w < N ∧ R (upd s.1 w n, s.2)
 cas := fun w a n s R => w < N ∧ if s.1 w = a then R true (upd s.1 w n, s.2) else R false s
 add := fun w n s R => w < N ∧ R ((s.1 w + n) % 18446744073709551616) (upd s.1 w ((s.1 w + n) % 18446744073709551616), s.2)
 swap := fun w n s R => w < N ∧ R (s.1 w) (upd s.1 w n, s.2)
 gate := .inr ⟨_, _, 156, rfl, inferInstance, inferInstance, fun op w s R L F hs hh =>
  tr_star _ (fun h st => star_open (hh.star st)) ((notes_step_tr hs.1 (.there .here)).post fun v L' x' ⟨h1, h2, h3⟩ => ⟨_, ⟨_, hs.2, h1, rfl, h3⟩, fun h st => star_shut (M := [_, _]) (by
   rw [h2] at st
   exact star_swap st)⟩)⟩
 load_ok := fun w s R L F b o ha hl hh => tr_star _ (fun h st => star_open (hh.star st)) (tr_pure (of_has .here fun h hc => (hc.1 w hl.1).1) fun hs =>
  (load_lone (rd_wds .here hl.1 ha)).post fun v L' x' ⟨h1, h2, h3⟩ => ⟨_, ⟨s.1 w, s, hs, hl.2, h1, rfl, h3⟩, fun h st => star_shut (M := [_, _]) (by rw [h2] at st; exact st)⟩)
 store_ok := fun w n s R L F b o ha hn hl hh => tr_star _ (fun h st => star_open (hh.star st))
  ((store_lone (wt_wds A .here hl.1 ha hn)).post fun v L' x' ⟨h1, h2, h3⟩ => ⟨_, ⟨(upd s.1 w n, s.2), hl.2, h1, rfl, h3⟩, fun h st => star_shut (M := [_, _]) (by rw [h2] at st; exact st)⟩)
 cas_ok := fun w m n s R L F b o ha hn hl hh => tr_star _ (fun h st => star_open (hh.star st))
  ((cas_lone (rd_wds .here hl.1 ha) (wt_wds A .here hl.1 ha hn)).post fun v L' x' ⟨h1, h2, h3⟩ => by
   obtain ⟨h4, h5⟩ := hl
   by_cases e : s.1 w = m
   ·rw [if_pos e] at h5; rw [if_pos (by omega)] at h2; exact ⟨_, ⟨true, _, h5, by rw [h1]; simp [e], rfl, h3⟩, fun h st => star_shut (M := [_, _]) (by rw [h2] at st; exact st)⟩
   ·rw [if_neg e] at h5; rw [if_neg (by omega)] at h2; exact ⟨_, ⟨false, _, h5, by rw [h1]; simp; omega, rfl, h3⟩, fun h st => star_shut (M := [_, _]) (by rw [h2] at st; exact st)⟩)
 add_ok := fun w n s R L F b o ha hn hl hh => tr_star _ (fun h st => star_open (hh.star st))
  ((add_lone (r := ((s.1 w + n) % 18446744073709551616 : Nat)) (rd_wds .here hl.1 ha) (by rw [wrap_u64_mod]; omega) (wt_wds A .here hl.1 ha (Nat.mod_lt _ (by decide)))).post fun v L' x' ⟨h1, h2, h3⟩ => ⟨_, ⟨_, (_, s.2), Nat.mod_lt _ (by decide), hl.2, h1, rfl, h3⟩, fun h st => star_shut (M := [_, _]) (by rw [h2] at st; exact st)⟩)
end
end Go.Proofs.Ytcladnioicackaa
namespace Go.Proofs.Ytcladnioicackaa
open Go Go.PB
attribute [local irreducible] Mo Bin Eql Tr Wo Ap
section
variable {B : Hand} [Lets B] {L F : List HProp} {x : B.X} {nb : Nat} {marks : List (Int × Nat)}
theorem new_notes_tr : Tr Try.prog B 14 [] L x fun v L' x' => ∃ nb, v = .pointer (some ⟨nb, 0, none⟩) ∧ L' = notesC nb [] :: L ∧ x' = x := by
 refine Tr.post (R := fun v L' x' => ∃ nb, v = .pointer (some ⟨nb, 0, none⟩) ∧ L' = arr nb 0 [.bool true, .slice none 0 0] :: L ∧ x' = x) ?_
  (by
   rintro v L' x' ⟨nb, rfl, rfl, rfl⟩
   refine ⟨_, ⟨nb, rfl, rfl, rfl⟩, fun h st => ?_⟩
   have st2 : Star ([arr nb 0 [.bool true, .slice none 0 0], vec 2 (.slice none 0 0) []] ++ L) h := star_map st (fun _ y => y) (fun _ y => vec_nil y)
   exact star_map (star_shut st2) (fun _ y => ⟨_, y⟩) (fun _ y => y))
 refine tr_of_body Try.func14 rfl Try.ntmps14 (by simp) fun um Q _ hQ => ?_
 simp only [argE, Nat.zero_add, Nat.reduceAdd]
 repeat (first | (apply wo_po; apply mo_build (pv := [(0, _)]); exact rfl; exact .cons rfl .nil; exact rfl; exact trivial) | (apply wo_mo; apply mo_box; exact rfl; exact trivial) | refine we_seq ?_ | (refine wR ?_; try simp only [oS]) | refine wo_nil ?_ | refine wA ?_)
 rintro v' L' ⟨r, rfl, rfl⟩
 repeat (first | refine wo_nil ?_ | refine wA ?_ | refine we_ret ?_)
 (first | refine or1 Try.func14 Try.results14 hQ rfl ?_ | refine on1 Try.func14 Try.results14 hQ rfl ?_)
 exact ⟨r, rfl, rfl, rfl⟩
theorem clone_tr {a : Option Addr} {n c : Nat} (hl : marks.length < 1000000) (hn : n = marks.length) (ha : (a = none ∧ n = 0) ∨ ∃ b o, a = some ⟨b, o, none⟩ ∧ Rds L b o (marks.map mark2).flatten) :
  Tr Try.prog B 52 [.slice a n c] L x fun v L' x' => L' = vec 2 v (marks.map mark2).flatten :: L ∧ x' = x := by
 subst hn
 rcases ha with ⟨rfl, h0⟩ | ⟨b, o, rfl, hr⟩
 ·refine tr_of_body Try.func52 rfl Try.ntmps52 (by simp) fun um Q _ hQ => ?_
  simp only [argE, Nat.zero_add, Nat.reduceAdd]
  repeat (first | refine we_seq ?_ | (refine wR ?_; try simp only [oS]) | refine wo_nil ?_ | refine wM ?_ | refine wA ?_ | (apply wo_po; apply mo_bin; exact rfl; exact rfl; apply bin_eq; apply eql_slice_nil; exact gY) | refine wT ?_ | refine we_ret ?_)
  have hm : marks = [] := List.length_eq_zero_iff.1 h0
  refine at_star (vec 2 (.slice none 0 0) (marks.map mark2).flatten :: L) (fun h st => by rw [hm]; exact vec_nil st) ?_
  (first | refine or1 Try.func52 Try.results52 hQ rfl ?_ | refine on1 Try.func52 Try.results52 hQ rfl ?_)
  exact ⟨rfl, rfl⟩
 ·have h1 : ∀ w ∈ (marks.map mark2).flatten, one w = true := by
   intro w hw
   simp only [List.mem_flatten, List.mem_map] at hw
   obtain ⟨l, ⟨m, _, rfl⟩, hw⟩ := hw
   simp only [mark2, List.mem_cons, List.not_mem_nil, or_false] at hw
   rcases hw with rfl | rfl <;> rfl
  refine tr_of_body Try.func52 rfl Try.ntmps52 (by simp) fun um Q _ hQ => ?_
  simp only [argE, Nat.zero_add, Nat.reduceAdd]
  repeat (first | (apply wo_mo; apply mo_buildSlice (sz := 2) (vs := []); exact rfl; exact .nil; exact rfl; (intro v hv; cases hv); omega; exact trivial) | refine we_seq ?_ | (refine wR ?_; try simp only [oS]) | refine wo_nil ?_ | refine wM ?_ | refine wA ?_ | (apply wo_po; apply mo_bin; exact rfl; exact rfl; apply bin_eq; apply eql_slice_nil; exact gY) | refine wF ?_ | refine we_skip ?_)
  rintro v' L' ⟨nb, rfl, rfl⟩
  refine wo_star (vec 2 (.slice (some ⟨nb, 0, none⟩) 0 0) [] :: L) (fun h st => vec_new (cs := []) rfl st) ?_
  repeat (first | (apply wo_mo; apply mo_append (sz := 2) (new := (marks.map mark2).flatten); exact rfl; exact rfl; exact rfl; exact rfl; exact .here; exact flat2 _; exact .inr ⟨_, _, rfl, fun i v hi => Rd.there (hr i v hi)⟩; exact h1; (simp only [sliceLen]; omega); exact trivial) | refine wM ?_)
  rintro v' L' rfl
  repeat (first | refine wo_nil ?_ | refine wA ?_ | refine we_ret ?_)
  (first | refine or1 Try.func52 Try.results52 hQ rfl ?_ | refine on1 Try.func52 Try.results52 hQ rfl ?_)
  exact ⟨rfl, rfl⟩
theorem marks_tr (hl : marks.length < 1000000) (hh : Has L (notesC nb marks) F) :
  Tr Try.prog B 20 [.pointer (some ⟨nb, 0, none⟩)] L x fun v L' x' => L' = vec 2 v (marks.map mark2).flatten :: notesC nb marks :: F ∧ x' = x := by
 refine tr_ex hh fun mv => tr_star _ (fun h st => star_open st) ?_
 simp only [List.cons_append, List.nil_append]
 refine Tr.post (R := fun v L' x' => L' = vec 2 v (marks.map mark2).flatten :: arr nb 0 [.bool true, mv] :: vec 2 mv (marks.map mark2).flatten :: F ∧ x' = x) ?_
  (by
   rintro v L' x' ⟨rfl, rfl⟩
   exact ⟨_, ⟨rfl, rfl⟩, fun h st => star_map st (fun _ y => y) (fun _ y => star_map (star_shut (M := [_, _]) y) (fun _ z => ⟨mv, z⟩) (fun _ z => z))⟩)
 refine tr_pure (of_has (.there .here) (vec_shape (by omega))) ?_
 rintro ⟨ra, rl, rc, rfl, hlen, hrc, hra, hra2⟩
 rw [flat2] at hlen
 have hrl : rl = marks.length := by omega
 subst hrl
 have hr0 : Rd (arr nb 0 [.bool true, .slice ra marks.length rc] :: vec 2 (.slice ra marks.length rc) (marks.map mark2).flatten :: F) nb 0 (.bool true) := Rd.row (k := 0) rfl rfl
 have hr1 : Rd (arr nb 0 [.bool true, .slice ra marks.length rc] :: vec 2 (.slice ra marks.length rc) (marks.map mark2).flatten :: F) nb 1 (.slice ra marks.length rc) := Rd.row (k := 1) rfl rfl
 have ha : (ra = none ∧ marks.length = 0) ∨ ∃ b o, ra = some ⟨b, o, none⟩ ∧ Rds (arr nb 0 [.bool true, .slice ra marks.length rc] :: vec 2 (.slice ra marks.length rc) (marks.map mark2).flatten :: F) b o (marks.map mark2).flatten := by
  cases ra with
  | none => exact .inl ⟨rfl, hra rfl⟩
  | some y =>
   obtain ⟨b, o, sp⟩ := y
   cases hra2 _ rfl
   exact .inr ⟨b, o, rfl, fun i v hi => rd_vec (.there .here) hi⟩
 refine tr_of_body Try.func20 rfl Try.ntmps20 (by simp) fun um Q _ hQ => ?_
 simp only [argE, Nat.zero_add, Nat.reduceAdd]
 repeat (first | (apply wo_po; apply mo_load; exact rfl; exact hr0; exact gY) | (apply wo_po; apply mo_load; exact rfl; exact hr1; exact trivial) | refine we_seq ?_ | (refine wR ?_; try simp only [oS]) | refine wo_nil ?_ | refine wM ?_ | refine wA ?_ | refine wJ ?_ | refine wN ?_ | refine wD ?_ | (apply wo_po; apply mo_not; exact rfl; exact gY) | (apply wo_po; apply mo_bin; exact rfl; exact rfl; apply bin_eq; apply eql_ptr_nil; exact gY) | refine wF ?_ | refine we_skip ?_)
 refine wo_call (.cons rfl .nil) trivial (clone_tr hl rfl ha) ?_
 rintro v L' x' ⟨rfl, rfl⟩
 repeat (first | refine wo_nil ?_ | refine wA ?_ | refine we_ret ?_)
 (first | refine or1 Try.func20 Try.results20 hQ rfl ?_ | refine on1 Try.func20 Try.results20 hQ rfl ?_)
 exact ⟨rfl, rfl⟩
def RdM (L : List HProp) (a : Option Addr) (l : List (Int × Nat)) : Prop := ∀ i m, l[i]? = some m → ∃ b o, a = some ⟨b, o, none⟩ ∧ Rds L b (o + 2 * i) [.int .u8 m.1, .int .i64 (m.2 : Nat)]
omit [Lets B] in
theorem RdM.vec {a : Option Addr} {n c : Nat} {l : List (Int × Nat)} (hh : Has L (vec 2 (.slice a n c) (l.map mark2).flatten) F) (ha : ∀ y, a = some y → y = ⟨y.block, y.off, none⟩) (hn : a = none → l = []) : RdM L a l := by
 intro i m hi
 cases a with
 | none => rw [hn rfl] at hi; simp at hi
 | some y =>
  obtain ⟨b, o, sp⟩ := y
  cases ha _ rfl
  refine ⟨b, o, rfl, fun j v hj => ?_⟩
  have hj2 : j < 2 := (List.getElem?_eq_some_iff.1 hj).1
  have := rd_vec (i := 2 * i + j) (v := v) hh (by rw [flat_get (k := 2) (fun _ => rfl) _ _ _ _ hi hj2]; exact hj)
  rwa [← Nat.add_assoc] at this
def marksInv (x : B.X) (L : List HProp) (a a' : Option Addr) (n c c' : Nat) (l l' : List (Int × Nat)) : Inv Nat B.X where
 e := fun i => [(0, .slice a n c), (1, .slice a' n c'), (5, .int .i64 i)]
 L := fun _ => L
 x := fun _ => x
 ok := fun i => i ≤ n ∧ l.take i = l'.take i
theorem same_marks_tr {a a' : Option Addr} {n n' c c' : Nat} {l l' : List (Int × Nat)} (hn : n = l.length) (hn' : n' = l'.length) (hl : n < 1000000000) (h1 : RdM L a l) (h2 : RdM L a' l') :
  Tr Try.prog B 19 [.slice a n c, .slice a' n' c'] L x fun v L' x' => v = .bool (decide (l = l')) ∧ L' = L ∧ x' = x := by
 by_cases hlen : n = n'
 ·subst hlen
  refine tr_of_body Try.func19 rfl Try.ntmps19 (by simp) fun um Q _ hQ => ?_
  simp only [argE, Nat.zero_add, Nat.reduceAdd]
  repeat (first | refine wneqF ?_ | refine we_seq ?_ | (refine wR ?_; try simp only [oS]) | refine wo_nil ?_ | refine wM ?_ | refine wA ?_ | refine wE ?_ | refine wF ?_ | refine we_skip ?_ | refine we_block ?_)
  refine we_loopN (marksInv x L a a' n c c' l l') (fun i => n - i) 0 ⟨by omega, by simp⟩ ⟨rfl, rfl, rfl, trivial⟩ .refl rfl ?_
  rintro i ⟨hi, ht⟩
  dsimp only [marksInv] at hi ht ⊢
  by_cases hc : i < n
  ·obtain ⟨v, hv⟩ : ∃ v, l[i]? = some v := ⟨l[i]'(by omega), by simp⟩
   obtain ⟨v', hv'⟩ : ∃ v, l'[i]? = some v := ⟨l'[i]'(by omega), by simp⟩
   obtain ⟨b1, o1, rfl, r1⟩ := h1 i v hv
   obtain ⟨b2, o2, rfl, r2⟩ := h2 i v' hv'
   obtain ⟨q, hq⟩ : ∃ q, decide (v.1 = v'.1 ∧ (v.2 : Int) = v'.2) = q := ⟨_, rfl⟩
   have heq := eql_two (p := ⟨Try.underlying119⟩) (P := Try.prog) (t := 119) (x := .tmp 20) (y := .tmp 24) (a0 := v.1) (b0 := v'.1) (a1 := v.2) (b1 := v'.2) (k0 := .u8) (k1 := .i64) (by kernel_rfl) (by kernel_rfl) (by decide) (by decide) rfl rfl (by kernel_rfl) (by kernel_rfl)
   rw [hq] at heq
   repeat (first | refine wlssT ?_ | refine we_seq ?_ | (refine wR ?_; try simp only [oS]) | refine wo_nil ?_ | refine wM ?_ | refine wE ?_ | refine wT ?_ | refine we_skip ?_ | refine we_block ?_)
   refine we_draw [0, 1, 2, 3, 4, 5, 6, 7, 8] (by kernel_rfl) ?_
   repeat (first | (apply ap_pure; exact rfl; exact rfl; exact trivial; intro L; apply mo_indexAddr (r := o1 + 2 * i); exact rfl; exact rfl; omega; omega; omega) | (apply ap_pure; exact rfl; exact rfl; exact trivial; intro L; apply mo_indexAddr (r := o2 + 2 * i); exact rfl; exact rfl; omega; omega; omega) | (apply ap_read; exact rfl; exact rfl; exact trivial; apply mo_loadA (vs := [.int .u8 v.1, .int .i64 (v.2 : Nat)]); exact rfl; exact rfl; exact r1) | (apply ap_read; exact rfl; exact rfl; exact trivial; apply mo_loadA (vs := [.int .u8 v'.1, .int .i64 (v'.2 : Nat)]); exact rfl; exact rfl; exact r2) | (apply ap_pure; exact rfl; exact rfl; exact trivial; intro L; apply mo_bin; exact rfl; exact rfl; apply bin_ne; exact heq) | refine aM ?_ | refine ap_end ?_)
   cases q
   ·repeat (first | refine we_seq ?_ | (refine wR ?_; try simp only [oS]) | refine wo_nil ?_ | refine wA ?_ | refine wT ?_ | refine we_ret ?_)
    (first | refine or1 Try.func19 Try.results19 hQ rfl ?_ | refine on1 Try.func19 Try.results19 hQ rfl ?_)
    have : l ≠ l' := fun h => by
     rw [h, hv'] at hv; cases hv
     simp at hq
    exact ⟨by rw [decide_eq_false this], rfl, rfl⟩
   ·repeat (first | (refine wR ?_; try simp only [oS]) | refine wo_nil ?_ | refine wM ?_ | refine wA ?_ | refine wadd ?_ | refine wF ?_ | refine we_skip ?_)
    refine at_round (I := marksInv x L _ _ n c c' l l') (R := fun i' => n - i' < n - i) (i + 1) (by omega) ⟨by omega, ?_⟩ ⟨rfl, rfl, rfl, trivial⟩ .refl rfl
    have hq' := of_decide_eq_true hq
    have : v = v' := Prod.ext hq'.1 (by omega)
    rw [List.take_add_one, List.take_add_one, ht, hv, hv', this]
  ·repeat (first | refine wlssF ?_ | refine we_seq ?_ | (refine wR ?_; try simp only [oS]) | refine wo_nil ?_ | refine wM ?_ | refine wA ?_ | refine wE ?_ | refine wF ?_ | refine we_ret ?_ | refine we_exit ?_)
   (first | refine or1 Try.func19 Try.results19 hQ rfl ?_ | refine on1 Try.func19 Try.results19 hQ rfl ?_)
   have : l = l' := by
    rw [List.take_of_length_le (by omega), List.take_of_length_le (by omega)] at ht
    exact ht
   exact ⟨by rw [decide_eq_true this], rfl, rfl⟩
 ·have hne : ¬ (n : Int) = n' := by omega
  refine tr_of_body Try.func19 rfl Try.ntmps19 (by simp) fun um Q _ hQ => ?_
  simp only [argE, Nat.zero_add, Nat.reduceAdd]
  repeat (first | refine wneqT ?_ | refine we_seq ?_ | (refine wR ?_; try simp only [oS]) | refine wo_nil ?_ | refine wM ?_ | refine wA ?_ | refine wE ?_ | refine wT ?_ | refine we_ret ?_)
  (first | refine or1 Try.func19 Try.results19 hQ rfl ?_ | refine on1 Try.func19 Try.results19 hQ rfl ?_)
  have : l ≠ l' := fun h => hlen (by rw [hn, hn', h])
  exact ⟨by rw [decide_eq_false this], rfl, rfl⟩
end
section
section
variable {B : Hand} [Lets B] {L F G : List HProp} {x : B.X} {n k v : Nat}
def mkI (m : Nat × Nat) : Int × Nat := ((m.1 : Nat), m.2)
theorem cl_new {kb k : Nat} {cl : Mach.Cl} {cs : List Value} (hc : cs = (cl.code.map inC).flatten) (hk : k = cl.code.length) (hd : cl.data = []) {h : Hp} (s : Star (arr kb 0 cs :: L) h) : Star (clC (.slice (some ⟨kb, 0, none⟩) k k) (.slice none 0 0) cl :: L) h := by
 subst hc
 subst hk
 have s1 : Star (vec 7 (.slice (some ⟨kb, 0, none⟩) cl.code.length cl.code.length) (cl.code.map inC).flatten :: vec 1 (.slice none 0 0) [] :: L) h := by
  refine vec_new ?_ (star_swap (vec_nil s))
  exact flat_len (k := 7) (fun _ => rfl) _
 refine star_shut (M := [_, _]) ?_
 rw [hd]
 exact s1
def yes (q : Bool) : Nat := if q then 1 else 0
theorem alone_comes {wv lv kv dv : Value} {w w' : Mach.Wd} {cl : Mach.Cl} {g : Nat} {told : List Nat} {ms : List (Nat × Nat)} (h : Mach.Comes 30 g w cl w' told ms) (hcl : cl.ok = true) (hl : ms.length ≤ 16384) (hh : Has L (wvC wv lv w) G) (hc : Has G (clC kv dv cl) F) :
  Tr Try.prog B 16 [.agg #[wv, lv], .agg #[kv, dv]] L x fun v L' x' => ∃ toldV wv' lv' marksV : Value, v = .tuple #[toldV, .agg #[wv', lv'], marksV] ∧ L' = vec 1 toldV (told.map num) :: wvC wv' lv' w' :: vec 2 marksV (ms.map mkC).flatten :: wvC wv lv w :: F ∧ x' = x := by
 obtain ⟨st, t, hp, rfl, h2, h3, h4⟩ := h
 have e : st.tr.map (·.2) = ms := by rw [h4]; simp [Function.comp_def]
 have hlen : st.tr.length = ms.length := by rw [h4]; simp
 exact (alone_tr hp (by omega) hcl (by omega) h2 h3 hh hc).mono fun v L' x' ⟨a, b, c, d, e1, e2, e3⟩ => ⟨a, b, c, d, e1, by rw [e2, e], e3⟩
theorem marks_flat (ms : List (Nat × Nat)) : (ms.map mkC).flatten = ((ms.map mkI).map mark2).flatten := by
 rw [List.map_map]; rfl
end
end
end Go.Proofs.Ytcladnioicackaa
namespace Go.PB
open Go.Conc
section
class Chans (B : Hand) : Prop where
 mono : ∀ cases bl sh h x (k k' : Value → Hp → B.X → Prop), (∀ v h x, k v h x → k' v h x) → B.comm cases bl sh h x k → B.comm cases bl sh h x k'
 try_ : ∀ (c : Nat) (v z : Value) (cap : Nat) (buf : Array Value) (s r : Nat) (tm : Bool) (h : Hp) (x : B.X) (k : Value → Hp → B.X → Prop), h.obj c = some (.chan cap buf false s r tm) →
  (buf.size < cap → k (.tuple #[goInt 0, .bool false]) (h.setObj c (.chan cap (buf.push v) false (s + 1) r tm)) x) → (cap ≤ buf.size → k (.tuple #[goInt (-1), .bool false]) h x) → B.comm #[scase c v z] false .select h x k
section
variable {P : Program} {B : Hand} {kd : CallKind}
abbrev chC (c cap : Nat) (buf : Array Value) (s r : Nat) : HProp := ob c (.chan cap buf false s r false)
variable {n : Nat} {e : Env} {z : Z} {L F : List HProp} {x : B.X} {K : Post B} {ty : TypeId}
theorem mo_makeChan {t el by_ m : Nat} {dr : ChanDir} {o : Operand} {k : IntKind} [p : Und P t (.chan dr el)] [b : Byt P el by_] (hx : ev e o = some (.int k (m : Nat))) (hm : m ≤ 1048576) (hb : by_ ≤ 1048576) : Mo P e (.makeChan t o) ty L fun v' L' => ∃ c, v' = .chan (some c) ∧ L' = chC c m #[] 0 0 :: L := by
 intro M hM _ tt h Q X ag st q
 show wpS P M (Sem.bind (Instr.makeChan t (evT tt o)) fun v => pure (.value v)) h Q X
 rw [ag.ev hx]
 refine wpS_bind _ _ ?_
 unfold Instr.makeChan
 simp only [asInt, asIntOf, pure_bind, bind_assoc]
 refine wpS_underlying p.ok ?_
 refine wpS_bytes b.ok fun i hi => ?_
 have hmul : by_ * m ≤ 1048576 * 1048576 := Nat.mul_le_mul hb hm
 obtain ⟨q', hq'⟩ : ∃ q, by_ * m = q := ⟨_, rfl⟩
 rw [hi, if_neg (by
  rw [← Int.natCast_mul, hq']
  rw [hq'] at hmul
  have hmax : IntKind.i64.max = 9223372036854775807 := rfl
  omega)]
 simp only [pure_bind, Int.toNat_natCast]
 intro c hf
 exact q _ _ _ _ (.inl rfl) ⟨c, rfl, rfl⟩ (star_newObj hf st)
end
end
end Go.PB
namespace Go.PB
open Go
section
class AllM (B : Hand) : Prop where
 ok : ∀ m, B.mark m
instance : AllM solo0 := ⟨fun _ => trivial⟩
section
variable {P : Program} {B : Hand} {kd : CallKind} {n : Nat} {e : Env} {L L' : List HProp}
variable (P B) in
def TrD (f : FuncId) (args : List Value) (L : List HProp) (x : B.X) (L' : List HProp) : Prop :=
 ∀ h (Q : PB.End → FrameMode → Hp → B.X → Prop), Star L h → (∀ v h', Star L' h' → Q (.ret v) .returning h' x) → Wf P B f .deferred args.toArray .returning h x Q
theorem trd_of_body {f : FuncId} {fn : Func} {c : Code} {args : List Value} {nt : Nat} {x : B.X} [NoCut B] (hf : P.funcs[f]? = some fn) (hb : fn.body = some c) (hnt : fn.ntmps = nt) (hn : (args.length ≤ nt) = True)
  (w : ∀ (Q : PB.End → FrameMode → Hp → B.X → Prop) (_ : Pass (leave P B f .deferred Q) ⟨[], .returning⟩), (∀ v h', Star L' h' → Q (.ret v) .returning h' x) → We P B .deferred nt c (leave P B f .deferred Q) (argE 0 args) ⟨[], .returning⟩ L x) : TrD P B f args L x L' :=
 fun h Q hs q => wf_of_argE hf hb hnt (by rw [hn]; trivial) hs (w Q Pass.of_no q)
theorem at_retD {f : FuncId} {fn : Func} {Q : PB.End → FrameMode → Hp → B.X → Prop} {ex : Ex} {x : B.X} (hf : P.funcs[f]? = some fn) (hr : fn.results = #[])
  (hQ : ∀ v h', Star L' h' → Q (.ret v) .returning h' x) (hex : ex = .ret ∨ ex = .normal) (hL : ∀ h, Star L h → Star L' h) : At n e L fun t h => leave P B f kd Q ex t ⟨[], .returning⟩ h x :=
 at_ret0 (R := fun v L1 x1 => (∀ h, Star L1 h → Star L' h) ∧ x1 = x) hf hr (fun v L1 x1 h' r s => by obtain ⟨r1, rfl⟩ := r; exact hQ v h' (r1 _ s)) hex ⟨hL, rfl⟩
theorem at_dfr {f g : FuncId} {um : FrameMode} {Q : PB.End → FrameMode → Hp → B.X → Prop} {ex : Ex} {cap args : Array Value} {ds : List Deferred} {x : B.X} [en : Ent' P g] (hex : ex = .ret ∨ ex = .normal)
  (w : TrD P B g (args ++ cap).toList L x L')
  (k : At n e L' fun t h => leave P B f kd Q .ret t ⟨ds, um⟩ h x) : At n e L fun t h => leave P B f kd Q ex t ⟨{ target := .fn (.func g) cap, args := args } :: ds, um⟩ h x := by
 intro t h a1 a2 a3
 have key : Wd P B f kd .returning t ⟨{ target := .fn (.func g) cap, args := args } :: ds, um⟩ h x Q := by
  refine wd_cons (by simp) rfl en.ok ?_
  have := w h (fun en um1 h1 x1 => match en with
   | .ret _ => Wd P B f kd (settled um1) t { (⟨{ target := .fn (.func g) cap, args := args } :: ds, um⟩ : Z) with d := ds } h1 x1 Q
   | .pan chain => Wd P B f kd (raised chain um1) t { (⟨{ target := .fn (.func g) cap, args := args } :: ds, um⟩ : Z) with d := ds } h1 x1 Q) a3 fun v h' s => k t h' a1 a2 s
  rw [Array.toArray_toList] at this
  exact this
 rcases hex with rfl | rfl
 ·exact key
 ·exact key
variable {z : Z} {L1 : List HProp} {x : B.X} {K : Post B} {l : List OpG} {d : Option Nat} {ty : TypeId} {tys : Array TypeId} {g : Option (Nat × Bool)}
theorem wo_dfr {fo : Operand} {fn : Fn} {first cap : List Value} {args : List Operand} {vs : List Value} (hf : ev e fo = some (.func fn first.toArray cap.toArray)) (ha : EvL e args vs) (hg : gYes e g)
  (k : Wo P B kd n l K (setE d undef e) { z with d := { target := .fn fn cap.toArray, args := (first ++ vs).toArray } :: z.d } L x) :
  Wo P B kd n (⟨d, .defer ⟨.value fo, args.toArray, tys⟩, ty, g⟩ :: l) K e z L x := by
 intro ops idx h1 h2 t h a1 a2 a3
 obtain ⟨i, idx', oo, rfl, h3, h4, h5, h6, h7, h8⟩ := map_head h1
 refine wr_op h4 (wanted_yes a1 a2 h8 hg) ?_
 rw [execOp_of _ h6 h7]
 show wpS P B.mark (Sem.bind (resolve (evT t) ⟨.value fo, args.toArray, tys⟩ ty) fun d => pure (Next.defer d)) h _ _
 have hr : resolve (evT t) ⟨.value fo, args.toArray, tys⟩ ty = pure { target := .fn fn cap.toArray, args := (first ++ vs).toArray } := by
  simp only [resolve, a2.ev hf, Deferred.ofValue, List.map_toArray, ha.evT a2]
  simp
 rw [hr]
 exact k ops idx' h3 (dOk_tail h2) _ h ((setDst_size oo t _).trans a1) (a2.setE h5 (by rw [a1]; exact dOk_head h2) _) a3
theorem mo_close {c cap s r : Nat} {buf : Array Value} {tm : Bool} {o : Operand} {t : TypeId} {F : List HProp} (hx : ev e o = some (.chan (some c))) (hh : Has L (ob c (.chan cap buf false s r tm)) F) :
  Mo P e (.call ⟨.builtin .close, #[o], #[t]⟩) ty L fun v' L' => v' = .tuple #[] ∧ L' = ob c (.chan cap buf true s r tm) :: F := by
 intro M _ _ tt h Q X ag st q
 show wpS P M (Sem.bind (Builtin.close_ #[t] ty (#[o].map (evT tt))) fun v => pure (.value v)) h Q X
 rw [show #[o].map (evT tt) = #[evT tt o] by simp, ag.ev hx]
 obtain ⟨h1, h2⟩ := star_setObj (o' := .chan cap buf true s r tm) (hh.star st)
 refine wpS_bind _ _ ?_
 refine ⟨_, h1, ?_⟩
 exact ⟨by rw [h1]; rfl, rfl, q _ _ _ _ (.inl rfl) ⟨rfl, rfl⟩ h2⟩
theorem wo_ext [AllM B] {f : Nat} {en : Array Value → Sem Value} [xn : Exn P f en] {args : List Operand} {vs : List Value} {R : Value → List HProp → Prop} (ha : EvL e args vs)
  (hw : ∀ (M : Mark → Prop) h (Q : Value → Hp → Prop) X, (∀ m, M m) → Star L h → (∀ v L' h', R v L' → Star L' h' → Q v h') → wpS P M (en vs.toArray) h Q X) (hg : gYes e g)
  (k : ∀ v L', R v L' → Wo P B kd n l K (setE d v e) z L' x) : Wo P B kd n (⟨d, .call ⟨.value (.func f), args.toArray, tys⟩, ty, g⟩ :: l) K e z L x := by
 intro ops idx h1 h2 t h a1 a2 a3
 obtain ⟨i, idx', oo, rfl, h3, h4, h5, h6, h7, h8⟩ := map_head h1
 refine wr_op h4 (wanted_yes a1 a2 h8 hg) ?_
 rw [execOp_of _ h6 h7]
 have hargs := ha.evT a2
 have hex : execOp (evT t) (opOf (.call ⟨.value (.func f), args.toArray, tys⟩) ty) = callFunc f vs.toArray := by
  show callFunc f ((#[] ++ args.toArray.map (evT t)) ++ #[]) = _
  rw [List.map_toArray, hargs]; simp
 rw [hex]
 refine callFunc_ext (AllM.ok _) (hw B.mark h _ _ AllM.ok a3 fun v L' h' r s' => ?_)
 exact k v L' r ops idx' h3 (dOk_tail h2) _ h' ((setDst_size oo t v).trans a1) (a2.setE h5 (by rw [a1]; exact dOk_head h2) v) s'
theorem wo_mk0 [AllM B] {f : Nat} {m : Mark} [xn : Exn P f (fun _ => (do mark m; pure Extern.Race.none_ : Sem Value))] (hg : gYes e g)
  (k : Wo P B kd n l K (setE d (.tuple #[]) e) z L x) : Wo P B kd n (⟨d, .call ⟨.value (.func f), #[], tys⟩, ty, g⟩ :: l) K e z L x :=
 wo_ext (en := fun _ => (do mark m; pure Extern.Race.none_ : Sem Value)) (args := []) (vs := []) (R := fun v L' => v = .tuple #[] ∧ L' = L) .nil (fun M h Q X hM st q => (show M m ∧ Q Extern.Race.none_ h from ⟨hM _, q _ _ _ ⟨rfl, rfl⟩ st⟩)) hg (by rintro v L' ⟨rfl, rfl⟩; exact k)
theorem wo_mk1 [AllM B] {f : Nat} {m : Addr → Mark} [xn : Exn P f (Extern.Race.marked m)] {o : Operand} {a : Addr} (ho : ev e o = some (.pointer (some a))) (hg : gYes e g)
  (k : Wo P B kd n l K (setE d (.tuple #[]) e) z L x) : Wo P B kd n (⟨d, .call ⟨.value (.func f), #[o], tys⟩, ty, g⟩ :: l) K e z L x :=
 wo_ext (en := Extern.Race.marked m) (args := [o]) (vs := [.pointer (some a)]) (R := fun v L' => v = .tuple #[] ∧ L' = L) (.cons ho .nil) (fun M h Q X hM st q => (show M (m a) ∧ Q Extern.Race.none_ h from ⟨hM _, q _ _ _ ⟨rfl, rfl⟩ st⟩)) hg (by rintro v L' ⟨rfl, rfl⟩; exact k)
theorem mo_convPUd {src dst u : TypeId} {sz : Nat} {o : Operand} {b c m : Nat} {t ty : TypeId} [ps : PtT P src u] [pd : Und P dst .unsafePointer] [z : Siz P u sz] (hx : ev e o = some (.pointer (some ⟨b, c, none⟩))) (hs : ∀ h, Star L h → h.shp b = some (t, m)) (hm : c < m) (hz : sz ≠ 0) :
  Mo P e (.convert src dst o) ty L fun v' L' => v' = .pointer (some ⟨b, c, none⟩) ∧ L' = L := by
 intro M _ _ tt h Q X ag s q
 show wpS P M (Sem.bind (convert src dst (evT tt o)) fun v => pure (.value v)) h Q X
 rw [ag.ev hx]
 have hh := hs h s
 refine wpS_bind _ _ (wpS_underlying ps.ok (wpS_underlying pd.ok ?_))
 refine wpS_underlying ps.ok (wpS_underlying pd.ok (wpS_seen hh ?_))
 refine wpS_bind _ _ ?_
 unfold cellsIn
 refine wpS_shapeK hh ?_
 refine wpS_sizeOf z.ok ?_
 have e1 : (decide (sz = 0) || (decide (c ≥ m) && true)) = false := by simp [hz]; omega
 show wpS P M (if (decide (sz = 0) || (decide (c ≥ m) && true)) = true then _ else _) h _ X
 rw [if_neg (by rw [e1]; decide)]
 exact q _ L h _ (.inl rfl) ⟨rfl, rfl⟩ s
theorem at_casT {k : IntKind} {b o : Nat} {n y : Int} {L1 : List HProp} (hr : Rd L b o (.int k n)) (hw : Wt L b o (.int k y) L1) (M : Mark → Prop) (h : Hp) (Q : Value → Hp → Prop) (X : Value → Hp → Prop) (s : Star L h) (q : ∀ v L' h', (v = .bool true ∧ L' = L1) → Star L' h' → Q v h') :
  wpS P M (Extern.Atomic.casT (.int k) [Value.pointer (some ⟨b, o, none⟩), .int k n, .int k y].toArray) h Q X :=
 at_casI hr hw M h Q X s fun v L' h' ⟨e1, e2⟩ s' => q v L' h' ⟨by simpa using e1, by simpa using e2⟩ s'
end
end
end Go.PB
namespace Go.Proofs.Ytcladnioicackaa
open Go Go.PB
attribute [local irreducible] Mo Bin Eql Tr Wo TrD
section
section
variable {B : Hand} [Lets B] {L L1 F : List HProp} {x : B.X} {r : Nat}
theorem bload0_tr (hr : Rd L r 4 (.int .u32 0)) : Tr Try.prog B 101 [.pointer (some ⟨r, 4, none⟩)] L x fun v L' x' => v = .bool false ∧ L' = L ∧ x' = x := by
 refine tr_of_body Try.func101 rfl Try.ntmps101 (by simp) fun um Q _ hQ => ?_
 simp only [argE, Nat.zero_add, Nat.reduceAdd]
 repeat (first | (apply wo_po; apply mo_ext (args := [_]); exact .cons rfl .nil; exact at_loadI hr; exact trivial) | refine wneqF ?_ | refine we_seq ?_ | (refine wR ?_; try simp only [oS]) | refine wo_nil ?_ | refine wM ?_ | refine wA ?_ | refine wN ?_ | refine wD ?_ | refine we_ret ?_)
 (first | refine or1 Try.func101 Try.results101 hQ rfl ?_ | refine on1 Try.func101 Try.results101 hQ rfl ?_)
 exact ⟨rfl, rfl, rfl⟩
theorem b32_tr : Tr Try.prog B 127 [.bool true] L x fun v L' x' => v = .int .u32 1 ∧ L' = L ∧ x' = x := by
 refine tr_of_body Try.func127 rfl Try.ntmps127 (by simp) fun um Q _ hQ => ?_
 simp only [argE, Nat.zero_add, Nat.reduceAdd]
 repeat (first | refine we_seq ?_ | (refine wR ?_; try simp only [oS]) | refine wo_nil ?_ | refine wM ?_ | refine wA ?_ | refine wT ?_ | refine we_ret ?_)
 (first | refine or1 Try.func127 Try.results127 hQ rfl ?_ | refine on1 Try.func127 Try.results127 hQ rfl ?_)
 exact ⟨rfl, rfl, rfl⟩
theorem bstore_trd [NoCut B] (hw : Wt L r 4 (.int .u32 1) L1) : TrD Try.prog B 119 [.pointer (some ⟨r, 4, none⟩), .bool true] L x L1 := by
 refine trd_of_body Try.func119 rfl Try.ntmps119 (by simp) fun Q _ hQ => ?_
 simp only [argE, Nat.zero_add, Nat.reduceAdd]
 refine we_draw (List.range' 0 6) (by kernel_rfl) ?_
 repeat (first | refine aM ?_ | refine aN ?_ | refine aD ?_)
 refine ap_callR rfl rfl rfl trivial rfl rfl (.cons rfl .nil) b32_tr ?_ ?_
 ·rintro v L' x' ⟨rfl, rfl, rfl⟩ p hp
  replace hp := (List.mem_filter.1 hp).1
  simp only [List.mem_cons, List.not_mem_nil, or_false] at hp
  rcases hp with rfl | rfl | rfl | rfl <;> exact .inl rfl
 rintro v L' x1 ⟨rfl, rfl, rfl⟩
 skip
 refine ap_loud rfl rfl rfl rfl rfl trivial (mo_ext (args := [_, _]) (.cons rfl (.cons rfl .nil)) (at_storeI rfl hw)) ?_
 rintro v' L' ⟨rfl, rfl⟩
 refine ap_end ?_
 exact at_retD Try.func119 Try.results119 hQ (.inr rfl) fun _ s => s
variable [AllM B]
theorem ilock_tr (hr : Rd L r 5 (.int .i32 0)) (hw : Wt L r 5 (.int .i32 1) L1) {t : TypeId} {m : Nat} (hm : 5 < m) (hs : ∀ h, Star L1 h → h.shp r = some (t, m)) : Tr Try.prog B 124 [.pointer (some ⟨r, 5, none⟩)] L x fun v L' x' => v = .tuple #[] ∧ L' = L1 ∧ x' = x := by
 refine tr_of_body Try.func124 rfl Try.ntmps124 (by simp) fun um Q _ hQ => ?_
 simp only [argE, Nat.zero_add, Nat.reduceAdd]
 repeat (first | (apply wo_mk0; exact trivial) | refine we_seq ?_ | (refine wR ?_; try simp only [oS]) | refine wo_nil ?_ | refine wM ?_ | refine wN ?_ | refine wD ?_)
 apply wo_pm
 apply mo_ext (args := [_, _, _])
 exact .cons rfl (.cons rfl (.cons rfl .nil))
 exact at_casT hr hw
 exact trivial
 repeat (first | (apply wo_mk0; exact trivial) | (apply wo_po; apply mo_convPUd (c := 5) (m := m); exact rfl; exact hs; exact hm; decide; exact trivial) | (apply wo_mk1; exact rfl; exact trivial) | refine we_seq ?_ | (refine wR ?_; try simp only [oS]) | refine wo_nil ?_ | refine wM ?_ | refine wT ?_ | refine we_ret ?_)
 (first | refine or0 Try.func124 Try.results124 hQ ?_ | refine on0 Try.func124 Try.results124 hQ ?_)
 exact ⟨rfl, rfl, rfl⟩
theorem lock_tr (hr : Rd L r 5 (.int .i32 0)) (hw : Wt L r 5 (.int .i32 1) L1) {t : TypeId} {m : Nat} (hm : 5 < m) (hs : ∀ h, Star L1 h → h.shp r = some (t, m)) : Tr Try.prog B 117 [.pointer (some ⟨r, 5, none⟩)] L x fun v L' x' => v = .tuple #[] ∧ L' = L1 ∧ x' = x := by
 refine tr_of_body Try.func117 rfl Try.ntmps117 (by simp) fun um Q _ hQ => ?_
 simp only [argE, Nat.zero_add, Nat.reduceAdd]
 repeat (first | (refine wR ?_; try simp only [oS]) | refine wM ?_ | refine wN ?_ | refine wD ?_)
 refine wo_call (.cons rfl .nil) trivial (ilock_tr hr hw hm hs) ?_
 rintro v1 L2 x1 ⟨rfl, rfl, rfl⟩
 repeat (first | refine wo_nil ?_)
 (first | refine or0 Try.func117 Try.results117 hQ ?_ | refine on0 Try.func117 Try.results117 hQ ?_)
 exact ⟨rfl, rfl, rfl⟩
theorem iunlock_tr (hr : Rd L r 5 (.int .i32 1)) (hw : Wt L r 5 (.int .i32 0) L1) {t : TypeId} {m : Nat} (hm : 5 < m) (hs : ∀ h, Star L h → h.shp r = some (t, m)) : Tr Try.prog B 125 [.pointer (some ⟨r, 5, none⟩)] L x fun v L' x' => v = .tuple #[] ∧ L' = L1 ∧ x' = x := by
 refine tr_of_body Try.func125 rfl Try.ntmps125 (by simp) fun um Q _ hQ => ?_
 simp only [argE, Nat.zero_add, Nat.reduceAdd]
 repeat (first | (apply wo_mk0; exact trivial) | (apply wo_po; apply mo_convPUd (c := 5) (m := m); exact rfl; exact hs; exact hm; decide; exact trivial) | (apply wo_mk1; exact rfl; exact trivial) | (apply wo_po; apply mo_load; exact rfl; exact hr; exact trivial) | refine we_seq ?_ | (refine wR ?_; try simp only [oS]) | refine wo_nil ?_ | refine wM ?_ | refine wN ?_ | refine wD ?_ | refine wT ?_)
 apply wo_pm
 apply mo_ext (args := [_, _])
 exact .cons rfl (.cons rfl .nil)
 exact at_addI (r := 0) hr (by decide) hw
 exact trivial
 repeat (first | (apply wo_mk0; exact trivial) | refine wneqF ?_ | refine we_seq ?_ | (refine wR ?_; try simp only [oS]) | refine wo_nil ?_ | refine wM ?_ | refine wA ?_ | refine wF ?_ | refine we_skip ?_)
 (first | refine or0 Try.func125 Try.results125 hQ ?_ | refine on0 Try.func125 Try.results125 hQ ?_)
 exact ⟨rfl, rfl, rfl⟩
theorem unlock_trd [NoCut B] (hr : Rd L r 5 (.int .i32 1)) (hw : Wt L r 5 (.int .i32 0) L1) {t : TypeId} {m : Nat} (hm : 5 < m) (hs : ∀ h, Star L h → h.shp r = some (t, m)) : TrD Try.prog B 118 [.pointer (some ⟨r, 5, none⟩)] L x L1 := by
 refine trd_of_body Try.func118 rfl Try.ntmps118 (by simp) fun Q _ hQ => ?_
 simp only [argE, Nat.zero_add, Nat.reduceAdd]
 repeat (first | (refine wR ?_; try simp only [oS]) | refine wM ?_ | refine wN ?_ | refine wD ?_)
 refine wo_call (.cons rfl .nil) trivial (iunlock_tr hr hw hm hs) ?_
 rintro v1 L2 x1 ⟨rfl, rfl, rfl⟩
 repeat (first | refine wo_nil ?_)
 exact at_retD Try.func118 Try.results118 hQ (.inr rfl) fun _ s => s
def onceL (a0 a1 st ca : Value) (dn : Int) (ms : Int) (ov va co : Value) : List Value := [a0, a1, st, ca, .int .u32 dn, .int .i32 ms, .int .u32 0, ov, va, co]
section
variable {a0 a1 st ca ov va co st' ca' va' co' : Value} {t : TypeId} {m : Nat} {F' G G' : List HProp} {fv : Value} {f : FuncId} {first cap : List Value}
theorem slow_tr [NoCut B] (hm : 5 < m) (hF : Has F (shpC r t m) G) (hF' : Has F' (shpC r t m) G') (hc : callee? fv = some (f, first, cap)) [en : Ent' Try.prog f]
  (tr : Tr Try.prog B f (first ++ cap) (arr r 0 (onceL a0 a1 st ca 0 1 ov va co) :: F) x fun v L' x' => v = .tuple #[] ∧ L' = arr r 0 (onceL a0 a1 st' ca' 0 1 ov va' co') :: F' ∧ x' = x) (hh : L = arr r 0 (onceL a0 a1 st ca 0 0 ov va co) :: F) :
  Tr Try.prog B 102 [.pointer (some ⟨r, 4, none⟩), fv] L x fun v L' x' => v = .tuple #[] ∧ L' = arr r 0 (onceL a0 a1 st' ca' 1 0 ov va' co') :: F' ∧ x' = x := by
 subst hh
 refine tr_of_body Try.func102 rfl Try.ntmps102 (by simp) fun um Q _ hQ => ?_
 simp only [argE, Nat.zero_add, Nat.reduceAdd]
 repeat (first | refine we_seq ?_ | (refine wR ?_; try simp only [oS]) | refine wM ?_ | refine wN ?_ | refine wD ?_)
 refine wo_call (.cons rfl .nil) trivial (lock_tr (L1 := arr r 0 (onceL a0 a1 st ca 0 1 ov va co) :: F) (Rd.row0 rfl) (Wt.row0 (k := 5) .here (by simp [onceL])) hm (fun h s => shp_of (.there hF) s)) ?_
 rintro v1 L2 x1 ⟨rfl, rfl, rfl⟩
 repeat (first | refine we_seq ?_ | (refine wR ?_; try simp only [oS]) | refine wo_nil ?_ | refine wM ?_ | refine wN ?_ | refine wD ?_)
 refine wo_dfr (first := []) (cap := []) (args := [_]) rfl (.cons rfl .nil) trivial ?_
 repeat (first | refine we_seq ?_ | (refine wR ?_; try simp only [oS]) | refine wo_nil ?_ | refine wM ?_ | refine wN ?_ | refine wD ?_)
 refine wo_call (pk := Pass.of_no) (.cons rfl .nil) trivial (bload0_tr (Rd.row0 rfl)) ?_
 rintro v1 L2 x1 ⟨rfl, rfl, rfl⟩
 repeat (first | refine we_seq ?_ | (refine wR ?_; try simp only [oS]) | refine wo_nil ?_ | refine wM ?_ | refine wN ?_ | refine wD ?_ | (apply wo_po; apply mo_not; exact rfl; exact gY) | refine wT ?_)
 refine wo_dfr (first := []) (cap := []) (args := [_, _]) rfl (.cons rfl (.cons rfl .nil)) trivial ?_
 repeat (first | (refine wR ?_; try simp only [oS]) | refine wo_nil ?_ | refine wM ?_)
 refine wo_callv (pk := Pass.of_no) (args := []) rfl hc .nil trivial (by simpa using tr) ?_
 rintro v1 L2 x1 ⟨rfl, rfl, rfl⟩
 repeat (first | refine wo_nil ?_)
 refine at_dfr (L' := arr r 0 (onceL a0 a1 st' ca' 1 1 ov va' co') :: F') (.inr rfl) (bstore_trd (Wt.row0 (k := 4) .here (by simp [onceL]))) ?_
 refine at_dfr (L' := arr r 0 (onceL a0 a1 st' ca' 1 0 ov va' co') :: F') (.inl rfl) (unlock_trd (Rd.row0 rfl) (Wt.row0 (k := 5) .here (by simp [onceL])) hm (fun h s => shp_of (.there hF') s)) ?_
 (first | refine or0 Try.func102 Try.results102 hQ ?_ | refine on0 Try.func102 Try.results102 hQ ?_)
 exact ⟨rfl, rfl, rfl⟩
theorem do_tr [NoCut B] (hm : 5 < m) (hF : Has F (shpC r t m) G) (hF' : Has F' (shpC r t m) G') (hc : callee? fv = some (f, first, cap)) [en : Ent' Try.prog f]
  (tr : Tr Try.prog B f (first ++ cap) (arr r 0 (onceL a0 a1 st ca 0 1 ov va co) :: F) x fun v L' x' => v = .tuple #[] ∧ L' = arr r 0 (onceL a0 a1 st' ca' 0 1 ov va' co') :: F' ∧ x' = x) (hh : L = arr r 0 (onceL a0 a1 st ca 0 0 ov va co) :: F) :
  Tr Try.prog B 69 [.pointer (some ⟨r, 4, none⟩), fv] L x fun v L' x' => v = .tuple #[] ∧ L' = arr r 0 (onceL a0 a1 st' ca' 1 0 ov va' co') :: F' ∧ x' = x := by
 subst hh
 refine tr_of_body Try.func69 rfl Try.ntmps69 (by simp) fun um Q _ hQ => ?_
 simp only [argE, Nat.zero_add, Nat.reduceAdd]
 repeat (first | refine we_seq ?_ | (refine wR ?_; try simp only [oS]) | refine wM ?_ | refine wN ?_ | refine wD ?_)
 refine wo_call (.cons rfl .nil) trivial (bload0_tr (Rd.row0 rfl)) ?_
 rintro v1 L2 x1 ⟨rfl, rfl, rfl⟩
 repeat (first | (refine wR ?_; try simp only [oS]) | refine wo_nil ?_ | refine wM ?_ | (apply wo_po; apply mo_not; exact rfl; exact gY) | refine wT ?_)
 refine wo_call (.cons rfl (.cons rfl .nil)) trivial (slow_tr hm hF hF' hc tr rfl) ?_
 rintro v1 L2 x1 ⟨rfl, rfl, rfl⟩
 repeat (first | refine wo_nil ?_)
 (first | refine or0 Try.func69 Try.results69 hQ ?_ | refine on0 Try.func69 Try.results69 hQ ?_)
 exact ⟨rfl, rfl, rfl⟩
end
end
theorem star_dropM {L : List HProp} : ∀ {M : List HProp} {h : Hp}, Star (M ++ L) h → Star L h
 | [], _, s => s
 | _ :: _, _, s => star_dropM (star_drop s)
def MkOk (B : Hand) (fv : Value) (D D' : HProp) (va : Value) (co : Int) : Prop := ∃ f first cap, callee? fv = some (f, first, cap) ∧ Ent' Try.prog f ∧
 ∀ (L F : List HProp) (x : B.X), Has L D F → Tr Try.prog B f (first ++ cap) L x fun v L' x' => v = .tuple #[va, .int .i64 co] ∧ L' = D' :: F ∧ x' = x
end
end Go.Proofs.Ytcladnioicackaa
namespace Go.Proofs.Ytcladnioicackaa
open Go Go.PB
attribute [local irreducible] Mo Bin Eql Tr Wo TrD Wle
section
section
variable {B : Hand} [Lets B] {L F : List HProp} {x : B.X} {r c w : Nat}
theorem freshU_tr {i : Int} {fn : Fn} {u v : Array Value} : Tr Try.prog B 47 [.int .i64 i, .func fn u v] L x fun q L' x' => ∃ r c, q = .pointer (some ⟨r, 0, none⟩) ∧ L' = arr r 0 (onceL (.int .i64 i) (.func fn u v) (.int .u64 0) (.int .u64 0) 0 0 (.chan (some c)) (.int .u64 0) (.int .i64 0)) :: shpC r 143 10 :: chC c 0 #[] 0 0 :: L ∧ x' = x := by
 refine tr_of_body Try.func47 rfl Try.ntmps47 (by simp) fun um Q _ hQ => ?_
 simp only [argE, Nat.zero_add, Nat.reduceAdd]
 repeat (first | refine we_seq ?_ | (refine wR ?_; try simp only [oS]) | refine wo_nil ?_ | refine wM ?_ | refine wA ?_)
 apply wo_mo
 apply mo_makeChan (m := 0) (k := .i64)
 exact rfl
 omega
 omega
 exact trivial
 rintro v' L' ⟨c, rfl, rfl⟩
 repeat (first | (apply wo_po; apply mo_build (pv := [(0, _), (1, _), (5, _)]); exact rfl; exact .cons rfl (.cons rfl (.cons rfl .nil)); exact rfl; exact trivial))
 apply wo_mo
 apply mo_boxS
 exact rfl
 exact trivial
 rintro v' L' ⟨r, rfl, rfl⟩
 repeat (first | refine wo_nil ?_ | refine wA ?_ | refine we_ret ?_)
 (first | refine or1 Try.func47 Try.results47 hQ rfl ?_ | refine on1 Try.func47 Try.results47 hQ rfl ?_)
 exact ⟨r, c, rfl, rfl, rfl⟩
theorem newU_tr {fn : Fn} {u v : Array Value} : Tr Try.prog B 8 [.func fn u v] L x fun q L' x' => ∃ o r c, q = .pointer (some ⟨o, 0, none⟩) ∧ L' = arr o 0 [.pointer (some ⟨r, 0, none⟩)] :: arr r 0 (onceL (.int .i64 (0 : Nat)) (.func fn u v) (.int .u64 0) (.int .u64 0) 0 0 (.chan (some c)) (.int .u64 0) (.int .i64 0)) :: shpC r 143 10 :: chC c 0 #[] 0 0 :: L ∧ x' = x := by
 refine tr_of_body Try.func8 rfl Try.ntmps8 (by simp) fun um Q _ hQ => ?_
 simp only [argE, Nat.zero_add, Nat.reduceAdd]
 repeat (first | (apply wo_po; apply mo_bin; exact rfl; exact rfl; apply bin_eq; apply eql_func_nil; exact trivial) | refine we_seq ?_ | (refine wR ?_; try simp only [oS]) | refine wo_nil ?_ | refine wM ?_ | refine wA ?_ | refine wF ?_ | refine we_skip ?_)
 refine wo_call (.cons rfl (.cons rfl .nil)) trivial freshU_tr ?_
 rintro v1 L1 x1 ⟨r, c, rfl, rfl, rfl⟩
 repeat (first | (apply wo_po; apply mo_build (pv := [(0, _)]); exact rfl; exact .cons rfl .nil; exact rfl; exact trivial) | (apply wo_mo; apply mo_box; exact rfl; exact trivial))
 rintro v' L' ⟨o, rfl, rfl⟩
 repeat (first | refine wo_nil ?_ | refine wA ?_ | refine we_ret ?_)
 (first | refine or1 Try.func8 Try.results8 hQ rfl ?_ | refine on1 Try.func8 Try.results8 hQ rfl ?_)
 exact ⟨o, r, c, rfl, rfl, rfl⟩
theorem answerU2_tr {va : Value} (hr : Rd L r 8 va) : Tr Try.prog B 68 [.pointer (some ⟨r, 0, none⟩), .int .u64 2] L x fun q L' x' => q = .tuple #[va, .int .i64 0] ∧ L' = L ∧ x' = x := by
 refine tr_of_body Try.func68 rfl Try.ntmps68 (by simp) fun um Q _ hQ => ?_
 simp only [argE, Nat.zero_add, Nat.reduceAdd]
 repeat (first | (apply wo_po; apply mo_load; exact rfl; exact hr; exact trivial) | refine weqlT ?_ | refine we_seq ?_ | (refine wR ?_; try simp only [oS]) | refine wo_nil ?_ | refine wM ?_ | refine wA ?_ | refine wN ?_ | refine wD ?_ | refine wT ?_ | refine we_ret ?_ | refine we_block ?_)
 (first | refine or2 Try.func68 Try.results68 hQ rfl rfl ?_ | refine on2 Try.func68 Try.results68 hQ rfl rfl ?_)
 exact ⟨rfl, rfl, rfl⟩
theorem answerU3_tr {co : Int} (hr : Rd L r 9 (.int .i64 co)) : Tr Try.prog B 68 [.pointer (some ⟨r, 0, none⟩), .int .u64 3] L x fun q L' x' => q = .tuple #[(.int .u64 0), .int .i64 co] ∧ L' = L ∧ x' = x := by
 refine tr_of_body Try.func68 rfl Try.ntmps68 (by simp) fun um Q _ hQ => ?_
 simp only [argE, Nat.zero_add, Nat.reduceAdd]
 repeat (first | refine weqlT ?_ | refine weqlF ?_ | refine we_seq ?_ | (refine wR ?_; try simp only [oS]) | refine wo_nil ?_ | refine wM ?_ | refine wA ?_ | refine wT ?_ | refine wF ?_ | refine we_block ?_)
 refine we_draw (List.range' 0 7) (by kernel_rfl) ?_
 repeat (first | (apply ap_read; exact rfl; exact rfl; exact trivial; apply mo_load; exact rfl; exact hr) | refine aM ?_ | refine aA ?_ | refine aN ?_ | refine aD ?_ | refine ap_end ?_)
 repeat (first | refine we_ret ?_)
 (first | refine or2 Try.func68 Try.results68 hQ rfl rfl ?_ | refine on2 Try.func68 Try.results68 hQ rfl rfl ?_)
 exact ⟨rfl, rfl, rfl⟩
def toldU (va : Value) (co : Int) : Value := if co = 0 then .tuple #[va, .int .i64 0] else .tuple #[(.int .u64 0), .int .i64 co]
def stOf (co : Int) : Nat := if co = 0 then 2 else 3
theorem answerU_tr {va : Value} {co : Int} (h8 : Rd L r 8 va) (h9 : Rd L r 9 (.int .i64 co)) : Tr Try.prog B 68 [.pointer (some ⟨r, 0, none⟩), .int .u64 (stOf co : Nat)] L x fun q L' x' => q = toldU va co ∧ L' = L ∧ x' = x := by
 by_cases e : co = 0
 ·simp only [stOf, toldU, e, if_true]; exact answerU2_tr h8
 ·simp only [stOf, toldU, e, if_false]; exact answerU3_tr h9
section
variable {D D' : HProp} {fv a0 st ov va va0 co0 : Value} {co dn ms : Int}
theorem lookU_trd [NoCut B] {b : Nat} {n : Int} (hn : n ≠ 4) (hr : Rd L b 0 (.int .u64 n)) : TrD Try.prog B 120 [.pointer (some ⟨b, 0, none⟩)] L x L := by
 refine trd_of_body Try.func120 rfl Try.ntmps120 (by simp) fun Q _ hQ => ?_
 simp only [argE, Nat.zero_add, Nat.reduceAdd]
 repeat (first | (apply wo_po; apply mo_load; exact rfl; exact hr; exact trivial) | refine weqlF ?_ | refine we_seq ?_ | (refine wR ?_; try simp only [oS]) | refine wo_nil ?_ | refine wF ?_ | refine we_skip ?_)
 exact at_retD Try.func120 Try.results120 hQ (.inr rfl) fun _ s => s
theorem workU_tr [NoCut B] (mk : MkOk B fv D D' va co) (hva : one va = true) (hL : L = arr r 0 (onceL a0 fv st (.int .u64 0) dn ms ov va0 co0) :: D :: F) :
  Tr Try.prog B 103 [.pointer (some ⟨r, 0, none⟩)] L x fun q L' x' => q = .int .u64 (stOf co : Nat) ∧ L' = arr r 0 (onceL a0 fv st (.int .u64 1) dn ms ov va (.int .i64 co)) :: D' :: F ∧ x' = x := by
 subst hL
 obtain ⟨f, first, cap, hcal, en, tr⟩ := mk
 refine Tr.post (R := fun q L' x' => ∃ c, q = .int .u64 (stOf co : Nat) ∧ L' = c :: arr r 0 (onceL a0 fv st (.int .u64 1) dn ms ov va (.int .i64 co)) :: D' :: F ∧ x' = x) ?_ (by rintro v L' x' ⟨c, h1, rfl, h3⟩; exact ⟨_, ⟨h1, rfl, h3⟩, fun h s => star_drop s⟩)
 refine tr_of_body Try.func103 rfl Try.ntmps103 (by simp) fun um Q _ hQ => ?_
 simp only [argE, Nat.zero_add, Nat.reduceAdd]
 repeat (first | (apply wo_mo; apply mo_alloc; exact trivial) | refine we_seq ?_ | (refine wR ?_; try simp only [oS]))
 rintro v' L' ⟨tb, rfl, rfl⟩
 refine wo_ent (arr tb 0 [.int .u64 0] :: arr r 0 (onceL a0 fv st (.int .u64 0) dn ms ov va0 co0) :: D :: F) .refl ?_
 repeat (first | (apply wo_po; apply mo_makeFunc (first := []) (cap := [_]) (vf := []); exact .nil; exact .cons rfl .nil; exact trivial) | refine we_seq ?_ | (refine wR ?_; try simp only [oS]) | refine wo_nil ?_)
 refine wo_dfr (first := []) (cap := [_]) (args := []) rfl .nil trivial ?_
 repeat (first | refine we_seq ?_ | (refine wR ?_; try simp only [oS]) | refine wo_nil ?_ | refine wM ?_ | refine wN ?_ | refine wD ?_)
 refine wo_call (pk := Pass.of_no) (.cons rfl (.cons rfl .nil)) trivial (add_lone (r := 1) (n := 0) (L1 := arr tb 0 [.int .u64 0] :: arr r 0 (onceL a0 fv st (.int .u64 1) dn ms ov va0 co0) :: D :: F) (.there (Rd.row (k := 3) rfl rfl)) (by decide) (Wt.row0 (k := 3) (.there .here) (by simp [onceL]))) ?_
 rintro v1 L1 x1 ⟨rfl, rfl, rfl⟩
 repeat (first | refine wS ?_ | refine we_seq ?_ | (refine wR ?_; try simp only [oS]) | refine wo_nil ?_ | refine wM ?_ | refine wN ?_ | refine wD ?_ | refine wL ?_)
 refine wo_ent (arr tb 0 [.int .u64 4] :: arr r 0 (onceL a0 fv st (.int .u64 1) dn ms ov va0 co0) :: D :: F) .refl ?_
 skip
 refine wo_callv (pk := Pass.of_no) (args := []) rfl hcal .nil trivial (by simpa using tr (arr tb 0 [.int .u64 4] :: arr r 0 (onceL a0 fv st (.int .u64 1) dn ms ov va0 co0) :: D :: F) (arr tb 0 [.int .u64 4] :: arr r 0 (onceL a0 fv st (.int .u64 1) dn ms ov va0 co0) :: F) _ (.there (.there .here))) ?_
 rintro v1 L1 x1 ⟨rfl, rfl, rfl⟩
 repeat (first | refine we_seq ?_ | (refine wR ?_; try simp only [oS]) | refine wo_nil ?_ | refine wM ?_ | refine wA ?_ | refine wN ?_ | refine wD ?_ | (apply wo_po; apply mo_extract; exact rfl; exact rfl; exact gY))
 apply wo_pm
 apply mo_store
 exact rfl
 exact rfl
 exact hva
 exact Wt.row0 (k := 8) (vs := onceL a0 fv st (.int .u64 1) dn ms ov va0 co0) (.there (.there .here)) (by simp [onceL])
 exact trivial
 refine wo_ent (D' :: arr tb 0 [.int .u64 4] :: arr r 0 (onceL a0 fv st (.int .u64 1) dn ms ov va co0) :: F) .refl ?_
 repeat (first | refine wN ?_ | refine wD ?_)
 apply wo_pm
 apply mo_store
 exact rfl
 exact rfl
 exact rfl
 exact Wt.row0 (k := 9) (vs := onceL a0 fv st (.int .u64 1) dn ms ov va co0) (.there (.there .here)) (by simp [onceL])
 exact trivial
 refine wo_ent (D' :: arr tb 0 [.int .u64 4] :: arr r 0 (onceL a0 fv st (.int .u64 1) dn ms ov va (.int .i64 co)) :: F) .refl ?_
 by_cases e : co = 0
 ·subst e
  repeat (first | refine wS ?_ | refine wneqF ?_ | refine we_seq ?_ | (refine wR ?_; try simp only [oS]) | refine wo_nil ?_ | refine wM ?_ | refine wF ?_ | refine we_ret ?_ | refine we_skip ?_)
  refine at_ent (arr tb 0 [.int .u64 2] :: arr r 0 (onceL a0 fv st (.int .u64 1) dn ms ov va (.int .i64 0)) :: D' :: F) (.take (.there .here) (.take (.there .here) (.take .here .refl))) ?_
  refine at_dfr (.inl rfl) (lookU_trd (b := tb) (n := 2) (by decide) (Rd.row0 rfl)) ?_
  refine at_leaveM (ex := .ret) (rs := [.cell 2 22]) (vs := [.int .u64 2]) Try.func103 Try.results103 hQ (.inl rfl) (.cons (.cell1 (b := tb) (o := 0) rfl (Rd.row0 rfl)) .nil) ?_
  exact ⟨_, rfl, rfl, rfl⟩
 ·repeat (first | refine wS ?_ | refine wneqT ?_ | refine we_seq ?_ | (refine wR ?_; try simp only [oS]) | refine wo_nil ?_ | refine wM ?_ | refine wT ?_ | refine we_ret ?_)
  refine at_ent (arr tb 0 [.int .u64 3] :: arr r 0 (onceL a0 fv st (.int .u64 1) dn ms ov va (.int .i64 co)) :: D' :: F) (.take (.there .here) (.take (.there .here) (.take .here .refl))) ?_
  refine at_dfr (.inl rfl) (lookU_trd (b := tb) (n := 3) (by decide) (Rd.row0 rfl)) ?_
  refine at_leaveM (ex := .ret) (rs := [.cell 2 22]) (vs := [.int .u64 3]) Try.func103 Try.results103 hQ (.inl rfl) (.cons (.cell1 (b := tb) (o := 0) rfl (Rd.row0 rfl)) .nil) ?_
  exact ⟨_, by simp [stOf, e, packR], rfl, rfl⟩
end
abbrev shutC (c : Nat) : HProp := ob c (.chan 0 #[] true 0 0 false)
section
variable {gv : Value} {A : Acc B gv}
theorem ostep_tr {op : Int} {w : Nat} {s : A.S} {T : A.S → Prop} (hs : A.step op w s T) (hh : Has L (A.C s) F) :
  Tr Try.prog B 67 [gv, .int .u8 op, .int .i64 w] L (A.x s) fun v L' x' => ∃ s', T s' ∧ v = .tuple #[] ∧ L' = A.C s' :: F ∧ x' = A.x s' := by
 rcases A.gate with ⟨rfl, hg⟩ | ⟨t, p, f, rfl, hm, he, hg⟩
 ·refine tr_of_body Try.func67 rfl Try.ntmps67 (by simp) fun um Q _ hQ => ?_
  simp only [argE, Nat.zero_add, Nat.reduceAdd]
  repeat (first | refine we_seq ?_ | (refine wR ?_; try simp only [oS]) | refine wo_nil ?_ | refine wM ?_ | (apply wo_po; apply mo_bin; exact rfl; exact rfl; apply bin_ne; apply eql_nil_nil; exact gY) | refine wF ?_ | refine we_skip ?_)
  refine at_ent _ (Ent.take hh .refl) ?_
  (first | refine or0 Try.func67 Try.results67 hQ ?_ | refine on0 Try.func67 Try.results67 hQ ?_)
  exact ⟨s, hg _ _ _ _ hs, rfl, rfl, rfl⟩
 ·refine tr_of_body Try.func67 rfl Try.ntmps67 (by simp) fun um Q _ hQ => ?_
  simp only [argE, Nat.zero_add, Nat.reduceAdd]
  repeat (first | (apply wo_po; apply mo_build (pv := [(0, _), (1, _)]); exact rfl; exact .cons rfl (.cons rfl .nil); exact rfl; exact trivial) | refine we_seq ?_ | (refine wR ?_; try simp only [oS]) | refine wo_nil ?_ | refine wM ?_ | (apply wo_po; apply mo_bin; exact rfl; exact rfl; apply bin_ne; apply eql_iface_nil; exact gY) | refine wT ?_)
  refine wo_invoke (args := [_]) rfl (.cons rfl .nil) trivial (hg op w s T L F hs hh) ?_
  rintro v L' x' ⟨s', h1, rfl, rfl, rfl⟩
  repeat (first | refine wo_nil ?_)
  (first | refine or0 Try.func67 Try.results67 hQ ?_ | refine on0 Try.func67 Try.results67 hQ ?_)
  exact ⟨s', h1, rfl, rfl, rfl⟩
end
section
variable {gv : Value} {A : Acc B gv} {D D' : HProp} {fv va va0 co0 : Value} {co dn ms : Int}
theorem claimU_tr [NoCut B] (mk : MkOk B fv D D' va co) (hva : one va = true) {s : A.S} {R : A.S → Prop} (hst : A.step 5 w s fun s1 => A.step 2 w s1 R) (hL : L = A.C s :: arr r 0 (onceL (.int .i64 (w : Nat)) fv (.int .u64 0) (.int .u64 0) dn ms (.chan (some c)) va0 co0) :: D :: chC c 0 #[] 0 0 :: F) :
  Tr Try.prog B 71 [.pointer (some ⟨r, 0, none⟩), gv] L (A.x s) fun q L' x' => ∃ s', R s' ∧ q = .bool true ∧ L' = shutC c :: A.C s' :: arr r 0 (onceL (.int .i64 (w : Nat)) fv (.int .u64 (stOf co : Nat)) (.int .u64 1) dn ms (.chan (some c)) va (.int .i64 co)) :: D' :: F ∧ x' = A.x s' := by
 subst hL
 have hso : stOf co < 18446744073709551616 := by unfold stOf; split <;> decide
 refine tr_of_body Try.func71 rfl Try.ntmps71 (by simp) fun um Q _ hQ => ?_
 simp only [argE, Nat.zero_add, Nat.reduceAdd]
 repeat (first | (apply wo_po; apply mo_load; exact rfl; exact .there (Rd.row (k := 0) rfl rfl); exact trivial) | refine we_seq ?_ | (refine wR ?_; try simp only [oS]) | refine wo_nil ?_ | refine wM ?_ | refine wA ?_ | refine wN ?_ | refine wD ?_)
 refine wo_call (.cons rfl (.cons rfl (.cons rfl .nil))) trivial (ostep_tr hst .here) ?_
 rintro v1 L1 x1 ⟨s1, hst1, rfl, rfl, rfl⟩
 repeat (first | refine we_seq ?_ | (refine wR ?_; try simp only [oS]) | refine wo_nil ?_ | refine wM ?_ | refine wN ?_ | refine wD ?_)
 refine wo_call (.cons rfl (.cons rfl (.cons rfl .nil))) trivial (cas_lone (n := 0) (L1 := A.C s1 :: arr r 0 (onceL (.int .i64 (w : Nat)) fv (.int .u64 1) (.int .u64 0) dn ms (.chan (some c)) va0 co0) :: D :: chC c 0 #[] 0 0 :: F) (.there (Rd.row (k := 2) rfl rfl)) (Wt.row0 (k := 2) (.there .here) (by simp [onceL]))) ?_
 rintro v1 L1 x1 ⟨rfl, hL1, rfl⟩
 rw [if_pos rfl] at hL1
 subst hL1
 repeat (first | refine we_seq ?_ | (refine wR ?_; try simp only [oS]) | refine wo_nil ?_ | refine wM ?_ | (apply wo_po; apply mo_not; exact rfl; exact gY) | refine wF ?_ | refine we_skip ?_)
 refine wo_ent (arr r 0 (onceL (.int .i64 (w : Nat)) fv (.int .u64 1) (.int .u64 0) dn ms (.chan (some c)) va0 co0) :: D :: A.C s1 :: chC c 0 #[] 0 0 :: F) (.take (.there .here) (.take (.there .here) (.take .here .refl))) ?_
 refine wo_call (.cons rfl .nil) trivial (workU_tr mk hva rfl) ?_
 rintro v1 L1 x1 ⟨rfl, rfl, rfl⟩
 repeat (first | (apply wo_po; apply mo_load; exact rfl; exact Rd.row (k := 0) rfl rfl; exact trivial) | refine we_seq ?_ | (refine wR ?_; try simp only [oS]) | refine wo_nil ?_ | refine wM ?_ | refine wA ?_ | refine wN ?_ | refine wD ?_)
 refine wo_call (.cons rfl (.cons rfl (.cons rfl .nil))) trivial (ostep_tr (s := s1) hst1 (.there (.there .here))) ?_
 rintro v1 L1 x1 ⟨s2, hst2, rfl, rfl, rfl⟩
 repeat (first | refine we_seq ?_ | (refine wR ?_; try simp only [oS]) | refine wo_nil ?_ | refine wM ?_ | refine wN ?_ | refine wD ?_)
 refine wo_call (.cons rfl (.cons rfl .nil)) trivial (store_lone (L1 := A.C s2 :: arr r 0 (onceL (.int .i64 (w : Nat)) fv (.int .u64 (stOf co : Nat)) (.int .u64 1) dn ms (.chan (some c)) va (.int .i64 co)) :: D' :: chC c 0 #[] 0 0 :: F) (Wt.row0 (k := 2) (.there .here) (by simp [onceL]))) ?_
 rintro v1 L1 x1 ⟨rfl, rfl, rfl⟩
 repeat (first | (apply wo_po; apply mo_load; exact rfl; exact .there (Rd.row (k := 7) rfl rfl); exact trivial) | (apply wo_pm; apply mo_close; exact rfl; exact .there (.there (.there .here)); exact trivial) | refine we_seq ?_ | (refine wR ?_; try simp only [oS]) | refine wo_nil ?_ | refine wM ?_ | refine wA ?_ | refine wN ?_ | refine wD ?_ | refine we_ret ?_)
 (first | refine or1 Try.func71 Try.results71 hQ rfl ?_ | refine on1 Try.func71 Try.results71 hQ rfl ?_)
 exact ⟨s2, hst2, rfl, rfl, rfl⟩
theorem oldU_tr {s : A.S} {R : A.S → Prop} {cs : List Value} (hcs : cs = onceL (.int .i64 (w : Nat)) fv (.int .u64 (stOf co : Nat)) (.int .u64 1) dn ms (.chan (some c)) va (.int .i64 co)) (hst : A.step 1 w s R) (hL : Has L (A.C s) F) (hF : ∀ (k : Nat) v, cs[k]? = some v → Rd F r k v) :
  Tr Try.prog B 49 [.pointer (some ⟨r, 0, none⟩), gv] L (A.x s) fun q L' x' => ∃ s', R s' ∧ q = toldU va co ∧ L' = A.C s' :: F ∧ x' = A.x s' := by
 subst hcs
 refine Tr.ent (L' := A.C s :: F) (.take hL .refl) ?_
 refine Tr.post (R := fun q L' x' => ∃ s' b, R s' ∧ q = toldU va co ∧ L' = A.C s' :: b :: F ∧ x' = A.x s') ?_ (by rintro v L' x' ⟨s', b, h1, h2, rfl, h3⟩; exact ⟨_, ⟨s', h1, h2, rfl, h3⟩, fun h st => star_drop (star_swap st)⟩)
 have hlo : 1 < (stOf co : Int) := by unfold stOf; split <;> decide
 refine tr_of_body Try.func49 rfl Try.ntmps49 (by simp) fun um Q _ hQ => ?_
 simp only [argE, Nat.zero_add, Nat.reduceAdd]
 repeat (first | (apply wo_mo; apply mo_box; exact rfl; exact trivial) | refine we_seq ?_ | (refine wR ?_; try simp only [oS]))
 rintro v' L' ⟨bb, rfl, rfl⟩
 refine wo_ent (A.C s :: arr bb 0 [.pointer (some ⟨r, 0, none⟩)] :: F) (.take (.there .here) (.take .here .refl)) ?_
 repeat (first | refine wo_nil ?_ | refine wA ?_ | refine we_block ?_)
 refine we_loop1 ?_
 have hF2 : ∀ {a b : HProp} (k : Nat) v, (onceL (.int .i64 (w : Nat)) fv (.int .u64 (stOf co : Nat)) (.int .u64 1) dn ms (.chan (some c)) va (.int .i64 co))[k]? = some v → Rd (a :: b :: F) r k v := fun k v hk => .there (.there (hF k v hk))
 repeat (first | (apply wo_po; apply mo_load; exact rfl; exact hF2 0 _ rfl; exact trivial) | refine we_seq ?_ | (refine wR ?_; try simp only [oS]) | refine wM ?_ | refine wN ?_ | refine wD ?_ | refine wL ?_ | refine we_block ?_)
 refine wo_call (.cons rfl (.cons rfl (.cons rfl .nil))) trivial (ostep_tr hst .here) ?_
 rintro v1 L1 x1 ⟨s1, hst1, rfl, rfl, rfl⟩
 repeat (first | refine we_seq ?_ | (refine wR ?_; try simp only [oS]) | refine wo_nil ?_ | refine wN ?_ | refine wD ?_ | refine wL ?_)
 refine wo_call (.cons rfl .nil) trivial (load_lone (hF2 2 _ rfl)) ?_
 rintro v1 L1 x1 ⟨rfl, rfl, rfl⟩
 repeat (first | refine wgtrT ?_ | refine we_seq ?_ | (refine wR ?_; try simp only [oS]) | refine wo_nil ?_ | refine wM ?_ | refine wA ?_ | refine wL ?_ | refine wT ?_ | refine we_block ?_)
 refine wo_call (.cons rfl (.cons rfl .nil)) trivial (answerU_tr (hF2 8 _ rfl) (hF2 9 _ rfl)) ?_
 rintro v1 L1 x1 ⟨rfl, rfl, rfl⟩
 skip
 by_cases e : co = 0
 ·subst e
  rw [show toldU va 0 = .tuple #[va, .int .i64 0] from rfl]
  repeat (first | refine wo_nil ?_ | refine wA ?_ | (apply wo_po; apply mo_extract; exact rfl; exact rfl; exact gY) | refine we_ret ?_)
  (first | refine or2 Try.func49 Try.results49 hQ rfl rfl ?_ | refine on2 Try.func49 Try.results49 hQ rfl rfl ?_)
  exact ⟨s1, _, hst1, rfl, rfl, rfl⟩
 ·rw [show toldU va co = .tuple #[(.int .u64 0), .int .i64 co] from if_neg e]
  repeat (first | refine wo_nil ?_ | refine wA ?_ | (apply wo_po; apply mo_extract; exact rfl; exact rfl; exact gY) | refine we_ret ?_)
  (first | refine or2 Try.func49 Try.results49 hQ rfl rfl ?_ | refine on2 Try.func49 Try.results49 hQ rfl rfl ?_)
  exact ⟨s1, _, hst1, (if_neg e).symm, rfl, rfl⟩
theorem newGU_tr [NoCut B] {gt : TypeId} {gp : Value} {A : Acc B (.iface gt gp)} (mk : MkOk B fv D D' va co) (hva : one va = true) {s : A.S} {R : A.S → Prop} (hst : A.step 1 w s fun s1 => A.step 5 w s1 fun s2 => A.step 2 w s2 R) (hL : L = A.C s :: arr r 0 (onceL (.int .i64 (w : Nat)) fv (.int .u64 0) (.int .u64 0) dn ms (.chan (some c)) va0 co0) :: D :: chC c 0 #[] 0 0 :: F) :
  Tr Try.prog B 49 [.pointer (some ⟨r, 0, none⟩), .iface gt gp] L (A.x s) fun q L' x' => ∃ s', R s' ∧ q = toldU va co ∧ L' = shutC c :: A.C s' :: arr r 0 (onceL (.int .i64 (w : Nat)) fv (.int .u64 (stOf co : Nat)) (.int .u64 1) dn ms (.chan (some c)) va (.int .i64 co)) :: D' :: F ∧ x' = A.x s' := by
 subst hL
 refine Tr.post (R := fun q L' x' => ∃ s' b, R s' ∧ q = toldU va co ∧ L' = shutC c :: A.C s' :: arr r 0 (onceL (.int .i64 (w : Nat)) fv (.int .u64 (stOf co : Nat)) (.int .u64 1) dn ms (.chan (some c)) va (.int .i64 co)) :: D' :: b :: F ∧ x' = A.x s') ?_ (by rintro v L' x' ⟨s', b, h1, h2, rfl, h3⟩; exact ⟨_, ⟨s', h1, h2, rfl, h3⟩, fun h st => (Ent.take .here (.take .here (.take .here (.take .here (.drop .refl))))).star st⟩)
 refine tr_of_body Try.func49 rfl Try.ntmps49 (by simp) fun um Q _ hQ => ?_
 simp only [argE, Nat.zero_add, Nat.reduceAdd]
 repeat (first | (apply wo_mo; apply mo_box; exact rfl; exact trivial) | refine we_seq ?_ | (refine wR ?_; try simp only [oS]))
 rintro v' L' ⟨bb, rfl, rfl⟩
 refine wo_ent (A.C s :: arr r 0 (onceL (.int .i64 (w : Nat)) fv (.int .u64 0) (.int .u64 0) dn ms (.chan (some c)) va0 co0) :: D :: chC c 0 #[] 0 0 :: arr bb 0 [.pointer (some ⟨r, 0, none⟩)] :: F) (.take (.there .here) (.take (.there .here) (.take (.there .here) (.take (.there .here) (.take .here .refl))))) ?_
 repeat (first | refine wo_nil ?_ | refine wA ?_ | refine we_block ?_)
 refine we_loop1 ?_
 have rb : ∀ {a b c d : HProp}, Rd (a :: b :: c :: d :: arr bb 0 [.pointer (some ⟨r, 0, none⟩)] :: F) bb 0 (.pointer (some ⟨r, 0, none⟩)) := fun {a b c d} => .there (.there (.there (.there (Rd.row (k := 0) rfl rfl))))
 repeat (first | (apply wo_po; apply mo_load; exact rfl; exact rb; exact trivial) | (apply wo_po; apply mo_load; exact rfl; exact .there (Rd.row (k := 0) (vs := onceL (.int .i64 (w : Nat)) fv (.int .u64 0) (.int .u64 0) dn ms (.chan (some c)) va0 co0) rfl rfl); exact trivial) | refine we_seq ?_ | (refine wR ?_; try simp only [oS]) | refine wM ?_ | refine wN ?_ | refine wD ?_ | refine we_block ?_)
 refine wo_call (.cons rfl (.cons rfl (.cons rfl .nil))) trivial (ostep_tr hst .here) ?_
 rintro v1 L1 x1 ⟨s1, hst1, rfl, rfl, rfl⟩
 repeat (first | (apply wo_po; apply mo_load; exact rfl; exact rb; exact trivial) | refine we_seq ?_ | (refine wR ?_; try simp only [oS]) | refine wo_nil ?_ | refine wN ?_ | refine wD ?_)
 refine wo_call (.cons rfl .nil) trivial (load_lone (n := 0) (.there (Rd.row (k := 2) rfl rfl))) ?_
 rintro v1 L1 x1 ⟨rfl, rfl, rfl⟩
 repeat (first | (apply wo_po; apply mo_load; exact rfl; exact rb; exact trivial) | (apply wo_po; apply mo_bin; exact rfl; exact rfl; apply bin_eq; apply eql_iface_nil; exact trivial) | refine wgtrF ?_ | refine weqlT ?_ | refine we_seq ?_ | (refine wR ?_; try simp only [oS]) | refine wo_nil ?_ | refine wM ?_ | refine wA ?_ | refine wT ?_ | refine wF ?_ | refine we_block ?_)
 refine wo_call (.cons rfl (.cons rfl .nil)) trivial (claimU_tr (s := s1) mk hva hst1 rfl) ?_
 rintro v1 L1 x1 ⟨s2, hst2, rfl, rfl, rfl⟩
 repeat (first | refine we_seq ?_ | refine wo_nil ?_ | refine wT ?_)
 have e8 : Rd (shutC c :: A.C s2 :: arr r 0 (onceL (.int .i64 (w : Nat)) fv (.int .u64 (stOf co : Nat)) (.int .u64 1) dn ms (.chan (some c)) va (.int .i64 co)) :: D' :: arr bb 0 [.pointer (some ⟨r, 0, none⟩)] :: F) r 8 va := .there (.there (Rd.row (k := 8) rfl rfl))
 have e9 : Rd (shutC c :: A.C s2 :: arr r 0 (onceL (.int .i64 (w : Nat)) fv (.int .u64 (stOf co : Nat)) (.int .u64 1) dn ms (.chan (some c)) va (.int .i64 co)) :: D' :: arr bb 0 [.pointer (some ⟨r, 0, none⟩)] :: F) r 9 (.int .i64 co) := .there (.there (Rd.row (k := 9) rfl rfl))
 have e2 : Rd (shutC c :: A.C s2 :: arr r 0 (onceL (.int .i64 (w : Nat)) fv (.int .u64 (stOf co : Nat)) (.int .u64 1) dn ms (.chan (some c)) va (.int .i64 co)) :: D' :: arr bb 0 [.pointer (some ⟨r, 0, none⟩)] :: F) r 2 (.int .u64 (stOf co : Nat)) := .there (.there (Rd.row (k := 2) rfl rfl))
 refine we_draw (List.range' 0 10) (by kernel_rfl) ?_
 repeat (first | (apply ap_read; exact rfl; exact rfl; exact trivial; apply mo_load; exact rfl; exact rb) | refine aN ?_ | refine aD ?_)
 refine ap_callR rfl rfl rfl trivial rfl rfl (.cons rfl .nil) (load_lone e2) ?_ ?_
 ·rintro v L' x' ⟨rfl, rfl, rfl⟩ p hp
  replace hp := (List.mem_filter.1 hp).1
  simp only [List.mem_cons, List.not_mem_nil, or_false] at hp
  rcases hp with rfl | rfl | rfl | rfl <;> first | exact .inl rfl | exact .inr ⟨_, rfl, trivial, mo_load rfl rb⟩
 rintro v L' x1 ⟨rfl, rfl, rfl⟩
 refine ap_callR rfl rfl rfl trivial rfl rfl (.cons rfl (.cons rfl .nil)) (answerU_tr e8 e9) ?_ ?_
 ·rintro v L' x' ⟨rfl, rfl, rfl⟩ p hp
  replace hp := (List.mem_filter.1 (List.mem_filter.1 hp).1).1
  simp only [List.mem_cons, List.not_mem_nil, or_false] at hp
  rcases hp with rfl | rfl | rfl | rfl <;> first | exact .inl rfl | exact .inr ⟨_, rfl, trivial, mo_load rfl rb⟩
 rintro v L' x1 ⟨rfl, rfl, rfl⟩
 by_cases e : co = 0
 ·subst e
  rw [show toldU va 0 = .tuple #[va, .int .i64 0] from rfl]
  repeat (first | refine aA ?_ | (apply ap_pure; exact rfl; exact rfl; exact gY; intro L; apply mo_extract; exact rfl; exact rfl) | refine ap_end ?_)
  repeat (first | refine we_ret ?_)
  (first | refine or2 Try.func49 Try.results49 hQ rfl rfl ?_ | refine on2 Try.func49 Try.results49 hQ rfl rfl ?_)
  exact ⟨s2, _, hst2, rfl, rfl, rfl⟩
 ·rw [show toldU va co = .tuple #[(.int .u64 0), .int .i64 co] from if_neg e]
  repeat (first | refine aA ?_ | (apply ap_pure; exact rfl; exact rfl; exact gY; intro L; apply mo_extract; exact rfl; exact rfl) | refine ap_end ?_)
  repeat (first | refine we_ret ?_)
  (first | refine or2 Try.func49 Try.results49 hQ rfl rfl ?_ | refine on2 Try.func49 Try.results49 hQ rfl rfl ?_)
  exact ⟨s2, _, hst2, (if_neg e).symm, rfl, rfl⟩
def nilAcc (B : Hand) [Lets B] (x : B.X) : Acc B .nilIface := loneAcc x (fun _ => (0, 0)) 0 [] ⟨fun i j hi => by omega, fun i hi => by omega⟩
theorem nil_in {x : B.X} {f : Nat → Nat} {L : List HProp} {h : Hp} (st : Star L h) : Star ((nilAcc B x).C f :: L) h :=
 star_map (star_shut (M := []) st) (fun _ _ => ⟨fun w hw => by omega, fun k hk => by cases hk⟩) fun _ s => s
theorem getU_tr {o : Nat} {gv : Value} {R : List HProp → B.X → Prop} (hr : Rd L o 0 (.pointer (some ⟨r, 0, none⟩))) (tr : Tr Try.prog B 49 [.pointer (some ⟨r, 0, none⟩), gv] L x fun q L' x' => q = toldU va co ∧ R L' x') :
  Tr Try.prog B 15 [.pointer (some ⟨o, 0, none⟩), gv] L x fun q L' x' => q = toldU va co ∧ R L' x' := by
 refine tr_of_body Try.func15 rfl Try.ntmps15 (by simp) fun um Q _ hQ => ?_
 simp only [argE, Nat.zero_add, Nat.reduceAdd]
 repeat (first | (apply wo_po; apply mo_load; exact rfl; exact hr; exact gY) | refine we_seq ?_ | (refine wR ?_; try simp only [oS]) | refine wo_nil ?_ | refine wM ?_ | refine wA ?_ | refine wJ ?_ | refine wN ?_ | refine wD ?_ | (apply wo_po; apply mo_bin; exact rfl; exact rfl; apply bin_eq; apply eql_ptr_nil; exact gY) | refine wF ?_ | refine we_skip ?_)
 refine wo_call (.cons rfl (.cons rfl .nil)) trivial tr ?_
 rintro v1 L1 x1 ⟨rfl, hR⟩
 by_cases e : co = 0
 ·subst e
  rw [show toldU va 0 = .tuple #[va, .int .i64 0] from rfl]
  repeat (first | refine wo_nil ?_ | refine wA ?_ | (apply wo_po; apply mo_extract; exact rfl; exact rfl; exact gY) | refine we_ret ?_)
  (first | refine or2 Try.func15 Try.results15 hQ rfl rfl ?_ | refine on2 Try.func15 Try.results15 hQ rfl rfl ?_)
  exact ⟨rfl, hR⟩
 ·rw [show toldU va co = .tuple #[(.int .u64 0), .int .i64 co] from if_neg e]
  repeat (first | refine wo_nil ?_ | refine wA ?_ | (apply wo_po; apply mo_extract; exact rfl; exact rfl; exact gY) | refine we_ret ?_)
  (first | refine or2 Try.func15 Try.results15 hQ rfl rfl ?_ | refine on2 Try.func15 Try.results15 hQ rfl rfl ?_)
  exact ⟨(if_neg e).symm, hR⟩
theorem madeU_tr {o : Nat} {n : Int} (hr : Rd L o 0 (.pointer (some ⟨r, 0, none⟩))) (h3 : Rd L r 3 (.int .u64 n)) (hn : IntKind.i64.wrap n = n) :
  Tr Try.prog B 21 [.pointer (some ⟨o, 0, none⟩)] L x fun q L' x' => q = .int .i64 n ∧ L' = L ∧ x' = x := by
 refine tr_of_body Try.func21 rfl Try.ntmps21 (by simp) fun um Q _ hQ => ?_
 simp only [argE, Nat.zero_add, Nat.reduceAdd]
 repeat (first | (apply wo_po; apply mo_load; exact rfl; exact hr; exact gY) | refine we_seq ?_ | (refine wR ?_; try simp only [oS]) | refine wo_nil ?_ | refine wM ?_ | refine wA ?_ | refine wJ ?_ | refine wN ?_ | refine wD ?_ | (apply wo_po; apply mo_bin; exact rfl; exact rfl; apply bin_eq; apply eql_ptr_nil; exact gY) | refine wF ?_ | refine we_skip ?_)
 refine wo_call (.cons rfl .nil) trivial (load_lone h3) ?_
 rintro v1 L1 x1 ⟨rfl, rfl, rfl⟩
 repeat (first | (apply wo_po; apply mo_conv; exact rfl; exact hn; exact trivial) | refine wo_nil ?_ | refine wA ?_ | refine we_ret ?_)
 (first | refine or1 Try.func21 Try.results21 hQ rfl ?_ | refine on1 Try.func21 Try.results21 hQ rfl ?_)
 exact ⟨rfl, rfl, rfl⟩
end
end
end
end Go.Proofs.Ytcladnioicackaa
namespace Go.Proofs.Ytcladnioicackaa
open Go Go.PB
attribute [local irreducible] Mo Bin Eql Tr Wo Ap
section
section
variable {B : Hand} [Lets B] {L F : List HProp} {x : B.X} {n v : Nat}
theorem oworld_tr (hn : n ≤ 1024) : Tr Try.prog B 12 [.int .i64 (n : Nat)] L x fun w L' x' => ∃ wv lv, w = .agg #[wv, lv] ∧ L' = wvC wv lv ⟨[List.replicate n 0], 1⟩ :: L ∧ x' = x := by
 refine Tr.post (R := fun v L' x' => ∃ wv lv, v = .agg #[wv, lv] ∧ x' = x ∧ ∀ h, Star L' h → Star (wvC wv lv ⟨[List.replicate n 0], 1⟩ :: L) h) ?_
  (by rintro v L' x' ⟨wv, lv, rfl, rfl, hs⟩; exact ⟨_, ⟨wv, lv, rfl, rfl, rfl⟩, hs⟩)
 refine tr_of_body Try.func12 rfl Try.ntmps12 (by simp) fun um Q _ hQ => ?_
 simp only [argE, Nat.zero_add, Nat.reduceAdd]
 repeat (first | (apply wo_mo; apply mo_alloc; exact trivial) | refine we_seq ?_ | (refine wR ?_; try simp only [oS]))
 rintro v' L' ⟨cb, rfl, rfl⟩
 repeat (first | (apply wo_mo; apply mo_make (n := n); exact rfl; exact rfl; exact rfl; omega; omega; exact trivial) | refine we_seq ?_ | (refine wR ?_; try simp only [oS]) | refine wo_nil ?_ | refine wM ?_)
 rintro v' L' ⟨wb, rfl, rfl⟩
 repeat (first | (apply wo_mo; apply mo_buildSlice (sz := 1) (vs := [.slice (some ⟨wb, 0, none⟩) n n]); exact rfl; exact .cons rfl .nil; exact rfl; (intro v hv; cases (List.mem_singleton.1 hv); exact rfl); omega; exact trivial))
 rintro v' L' ⟨rb, rfl, rfl⟩
 repeat (first | (apply wo_mo; apply mo_buildSlice (sz := 1) (vs := [.slice none 0 0]); exact rfl; exact .cons rfl .nil; exact rfl; (intro v hv; cases (List.mem_singleton.1 hv); exact rfl); omega; exact trivial))
 rintro v' L' ⟨lb, rfl, rfl⟩
 repeat (first | (apply wo_po; apply mo_build (pv := [(0, .slice (some ⟨rb, 0, none⟩) 1 1), (1, .slice (some ⟨lb, 0, none⟩) 1 1)]); exact rfl; exact .cons rfl (.cons rfl .nil); exact rfl; exact trivial) | (apply wo_pm; apply mo_storeA (c := 0) (k := 0) (a := 0) (vs := [.slice none 0 0, .slice none 0 0]); exact rfl; exact rfl; exact rfl; (intro w hw; simp [Value.cells] at hw; rcases hw with rfl | rfl <;> rfl); exact rfl; exact Nat.le_refl 2; exact (.there (.there (.there .here))); exact trivial) | refine wo_nil ?_ | refine we_ret ?_)
 refine at_leaveM (rs := [.cell 2 38]) Try.func12 Try.results12 hQ (.inl rfl) (.cons (.cell (vs := [.slice (some ⟨rb, 0, none⟩) 1 1, .slice (some ⟨lb, 0, none⟩) 1 1]) rfl rfl (Rds.all (.there (.there (.there .here))))) .nil) ?_
 refine ⟨_, _, rfl, rfl, fun h st => ?_⟩
 have s1 : Star (arr lb 0 [.slice none 0 0] :: arr rb 0 [.slice (some ⟨wb, 0, none⟩) n n] :: arr wb 0 ((List.replicate n 0).map num) :: L) h := by
  have e : zeros n (Value.int .u64 0).cells.toList = (List.replicate n 0).map num := by
   have : ∀ m : Nat, zeros m (Value.int .u64 0).cells.toList = (List.replicate m 0).map num := by
    intro m
    apply List.ext_getElem?
    intro i
    by_cases hi : i < m
    ·rw [show (Value.int .u64 0).cells.toList = [Value.int .u64 0] from rfl, zeros_one hi]
     simp [hi, num]
    ·rw [List.getElem?_eq_none, List.getElem?_eq_none]
     ·simp; omega
     ·rw [zeros_length]; simp [Value.cells]; omega
   exact this _
  rw [← e]
  exact Ent.star (.take .here (.take .here (.take .here (.drop .refl)))) st
 refine wv_shut (wl := [(.slice (some ⟨wb, 0, none⟩) n n, List.replicate n 0)]) (lw := [.slice none 0 0]) rfl ?_ rfl ?_
 ·exact ⟨by show 1 < 1000000; omega, by show 1 < 1000000; omega, fun l hl => by cases (List.mem_singleton.1 hl); simp; omega, fun l hl v hv => by cases (List.mem_singleton.1 hl); have := List.eq_of_mem_replicate hv; omega⟩
 ·refine star_map (vec_new (n := 1) (sz := 1) rfl s1) (fun _ y => y) fun _ y => ?_
  refine star_shut (M := [_]) (vec_nil ?_)
  refine star_map (vec_new (n := 1) (sz := 1) rfl y) (fun _ y => y) fun _ z => ?_
  exact star_shut (M := [_]) (vec_new (sz := 1) (by simp) z)
abbrev mkV (d : Int) (v : Nat) (c : Int) : Value := .agg #[.int .i64 d, .int .u64 (v : Nat), .int .i64 c]
abbrev mkCs (d : Int) (v : Nat) (c : Int) : List Value := [.int .i64 d, .int .u64 (v : Nat), .int .i64 c]
def errOf (c : Int) : Int := if c = 0 then 1 else c
def codeOf (d c : Int) : Int := if d = 1 then errOf c else 0
def tell0 (d c : Int) : Nat := (codeOf d c % 18446744073709551616).toNat
def tell1 (d : Int) (v : Nat) : Nat := if d = 1 then 0 else v
theorem code_nz {d c : Int} : codeOf d c = 0 ↔ ¬ d = 1 := by unfold codeOf errOf; split <;> (try split) <;> omega
theorem st_code {d c : Int} : stOf (codeOf d c) = if d = 1 then 3 else 2 := by
 unfold stOf
 by_cases h : d = 1
 ·rw [if_neg (by rw [code_nz]; exact fun a => a h), if_pos h]
 ·rw [if_pos (code_nz.2 h), if_neg h]
theorem tell0_wrap {d c : Int} : IntKind.u64.wrap (codeOf d c) = (tell0 d c : Nat) := by
 rw [wrap_u64_mod]
 unfold tell0
 have := Int.emod_nonneg (codeOf d c) (by omega : (18446744073709551616 : Int) ≠ 0)
 omega
theorem tell0_lt {d c : Int} : tell0 d c < 18446744073709551616 := by
 unfold tell0
 have := Int.emod_lt_of_pos (codeOf d c) (by omega : (0 : Int) < 18446744073709551616)
 have := Int.emod_nonneg (codeOf d c) (by omega : (18446744073709551616 : Int) ≠ 0)
 omega
variable {d c : Int}
theorem merrno_tr : Tr Try.prog B 48 [mkV d v c] L x fun w L' x' => w = .int .i64 (errOf c) ∧ (∃ b, L' = b :: L) ∧ x' = x := by
 refine tr_of_body Try.func48 rfl Try.ntmps48 (by simp) fun um Q _ hQ => ?_
 simp only [argE, Nat.zero_add, Nat.reduceAdd]
 repeat (first | (apply wo_mo; apply mo_box; exact rfl; exact trivial) | refine we_seq ?_ | (refine wR ?_; try simp only [oS]))
 rintro v' L' ⟨b, rfl, rfl⟩
 refine wo_ent (arr b 0 (mkCs d v c) :: L) .refl ?_
 by_cases h : c = 0
 ·subst h
  repeat (first | refine weqlT ?_ | refine we_seq ?_ | (refine wR ?_; try simp only [oS]) | refine wo_nil ?_ | refine wA ?_ | refine wD ?_ | refine wL ?_ | refine wT ?_ | refine we_ret ?_)
  (first | refine or1 Try.func48 Try.results48 hQ rfl ?_ | refine on1 Try.func48 Try.results48 hQ rfl ?_)
  exact ⟨rfl, ⟨_, rfl⟩, rfl⟩
 ·repeat (first | refine weqlF ?_ | refine we_seq ?_ | (refine wR ?_; try simp only [oS]) | refine wo_nil ?_ | refine wA ?_ | refine wD ?_ | refine wL ?_ | refine wF ?_ | refine we_ret ?_ | refine we_skip ?_)
  (first | refine or1 Try.func48 Try.results48 hQ rfl ?_ | refine on1 Try.func48 Try.results48 hQ rfl ?_)
  exact ⟨by rw [errOf, if_neg h], ⟨_, rfl⟩, rfl⟩
theorem mstate_tr : Tr Try.prog B 51 [mkV d v c] L x fun w L' x' => w = .int .u64 (stOf (codeOf d c) : Nat) ∧ (∃ b, L' = b :: L) ∧ x' = x := by
 rw [st_code]
 refine tr_of_body Try.func51 rfl Try.ntmps51 (by simp) fun um Q _ hQ => ?_
 simp only [argE, Nat.zero_add, Nat.reduceAdd]
 repeat (first | (apply wo_mo; apply mo_box; exact rfl; exact trivial) | refine we_seq ?_ | (refine wR ?_; try simp only [oS]))
 rintro v' L' ⟨b, rfl, rfl⟩
 refine wo_ent (arr b 0 (mkCs d v c) :: L) .refl ?_
 by_cases h : d = 1
 ·subst h
  repeat (first | refine weqlT ?_ | refine we_seq ?_ | (refine wR ?_; try simp only [oS]) | refine wo_nil ?_ | refine wA ?_ | refine wD ?_ | refine wL ?_ | refine wT ?_ | refine we_ret ?_ | refine we_block ?_)
  (first | refine or1 Try.func51 Try.results51 hQ rfl ?_ | refine on1 Try.func51 Try.results51 hQ rfl ?_)
  exact ⟨rfl, ⟨_, rfl⟩, rfl⟩
 ·repeat (first | refine weqlF ?_ | refine we_seq ?_ | (refine wR ?_; try simp only [oS]) | refine wo_nil ?_ | refine wA ?_ | refine wD ?_ | refine wL ?_ | refine wF ?_ | refine we_ret ?_ | refine we_skip ?_ | refine we_block ?_)
  (first | refine or1 Try.func51 Try.results51 hQ rfl ?_ | refine on1 Try.func51 Try.results51 hQ rfl ?_)
  exact ⟨by rw [if_neg h]; rfl, ⟨_, rfl⟩, rfl⟩
theorem mtold_tr : Tr Try.prog B 41 [mkV d v c] L x fun w L' x' => ∃ tb, w = .slice (some ⟨tb, 0, none⟩) 2 2 ∧ (∃ M, L' = arr tb 0 [num (tell0 d c), num (tell1 d v)] :: M ++ L) ∧ x' = x := by
 refine tr_of_body Try.func41 rfl Try.ntmps41 (by simp) fun um Q _ hQ => ?_
 simp only [argE, Nat.zero_add, Nat.reduceAdd]
 repeat (first | (apply wo_mo; apply mo_box; exact rfl; exact trivial) | refine we_seq ?_ | (refine wR ?_; try simp only [oS]))
 rintro v' L' ⟨b, rfl, rfl⟩
 refine wo_ent (arr b 0 (mkCs d v c) :: L) .refl ?_
 by_cases h : d = 1
 ·have he : IntKind.u64.wrap (errOf c) = (tell0 d c : Nat) := by rw [← tell0_wrap, codeOf, if_pos h]
  subst h
  repeat (first | (apply wo_po; apply mo_loadA (vs := mkCs 1 v c); exact rfl; exact rfl; exact Rds.all .here; exact trivial) | refine weqlT ?_ | refine we_seq ?_ | (refine wR ?_; try simp only [oS]) | refine wo_nil ?_ | refine wA ?_ | refine wD ?_ | refine wL ?_ | refine wT ?_ | refine we_block ?_)
  refine wo_call (.cons rfl .nil) trivial merrno_tr ?_
  rintro v1 L1 x1 ⟨rfl, ⟨b2, rfl⟩, rfl⟩
  repeat (first | (apply wo_po; apply mo_conv; exact rfl; exact he; exact trivial) | (apply wo_mo; apply mo_buildSlice (sz := 1) (vs := [num (tell0 1 c), num 0]); exact rfl; exact .cons rfl (.cons rfl .nil); exact rfl; (intro v hv; simp at hv; rcases hv with rfl | rfl <;> rfl); omega; exact trivial))
  rintro v' L' ⟨tb, rfl, rfl⟩
  repeat (first | refine wo_nil ?_ | refine wA ?_ | refine we_ret ?_)
  (first | refine or1 Try.func41 Try.results41 hQ rfl ?_ | refine on1 Try.func41 Try.results41 hQ rfl ?_)
  exact ⟨tb, rfl, ⟨[_, _], rfl⟩, rfl⟩
 ·have h0 : tell0 d c = 0 := by unfold tell0; rw [code_nz.2 h]; rfl
  have h1 : tell1 d v = v := if_neg h
  repeat (first | (apply wo_mo; apply mo_buildSlice (sz := 1) (vs := [num 0, num v]); exact rfl; exact .cons rfl (.cons rfl .nil); exact rfl; (intro v hv; simp at hv; rcases hv with rfl | rfl <;> rfl); omega; exact trivial) | refine weqlF ?_ | refine we_seq ?_ | (refine wR ?_; try simp only [oS]) | refine wo_nil ?_ | refine wA ?_ | refine wD ?_ | refine wL ?_ | refine wF ?_ | refine we_skip ?_ | refine we_block ?_)
  rintro v' L' ⟨tb, rfl, rfl⟩
  repeat (first | refine wo_nil ?_ | refine wA ?_ | refine we_ret ?_)
  (first | refine or1 Try.func41 Try.results41 hQ rfl ?_ | refine on1 Try.func41 Try.results41 hQ rfl ?_)
  exact ⟨tb, rfl, ⟨[_], by rw [h0, h1]; rfl⟩, rfl⟩
theorem oref_tr (hv : v < 18446744073709551616) : Tr Try.prog B 17 [.int .i64 0, mkV d v c] L x fun w L' x' => ∃ kb m, w = .agg #[.slice (some ⟨kb, 0, none⟩) m m, .slice none 0 0] ∧ L' = clC (.slice (some ⟨kb, 0, none⟩) m m) (.slice none 0 0) (Mach.ogetCl (tell0 d c) (tell1 d v) (stOf (codeOf d c))) :: L ∧ x' = x := by
 refine Tr.post (R := fun w L' x' => ∃ kb m, w = .agg #[.slice (some ⟨kb, 0, none⟩) m m, .slice none 0 0] ∧ x' = x ∧ ∀ h, Star L' h → Star (clC (.slice (some ⟨kb, 0, none⟩) m m) (.slice none 0 0) (Mach.ogetCl (tell0 d c) (tell1 d v) (stOf (codeOf d c))) :: L) h) ?_
  (by rintro v L' x' ⟨kb, m, rfl, rfl, hs⟩; exact ⟨_, ⟨kb, m, rfl, rfl, rfl⟩, hs⟩)
 refine tr_of_body Try.func17 rfl Try.ntmps17 (by simp) fun um Q _ hQ => ?_
 simp only [argE, Nat.zero_add, Nat.reduceAdd]
 repeat (first | (apply wo_mo; apply mo_box; exact rfl; exact trivial) | refine we_seq ?_ | (refine wR ?_; try simp only [oS]))
 rintro v' L' ⟨b, rfl, rfl⟩
 refine wo_ent (arr b 0 (mkCs d v c) :: L) .refl ?_
 repeat (first | (apply wo_mo; apply mo_alloc; exact trivial))
 rintro v' L' ⟨cb, rfl, rfl⟩
 repeat (first | (apply wo_po; apply mo_loadA (vs := mkCs d v c); exact rfl; exact rfl; exact Rds.all (.there .here); exact trivial) | refine we_seq ?_ | (refine wR ?_; try simp only [oS]) | refine wo_nil ?_ | refine wM ?_ | refine wA ?_ | (apply wo_po; apply mo_conv; exact rfl; (first | exact wrap_i64 (by omega) (by omega) | exact wrap_u64 (by omega) (by omega)); exact gY))
 refine wo_call (.cons rfl .nil) trivial mtold_tr ?_
 rintro v1 L1 x1 ⟨tb, rfl, ⟨M, rfl⟩, rfl⟩
 repeat (first | refine we_seq ?_ | refine wo_nil ?_ | refine wA ?_)
 refine we_star (arr tb 0 [num (tell0 d c), num (tell1 d v)] :: arr cb 0 [.slice none 0 0, .slice none 0 0] :: arr b 0 (mkCs d v c) :: L) (fun h st => star_map st (fun _ z => z) fun _ z => star_dropM z) ?_
 have r0 : ∀ {a : HProp}, Rd (a :: arr tb 0 [num (tell0 d c), num (tell1 d v)] :: arr cb 0 [.slice none 0 0, .slice none 0 0] :: arr b 0 (mkCs d v c) :: L) tb 0 (num (tell0 d c)) := fun {a} => .there (Rd.row0 rfl)
 have r1 : ∀ {a : HProp}, Rd (a :: arr tb 0 [num (tell0 d c), num (tell1 d v)] :: arr cb 0 [.slice none 0 0, .slice none 0 0] :: arr b 0 (mkCs d v c) :: L) tb 1 (num (tell1 d v)) := fun {a} => .there (Rd.row0 rfl)
 have q0 : Rd (arr tb 0 [num (tell0 d c), num (tell1 d v)] :: arr cb 0 [.slice none 0 0, .slice none 0 0] :: arr b 0 (mkCs d v c) :: L) tb 0 (num (tell0 d c)) := Rd.row0 rfl
 have q1 : Rd (arr tb 0 [num (tell0 d c), num (tell1 d v)] :: arr cb 0 [.slice none 0 0, .slice none 0 0] :: arr b 0 (mkCs d v c) :: L) tb 1 (num (tell1 d v)) := Rd.row0 rfl
 refine we_draw [0, 1, 2, 3, 4, 5, 6, 7, 8, 9, 10, 11, 12, 13, 14, 17, 18, 19, 20, 21, 22, 23, 24, 25, 26, 27, 28, 29, 30, 15, 16, 31, 32, 33] (by kernel_rfl) ?_
 repeat (first | (apply ap_pure; exact rfl; exact rfl; exact trivial; intro L; apply mo_buildV; (repeat (first | exact EvL.nil | apply EvL.cons rfl)); exact rfl) | (apply ap_read; exact rfl; exact rfl; exact trivial; apply mo_loadA (vs := mkCs d v c); exact rfl; exact rfl; exact Rds.all (.there (.there .here))) | (apply ap_pure; exact rfl; exact rfl; exact trivial; intro L; apply mo_indexAddr (r := 0); exact rfl; exact rfl; omega; omega; omega) | (apply ap_pure; exact rfl; exact rfl; exact trivial; intro L; apply mo_indexAddr (r := 1); exact rfl; exact rfl; omega; omega; omega) | (apply ap_read; exact rfl; exact rfl; exact trivial; apply mo_load; exact rfl; exact q0) | (apply ap_read; exact rfl; exact rfl; exact trivial; apply mo_load; exact rfl; exact q1) | refine aM ?_)
 refine ap_callR rfl rfl rfl trivial rfl rfl (.cons rfl .nil) mstate_tr ?_ ?_
 ·rintro v' L' x' ⟨rfl, ⟨b2, rfl⟩, rfl⟩ p hp
  replace hp := (List.mem_filter.1 hp).1
  simp only [List.mem_cons, List.not_mem_nil, or_false] at hp
  rcases hp with rfl | rfl | rfl | rfl | rfl | rfl | rfl | rfl | rfl | rfl | rfl | rfl | rfl | rfl | rfl | rfl | rfl | rfl | rfl | rfl | rfl | rfl | rfl | rfl | rfl | rfl | rfl | rfl | rfl <;> first | exact .inl rfl | exact .inr ⟨_, rfl, trivial, mo_loadA (vs := mkCs d v c) rfl rfl (Rds.all (.there (.there (.there .here))))⟩ | exact .inr ⟨_, rfl, trivial, mo_load rfl r0⟩ | exact .inr ⟨_, rfl, trivial, mo_load rfl r1⟩
 rintro v' L' x1 ⟨rfl, ⟨b2, rfl⟩, rfl⟩
 repeat (first | (apply ap_pure; exact rfl; exact rfl; exact trivial; intro L; apply mo_buildV; (repeat (first | exact EvL.nil | apply EvL.cons rfl)); exact rfl))
 refine ap_loud rfl rfl rfl rfl rfl trivial (mo_buildSlice (sz := 7) (vs := [.agg (inC ⟨1, 0, 0, 9, 0, 0, 0⟩).toArray, .agg (inC ⟨6, 0, 1, 0, 0, 0, 1⟩).toArray, .agg (inC ⟨19, 0, 0, 1, 0, 0, 0⟩).toArray, .agg (inC ⟨19, 0, 0, 9, 0, 0, 5⟩).toArray, .agg (inC ⟨18, 0, 0, 0, 0, 0, 10⟩).toArray, .agg (inC ⟨5, 0, 2, 9, 9, 1, 0⟩).toArray, .agg (inC ⟨19, 0, 2, 9, 0, 0, 0⟩).toArray, .agg (inC ⟨6, 0, 3, 0, 0, 0, stOf (codeOf d c)⟩).toArray, .agg (inC ⟨2, 0, 3, 9, 0, 0, 0⟩).toArray, .agg (inC ⟨18, 0, 0, 0, 0, 0, 10⟩).toArray, .agg (inC ⟨6, 0, 5, 0, 0, 0, tell0 d c⟩).toArray, .agg (inC ⟨22, 0, 5, 0, 0, 0, 0⟩).toArray, .agg (inC ⟨6, 0, 4, 0, 0, 0, tell1 d v⟩).toArray, .agg (inC ⟨22, 0, 4, 0, 0, 0, 0⟩).toArray]) rfl (.cons rfl (.cons rfl (.cons rfl (.cons rfl (.cons rfl (.cons rfl (.cons rfl (.cons rfl (.cons rfl (.cons rfl (.cons rfl (.cons rfl (.cons rfl (.cons rfl .nil)))))))))))))) rfl (by intro v hv; simp only [List.mem_cons, List.not_mem_nil, or_false] at hv; rcases hv with rfl | rfl | rfl | rfl | rfl | rfl | rfl | rfl | rfl | rfl | rfl | rfl | rfl | rfl <;> rfl) (by omega)) ?_
 rintro v' L' ⟨kb, rfl, rfl⟩
 repeat (first | (apply ap_pure; exact rfl; exact rfl; exact trivial; intro L; apply mo_buildV; (repeat (first | exact EvL.nil | apply EvL.cons rfl)); exact rfl))
 refine ap_loud rfl rfl rfl rfl rfl trivial (mo_storeA (b := cb) (c := 0) (k := 0) (a := 0) (vs := [.slice none 0 0, .slice none 0 0]) rfl rfl rfl (by intro w hw; simp [Value.cells] at hw; rcases hw with rfl | rfl <;> rfl) rfl (Nat.le_refl 2) (.there (.there (.there .here)))) ?_
 rintro v' L' ⟨rfl, rfl⟩
 refine ap_end ?_
 repeat (first | refine we_ret ?_)
 refine at_leaveM (rs := [.cell 4 50]) Try.func17 Try.results17 hQ (.inl rfl) (.cons (.cell (vs := [.slice (some ⟨kb, 0, none⟩) 14 14, .slice none 0 0]) rfl rfl (Rds.all (.there (.there (.there .here))))) .nil) ?_
 refine ⟨_, _, rfl, rfl, fun h st => ?_⟩
 refine cl_new (cl := Mach.ogetCl (tell0 d c) (tell1 d v) (stOf (codeOf d c))) ?_ rfl rfl (Ent.star (.take .here (.drop (.drop (.drop (.drop .refl))))) st)
 rfl
end
end
end Go.Proofs.Ytcladnioicackaa
namespace Go.Proofs.Ytcladnioicackaa
open Go Go.PB
attribute [local irreducible] Mo Bin Eql Tr Wo TrD Wle
section
section
variable {B : Hand} [Lets B] {L F : List HProp} {x : B.X} {r c w : Nat}
theorem freshI_tr {i : Int} {fn : Fn} {u v : Array Value} : Tr Try.prog B 45 [.int .i64 i, .func fn u v] L x fun q L' x' => ∃ r c, q = .pointer (some ⟨r, 0, none⟩) ∧ L' = arr r 0 (onceL (.int .i64 i) (.func fn u v) (.int .u64 0) (.int .u64 0) 0 0 (.chan (some c)) (.int .i64 0) (.int .i64 0)) :: shpC r 145 10 :: chC c 0 #[] 0 0 :: L ∧ x' = x := by
 refine tr_of_body Try.func45 rfl Try.ntmps45 (by simp) fun um Q _ hQ => ?_
 simp only [argE, Nat.zero_add, Nat.reduceAdd]
 repeat (first | refine we_seq ?_ | (refine wR ?_; try simp only [oS]) | refine wo_nil ?_ | refine wM ?_ | refine wA ?_)
 apply wo_mo
 apply mo_makeChan (m := 0) (k := .i64)
 exact rfl
 omega
 omega
 exact trivial
 rintro v' L' ⟨c, rfl, rfl⟩
 repeat (first | (apply wo_po; apply mo_build (pv := [(0, _), (1, _), (5, _)]); exact rfl; exact .cons rfl (.cons rfl (.cons rfl .nil)); exact rfl; exact trivial))
 apply wo_mo
 apply mo_boxS
 exact rfl
 exact trivial
 rintro v' L' ⟨r, rfl, rfl⟩
 repeat (first | refine wo_nil ?_ | refine wA ?_ | refine we_ret ?_)
 (first | refine or1 Try.func45 Try.results45 hQ rfl ?_ | refine on1 Try.func45 Try.results45 hQ rfl ?_)
 exact ⟨r, c, rfl, rfl, rfl⟩
theorem newI_tr {fn : Fn} {u v : Array Value} : Tr Try.prog B 23 [.func fn u v] L x fun q L' x' => ∃ o r c, q = .pointer (some ⟨o, 0, none⟩) ∧ L' = arr o 0 [.pointer (some ⟨r, 0, none⟩)] :: arr r 0 (onceL (.int .i64 (0 : Nat)) (.func fn u v) (.int .u64 0) (.int .u64 0) 0 0 (.chan (some c)) (.int .i64 0) (.int .i64 0)) :: shpC r 145 10 :: chC c 0 #[] 0 0 :: L ∧ x' = x := by
 refine tr_of_body Try.func23 rfl Try.ntmps23 (by simp) fun um Q _ hQ => ?_
 simp only [argE, Nat.zero_add, Nat.reduceAdd]
 repeat (first | (apply wo_po; apply mo_bin; exact rfl; exact rfl; apply bin_eq; apply eql_func_nil; exact trivial) | refine we_seq ?_ | (refine wR ?_; try simp only [oS]) | refine wo_nil ?_ | refine wM ?_ | refine wA ?_ | refine wF ?_ | refine we_skip ?_)
 refine wo_call (.cons rfl (.cons rfl .nil)) trivial freshI_tr ?_
 rintro v1 L1 x1 ⟨r, c, rfl, rfl, rfl⟩
 repeat (first | (apply wo_po; apply mo_build (pv := [(0, _)]); exact rfl; exact .cons rfl .nil; exact rfl; exact trivial) | (apply wo_mo; apply mo_box; exact rfl; exact trivial))
 rintro v' L' ⟨o, rfl, rfl⟩
 repeat (first | refine wo_nil ?_ | refine wA ?_ | refine we_ret ?_)
 (first | refine or1 Try.func23 Try.results23 hQ rfl ?_ | refine on1 Try.func23 Try.results23 hQ rfl ?_)
 exact ⟨o, r, c, rfl, rfl, rfl⟩
theorem answerI2_tr {va : Value} (hr : Rd L r 8 va) : Tr Try.prog B 76 [.pointer (some ⟨r, 0, none⟩), .int .u64 2] L x fun q L' x' => q = .tuple #[va, .int .i64 0] ∧ L' = L ∧ x' = x := by
 refine tr_of_body Try.func76 rfl Try.ntmps76 (by simp) fun um Q _ hQ => ?_
 simp only [argE, Nat.zero_add, Nat.reduceAdd]
 repeat (first | (apply wo_po; apply mo_load; exact rfl; exact hr; exact trivial) | refine weqlT ?_ | refine we_seq ?_ | (refine wR ?_; try simp only [oS]) | refine wo_nil ?_ | refine wM ?_ | refine wA ?_ | refine wN ?_ | refine wD ?_ | refine wT ?_ | refine we_ret ?_ | refine we_block ?_)
 (first | refine or2 Try.func76 Try.results76 hQ rfl rfl ?_ | refine on2 Try.func76 Try.results76 hQ rfl rfl ?_)
 exact ⟨rfl, rfl, rfl⟩
theorem answerI3_tr {co : Int} (hr : Rd L r 9 (.int .i64 co)) : Tr Try.prog B 76 [.pointer (some ⟨r, 0, none⟩), .int .u64 3] L x fun q L' x' => q = .tuple #[(.int .i64 0), .int .i64 co] ∧ L' = L ∧ x' = x := by
 refine tr_of_body Try.func76 rfl Try.ntmps76 (by simp) fun um Q _ hQ => ?_
 simp only [argE, Nat.zero_add, Nat.reduceAdd]
 repeat (first | refine weqlT ?_ | refine weqlF ?_ | refine we_seq ?_ | (refine wR ?_; try simp only [oS]) | refine wo_nil ?_ | refine wM ?_ | refine wA ?_ | refine wT ?_ | refine wF ?_ | refine we_block ?_)
 refine we_draw (List.range' 0 7) (by kernel_rfl) ?_
 repeat (first | (apply ap_read; exact rfl; exact rfl; exact trivial; apply mo_load; exact rfl; exact hr) | refine aM ?_ | refine aA ?_ | refine aN ?_ | refine aD ?_ | refine ap_end ?_)
 repeat (first | refine we_ret ?_)
 (first | refine or2 Try.func76 Try.results76 hQ rfl rfl ?_ | refine on2 Try.func76 Try.results76 hQ rfl rfl ?_)
 exact ⟨rfl, rfl, rfl⟩
def toldI (va : Value) (co : Int) : Value := if co = 0 then .tuple #[va, .int .i64 0] else .tuple #[(.int .i64 0), .int .i64 co]
theorem answerI_tr {va : Value} {co : Int} (h8 : Rd L r 8 va) (h9 : Rd L r 9 (.int .i64 co)) : Tr Try.prog B 76 [.pointer (some ⟨r, 0, none⟩), .int .u64 (stOf co : Nat)] L x fun q L' x' => q = toldI va co ∧ L' = L ∧ x' = x := by
 by_cases e : co = 0
 ·simp only [stOf, toldI, e, if_true]; exact answerI2_tr h8
 ·simp only [stOf, toldI, e, if_false]; exact answerI3_tr h9
section
variable {D D' : HProp} {fv a0 st ov va va0 co0 : Value} {co dn ms : Int}
theorem lookI_trd [NoCut B] {b : Nat} {n : Int} (hn : n ≠ 4) (hr : Rd L b 0 (.int .u64 n)) : TrD Try.prog B 122 [.pointer (some ⟨b, 0, none⟩)] L x L := by
 refine trd_of_body Try.func122 rfl Try.ntmps122 (by simp) fun Q _ hQ => ?_
 simp only [argE, Nat.zero_add, Nat.reduceAdd]
 repeat (first | (apply wo_po; apply mo_load; exact rfl; exact hr; exact trivial) | refine weqlF ?_ | refine we_seq ?_ | (refine wR ?_; try simp only [oS]) | refine wo_nil ?_ | refine wF ?_ | refine we_skip ?_)
 exact at_retD Try.func122 Try.results122 hQ (.inr rfl) fun _ s => s
theorem workI_tr [NoCut B] (mk : MkOk B fv D D' va co) (hva : one va = true) (hL : L = arr r 0 (onceL a0 fv st (.int .u64 0) dn ms ov va0 co0) :: D :: F) :
  Tr Try.prog B 109 [.pointer (some ⟨r, 0, none⟩)] L x fun q L' x' => q = .int .u64 (stOf co : Nat) ∧ L' = arr r 0 (onceL a0 fv st (.int .u64 1) dn ms ov va (.int .i64 co)) :: D' :: F ∧ x' = x := by
 subst hL
 obtain ⟨f, first, cap, hcal, en, tr⟩ := mk
 refine Tr.post (R := fun q L' x' => ∃ c, q = .int .u64 (stOf co : Nat) ∧ L' = c :: arr r 0 (onceL a0 fv st (.int .u64 1) dn ms ov va (.int .i64 co)) :: D' :: F ∧ x' = x) ?_ (by rintro v L' x' ⟨c, h1, rfl, h3⟩; exact ⟨_, ⟨h1, rfl, h3⟩, fun h s => star_drop s⟩)
 refine tr_of_body Try.func109 rfl Try.ntmps109 (by simp) fun um Q _ hQ => ?_
 simp only [argE, Nat.zero_add, Nat.reduceAdd]
 repeat (first | (apply wo_mo; apply mo_alloc; exact trivial) | refine we_seq ?_ | (refine wR ?_; try simp only [oS]))
 rintro v' L' ⟨tb, rfl, rfl⟩
 refine wo_ent (arr tb 0 [.int .u64 0] :: arr r 0 (onceL a0 fv st (.int .u64 0) dn ms ov va0 co0) :: D :: F) .refl ?_
 repeat (first | (apply wo_po; apply mo_makeFunc (first := []) (cap := [_]) (vf := []); exact .nil; exact .cons rfl .nil; exact trivial) | refine we_seq ?_ | (refine wR ?_; try simp only [oS]) | refine wo_nil ?_)
 refine wo_dfr (first := []) (cap := [_]) (args := []) rfl .nil trivial ?_
 repeat (first | refine we_seq ?_ | (refine wR ?_; try simp only [oS]) | refine wo_nil ?_ | refine wM ?_ | refine wN ?_ | refine wD ?_)
 refine wo_call (pk := Pass.of_no) (.cons rfl (.cons rfl .nil)) trivial (add_lone (r := 1) (n := 0) (L1 := arr tb 0 [.int .u64 0] :: arr r 0 (onceL a0 fv st (.int .u64 1) dn ms ov va0 co0) :: D :: F) (.there (Rd.row (k := 3) rfl rfl)) (by decide) (Wt.row0 (k := 3) (.there .here) (by simp [onceL]))) ?_
 rintro v1 L1 x1 ⟨rfl, rfl, rfl⟩
 repeat (first | refine wS ?_ | refine we_seq ?_ | (refine wR ?_; try simp only [oS]) | refine wo_nil ?_ | refine wM ?_ | refine wN ?_ | refine wD ?_ | refine wL ?_)
 refine wo_ent (arr tb 0 [.int .u64 4] :: arr r 0 (onceL a0 fv st (.int .u64 1) dn ms ov va0 co0) :: D :: F) .refl ?_
 skip
 refine wo_callv (pk := Pass.of_no) (args := []) rfl hcal .nil trivial (by simpa using tr (arr tb 0 [.int .u64 4] :: arr r 0 (onceL a0 fv st (.int .u64 1) dn ms ov va0 co0) :: D :: F) (arr tb 0 [.int .u64 4] :: arr r 0 (onceL a0 fv st (.int .u64 1) dn ms ov va0 co0) :: F) _ (.there (.there .here))) ?_
 rintro v1 L1 x1 ⟨rfl, rfl, rfl⟩
 repeat (first | refine we_seq ?_ | (refine wR ?_; try simp only [oS]) | refine wo_nil ?_ | refine wM ?_ | refine wA ?_ | refine wN ?_ | refine wD ?_ | (apply wo_po; apply mo_extract; exact rfl; exact rfl; exact gY))
 apply wo_pm
 apply mo_store
 exact rfl
 exact rfl
 exact hva
 exact Wt.row0 (k := 8) (vs := onceL a0 fv st (.int .u64 1) dn ms ov va0 co0) (.there (.there .here)) (by simp [onceL])
 exact trivial
 refine wo_ent (D' :: arr tb 0 [.int .u64 4] :: arr r 0 (onceL a0 fv st (.int .u64 1) dn ms ov va co0) :: F) .refl ?_
 repeat (first | refine wN ?_ | refine wD ?_)
 apply wo_pm
 apply mo_store
 exact rfl
 exact rfl
 exact rfl
 exact Wt.row0 (k := 9) (vs := onceL a0 fv st (.int .u64 1) dn ms ov va co0) (.there (.there .here)) (by simp [onceL])
 exact trivial
 refine wo_ent (D' :: arr tb 0 [.int .u64 4] :: arr r 0 (onceL a0 fv st (.int .u64 1) dn ms ov va (.int .i64 co)) :: F) .refl ?_
 by_cases e : co = 0
 ·subst e
  repeat (first | refine wS ?_ | refine wneqF ?_ | refine we_seq ?_ | (refine wR ?_; try simp only [oS]) | refine wo_nil ?_ | refine wM ?_ | refine wF ?_ | refine we_ret ?_ | refine we_skip ?_)
  refine at_ent (arr tb 0 [.int .u64 2] :: arr r 0 (onceL a0 fv st (.int .u64 1) dn ms ov va (.int .i64 0)) :: D' :: F) (.take (.there .here) (.take (.there .here) (.take .here .refl))) ?_
  refine at_dfr (.inl rfl) (lookI_trd (b := tb) (n := 2) (by decide) (Rd.row0 rfl)) ?_
  refine at_leaveM (ex := .ret) (rs := [.cell 2 22]) (vs := [.int .u64 2]) Try.func109 Try.results109 hQ (.inl rfl) (.cons (.cell1 (b := tb) (o := 0) rfl (Rd.row0 rfl)) .nil) ?_
  exact ⟨_, rfl, rfl, rfl⟩
 ·repeat (first | refine wS ?_ | refine wneqT ?_ | refine we_seq ?_ | (refine wR ?_; try simp only [oS]) | refine wo_nil ?_ | refine wM ?_ | refine wT ?_ | refine we_ret ?_)
  refine at_ent (arr tb 0 [.int .u64 3] :: arr r 0 (onceL a0 fv st (.int .u64 1) dn ms ov va (.int .i64 co)) :: D' :: F) (.take (.there .here) (.take (.there .here) (.take .here .refl))) ?_
  refine at_dfr (.inl rfl) (lookI_trd (b := tb) (n := 3) (by decide) (Rd.row0 rfl)) ?_
  refine at_leaveM (ex := .ret) (rs := [.cell 2 22]) (vs := [.int .u64 3]) Try.func109 Try.results109 hQ (.inl rfl) (.cons (.cell1 (b := tb) (o := 0) rfl (Rd.row0 rfl)) .nil) ?_
  exact ⟨_, by simp [stOf, e, packR], rfl, rfl⟩
end
section
variable {gv : Value} {A : Acc B gv} {D D' : HProp} {fv va va0 co0 : Value} {co dn ms : Int}
theorem claimI_tr [NoCut B] (mk : MkOk B fv D D' va co) (hva : one va = true) {s : A.S} {R : A.S → Prop} (hst : A.step 5 w s fun s1 => A.step 2 w s1 R) (hL : L = A.C s :: arr r 0 (onceL (.int .i64 (w : Nat)) fv (.int .u64 0) (.int .u64 0) dn ms (.chan (some c)) va0 co0) :: D :: chC c 0 #[] 0 0 :: F) :
  Tr Try.prog B 78 [.pointer (some ⟨r, 0, none⟩), gv] L (A.x s) fun q L' x' => ∃ s', R s' ∧ q = .bool true ∧ L' = shutC c :: A.C s' :: arr r 0 (onceL (.int .i64 (w : Nat)) fv (.int .u64 (stOf co : Nat)) (.int .u64 1) dn ms (.chan (some c)) va (.int .i64 co)) :: D' :: F ∧ x' = A.x s' := by
 subst hL
 have hso : stOf co < 18446744073709551616 := by unfold stOf; split <;> decide
 refine tr_of_body Try.func78 rfl Try.ntmps78 (by simp) fun um Q _ hQ => ?_
 simp only [argE, Nat.zero_add, Nat.reduceAdd]
 repeat (first | (apply wo_po; apply mo_load; exact rfl; exact .there (Rd.row (k := 0) rfl rfl); exact trivial) | refine we_seq ?_ | (refine wR ?_; try simp only [oS]) | refine wo_nil ?_ | refine wM ?_ | refine wA ?_ | refine wN ?_ | refine wD ?_)
 refine wo_call (.cons rfl (.cons rfl (.cons rfl .nil))) trivial (ostep_tr hst .here) ?_
 rintro v1 L1 x1 ⟨s1, hst1, rfl, rfl, rfl⟩
 repeat (first | refine we_seq ?_ | (refine wR ?_; try simp only [oS]) | refine wo_nil ?_ | refine wM ?_ | refine wN ?_ | refine wD ?_)
 refine wo_call (.cons rfl (.cons rfl (.cons rfl .nil))) trivial (cas_lone (n := 0) (L1 := A.C s1 :: arr r 0 (onceL (.int .i64 (w : Nat)) fv (.int .u64 1) (.int .u64 0) dn ms (.chan (some c)) va0 co0) :: D :: chC c 0 #[] 0 0 :: F) (.there (Rd.row (k := 2) rfl rfl)) (Wt.row0 (k := 2) (.there .here) (by simp [onceL]))) ?_
 rintro v1 L1 x1 ⟨rfl, hL1, rfl⟩
 rw [if_pos rfl] at hL1
 subst hL1
 repeat (first | refine we_seq ?_ | (refine wR ?_; try simp only [oS]) | refine wo_nil ?_ | refine wM ?_ | (apply wo_po; apply mo_not; exact rfl; exact gY) | refine wF ?_ | refine we_skip ?_)
 refine wo_ent (arr r 0 (onceL (.int .i64 (w : Nat)) fv (.int .u64 1) (.int .u64 0) dn ms (.chan (some c)) va0 co0) :: D :: A.C s1 :: chC c 0 #[] 0 0 :: F) (.take (.there .here) (.take (.there .here) (.take .here .refl))) ?_
 refine wo_call (.cons rfl .nil) trivial (workI_tr mk hva rfl) ?_
 rintro v1 L1 x1 ⟨rfl, rfl, rfl⟩
 repeat (first | (apply wo_po; apply mo_load; exact rfl; exact Rd.row (k := 0) rfl rfl; exact trivial) | refine we_seq ?_ | (refine wR ?_; try simp only [oS]) | refine wo_nil ?_ | refine wM ?_ | refine wA ?_ | refine wN ?_ | refine wD ?_)
 refine wo_call (.cons rfl (.cons rfl (.cons rfl .nil))) trivial (ostep_tr (s := s1) hst1 (.there (.there .here))) ?_
 rintro v1 L1 x1 ⟨s2, hst2, rfl, rfl, rfl⟩
 repeat (first | refine we_seq ?_ | (refine wR ?_; try simp only [oS]) | refine wo_nil ?_ | refine wM ?_ | refine wN ?_ | refine wD ?_)
 refine wo_call (.cons rfl (.cons rfl .nil)) trivial (store_lone (L1 := A.C s2 :: arr r 0 (onceL (.int .i64 (w : Nat)) fv (.int .u64 (stOf co : Nat)) (.int .u64 1) dn ms (.chan (some c)) va (.int .i64 co)) :: D' :: chC c 0 #[] 0 0 :: F) (Wt.row0 (k := 2) (.there .here) (by simp [onceL]))) ?_
 rintro v1 L1 x1 ⟨rfl, rfl, rfl⟩
 repeat (first | (apply wo_po; apply mo_load; exact rfl; exact .there (Rd.row (k := 7) rfl rfl); exact trivial) | (apply wo_pm; apply mo_close; exact rfl; exact .there (.there (.there .here)); exact trivial) | refine we_seq ?_ | (refine wR ?_; try simp only [oS]) | refine wo_nil ?_ | refine wM ?_ | refine wA ?_ | refine wN ?_ | refine wD ?_ | refine we_ret ?_)
 (first | refine or1 Try.func78 Try.results78 hQ rfl ?_ | refine on1 Try.func78 Try.results78 hQ rfl ?_)
 exact ⟨s2, hst2, rfl, rfl, rfl⟩
theorem oldI_tr {s : A.S} {R : A.S → Prop} {cs : List Value} (hcs : cs = onceL (.int .i64 (w : Nat)) fv (.int .u64 (stOf co : Nat)) (.int .u64 1) dn ms (.chan (some c)) va (.int .i64 co)) (hst : A.step 1 w s R) (hL : Has L (A.C s) F) (hF : ∀ (k : Nat) v, cs[k]? = some v → Rd F r k v) :
  Tr Try.prog B 56 [.pointer (some ⟨r, 0, none⟩), gv] L (A.x s) fun q L' x' => ∃ s', R s' ∧ q = toldI va co ∧ L' = A.C s' :: F ∧ x' = A.x s' := by
 subst hcs
 refine Tr.ent (L' := A.C s :: F) (.take hL .refl) ?_
 refine Tr.post (R := fun q L' x' => ∃ s' b, R s' ∧ q = toldI va co ∧ L' = A.C s' :: b :: F ∧ x' = A.x s') ?_ (by rintro v L' x' ⟨s', b, h1, h2, rfl, h3⟩; exact ⟨_, ⟨s', h1, h2, rfl, h3⟩, fun h st => star_drop (star_swap st)⟩)
 have hlo : 1 < (stOf co : Int) := by unfold stOf; split <;> decide
 refine tr_of_body Try.func56 rfl Try.ntmps56 (by simp) fun um Q _ hQ => ?_
 simp only [argE, Nat.zero_add, Nat.reduceAdd]
 repeat (first | (apply wo_mo; apply mo_box; exact rfl; exact trivial) | refine we_seq ?_ | (refine wR ?_; try simp only [oS]))
 rintro v' L' ⟨bb, rfl, rfl⟩
 refine wo_ent (A.C s :: arr bb 0 [.pointer (some ⟨r, 0, none⟩)] :: F) (.take (.there .here) (.take .here .refl)) ?_
 repeat (first | refine wo_nil ?_ | refine wA ?_ | refine we_block ?_)
 refine we_loop1 ?_
 have hF2 : ∀ {a b : HProp} (k : Nat) v, (onceL (.int .i64 (w : Nat)) fv (.int .u64 (stOf co : Nat)) (.int .u64 1) dn ms (.chan (some c)) va (.int .i64 co))[k]? = some v → Rd (a :: b :: F) r k v := fun k v hk => .there (.there (hF k v hk))
 repeat (first | (apply wo_po; apply mo_load; exact rfl; exact hF2 0 _ rfl; exact trivial) | refine we_seq ?_ | (refine wR ?_; try simp only [oS]) | refine wM ?_ | refine wN ?_ | refine wD ?_ | refine wL ?_ | refine we_block ?_)
 refine wo_call (.cons rfl (.cons rfl (.cons rfl .nil))) trivial (ostep_tr hst .here) ?_
 rintro v1 L1 x1 ⟨s1, hst1, rfl, rfl, rfl⟩
 repeat (first | refine we_seq ?_ | (refine wR ?_; try simp only [oS]) | refine wo_nil ?_ | refine wN ?_ | refine wD ?_ | refine wL ?_)
 refine wo_call (.cons rfl .nil) trivial (load_lone (hF2 2 _ rfl)) ?_
 rintro v1 L1 x1 ⟨rfl, rfl, rfl⟩
 repeat (first | refine wgtrT ?_ | refine we_seq ?_ | (refine wR ?_; try simp only [oS]) | refine wo_nil ?_ | refine wM ?_ | refine wA ?_ | refine wL ?_ | refine wT ?_ | refine we_block ?_)
 refine wo_call (.cons rfl (.cons rfl .nil)) trivial (answerI_tr (hF2 8 _ rfl) (hF2 9 _ rfl)) ?_
 rintro v1 L1 x1 ⟨rfl, rfl, rfl⟩
 skip
 by_cases e : co = 0
 ·subst e
  rw [show toldI va 0 = .tuple #[va, .int .i64 0] from rfl]
  repeat (first | refine wo_nil ?_ | refine wA ?_ | (apply wo_po; apply mo_extract; exact rfl; exact rfl; exact gY) | refine we_ret ?_)
  (first | refine or2 Try.func56 Try.results56 hQ rfl rfl ?_ | refine on2 Try.func56 Try.results56 hQ rfl rfl ?_)
  exact ⟨s1, _, hst1, rfl, rfl, rfl⟩
 ·rw [show toldI va co = .tuple #[(.int .i64 0), .int .i64 co] from if_neg e]
  repeat (first | refine wo_nil ?_ | refine wA ?_ | (apply wo_po; apply mo_extract; exact rfl; exact rfl; exact gY) | refine we_ret ?_)
  (first | refine or2 Try.func56 Try.results56 hQ rfl rfl ?_ | refine on2 Try.func56 Try.results56 hQ rfl rfl ?_)
  exact ⟨s1, _, hst1, (if_neg e).symm, rfl, rfl⟩
theorem getfI_tr [NoCut B] {bb : Nat} (mk : MkOk B fv D D' va co) (hva : one va = true) (hL : L = arr r 0 (onceL (.int .i64 (w : Nat)) fv (.int .u64 0) (.int .u64 0) dn ms (.chan (some c)) va0 co0) :: D :: chC c 0 #[] 0 0 :: arr bb 0 [.pointer (some ⟨r, 0, none⟩)] :: F) :
  Tr Try.prog B 77 [.pointer (some ⟨bb, 0, none⟩)] L x fun q L' x' => q = .tuple #[] ∧ L' = arr r 0 (onceL (.int .i64 (w : Nat)) fv (.int .u64 (stOf co : Nat)) (.int .u64 1) dn ms (.chan (some c)) va (.int .i64 co)) :: shutC c :: D' :: arr bb 0 [.pointer (some ⟨r, 0, none⟩)] :: F ∧ x' = x := by
 subst hL
 refine tr_of_body Try.func77 rfl Try.ntmps77 (by simp) fun um Q _ hQ => ?_
 simp only [argE, Nat.zero_add, Nat.reduceAdd]
 have rb : ∀ {a b c : HProp}, Rd (a :: b :: c :: arr bb 0 [.pointer (some ⟨r, 0, none⟩)] :: F) bb 0 (.pointer (some ⟨r, 0, none⟩)) := fun {a b c} => .there (.there (.there (Rd.row (k := 0) rfl rfl)))
 repeat (first | (apply wo_po; apply mo_load; exact rfl; exact rb; exact trivial) | refine we_seq ?_ | (refine wR ?_; try simp only [oS]))
 refine wo_star ((nilAcc B x).C (fun _ => 0) :: arr r 0 (onceL (.int .i64 (w : Nat)) fv (.int .u64 0) (.int .u64 0) dn ms (.chan (some c)) va0 co0) :: D :: chC c 0 #[] 0 0 :: arr bb 0 [.pointer (some ⟨r, 0, none⟩)] :: F) (fun h st => nil_in st) ?_
 refine wo_call (.cons rfl (.cons rfl .nil)) trivial (claimI_tr (A := nilAcc B x) (s := fun _ => 0) (R := fun _ => True) mk hva trivial rfl) ?_
 rintro v1 L1 x1 ⟨s1, _, rfl, rfl, rfl⟩
 repeat (first | refine wo_nil ?_ | (apply wo_po; apply mo_not; exact rfl; exact gY) | refine wF ?_ | refine we_skip ?_)
 refine at_ent (arr r 0 (onceL (.int .i64 (w : Nat)) fv (.int .u64 (stOf co : Nat)) (.int .u64 1) dn ms (.chan (some c)) va (.int .i64 co)) :: shutC c :: D' :: arr bb 0 [.pointer (some ⟨r, 0, none⟩)] :: F) (.take (.there (.there .here)) (.take .here (.drop .refl))) ?_
 (first | refine or0 Try.func77 Try.results77 hQ ?_ | refine on0 Try.func77 Try.results77 hQ ?_)
 exact ⟨rfl, rfl, rfl⟩
theorem newNI_tr [NoCut B] [AllM B] {t : TypeId} {m : Nat} {G : List HProp} (hm : 5 < m) (hF : Has F (shpC r t m) G) (mk : MkOk B fv D D' va co) (hva : one va = true) (hL : L = arr r 0 (onceL (.int .i64 (w : Nat)) fv (.int .u64 0) (.int .u64 0) 0 0 (.chan (some c)) va0 co0) :: D :: chC c 0 #[] 0 0 :: F) :
  Tr Try.prog B 56 [.pointer (some ⟨r, 0, none⟩), .nilIface] L x fun q L' x' => q = toldI va co ∧ L' = arr r 0 (onceL (.int .i64 (w : Nat)) fv (.int .u64 (stOf co : Nat)) (.int .u64 1) 1 0 (.chan (some c)) va (.int .i64 co)) :: D' :: F ∧ x' = x := by
 subst hL
 refine Tr.post (R := fun q L' x' => ∃ a b d, q = toldI va co ∧ L' = a :: arr r 0 (onceL (.int .i64 (w : Nat)) fv (.int .u64 (stOf co : Nat)) (.int .u64 1) 1 0 (.chan (some c)) va (.int .i64 co)) :: d :: D' :: b :: F ∧ x' = x) ?_ (by rintro v L' x' ⟨a, b, d, h2, rfl, h3⟩; exact ⟨_, ⟨h2, rfl, h3⟩, fun h st => (Ent.drop (.take .here (.drop (.take .here (.drop .refl))))).star st⟩)
 have hlo : 1 < (stOf co : Int) := by unfold stOf; split <;> decide
 refine tr_of_body Try.func56 rfl Try.ntmps56 (by simp) fun um Q _ hQ => ?_
 simp only [argE, Nat.zero_add, Nat.reduceAdd]
 repeat (first | (apply wo_mo; apply mo_box; exact rfl; exact trivial) | refine we_seq ?_ | (refine wR ?_; try simp only [oS]))
 rintro v' L' ⟨bb, rfl, rfl⟩
 refine wo_ent (arr r 0 (onceL (.int .i64 (w : Nat)) fv (.int .u64 0) (.int .u64 0) 0 0 (.chan (some c)) va0 co0) :: D :: chC c 0 #[] 0 0 :: arr bb 0 [.pointer (some ⟨r, 0, none⟩)] :: F) (.take (.there .here) (.take (.there .here) (.take (.there .here) (.take .here .refl)))) ?_
 repeat (first | refine wo_nil ?_ | refine wA ?_ | refine we_block ?_)
 refine we_star ((nilAcc B x).C (fun _ => 0) :: arr r 0 (onceL (.int .i64 (w : Nat)) fv (.int .u64 0) (.int .u64 0) 0 0 (.chan (some c)) va0 co0) :: D :: chC c 0 #[] 0 0 :: arr bb 0 [.pointer (some ⟨r, 0, none⟩)] :: F) (fun h st => nil_in st) ?_
 refine we_loop1 ?_
 have rb : ∀ {a b c d : HProp}, Rd (a :: b :: c :: d :: arr bb 0 [.pointer (some ⟨r, 0, none⟩)] :: F) bb 0 (.pointer (some ⟨r, 0, none⟩)) := fun {a b c d} => .there (.there (.there (.there (Rd.row (k := 0) rfl rfl))))
 repeat (first | (apply wo_po; apply mo_load; exact rfl; exact rb; exact trivial) | (apply wo_po; apply mo_load; exact rfl; exact .there (Rd.row (k := 0) (vs := onceL (.int .i64 (w : Nat)) fv (.int .u64 0) (.int .u64 0) 0 0 (.chan (some c)) va0 co0) rfl rfl); exact trivial) | refine we_seq ?_ | (refine wR ?_; try simp only [oS]) | refine wM ?_ | refine wN ?_ | refine wD ?_ | refine we_block ?_)
 refine wo_call (.cons rfl (.cons rfl (.cons rfl .nil))) trivial (ostep_tr (A := nilAcc B x) (T := fun _ => True) (s := fun _ => 0) trivial .here) ?_
 rintro v1 L1 x1 ⟨s1, _, rfl, rfl, rfl⟩
 repeat (first | (apply wo_po; apply mo_load; exact rfl; exact rb; exact trivial) | refine we_seq ?_ | (refine wR ?_; try simp only [oS]) | refine wo_nil ?_ | refine wN ?_ | refine wD ?_)
 refine wo_call (.cons rfl .nil) trivial (load_lone (n := 0) (.there (Rd.row (k := 2) rfl rfl))) ?_
 rintro v1 L1 x1 ⟨rfl, rfl, rfl⟩
 repeat (first | (apply wo_po; apply mo_load; exact rfl; exact rb; exact trivial) | (apply wo_po; apply mo_bin; exact rfl; exact rfl; apply bin_eq; apply eql_nil_nil; exact trivial) | (apply wo_po; apply mo_makeFunc (first := []) (cap := [_]) (vf := []); exact .nil; exact .cons rfl .nil; exact trivial) | refine wgtrF ?_ | refine we_seq ?_ | (refine wR ?_; try simp only [oS]) | refine wo_nil ?_ | refine wM ?_ | refine wA ?_ | refine wN ?_ | refine wD ?_ | refine wT ?_ | refine wF ?_ | refine we_block ?_)
 refine wo_ent (arr r 0 (onceL (.int .i64 (w : Nat)) fv (.int .u64 0) (.int .u64 0) 0 0 (.chan (some c)) va0 co0) :: D :: chC c 0 #[] 0 0 :: arr bb 0 [.pointer (some ⟨r, 0, none⟩)] :: F) (.drop .refl) ?_
 refine wo_call (.cons rfl (.cons rfl .nil)) trivial (do_tr (G' := _) hm (.there (.there (.there hF))) (.there (.there (.there hF))) rfl (getfI_tr (dn := 0) (ms := 1) (bb := bb) mk hva rfl) rfl) ?_
 rintro v1 L1 x1 ⟨rfl, rfl, rfl⟩
 repeat (first | refine wo_nil ?_)
 refine at_star ((nilAcc B x1).C (fun _ => 0) :: arr r 0 (onceL (.int .i64 (w : Nat)) fv (.int .u64 (stOf co : Nat)) (.int .u64 1) 1 0 (.chan (some c)) va (.int .i64 co)) :: shutC c :: D' :: arr bb 0 [.pointer (some ⟨r, 0, none⟩)] :: F) (fun h st => nil_in st) ?_
 refine at_again (e0 := [(1, .nilIface), (2, .pointer (some ⟨bb, 0, none⟩))]) ?_ ⟨rfl, rfl, trivial⟩ .refl
 repeat (first | (apply wo_po; apply mo_load; exact rfl; exact rb; exact trivial) | (apply wo_po; apply mo_load; exact rfl; exact .there (Rd.row (k := 0) (vs := onceL (.int .i64 (w : Nat)) fv (.int .u64 (stOf co : Nat)) (.int .u64 1) 1 0 (.chan (some c)) va (.int .i64 co)) rfl rfl); exact trivial) | refine we_seq ?_ | (refine wR ?_; try simp only [oS]) | refine wM ?_ | refine wN ?_ | refine wD ?_ | refine we_block ?_)
 refine wo_call (.cons rfl (.cons rfl (.cons rfl .nil))) trivial (ostep_tr (A := nilAcc B x1) (T := fun _ => True) (s := fun _ => 0) trivial .here) ?_
 rintro v1 L1 x1 ⟨s1, _, rfl, rfl, rfl⟩
 repeat (first | (apply wo_po; apply mo_load; exact rfl; exact rb; exact trivial) | refine we_seq ?_ | (refine wR ?_; try simp only [oS]) | refine wo_nil ?_ | refine wN ?_ | refine wD ?_)
 refine wo_call (.cons rfl .nil) trivial (load_lone (.there (Rd.row (k := 2) rfl rfl))) ?_
 rintro v1 L1 x1 ⟨rfl, rfl, rfl⟩
 repeat (first | (apply wo_po; apply mo_load; exact rfl; exact rb; exact trivial) | refine wgtrT ?_ | refine we_seq ?_ | (refine wR ?_; try simp only [oS]) | refine wo_nil ?_ | refine wM ?_ | refine wA ?_ | refine wT ?_ | refine we_block ?_)
 refine wo_call (.cons rfl (.cons rfl .nil)) trivial (answerI_tr (va := va) (co := co) (.there (Rd.row (k := 8) rfl rfl)) (.there (Rd.row (k := 9) rfl rfl))) ?_
 rintro v1 L1 x1 ⟨rfl, rfl, rfl⟩
 by_cases e : co = 0
 ·subst e
  rw [show toldI va 0 = .tuple #[va, .int .i64 0] from rfl]
  repeat (first | refine wo_nil ?_ | refine wA ?_ | (apply wo_po; apply mo_extract; exact rfl; exact rfl; exact gY) | refine we_ret ?_)
  (first | refine or2 Try.func56 Try.results56 hQ rfl rfl ?_ | refine on2 Try.func56 Try.results56 hQ rfl rfl ?_)
  exact ⟨_, _, _, rfl, rfl, rfl⟩
 ·rw [show toldI va co = .tuple #[(.int .i64 0), .int .i64 co] from if_neg e]
  repeat (first | refine wo_nil ?_ | refine wA ?_ | (apply wo_po; apply mo_extract; exact rfl; exact rfl; exact gY) | refine we_ret ?_)
  (first | refine or2 Try.func56 Try.results56 hQ rfl rfl ?_ | refine on2 Try.func56 Try.results56 hQ rfl rfl ?_)
  exact ⟨_, _, _, (if_neg e).symm, rfl, rfl⟩
theorem getI_tr {o : Nat} {gv : Value} {R : List HProp → B.X → Prop} (hr : Rd L o 0 (.pointer (some ⟨r, 0, none⟩))) (tr : Tr Try.prog B 56 [.pointer (some ⟨r, 0, none⟩), gv] L x fun q L' x' => q = toldI va co ∧ R L' x') :
  Tr Try.prog B 24 [.pointer (some ⟨o, 0, none⟩), gv] L x fun q L' x' => q = toldI va co ∧ R L' x' := by
 refine tr_of_body Try.func24 rfl Try.ntmps24 (by simp) fun um Q _ hQ => ?_
 simp only [argE, Nat.zero_add, Nat.reduceAdd]
 repeat (first | (apply wo_po; apply mo_load; exact rfl; exact hr; exact gY) | refine we_seq ?_ | (refine wR ?_; try simp only [oS]) | refine wo_nil ?_ | refine wM ?_ | refine wA ?_ | refine wJ ?_ | refine wN ?_ | refine wD ?_ | (apply wo_po; apply mo_bin; exact rfl; exact rfl; apply bin_eq; apply eql_ptr_nil; exact gY) | refine wF ?_ | refine we_skip ?_)
 refine wo_call (.cons rfl (.cons rfl .nil)) trivial tr ?_
 rintro v1 L1 x1 ⟨rfl, hR⟩
 by_cases e : co = 0
 ·subst e
  rw [show toldI va 0 = .tuple #[va, .int .i64 0] from rfl]
  repeat (first | refine wo_nil ?_ | refine wA ?_ | (apply wo_po; apply mo_extract; exact rfl; exact rfl; exact gY) | refine we_ret ?_)
  (first | refine or2 Try.func24 Try.results24 hQ rfl rfl ?_ | refine on2 Try.func24 Try.results24 hQ rfl rfl ?_)
  exact ⟨rfl, hR⟩
 ·rw [show toldI va co = .tuple #[(.int .i64 0), .int .i64 co] from if_neg e]
  repeat (first | refine wo_nil ?_ | refine wA ?_ | (apply wo_po; apply mo_extract; exact rfl; exact rfl; exact gY) | refine we_ret ?_)
  (first | refine or2 Try.func24 Try.results24 hQ rfl rfl ?_ | refine on2 Try.func24 Try.results24 hQ rfl rfl ?_)
  exact ⟨(if_neg e).symm, hR⟩
end
end
end
end Go.Proofs.Ytcladnioicackaa
namespace Go.Proofs.Ytcladnioicackaa
open Go Go.PB
attribute [local irreducible] Mo Bin Eql Tr Wo TrD Wle Ap
section
def tc1 (mb i : Nat) (t : Nat × Nat × Nat) : HProp := all [arr t.1 0 (onceL (.int .i64 (i : Nat)) (.func (.func 46) #[] #[.pointer (some ⟨mb, 0, none⟩), .pointer (some ⟨t.2.2, 0, none⟩)]) (.int .u64 0) (.int .u64 0) 0 0 (.chan (some t.2.1)) (.int .i64 0) (.int .i64 0)),
 shpC t.1 145 10, chC t.2.1 0 #[] 0 0, arr t.2.2 0 [.int .i64 (i : Nat)]]
def tabR (mb : Nat) : List (Nat × Nat × Nat) → List HProp
 | [] => []
 | t :: l => tc1 mb l.length t :: tabR mb l
def tptr (t : Nat × Nat × Nat) : Value := .pointer (some ⟨t.1, 0, none⟩)
theorem tab_cons {mb : Nat} {t : Nat × Nat × Nat} {l : List (Nat × Nat × Nat)} {R : List HProp} {h : Hp} (s : Star (tc1 mb l.length t :: all (tabR mb l) :: R) h) : Star (all (tabR mb (t :: l)) :: R) h :=
 star_shut (M := tabR mb (t :: l)) (star_map s (fun _ x => x) fun _ y => star_open y)
section
variable {B : Hand} [Lets B] {L F : List HProp} {x : B.X}
def ntInv (x : B.X) (n tb mb : Nat) (F : List HProp) : Inv (Value × List (Nat × Nat × Nat)) B.X where
 e := fun i => [(0, .int .i64 (n : Nat)), (3, .pointer (some ⟨mb, 0, none⟩)), (6, .pointer (some ⟨tb, 0, none⟩)), (18, .int .i64 (n : Nat)), (19, .int .i64 (i.2.length : Nat))]
 L := fun i => arr tb 0 [i.1] :: vec 1 i.1 (i.2.reverse.map tptr) :: all (tabR mb i.2) :: F
 x := fun _ => x
 ok := fun i => i.2.length ≤ n
theorem ntab_bad {n : Int} {fn : Fn} {u v : Array Value} (h : n < 1 ∨ 1024 < n) : Tr Try.prog B 6 [.int .i64 n, .func fn u v] L x fun q L' x' => q = .tuple #[.pointer none, .int .i64 2] ∧ (∃ b, L' = b :: L) ∧ x' = x := by
 refine tr_of_body Try.func6 rfl Try.ntmps6 (by simp) fun um Q _ hQ => ?_
 simp only [argE, Nat.zero_add, Nat.reduceAdd]
 repeat (first | (apply wo_mo; apply mo_box; exact rfl; exact trivial) | refine we_seq ?_ | (refine wR ?_; try simp only [oS]))
 rintro v' L' ⟨mb, rfl, rfl⟩
 refine wo_ent (arr mb 0 [.func fn u v] :: L) .refl ?_
 by_cases h1 : n < 1
 ·repeat (first | (apply wo_po; apply mo_bin; exact rfl; exact rfl; apply bin_eq; apply eql_func_nil; exact trivial) | refine wlssT ?_ | refine we_seq ?_ | (refine wR ?_; try simp only [oS]) | refine wo_nil ?_ | refine wM ?_ | refine wA ?_ | (apply wo_no; exact rfl) | refine wK ?_ | refine wL ?_ | refine wT ?_ | refine wF ?_ | refine we_ret ?_ | refine we_skip ?_)
  (first | refine or2 Try.func6 Try.results6 hQ rfl rfl ?_ | refine on2 Try.func6 Try.results6 hQ rfl rfl ?_)
  exact ⟨rfl, ⟨_, rfl⟩, rfl⟩
 ·repeat (first | (apply wo_po; apply mo_bin; exact rfl; exact rfl; apply bin_eq; apply eql_func_nil; exact trivial) | refine wlssF ?_ | refine wgtrT ?_ | refine we_seq ?_ | (refine wR ?_; try simp only [oS]) | refine wo_nil ?_ | refine wM ?_ | refine wA ?_ | refine wJ ?_ | refine wL ?_ | refine wT ?_ | refine wF ?_ | refine we_ret ?_ | refine we_skip ?_)
  (first | refine or2 Try.func6 Try.results6 hQ rfl rfl ?_ | refine on2 Try.func6 Try.results6 hQ rfl rfl ?_)
  exact ⟨rfl, ⟨_, rfl⟩, rfl⟩
theorem ntab_tr {n : Nat} {fn : Fn} {u v : Array Value} (h1 : 1 ≤ n) (h2 : n ≤ 1024) : Tr Try.prog B 6 [.int .i64 (n : Nat), .func fn u v] L x fun q L' x' =>
  ∃ tb mb sv l, l.length = n ∧ q = .tuple #[.pointer (some ⟨tb, 0, none⟩), .int .i64 0] ∧ L' = arr tb 0 [sv] :: vec 1 sv (l.reverse.map tptr) :: all (tabR mb l) :: arr mb 0 [.func fn u v] :: L ∧ x' = x := by
 refine tr_of_body Try.func6 rfl Try.ntmps6 (by simp) fun um Q _ hQ => ?_
 simp only [argE, Nat.zero_add, Nat.reduceAdd]
 repeat (first | (apply wo_mo; apply mo_box; exact rfl; exact trivial) | refine we_seq ?_ | (refine wR ?_; try simp only [oS]))
 rintro v' L' ⟨mb, rfl, rfl⟩
 refine wo_ent (arr mb 0 [.func fn u v] :: L) .refl ?_
 repeat (first | (apply wo_po; apply mo_bin; exact rfl; exact rfl; apply bin_eq; apply eql_func_nil; exact trivial) | (apply wo_po; apply mo_build (pv := []); exact rfl; exact .nil; exact rfl; exact trivial) | (apply wo_mo; apply mo_box; exact rfl; exact trivial) | refine wlssF ?_ | refine wgtrF ?_ | refine we_seq ?_ | (refine wR ?_; try simp only [oS]) | refine wo_nil ?_ | refine wM ?_ | refine wA ?_ | refine wJ ?_ | refine wL ?_ | refine wF ?_ | refine we_skip ?_)
 rintro v' L' ⟨tb, rfl, rfl⟩
 refine wo_star (arr tb 0 [.slice none 0 0] :: vec 1 (.slice none 0 0) [] :: all [] :: arr mb 0 [.func fn u v] :: L) (fun h st => star_map st (fun _ z => z) fun _ s => vec_nil (star_shut (M := []) s)) ?_
 repeat (first | refine we_seq ?_ | (refine wR ?_; try simp only [oS]) | refine wo_nil ?_ | refine wM ?_ | refine wA ?_ | refine we_block ?_)
 refine we_loopN (ntInv x n tb mb (arr mb 0 [.func fn u v] :: L)) (fun i => n - i.2.length) (.slice none 0 0, []) (Nat.zero_le _) ⟨rfl, rfl, rfl, rfl, rfl, trivial⟩ .refl rfl ?_
 rintro ⟨sv, l⟩ hok
 replace hok : l.length ≤ n := hok
 show We Try.prog B .normal 36 _ _ [(0, .int .i64 (n : Nat)), (3, .pointer (some ⟨mb, 0, none⟩)), (6, .pointer (some ⟨tb, 0, none⟩)), (18, .int .i64 (n : Nat)), (19, .int .i64 (l.length : Nat))] _ (arr tb 0 [sv] :: vec 1 sv (l.reverse.map tptr) :: all (tabR mb l) :: arr mb 0 [.func fn u v] :: L) x
 by_cases hlt : l.length < n
 ·repeat (first | (apply wo_mo; apply mo_alloc; exact trivial) | refine wlssT ?_ | refine we_seq ?_ | (refine wR ?_; try simp only [oS]) | refine wo_nil ?_ | refine wM ?_ | refine wT ?_ | refine we_skip ?_ | refine we_block ?_)
  rintro v' L' ⟨ib, rfl, rfl⟩
  refine wo_ent (arr ib 0 [.int .i64 0] :: arr tb 0 [sv] :: vec 1 sv (l.reverse.map tptr) :: all (tabR mb l) :: arr mb 0 [.func fn u v] :: L) .refl ?_
  repeat (first | refine wS ?_ | refine wo_nil ?_)
  refine we_ent (arr ib 0 [.int .i64 (l.length : Nat)] :: arr tb 0 [sv] :: vec 1 sv (l.reverse.map tptr) :: all (tabR mb l) :: arr mb 0 [.func fn u v] :: L) .refl ?_
  refine we_pure (of_has (.there (.there .here)) (vec_shape (by omega))) ?_
  rintro ⟨ra, rl, rc, rfl, hlen, hrc, hra, hra2⟩
  have hrl : rl = l.length := by simpa using hlen.symm
  subst hrl
  have rs : ∀ {L : List HProp}, Rd (arr tb 0 [.slice ra l.length rc] :: L) tb 0 (.slice ra l.length rc) := Rd.row0 rfl
  refine we_draw (List.range' 0 13) (by kernel_rfl) ?_
  repeat (first | (apply ap_read; exact rfl; exact rfl; exact trivial; apply mo_load; exact rfl; exact .there rs) | (apply ap_pure; exact rfl; exact rfl; exact gY; intro L; apply mo_makeFunc (first := []) (cap := [_, _]) (vf := []); exact .nil; exact .cons rfl (.cons rfl .nil)) | refine aM ?_ | refine aN ?_ | refine aD ?_ | refine aL ?_)
  refine ap_callR rfl rfl rfl trivial rfl rfl (.cons rfl (.cons rfl .nil)) freshI_tr ?_ ?_
  ·rintro v L' x' ⟨r, c, rfl, rfl, rfl⟩ p hp
   replace hp := (List.mem_filter.1 hp).1
   simp only [List.mem_cons, List.not_mem_nil, or_false] at hp
   rcases hp with rfl | rfl | rfl | rfl | rfl | rfl | rfl <;> first | exact .inl rfl | exact .inr ⟨_, rfl, trivial, mo_load rfl (.there (.there (.there (.there rs))))⟩ | exact .inr ⟨_, rfl, trivial, mo_load rfl (.there (.there (.there (Rd.row0 rfl))))⟩
  rintro v L' x1 ⟨r, c, rfl, rfl, rfl⟩
  refine ap_loudR rfl rfl rfl rfl trivial (mo_buildSlice (sz := 1) (vs := [.pointer (some ⟨r, 0, none⟩)]) rfl (.cons rfl .nil) rfl (by intro v hv; cases (List.mem_singleton.1 hv); exact rfl) (by omega)) ?_ ?_
  ·rintro v L' ⟨sb, rfl, rfl⟩ p hp
   replace hp := (List.mem_filter.1 (List.mem_filter.1 hp).1).1
   simp only [List.mem_cons, List.not_mem_nil, or_false] at hp
   rcases hp with rfl | rfl | rfl | rfl | rfl | rfl | rfl <;> first | exact .inl rfl | exact .inr ⟨_, rfl, trivial, mo_load rfl (.there (.there (.there (.there (.there rs)))))⟩ | exact .inr ⟨_, rfl, trivial, mo_load rfl (.there (.there (.there (.there (Rd.row0 rfl)))))⟩
  rintro v L' ⟨sb, rfl, rfl⟩
  refine ap_loud rfl rfl rfl rfl rfl trivial (mo_append (sz := 1) (new := [.pointer (some ⟨r, 0, none⟩)]) rfl rfl rfl rfl (.there (.there (.there (.there (.there (.there .here)))))) rfl (.inr ⟨_, _, rfl, Rds.all .here⟩) (by intro v hv; simp at hv; subst hv; rfl) (by simp only [sliceLen]; omega)) ?_
  rintro v' L' rfl
  refine ap_know (of_has .here (vec_shape (by omega))) ?_
  rintro ⟨qa, ql, qc, rfl, _⟩
  repeat (first | refine aN ?_ | refine aD ?_)
  refine ap_loud rfl rfl rfl rfl rfl trivial (mo_store rfl rfl rfl (Wt.row0 (k := 0) (vs := [.slice ra l.length rc]) (.there (.there (.there (.there (.there (.there .here)))))) (Nat.succ_pos 0))) ?_
  rintro v' L' ⟨rfl, rfl⟩
  refine ap_end ?_
  repeat (first | (refine wR ?_; try simp only [oS]) | refine wo_nil ?_ | refine wM ?_ | refine wadd ?_)
  refine at_star (arr tb 0 [.slice qa ql qc] :: vec 1 (.slice qa ql qc) (l.reverse.map tptr ++ [.pointer (some ⟨r, 0, none⟩)]) :: all (tabR mb ((r, c, ib) :: l)) :: arr mb 0 [.func fn u v] :: L) (fun h st => ?_) ?_
  ·refine (Ent.take (.there (.there (.there .here))) (.take (.there .here) (.take .here (.drop .refl)))).star (tab_cons (star_map (star_shut (M := [_, _, _, _]) ((Ent.take (L := _) (.there (.there .here)) (.take (.there (.there .here)) (.take (.there (.there .here)) (.take (.there (.there .here)) (.take (.there (.there (.there .here))) .refl))))).star st)) (fun _ z => z) fun _ z => z))
  refine at_ent _ (ent_eq (show _ = (ntInv x1 n tb mb (arr mb 0 [.func fn u v] :: L)).L (.slice qa ql qc, (r, c, ib) :: l) by show _ = arr tb 0 [.slice qa ql qc] :: vec 1 (.slice qa ql qc) (((r, c, ib) :: l).reverse.map tptr) :: all (tabR mb ((r, c, ib) :: l)) :: arr mb 0 [.func fn u v] :: L; rw [List.reverse_cons, List.map_append]; rfl)) ?_
  refine at_round (I := ntInv x1 n tb mb (arr mb 0 [.func fn u v] :: L)) (R := fun j => n - j.2.length < n - l.length) (.slice qa ql qc, (r, c, ib) :: l) ?_ ?_ ⟨rfl, rfl, rfl, rfl, rfl, trivial⟩ .refl rfl
  ·show n - (l.length + 1) < n - l.length; omega
  ·show l.length + 1 ≤ n; omega
 ·repeat (first | refine wlssF ?_ | refine we_seq ?_ | (refine wR ?_; try simp only [oS]) | refine wo_nil ?_ | refine wM ?_ | refine wA ?_ | refine wF ?_ | refine we_ret ?_ | refine we_exit ?_)
  (first | refine or2 Try.func6 Try.results6 hQ rfl rfl ?_ | refine on2 Try.func6 Try.results6 hQ rfl rfl ?_)
  exact ⟨tb, mb, sv, l, by omega, rfl, rfl, rfl⟩
end
end
section
section
variable {B : Hand} [Lets B] {L F : List HProp} {x : B.X}
theorem mk_w1 {nb : Nat} : MkOk B (.func (.func 54) #[] #[.pointer (some ⟨nb, 0, none⟩)]) (arr nb 0 [.int .i64 0]) (arr nb 0 [.int .i64 1]) (.int .i64 7) 0 := by
 refine ⟨54, [], [.pointer (some ⟨nb, 0, none⟩)], rfl, inferInstance, fun L F x hh => ?_⟩
 refine Tr.ent (.take hh .refl) ?_
 show Tr Try.prog B 54 [.pointer (some ⟨nb, 0, none⟩)] _ _ _
 refine tr_of_body Try.func54 rfl Try.ntmps54 (by simp) fun um Q _ hQ => ?_
 simp only [argE, Nat.zero_add, Nat.reduceAdd]
 repeat (first | refine wS ?_ | refine we_seq ?_ | (refine wR ?_; try simp only [oS]) | refine wo_nil ?_ | refine wA ?_ | refine wL ?_ | refine wadd ?_ | refine we_ret ?_)
 (first | refine or2 Try.func54 Try.results54 hQ rfl rfl ?_ | refine on2 Try.func54 Try.results54 hQ rfl rfl ?_)
 exact ⟨rfl, rfl, rfl⟩
theorem mk_w2 : MkOk B (.func (.func 55) #[] #[]) (fun _ => True) (fun _ => True) (.int .i64 9) 4 := by
 refine ⟨55, [], [], rfl, inferInstance, fun L F x hh => ?_⟩
 refine Tr.ent (.take hh .refl) ?_
 show Tr Try.prog B 55 [] _ _ _
 refine tr_of_body Try.func55 rfl Try.ntmps55 (by simp) fun um Q _ hQ => ?_
 simp only [argE, Nat.zero_add, Nat.reduceAdd]
 repeat (first | refine we_seq ?_ | (refine wR ?_; try simp only [oS]) | refine wo_nil ?_ | refine wA ?_ | refine we_ret ?_)
 (first | refine or2 Try.func55 Try.results55 hQ rfl rfl ?_ | refine on2 Try.func55 Try.results55 hQ rfl rfl ?_)
 exact ⟨rfl, rfl, rfl⟩
theorem star_triv {L : List HProp} {h : Hp} (st : Star L h) : Star ((fun _ => True) :: L) h := star_map (star_shut (M := []) st) (fun _ _ => trivial) fun _ s => s
theorem works_tr [NoCut B] [AllM B] : Tr Try.prog B 22 [] L x fun v L' x' => v = .bool true ∧ L' = L ∧ x' = x := by
 refine Tr.post (R := fun v L' x' => v = .bool true ∧ (∀ h, Star L' h → Star L h) ∧ x' = x) ?_ (by rintro v L' x' ⟨h1, h2, h3⟩; exact ⟨_, ⟨h1, rfl, h3⟩, h2⟩)
 refine tr_of_body Try.func22 rfl Try.ntmps22 (by simp) fun um Q _ hQ => ?_
 simp only [argE, Nat.zero_add, Nat.reduceAdd]
 repeat (first | (apply wo_mo; apply mo_alloc; exact trivial) | refine we_seq ?_ | (refine wR ?_; try simp only [oS]) | refine wo_nil ?_ | refine wA ?_)
 rintro v' L' ⟨nb, rfl, rfl⟩
 refine wo_ent (arr nb 0 [.int .i64 0] :: L) .refl ?_
 repeat (first | refine wS ?_ | (apply wo_po; apply mo_makeFunc (first := []) (cap := [_]) (vf := []); exact .nil; exact .cons rfl .nil; exact trivial) | refine we_seq ?_ | (refine wR ?_; try simp only [oS]) | refine wo_nil ?_)
 refine wo_ent (arr nb 0 [.int .i64 0] :: L) .refl ?_
 refine wo_call (.cons rfl .nil) trivial newI_tr ?_
 rintro v1 L1 x1 ⟨o, r, c, rfl, rfl, rfl⟩
 repeat (first | refine we_seq ?_ | (refine wR ?_; try simp only [oS]) | refine wo_nil ?_ | refine wM ?_ | refine wA ?_)
 refine wo_ent (arr r 0 (onceL (.int .i64 (0 : Nat)) (.func (.func 54) #[] #[.pointer (some ⟨nb, 0, none⟩)]) (.int .u64 0) (.int .u64 0) 0 0 (.chan (some c)) (.int .i64 0) (.int .i64 0)) :: arr nb 0 [.int .i64 0] :: chC c 0 #[] 0 0 :: arr o 0 [.pointer (some ⟨r, 0, none⟩)] :: shpC r 145 10 :: L) (.take (.there .here) (.take (.there (.there (.there .here))) (.take (.there (.there .here)) (.take .here (.take .here .refl))))) ?_
 refine wo_call (.cons rfl (.cons rfl .nil)) trivial (getI_tr (co := 0) (va := .int .i64 7) (R := fun L' x' => L' = arr r 0 (onceL (.int .i64 (0 : Nat)) (.func (.func 54) #[] #[.pointer (some ⟨nb, 0, none⟩)]) (.int .u64 (stOf 0 : Nat)) (.int .u64 1) 1 0 (.chan (some c)) (.int .i64 7) (.int .i64 0)) :: arr nb 0 [.int .i64 1] :: arr o 0 [.pointer (some ⟨r, 0, none⟩)] :: shpC r 145 10 :: L ∧ x' = x1) (Rd.there (.there (.there (Rd.row0 rfl)))) (newNI_tr (m := 10) (by omega) (.there .here) mk_w1 rfl rfl)) ?_
 rintro v1 L1 x2 ⟨rfl, rfl, rfl⟩
 rw [show toldI (.int .i64 7) 0 = .tuple #[.int .i64 7, .int .i64 0] from rfl]
 repeat (first | refine we_seq ?_ | (refine wR ?_; try simp only [oS]) | refine wo_nil ?_ | refine wM ?_ | refine wA ?_ | (apply wo_po; apply mo_extract; exact rfl; exact rfl; exact gY))
 refine wo_star ((nilAcc B x2).C (fun _ => 0) :: arr r 0 (onceL (.int .i64 (0 : Nat)) (.func (.func 54) #[] #[.pointer (some ⟨nb, 0, none⟩)]) (.int .u64 (stOf 0 : Nat)) (.int .u64 1) 1 0 (.chan (some c)) (.int .i64 7) (.int .i64 0)) :: arr nb 0 [.int .i64 1] :: arr o 0 [.pointer (some ⟨r, 0, none⟩)] :: L) (fun h st => nil_in ((Ent.take .here (.take .here (.take .here (.drop .refl)))).star st)) ?_
 refine wo_call (.cons rfl (.cons rfl .nil)) trivial (getI_tr (co := 0) (va := .int .i64 7) (R := fun L' x' => ∃ s', L' = (nilAcc B x2).C s' :: arr r 0 (onceL (.int .i64 (0 : Nat)) (.func (.func 54) #[] #[.pointer (some ⟨nb, 0, none⟩)]) (.int .u64 (stOf 0 : Nat)) (.int .u64 1) 1 0 (.chan (some c)) (.int .i64 7) (.int .i64 0)) :: arr nb 0 [.int .i64 1] :: arr o 0 [.pointer (some ⟨r, 0, none⟩)] :: L ∧ x' = x2) (Rd.there (.there (.there (Rd.row0 rfl))))
  ((oldI_tr (A := nilAcc B x2) (R := fun _ => True) (s := fun _ => 0) rfl trivial .here (fun k v hk => Rd.row0 hk)).mono fun v L' x' ⟨s', _, h1, h2, h3⟩ => ⟨h1, s', h2, h3⟩)) ?_
 rintro v1 L1 x3 ⟨rfl, s', rfl, rfl⟩
 rw [show toldI (.int .i64 7) 0 = .tuple #[.int .i64 7, .int .i64 0] from rfl]
 repeat (first | refine we_seq ?_ | (refine wR ?_; try simp only [oS]) | refine wo_nil ?_ | refine wM ?_ | refine wA ?_ | (apply wo_po; apply mo_extract; exact rfl; exact rfl; exact gY))
 refine wo_call (.cons rfl .nil) trivial newI_tr ?_
 rintro v1 L1 x4 ⟨o2, r2, c2, rfl, rfl, rfl⟩
 repeat (first | refine we_seq ?_ | (refine wR ?_; try simp only [oS]) | refine wo_nil ?_ | refine wM ?_ | refine wA ?_)
 refine wo_star (arr r2 0 (onceL (.int .i64 (0 : Nat)) (.func (.func 55) #[] #[]) (.int .u64 0) (.int .u64 0) 0 0 (.chan (some c2)) (.int .i64 0) (.int .i64 0)) :: (fun _ => True) :: chC c2 0 #[] 0 0 :: arr o2 0 [.pointer (some ⟨r2, 0, none⟩)] :: shpC r2 145 10 :: arr nb 0 [.int .i64 1] :: L) (fun h st => (Ent.take (.there (.there .here)) (.take .here (.take (.there (.there .here)) (.take .here (.take .here (.take (.there (.there .here)) (.drop (.drop (.drop .refl))))))))).star (star_triv st)) ?_
 refine wo_call (.cons rfl (.cons rfl .nil)) trivial (getI_tr (co := 4) (va := .int .i64 9) (R := fun L' x' => L' = arr r2 0 (onceL (.int .i64 (0 : Nat)) (.func (.func 55) #[] #[]) (.int .u64 (stOf 4 : Nat)) (.int .u64 1) 1 0 (.chan (some c2)) (.int .i64 9) (.int .i64 4)) :: (fun _ => True) :: arr o2 0 [.pointer (some ⟨r2, 0, none⟩)] :: shpC r2 145 10 :: arr nb 0 [.int .i64 1] :: L ∧ x' = x4) (Rd.there (.there (.there (Rd.row0 rfl)))) (newNI_tr (m := 10) (by omega) (.there .here) mk_w2 rfl rfl)) ?_
 rintro v1 L1 x5 ⟨rfl, rfl, rfl⟩
 rw [show toldI (.int .i64 9) 4 = .tuple #[.int .i64 0, .int .i64 4] from rfl]
 have rn : ∀ {a b c d : HProp}, Rd (a :: b :: c :: d :: arr nb 0 [.int .i64 1] :: L) nb 0 (.int .i64 1) := fun {a b c d} => .there (.there (.there (.there (Rd.row0 rfl))))
 repeat (first | (apply wo_po; apply mo_load; exact rfl; exact rn; exact rfl) | refine weqlT ?_ | refine we_seq ?_ | (refine wR ?_; try simp only [oS]) | refine wo_nil ?_ | refine wM ?_ | refine wA ?_ | refine wK ?_ | (apply wo_po; apply mo_extract; exact rfl; exact rfl; exact gY) | refine we_ret ?_)
 (first | refine or1 Try.func22 Try.results22 hQ rfl ?_ | refine on1 Try.func22 Try.results22 hQ rfl ?_)
 exact ⟨rfl, fun h st => star_dropM (M := [_, _, _, _, _]) st, rfl⟩
end
end
section
section
variable {B : Hand} [Lets B] {L F G : List HProp} {x : B.X} {v : Nat} {d c : Int}
theorem does_tr {D D' : HProp} {fv : Value} {f : FuncId} {first cap : List Value} (hc : callee? fv = some (f, first, cap)) [en : Ent' Try.prog f]
  (tr : ∀ (L F : List HProp), Has L D F → Tr Try.prog B f (first ++ cap) L x fun w L' x' => w = .tuple #[] ∧ L' = D' :: F ∧ x' = x) (hh : Has L D F) :
  Tr Try.prog B 10 [mkV d v c, fv] L x fun w L' x' => w = .tuple #[.int .u64 (v : Nat), .int .i64 (codeOf d c)] ∧ (∃ M, L' = M ++ D' :: F) ∧ x' = x := by
 refine Tr.ent (L' := D :: F) (.take hh .refl) ?_
 refine tr_of_body Try.func10 rfl Try.ntmps10 (by simp) fun um Q _ hQ => ?_
 simp only [argE, Nat.zero_add, Nat.reduceAdd]
 repeat (first | (apply wo_mo; apply mo_box; exact rfl; exact trivial) | refine we_seq ?_ | (refine wR ?_; try simp only [oS]))
 rintro v' L' ⟨b, rfl, rfl⟩
 refine wo_ent (arr b 0 (mkCs d v c) :: D :: F) .refl ?_
 repeat (first | refine we_seq ?_ | (refine wR ?_; try simp only [oS]) | refine wo_nil ?_ | refine wM ?_ | refine wA ?_)
 refine wo_callv (args := []) rfl hc .nil trivial (by simpa using tr (arr b 0 (mkCs d v c) :: D :: F) (arr b 0 (mkCs d v c) :: F) (.there .here)) ?_
 rintro v1 L1 x1 ⟨rfl, rfl, rfl⟩
 have e1 : ∀ {a : HProp}, Rd (a :: arr b 0 (mkCs d v c) :: F) b 1 (.int .u64 (v : Nat)) := fun {a} => .there (Rd.row0 rfl)
 by_cases h : d = 1
 ·subst h
  have hk : codeOf 1 c = errOf c := if_pos rfl
  repeat (first | refine weqlT ?_ | refine we_seq ?_ | (refine wR ?_; try simp only [oS]) | refine wo_nil ?_ | refine wA ?_ | refine wD ?_ | refine wL ?_ | refine wT ?_ | refine we_block ?_)
  refine we_draw (List.range' 0 6) (by kernel_rfl) ?_
  repeat (first | (apply ap_read; exact rfl; exact rfl; exact trivial; apply mo_load; exact rfl; exact e1) | (apply ap_read; exact rfl; exact rfl; exact trivial; apply mo_loadA (vs := mkCs 1 v c); exact rfl; exact rfl; exact Rds.all (.there .here)) | refine aD ?_)
  refine ap_callR rfl rfl rfl trivial rfl rfl (.cons rfl .nil) merrno_tr ?_ ?_
  ·rintro v' L' x' ⟨rfl, ⟨b2, rfl⟩, rfl⟩ p hp
   replace hp := (List.mem_filter.1 hp).1
   simp only [List.mem_cons, List.not_mem_nil, or_false] at hp
   rcases hp with rfl | rfl | rfl <;> first | exact .inl rfl | exact .inr ⟨_, rfl, trivial, mo_load rfl (.there e1)⟩ | exact .inr ⟨_, rfl, trivial, mo_loadA (vs := mkCs 1 v c) rfl rfl (Rds.all (.there (.there .here)))⟩
  rintro v' L' x1 ⟨rfl, ⟨b2, rfl⟩, rfl⟩
  repeat (first | refine aA ?_ | refine ap_end ?_)
  repeat (first | refine we_ret ?_)
  refine at_ent (b2 :: arr b 0 (mkCs 1 v c) :: D' :: F) (.take .here (.take (.there .here) (.take .here .refl))) ?_
  (first | refine or2 Try.func10 Try.results10 hQ rfl rfl ?_ | refine on2 Try.func10 Try.results10 hQ rfl rfl ?_)
  exact ⟨by rw [hk], ⟨[_, _], rfl⟩, rfl⟩
 ·have hk : codeOf d c = 0 := code_nz.2 h
  repeat (first | (apply wo_po; apply mo_load; exact rfl; exact e1; exact trivial) | refine weqlF ?_ | refine we_seq ?_ | (refine wR ?_; try simp only [oS]) | refine wo_nil ?_ | refine wA ?_ | refine wD ?_ | refine wL ?_ | refine wF ?_ | refine we_ret ?_ | refine we_skip ?_ | refine we_block ?_)
  refine at_ent (arr b 0 (mkCs d v c) :: D' :: F) (.take (.there .here) (.take .here .refl)) ?_
  (first | refine or2 Try.func10 Try.results10 hQ rfl rfl ?_ | refine on2 Try.func10 Try.results10 hQ rfl rfl ?_)
  exact ⟨by rw [hk], ⟨[_], rfl⟩, rfl⟩
def omD (xb cb : Nat) (d : Int) (v : Nat) (c : Int) (k : Int) : HProp := all [arr xb 0 (mkCs d v c), arr cb 0 [.int .i64 k]]
abbrev omF (xb cb : Nat) : Value := .func (.func 9) #[] #[.pointer (some ⟨xb, 0, none⟩), .pointer (some ⟨cb, 0, none⟩)]
theorem mk_om {xb cb : Nat} : MkOk B (omF xb cb) (omD xb cb d v c 0) (omD xb cb d v c 1) (.int .u64 (v : Nat)) (codeOf d c) := by
 refine ⟨9, [], [.pointer (some ⟨xb, 0, none⟩), .pointer (some ⟨cb, 0, none⟩)], rfl, inferInstance, fun L F x hh => ?_⟩
 refine tr_star (arr xb 0 (mkCs d v c) :: arr cb 0 [.int .i64 0] :: F) (fun h st => star_open (hh.star st)) ?_
 refine Tr.post (R := fun w L' x' => w = .tuple #[.int .u64 (v : Nat), .int .i64 (codeOf d c)] ∧ (∃ M, L' = M ++ arr cb 0 [.int .i64 1] :: arr xb 0 (mkCs d v c) :: F) ∧ x' = x) ?_
  (by rintro w L' x' ⟨h1, ⟨M, rfl⟩, h3⟩; exact ⟨_, ⟨h1, rfl, h3⟩, fun h st => star_shut (M := [_, _]) (star_swap (star_dropM st))⟩)
 show Tr Try.prog B 9 [.pointer (some ⟨xb, 0, none⟩), .pointer (some ⟨cb, 0, none⟩)] _ _ _
 refine tr_of_body Try.func9 rfl Try.ntmps9 (by simp) fun um Q _ hQ => ?_
 simp only [argE, Nat.zero_add, Nat.reduceAdd]
 repeat (first | (apply wo_po; apply mo_loadA (vs := mkCs d v c); exact rfl; exact rfl; exact Rds.all .here; exact trivial) | (apply wo_po; apply mo_makeFunc (first := []) (cap := [_]) (vf := []); exact .nil; exact .cons rfl .nil; exact trivial) | refine we_seq ?_ | (refine wR ?_; try simp only [oS]) | refine wo_nil ?_ | refine wA ?_)
 refine wo_call (.cons rfl (.cons rfl .nil)) trivial (does_tr (d := d) (c := c) (v := v) (D := arr cb 0 [.int .i64 0]) (D' := arr cb 0 [.int .i64 1]) rfl (fun L F hh => ?_) (.there .here)) ?_
 ·refine Tr.ent (.take hh .refl) ?_
  show Tr Try.prog B 11 [.pointer (some ⟨cb, 0, none⟩)] _ _ _
  refine tr_of_body Try.func11 rfl Try.ntmps11 (by simp) fun um Q _ hQ => ?_
  simp only [argE, Nat.zero_add, Nat.reduceAdd]
  repeat (first | refine wS ?_ | (refine wR ?_; try simp only [oS]) | refine wo_nil ?_ | refine wL ?_ | refine wadd ?_)
  (first | refine or0 Try.func11 Try.results11 hQ ?_ | refine on0 Try.func11 Try.results11 hQ ?_)
  exact ⟨rfl, rfl, rfl⟩
 rintro v1 L1 x1 ⟨rfl, ⟨M, rfl⟩, rfl⟩
 repeat (first | refine wo_nil ?_ | refine wA ?_ | (apply wo_po; apply mo_extract; exact rfl; exact rfl; exact gY) | refine we_ret ?_)
 (first | refine or2 Try.func9 Try.results9 hQ rfl rfl ?_ | refine on2 Try.func9 Try.results9 hQ rfl rfl ?_)
 exact ⟨rfl, ⟨M, rfl⟩, rfl⟩
def omNew (o r ch xb cb : Nat) (d : Int) (v : Nat) (c : Int) : List HProp := [arr o 0 [.pointer (some ⟨r, 0, none⟩)], arr r 0 (onceL (.int .i64 (0 : Nat)) (omF xb cb) (.int .u64 0) (.int .u64 0) 0 0 (.chan (some ch)) (.int .u64 0) (.int .i64 0)), chC ch 0 #[] 0 0, omD xb cb d v c 0]
def omOld (o r ch xb cb : Nat) (d : Int) (v : Nat) (c : Int) : List HProp := [arr o 0 [.pointer (some ⟨r, 0, none⟩)], arr r 0 (onceL (.int .i64 (0 : Nat)) (omF xb cb) (.int .u64 (stOf (codeOf d c) : Nat)) (.int .u64 1) 0 0 (.chan (some ch)) (.int .u64 (v : Nat)) (.int .i64 (codeOf d c))), omD xb cb d v c 1]
def omC (o r ch xb cb : Nat) (d : Int) (v : Nat) (c : Int) (i : Nat) : HProp := all (if i = 0 then omNew o r ch xb cb d v c else omOld o r ch xb cb d v c)
def omMs (i : Nat) : List (Nat × Nat) := if i = 0 then [(1, 0), (5, 0), (2, 0)] else [(1, 0)]
def omW (d c : Int) (i : Nat) : Nat := if i = 0 then 0 else stOf (codeOf d c)
theorem om_comes (hv : v < 18446744073709551616) (i : Nat) : ∃ g, Mach.Comes 30 g ⟨[[omW d c i]], 1⟩ (Mach.ogetCl (tell0 d c) (tell1 d v) (stOf (codeOf d c))) ⟨[[omW d c (i + 1)]], 1⟩ [tell0 d c, tell1 d v] (omMs i) := by
 have h1 : tell1 d v < 18446744073709551616 := by unfold tell1; split <;> omega
 have h2 : stOf (codeOf d c) < 18446744073709551616 := by unfold stOf; split <;> omega
 have h3 : 1 < stOf (codeOf d c) := by unfold stOf; split <;> omega
 by_cases h : i = 0
 ·subst h; exact ⟨_, Mach.oget_new tell0_lt h1 h2⟩
 ·refine ⟨([(1, 0)] : List (Nat × Nat)).length + 1, ?_⟩
  unfold omW omMs
  rw [if_neg h, if_neg h, if_neg (by omega)]
  exact Mach.oget_late tell0_lt h1 h3
theorem om_cl_ok (hv : v < 18446744073709551616) : (Mach.ogetCl (tell0 d c) (tell1 d v) (stOf (codeOf d c))).ok = true := by
 have h1 : tell1 d v < 18446744073709551616 := by unfold tell1; split <;> omega
 have h2 : stOf (codeOf d c) < 18446744073709551616 := by unfold stOf; split <;> omega
 have h0 := tell0_lt (d := d) (c := c)
 simp [Mach.Cl.ok, Mach.ogetCl, Mach.In.ok]; omega
theorem om_told : toldU (.int .u64 (v : Nat)) (codeOf d c) = .tuple #[num (tell1 d v), .int .i64 (codeOf d c)] := by
 unfold toldU tell1
 by_cases h : d = 1
 ·rw [if_neg (by rw [code_nz]; exact fun a => a h), if_pos h]; rfl
 ·rw [code_nz.2 h, if_pos rfl, if_neg h]; rfl
theorem om_get_tr [NoCut B] {o r ch xb cb nb i : Nat} :
  Tr Try.prog B 15 [.pointer (some ⟨o, 0, none⟩), .iface 41 (.pointer (some ⟨nb, 0, none⟩))] (notesC nb [] :: omC o r ch xb cb d v c i :: F) x fun q L' x' => q = .tuple #[num (tell1 d v), .int .i64 (codeOf d c)] ∧ L' = notesC nb ((omMs i).map mkI) :: omC o r ch xb cb d v c (i + 1) :: F ∧ x' = x := by
 obtain ⟨A, hA⟩ : ∃ A : Acc B (.iface 41 (.pointer (some ⟨nb, 0, none⟩))), A = notesAcc x (fun _ => (0, 0)) 0 [] ⟨fun i j hi => by omega, fun i hi => by omega⟩ nb := ⟨_, rfl⟩
 have hin : ∀ {L : List HProp} {h : Hp} {ms : List (Int × Nat)}, Star (notesC nb ms :: L) h → Star ((notesAcc x (fun _ => (0, 0)) 0 [] ⟨fun i j hi => by omega, fun i hi => by omega⟩ nb).C ((fun _ => 0), ms) :: L) h := fun st => star_shut (M := [_, _]) (star_map (star_triv st) (fun _ _ => ⟨fun w hw => by omega, fun k hk => by cases hk⟩) fun _ s => s)
 have hout : ∀ {L : List HProp} {h : Hp} {s : (notesAcc x (fun _ => (0, 0)) 0 [] ⟨fun i j hi => by omega, fun i hi => by omega⟩ nb).S}, Star ((notesAcc x (fun _ => (0, 0)) 0 [] ⟨fun i j hi => by omega, fun i hi => by omega⟩ nb).C s :: L) h → Star (notesC nb s.2 :: L) h := fun st => star_drop (star_open (M := [_, _]) st)
 by_cases hi : i = 0
 ·subst hi
  refine tr_star ((notesAcc x (fun _ => (0, 0)) 0 [] ⟨fun i j hi => by omega, fun i hi => by omega⟩ nb).C ((fun _ => 0), []) :: arr r 0 (onceL (.int .i64 (0 : Nat)) (omF xb cb) (.int .u64 0) (.int .u64 0) 0 0 (.chan (some ch)) (.int .u64 0) (.int .i64 0)) :: omD xb cb d v c 0 :: chC ch 0 #[] 0 0 :: arr o 0 [.pointer (some ⟨r, 0, none⟩)] :: F) (fun h st => hin ?_) ?_
  ·have s1 : Star (arr o 0 [.pointer (some ⟨r, 0, none⟩)] :: arr r 0 (onceL (.int .i64 (0 : Nat)) (omF xb cb) (.int .u64 0) (.int .u64 0) 0 0 (.chan (some ch)) (.int .u64 0) (.int .i64 0)) :: chC ch 0 #[] 0 0 :: omD xb cb d v c 0 :: notesC nb [] :: F) h := star_open (M := omNew o r ch xb cb d v c) (star_swap st)
   exact Ent.star (.take (.there (.there (.there (.there .here)))) (.take (.there .here) (.take (.there (.there .here)) (.take (.there .here) (.take .here .refl))))) s1
  refine Tr.post (R := fun q L' x' => q = toldU (.int .u64 (v : Nat)) (codeOf d c) ∧ ((∃ s' : (notesAcc x (fun _ => (0, 0)) 0 [] ⟨fun i j hi => by omega, fun i hi => by omega⟩ nb).S, s'.2 = [(1, 0), (5, 0), (2, 0)] ∧ L' = shutC ch :: (notesAcc x (fun _ => (0, 0)) 0 [] ⟨fun i j hi => by omega, fun i hi => by omega⟩ nb).C s' :: arr r 0 (onceL (.int .i64 (0 : Nat)) (omF xb cb) (.int .u64 (stOf (codeOf d c) : Nat)) (.int .u64 1) 0 0 (.chan (some ch)) (.int .u64 (v : Nat)) (.int .i64 (codeOf d c))) :: omD xb cb d v c 1 :: arr o 0 [.pointer (some ⟨r, 0, none⟩)] :: F) ∧ x' = x)) ?_
   (by
    rintro q L' x' ⟨rfl, ⟨s', hs, rfl⟩, rfl⟩
    refine ⟨_, ⟨om_told, rfl, rfl⟩, fun h st => ?_⟩
    have s1 := hout (star_drop st)
    rw [hs] at s1
    exact star_map s1 (fun _ z => z) fun _ z => star_shut (M := omOld o r ch xb cb d v c) (Ent.star (.take (.there (.there .here)) (.take .here (.take .here .refl))) z))
  refine getU_tr (r := r) (.there (.there (.there (.there (Rd.row0 rfl))))) ?_
  refine (newGU_tr (A := notesAcc x (fun _ => (0, 0)) 0 [] ⟨fun i j hi => by omega, fun i hi => by omega⟩ nb) (s := ((fun _ => 0), [])) (R := fun s' => s'.2 = [(1, 0), (5, 0), (2, 0)]) mk_om rfl ⟨by simp, by simp, by simp, rfl⟩ rfl).mono ?_
  rintro q L' x' ⟨s', h1, h2, h3, h4⟩
  exact ⟨h2, ⟨s', h1, h3⟩, h4⟩
 ·have e1 : omC o r ch xb cb d v c i = all (omOld o r ch xb cb d v c) := by unfold omC; rw [if_neg hi]
  have e2 : omC o r ch xb cb d v c (i + 1) = all (omOld o r ch xb cb d v c) := by unfold omC; rw [if_neg (by omega)]
  have e3 : (omMs i).map mkI = [(1, 0)] := by unfold omMs; rw [if_neg hi]; rfl
  rw [e1, e2, e3]
  refine tr_star ((notesAcc x (fun _ => (0, 0)) 0 [] ⟨fun i j hi => by omega, fun i hi => by omega⟩ nb).C ((fun _ => 0), []) :: omOld o r ch xb cb d v c ++ F) (fun h st => hin (star_map st (fun _ z => z) fun _ z => star_open z)) ?_
  refine Tr.post (R := fun q L' x' => q = toldU (.int .u64 (v : Nat)) (codeOf d c) ∧ ((∃ s' : (notesAcc x (fun _ => (0, 0)) 0 [] ⟨fun i j hi => by omega, fun i hi => by omega⟩ nb).S, s'.2 = [(1, 0)] ∧ L' = (notesAcc x (fun _ => (0, 0)) 0 [] ⟨fun i j hi => by omega, fun i hi => by omega⟩ nb).C s' :: omOld o r ch xb cb d v c ++ F) ∧ x' = x)) ?_
   (by
    rintro q L' x' ⟨rfl, ⟨s', hs, rfl⟩, rfl⟩
    refine ⟨_, ⟨om_told, rfl, rfl⟩, fun h st => ?_⟩
    have s1 := hout st
    rw [hs] at s1
    exact star_map s1 (fun _ z => z) fun _ z => star_shut z)
  refine getU_tr (r := r) (.there (Rd.row0 rfl)) ?_
  refine (oldU_tr (A := notesAcc x (fun _ => (0, 0)) 0 [] ⟨fun i j hi => by omega, fun i hi => by omega⟩ nb) (s := ((fun _ => 0), [])) (R := fun s' => s'.2 = [(1, 0)]) rfl ⟨by simp, rfl⟩ .here (fun k v hk => .there (Rd.row0 hk))).mono ?_
  rintro q L' x' ⟨s', h1, h2, h3, h4⟩
  exact ⟨h2, ⟨s', h1, h3⟩, h4⟩
end
end
end Go.Proofs.Ytcladnioicackaa
