/-
  patchbayref00's Alone.
-/
import Derived.Test.YtmkkanmkjfnpdaaMach17
set_option linter.unusedVariables false
set_option linter.unusedSimpArgs false
namespace Go.Proofs.Ytmkkanmkjfnpdaa
open Go Go.PB
attribute [local irreducible] Mo Bin Eql Tr Wo Ap

variable {B : Hand} [Lets B] {L F G : List HProp} {x : B.X}

/-- a call, behind its two slices -/
def clC (kv dv : Value) (cl : Mach.Cl) : HProp := all [vec 7 kv (cl.code.map inC).flatten, vec 1 dv (cl.data.map num)]

theorem code_obs {cb kn kc dn dc c : Nat} {ka da : Option Addr} {cl : Mach.Cl} (hk : kn = cl.code.length) (hd : dn = cl.data.length) (hka : ∀ y, ka = some y → y = ⟨y.block, y.off, none⟩) (hda : ∀ y, da = some y → y = ⟨y.block, y.off, none⟩) (hkn : ka = none → kn = 0) (hdn : da = none → dn = 0) :
    Obs (arr cb 0 [.slice ka kn kc, .slice da dn dc] :: vec 7 (.slice ka kn kc) (cl.code.map inC).flatten :: vec 1 (.slice da dn dc) (cl.data.map num) :: F) (codeC ⟨some ⟨cb, 0, none⟩, c, fun _ => (ka, kc), fun _ => (da, dc)⟩ [cl]) := by
  subst hk
  subst hd
  intro h s i y hy
  obtain ⟨rfl, rfl⟩ : i = 0 ∧ cl = y := by
    cases i with
    | zero => exact ⟨rfl, by simpa using hy⟩
    | succ i => simp at hy
  refine ⟨cb, 0, rfl, (Rd.row0 rfl) h s, (Rd.row0 rfl) h s, fun j z hz => ?_, fun j v hv => ?_⟩
  · have hlt := (List.getElem?_eq_some_iff.1 hz).1
    cases ka with
    | none => have : cl.code.length = 0 := hkn rfl; omega
    | some a =>
      obtain ⟨kb, ko, sp⟩ := a
      cases hka _ rfl
      refine ⟨kb, ko, rfl, fun m v hm => ?_⟩
      have hm7 : m < 7 := (List.getElem?_eq_some_iff.1 hm).1
      have := (rd_vec (i := 7 * j + m) (v := v) (L := arr cb 0 [.slice (some ⟨kb, ko, none⟩) cl.code.length kc, .slice da cl.data.length dc] :: vec 7 (.slice (some ⟨kb, ko, none⟩) cl.code.length kc) (cl.code.map inC).flatten :: vec 1 (.slice da cl.data.length dc) (cl.data.map num) :: F) (.there .here) (by rw [flat_get (k := 7) (fun _ => rfl) _ _ _ _ hz hm7]; exact hm)) h s
      rwa [← Nat.add_assoc] at this
  · have hlt := (List.getElem?_eq_some_iff.1 hv).1
    cases da with
    | none => have : cl.data.length = 0 := hdn rfl; omega
    | some a =>
      obtain ⟨db, dq, sp⟩ := a
      cases hda _ rfl
      exact ⟨db, dq, rfl, (rd_vec (i := j) (v := num v) (L := arr cb 0 [.slice ka cl.code.length kc, .slice (some ⟨db, dq, none⟩) cl.data.length dc] :: vec 7 (.slice ka cl.code.length kc) (cl.code.map inC).flatten :: vec 1 (.slice (some ⟨db, dq, none⟩) cl.data.length dc) (cl.data.map num) :: F) (.there (.there .here)) (by rw [List.getElem?_map, hv]; rfl)) h s⟩

/-- an operation's cells, out of its mark -/
def mkC (m : Nat × Nat) : List Value := [.int .u8 (m.1 : Nat), .int .i64 (m.2 : Nat)]

/-- ahead of operation i -/
def aloneInv (b5 pb nb : Nat) (ansv : Value) (st : Mach.St) (x : B.X) (F : List HProp) : Inv (Nat × Value) B.X where
  e := fun i => [(5, .pointer (some ⟨b5, 0, none⟩)), (7, .pointer (some ⟨pb, 0, none⟩)), (8, ansv), (9, .pointer (some ⟨nb, 0, none⟩)), (10, i.2), (11, .int .i64 (i.1 : Nat))]
  L := fun i => vec 2 i.2 (((st.tr.take i.1).map (·.2)).map mkC).flatten :: F
  x := fun _ => x
  ok := fun i => i.1 ≤ st.tr.length

set_option maxHeartbeats 8000000 in
theorem alone_tr {wv lv kv dv : Value} {w : Mach.Wd} {cl : Mach.Cl} {st : Mach.St} {f g : Nat} {d : Bool} {told : List Nat} {t : Mach.Th} (hp : Mach.play f g w [] [[cl]] = some st) (hf : 16384 * (f + 1) + f < 1000000000) (hcl : cl.ok = true) (htr : st.tr.length ≤ 16384) (hl : st.l = [t]) (hans : t.ans = [(d, told)])
    (hh : Has L (wvC wv lv w) G) (hc : Has G (clC kv dv cl) F) :
    Tr Try.prog B 14 [.agg #[wv, lv], .agg #[kv, dv]] L x fun v L' x' => ∃ toldV wv' lv' marksV : Value, v = .tuple #[toldV, .agg #[wv', lv'], marksV] ∧ L' = vec 1 toldV (told.map num) :: wvC wv' lv' st.w :: vec 2 marksV ((st.tr.map (·.2)).map mkC).flatten :: wvC wv lv w :: F ∧ x' = x := by
  refine tr_star (vec 7 kv (cl.code.map inC).flatten :: vec 1 dv (cl.data.map num) :: wvC wv lv w :: F) (fun h s => ?_) ?_
  · have s1 : Star (clC kv dv cl :: wvC wv lv w :: F) h := star_swap (star_map (hh.star s) (fun _ z => z) (fun _ z => hc.star z))
    exact star_open s1
  clear hh hc
  refine Tr.post (R := fun v L' x' => ∃ toldV wv' lv' marksV : Value, v = .tuple #[toldV, .agg #[wv', lv'], marksV] ∧ x' = x ∧ ∀ h, Star L' h → Star (vec 1 toldV (told.map num) :: wvC wv' lv' st.w :: vec 2 marksV ((st.tr.map (·.2)).map mkC).flatten :: wvC wv lv w :: F) h) ?_
    (by rintro v L' x' ⟨toldV, wv', lv', marksV, rfl, rfl, hs⟩; exact ⟨_, ⟨toldV, wv', lv', marksV, rfl, rfl, rfl⟩, hs⟩)
  refine tr_pure (of_has .here (vec_shape (by omega))) ?_
  rintro ⟨ka, kn, kc, rfl, hkn, _, hka, hka2⟩
  refine tr_pure (of_has (.there .here) (vec_shape (by omega))) ?_
  rintro ⟨da, dn, dc, rfl, hdn, _, hda, hda2⟩
  refine tr_pure (of_has (.there (.there .here)) wv_shape) ?_
  rintro ⟨⟨wa, wn, wc, rfl⟩, la, ln, lc, rfl⟩
  have hkn' : kn = cl.code.length := by rw [flat_len (k := 7) (fun _ => rfl)] at hkn; omega
  have hdn' : dn = cl.data.length := by rw [List.length_map] at hdn; omega
  have hclo := hcl
  simp only [Mach.Cl.ok, Bool.and_eq_true, decide_eq_true_eq] at hclo
  refine tr_of_body Try.func14 rfl Try.ntmps14 (by simp) fun um Q hQ => ?_
  simp only [argE, Nat.zero_add, Nat.reduceAdd]
  repeat (first
    | (apply wo_mo; apply mo_box; exact rfl; exact trivial)
    | refine we_seq ?_
    | (refine we_region _ rfl rfl ?_; simp only [opsOf, List.map_cons, List.map_nil, Option.map_none, Option.map_some, List.getElem?_toArray, List.getElem?_cons_zero, List.getElem?_cons_succ, Option.bind_some, Option.getD_some]))
  rintro v' L' ⟨b2, rfl, rfl⟩
  repeat (first
    | (apply wo_mo; apply mo_box; exact rfl; exact trivial))
  rintro v' L' ⟨b3, rfl, rfl⟩
  repeat (first
    | (apply wo_mo; apply mo_alloc; exact trivial)
    | (apply wo_po; apply mo_assign; exact rfl; (first | exact trivial | exact rfl)))
  rintro v' L' ⟨b5, rfl, rfl⟩
  refine wo_ent (arr b5 0 [.slice none 0 0, .slice none 0 0] :: arr b3 0 [.slice ka kn kc, .slice da dn dc] :: arr b2 0 [.slice wa wn wc, .slice la ln lc] :: vec 7 (.slice ka kn kc) (cl.code.map inC).flatten :: vec 1 (.slice da dn dc) (cl.data.map num) :: wvC (.slice wa wn wc) (.slice la ln lc) w :: F) .refl ?_
  have hr2 : ∀ {d1 d2 : HProp} {F : List HProp}, Rds (d1 :: d2 :: arr b2 0 [.slice wa wn wc, .slice la ln lc] :: F) b2 0 [.slice wa wn wc, .slice la ln lc] := fun {d1 d2 F} => Rds.all (.there (.there .here))
  have hr3 : ∀ {d1 : HProp} {F : List HProp}, Rds (d1 :: arr b3 0 [.slice ka kn kc, .slice da dn dc] :: F) b3 0 [.slice ka kn kc, .slice da dn dc] := fun {d1 F} => Rds.all (.there .here)
  repeat (first
    | (apply wo_po; apply mo_loadA (vs := [.slice wa wn wc, .slice la ln lc]); exact rfl; exact rfl; exact hr2; exact trivial)
    | (apply wo_po; apply mo_loadA (vs := [.slice ka kn kc, .slice da dn dc]); exact rfl; exact rfl; exact hr3; exact trivial)
    | (apply wo_mo; apply mo_buildSlice (sz := 2) (vs := [.agg #[.slice ka kn kc, .slice da dn dc]]); exact rfl; exact .cons rfl .nil; exact rfl; (intro v hv; cases (List.mem_singleton.1 hv); exact rfl); omega; exact trivial)
    | refine we_seq ?_
    | (refine we_region _ rfl rfl ?_; simp only [opsOf, List.map_cons, List.map_nil, Option.map_none, Option.map_some, List.getElem?_toArray, List.getElem?_cons_zero, List.getElem?_cons_succ, Option.bind_some, Option.getD_some])
    | refine wo_nil ?_
    | (apply wo_po; apply mo_assign; exact rfl; (first | exact trivial | exact rfl)))
  rintro v' L' ⟨cb, rfl, rfl⟩
  repeat (first
    | (apply wo_mo; apply mo_buildSlice (sz := 1) (vs := [.slice (some ⟨cb, 0, none⟩) 1 1]); exact rfl; exact .cons rfl .nil; exact rfl; (intro v hv; cases (List.mem_singleton.1 hv); exact rfl); omega; exact trivial))
  rintro v' L' ⟨tb, rfl, rfl⟩
  obtain ⟨cw, hcw⟩ : ∃ cw : CW, cw = ⟨some ⟨cb, 0, none⟩, 1, fun _ => (ka, kc), fun _ => (da, dc)⟩ := ⟨_, rfl⟩
  obtain ⟨FF, hFF⟩ : ∃ FF, FF = arr cb 0 [.slice ka kn kc, .slice da dn dc] :: vec 7 (.slice ka kn kc) (cl.code.map inC).flatten :: vec 1 (.slice da dn dc) (cl.data.map num) :: arr b5 0 [.slice none 0 0, .slice none 0 0] :: F := ⟨_, rfl⟩
  have hcc : CallsOk FF [(cw, [cl])] := by
    refine ⟨by show 1 < 1000; omega, fun y hy => ?_, fun y hy => ?_, fun y hy => ?_⟩
    · cases List.mem_singleton.1 hy
      rw [hFF, hcw]
      exact code_obs hkn' hdn' hka2 hda2 hka hda
    · cases List.mem_singleton.1 hy
      show ([cl].all Mach.Cl.ok) = true
      simp [hcl]
    · cases List.mem_singleton.1 hy
      show 1 < 1000000; omega
  refine wo_star (wvC (.slice wa wn wc) (.slice la ln lc) w :: vec 1 (.slice (some ⟨tb, 0, none⟩) 1 1) ([(cw, [cl])].map cvK) :: FF) (fun h st => ?_) ?_
  · rw [hFF]
    have s1 : Star (arr tb 0 [.slice (some ⟨cb, 0, none⟩) 1 1] :: wvC (.slice wa wn wc) (.slice la ln lc) w :: arr cb 0 [.slice ka kn kc, .slice da dn dc] :: vec 7 (.slice ka kn kc) (cl.code.map inC).flatten :: vec 1 (.slice da dn dc) (cl.data.map num) :: arr b5 0 [.slice none 0 0, .slice none 0 0] :: F) h := by
      refine Ent.star ?_ st
      exact (.take .here (.take (.there (.there (.there (.there (.there (.there .here)))))) (.take .here (.take (.there (.there (.there .here))) (.take (.there (.there (.there .here))) (.take .here (.drop (.drop .refl))))))))
    refine star_swap ?_
    rw [hcw]
    exact vec_new (n := 1) rfl s1
  refine wo_call (.cons rfl (.cons rfl (.cons rfl .nil))) trivial (play_tr (F := FF) (st := st) (o := []) (oa := none) (oc := 0) (cc := [(cw, [cl])]) (f := f) (g := g) hp hf hcc (by show 0 < 1000000; omega) (fun k hk => by cases hk) (fun i k hk => by simp at hk) .here .here) ?_
  rintro v L' x' ⟨trv, cutv, ansv, wv', lv', os, rfl, rfl, hos, hs⟩
  refine wo_star _ hs ?_
  rw [hFF]
  refine wo_pure (of_has .here (vec_shape (by omega))) ?_
  rintro ⟨ra, rn, rc, rfl, hrn, _, hra, hra2⟩
  have hrnn := tr_len hrn
  subst hrnn
  refine wo_pure (of_has (.there .here) (vec_shape (by omega))) ?_
  rintro ⟨ca, cn, cc, rfl, _⟩
  refine wo_pure (of_has (.there (.there (.there (.there .here)))) wv_shape) ?_
  rintro ⟨⟨wa', wn', wc', rfl⟩, la', ln', lc', rfl⟩
  repeat (first
    | (apply wo_mo; apply mo_alloc; exact trivial)
    | (apply wo_po; apply mo_move; exact rfl; (first | exact trivial | exact rfl))
    | (apply wo_po; apply mo_extract; exact rfl; exact rfl; (first | exact trivial | exact rfl)))
  rintro v' L' ⟨pb, rfl, rfl⟩
  repeat (first
    | (apply wo_mo; apply mo_alloc; exact trivial))
  rintro v' L' ⟨nb, rfl, rfl⟩
  repeat (first
    | (apply wo_pm; apply mo_storeA (b := pb) (c := 0) (k := 0) (a := 0) (vs := [.slice none 0 0, .slice none 0 0]); exact rfl; exact rfl; exact rfl; (intro w hw; simp [Value.cells] at hw; rcases hw with rfl | rfl <;> rfl); exact rfl; exact Nat.le_refl 2; exact (.there .here); exact trivial)
    | (apply wo_pm; apply mo_storeA (b := nb) (c := 0) (k := 0) (a := 0) (vs := [.slice none 0 0, .slice none 0 0]); exact rfl; exact rfl; exact rfl; (intro w hw; simp [Value.cells] at hw; rcases hw with rfl | rfl <;> rfl); exact rfl; exact Nat.le_refl 2; exact .here; exact trivial)
    | refine we_seq ?_
    | (refine we_region _ rfl rfl ?_; simp only [opsOf, List.map_cons, List.map_nil, Option.map_none, Option.map_some, List.getElem?_toArray, List.getElem?_cons_zero, List.getElem?_cons_succ, Option.bind_some, Option.getD_some])
    | refine wo_nil ?_
    | (apply wo_po; apply mo_assign; exact rfl; (first | exact trivial | exact rfl)))
  refine we_block ?_
  obtain ⟨F4, hF4⟩ : ∃ F4, F4 = vec 1 ansv (os.map (·.1)) :: all (os.map ansK) :: wvC (.slice wa' wn' wc') (.slice la' ln' lc') st.w :: wvC (.slice wa wn wc) (.slice la ln lc) w :: F := ⟨_, rfl⟩
  obtain ⟨F3, hF3⟩ : ∃ F3, F3 = arr nb 0 [.slice wa' wn' wc', .slice la' ln' lc'] :: arr pb 0 [.slice ra st.tr.length rc, .slice ca cn cc] :: vec 3 (.slice ra st.tr.length rc) (st.tr.map trC).flatten :: arr b5 0 [.slice none 0 0, .slice none 0 0] :: F4 := ⟨_, rfl⟩
  refine we_star ((aloneInv b5 pb nb ansv st x' F3).L (0, .slice none 0 0)) (fun h hs => ?_) ?_
  · dsimp only [aloneInv]
    refine vec_nil ?_
    rw [hF3, hF4]
    have s0 : Star (arr nb 0 [.slice wa' wn' wc', .slice la' ln' lc'] :: arr pb 0 [.slice ra st.tr.length rc, .slice ca cn cc] :: vec 3 (.slice ra st.tr.length rc) (st.tr.map trC).flatten :: vec 1 (.slice ca cn cc) (st.cut.map cI) :: vec 1 ansv (os.map (·.1)) :: all (os.map ansK) :: wvC (.slice wa' wn' wc') (.slice la' ln' lc') st.w :: vec 1 (.slice (some ⟨tb, 0, none⟩) 1 1) ([(cw, [cl])].map cvK) :: wvC (.slice wa wn wc) (.slice la ln lc) w :: arr cb 0 [.slice ka kn kc, .slice da dn dc] :: vec 7 (.slice ka kn kc) (cl.code.map inC).flatten :: vec 1 (.slice da dn dc) (cl.data.map num) :: arr b5 0 [.slice none 0 0, .slice none 0 0] :: F) h := hs
    refine Ent.star ?_ s0
    exact (.take .here (.take .here (.take .here (.take (.there (.there (.there (.there (.there (.there (.there (.there (.there .here))))))))) (.take (.there .here) (.take (.there .here) (.take (.there .here) (.take (.there (.there .here)) (.drop (.drop (.drop (.drop (.drop .refl)))))))))))))
  refine we_loopN (aloneInv b5 pb nb ansv st x' F3) (fun i => st.tr.length - i.1) (0, .slice none 0 0) (Nat.zero_le _) ⟨rfl, rfl, rfl, rfl, rfl, rfl, trivial⟩ .refl rfl ?_
  rintro ⟨i, mv⟩ hi
  dsimp only [aloneInv] at hi ⊢
  have htrl : ∀ d1 : HProp, Rd (d1 :: F3) pb 0 (.slice ra st.tr.length rc) := fun d1 => by rw [hF3]; exact .there (.there (Rd.row0 rfl))
  by_cases hc : i < st.tr.length
  · obtain ⟨⟨tk, m1, m2⟩, hti⟩ : ∃ z, st.tr[i]? = some z := ⟨st.tr[i], by simp [hc]⟩
    obtain ⟨⟨rb, ro, sp⟩, rfl⟩ : ∃ z, ra = some z := by
      cases ra with
      | none => have : st.tr.length = 0 := hra rfl; omega
      | some z => exact ⟨z, rfl⟩
    cases hra2 _ rfl
    refine we_pure (of_has .here (vec_shape (by omega))) ?_
    rintro ⟨ma, mn, mc, rfl, hmn, _⟩
    have hmn' : mn = i := by
      rw [flat_len (k := 2) (fun _ => rfl)] at hmn
      simp at hmn; omega
    subst hmn'
    have hmk : ∀ d1 : HProp, Rds (d1 :: F3) rb (ro + 3 * mn + 1) [.int .u8 (m1 : Nat), .int .i64 (m2 : Nat)] := fun d1 j v hj => by
      rw [hF3]
      have hj2 : j < 2 := (List.getElem?_eq_some_iff.1 hj).1
      have := rd_vec (i := 3 * mn + (1 + j)) (v := v) (L := d1 :: arr nb 0 [.slice wa' wn' wc', .slice la' ln' lc'] :: arr pb 0 [.slice (some ⟨rb, ro, none⟩) st.tr.length rc, .slice ca cn cc] :: vec 3 (.slice (some ⟨rb, ro, none⟩) st.tr.length rc) (st.tr.map trC).flatten :: arr b5 0 [.slice none 0 0, .slice none 0 0] :: F4) (.there (.there (.there .here))) (by
        rw [flat_get (k := 3) (fun _ => rfl) _ _ _ _ hti (by omega)]
        show (trC (tk, m1, m2))[1 + j]? = some v
        rw [← hj]
        show ([.int .i64 (tk : Nat), .int .u8 (m1 : Nat), .int .i64 (m2 : Nat)] : List Value)[1 + j]? = _
        rw [Nat.add_comm]; rfl)
      rwa [← Nat.add_assoc, ← Nat.add_assoc] at this
    repeat (first
      | (apply wo_po; apply mo_indexAddr (r := ro + 3 * mn); exact rfl; exact rfl; omega; omega; omega; exact trivial)
      | (apply wo_po; apply mo_load; exact rfl; exact htrl _; exact trivial)
      | (apply wo_po; apply mo_loadA (vs := [.int .u8 (m1 : Nat), .int .i64 (m2 : Nat)]); exact rfl; exact rfl; exact hmk _; exact trivial)
      | (apply wo_mo; apply mo_buildSlice (sz := 2) (vs := [.agg #[.int .u8 (m1 : Nat), .int .i64 (m2 : Nat)]]); exact rfl; exact .cons rfl .nil; exact rfl; (intro v hv; cases (List.mem_singleton.1 hv); exact rfl); omega; exact trivial)
      | (apply wo_po; apply mo_bin; exact rfl; exact rfl; apply bin_lssT; omega; (first | exact trivial | exact rfl))
      | refine we_seq ?_
      | (refine we_region _ rfl rfl ?_; simp only [opsOf, List.map_cons, List.map_nil, Option.map_none, Option.map_some, List.getElem?_toArray, List.getElem?_cons_zero, List.getElem?_cons_succ, Option.bind_some, Option.getD_some])
      | refine wo_nil ?_
      | (apply wo_po; apply mo_move; exact rfl; (first | exact trivial | exact rfl))
      | (apply wo_po; apply mo_fieldAddr; exact rfl; exact rfl; (first | exact Nat.zero_add _ | exact rfl); (first | exact trivial | exact rfl))
      | (apply wo_po; apply mo_len; exact rfl; (first | exact trivial | exact rfl))
      | (apply we_condT; exact rfl; (first | exact rfl | (simp <;> omega) | omega))
      | refine we_skip ?_
      | refine we_block ?_)
    rintro v' L' ⟨sb, rfl, rfl⟩
    repeat (first
      | (apply wo_mo; apply mo_append (sz := 2) (new := mkC (m1, m2)); exact rfl; exact rfl; exact rfl; exact rfl; exact (.there .here); exact rfl; exact .inr ⟨_, _, rfl, Rds.all .here⟩; (intro v hv; simp [mkC] at hv; rcases hv with rfl | rfl <;> rfl); (simp only [sliceLen]; omega); exact trivial))
    rintro v' L' rfl
    repeat (first
      | (refine we_region _ rfl rfl ?_; simp only [opsOf, List.map_cons, List.map_nil, Option.map_none, Option.map_some, List.getElem?_toArray, List.getElem?_cons_zero, List.getElem?_cons_succ, Option.bind_some, Option.getD_some])
      | refine wo_nil ?_
      | (apply wo_po; apply mo_move; exact rfl; (first | exact trivial | exact rfl))
      | (apply wo_po; apply mo_assign; exact rfl; (first | exact trivial | exact rfl))
      | (apply wo_po; apply mo_bin; exact rfl; exact rfl; apply bin_add; exact wrap_i64 (by omega) (by omega); (first | exact trivial | exact rfl)))
    refine at_round (I := aloneInv b5 pb nb ansv st x' F3) (R := fun i' => st.tr.length - i'.1 < st.tr.length - mn) (mn + 1, v') (by simp only; omega) (by show mn + 1 ≤ _; omega) ⟨rfl, rfl, rfl, rfl, rfl, rfl, trivial⟩ ?_ rfl
    dsimp only [aloneInv]
    rw [List.take_add_one, hti]
    have : ((List.map (·.2) (st.tr.take mn ++ (some (tk, m1, m2)).toList)).map mkC).flatten = ((List.map (·.2) (st.tr.take mn)).map mkC).flatten ++ mkC (m1, m2) := by simp
    rw [this]
    exact (.take .here (.drop .refl))
  · have hi2 : i = st.tr.length := by omega
    subst hi2
    repeat (first
      | (apply wo_po; apply mo_load; exact rfl; exact htrl _; exact trivial)
      | (apply wo_po; apply mo_bin; exact rfl; exact rfl; apply bin_lssF; omega; (first | exact trivial | exact rfl))
      | refine we_seq ?_
      | (refine we_region _ rfl rfl ?_; simp only [opsOf, List.map_cons, List.map_nil, Option.map_none, Option.map_some, List.getElem?_toArray, List.getElem?_cons_zero, List.getElem?_cons_succ, Option.bind_some, Option.getD_some])
      | refine wo_nil ?_
      | (apply wo_po; apply mo_move; exact rfl; (first | exact trivial | exact rfl))
      | (apply wo_po; apply mo_fieldAddr; exact rfl; exact rfl; (first | exact Nat.zero_add _ | exact rfl); (first | exact trivial | exact rfl))
      | (apply wo_po; apply mo_len; exact rfl; (first | exact trivial | exact rfl))
      | (apply we_condF; exact rfl; (first | exact rfl | (simp <;> omega) | omega))
      | refine we_exit ?_)
    rw [List.take_length]
    subst hF3
    subst hF4
    rw [hl] at hos
    obtain ⟨⟨av, aa0⟩, rfl⟩ : ∃ y, os = [y] := by
      have hos1 : os.length = 1 := by have := congrArg List.length hos; simpa using this
      exact List.length_eq_one_iff.1 hos1
    have haa : aa0 = [(d, told)] := by
      simp only [List.map_cons, List.map_nil, hans, List.cons.injEq, and_true] at hos
      exact hos
    subst haa
    refine we_star (ansK (av, [(d, told)]) :: arr nb 0 [.slice wa' wn' wc', .slice la' ln' lc'] :: arr b5 0 [.slice none 0 0, .slice none 0 0] :: vec 1 ansv [av] :: vec 2 mv ((st.tr.map (·.2)).map mkC).flatten :: wvC (.slice wa' wn' wc') (.slice la' ln' lc') st.w :: wvC (.slice wa wn wc) (.slice la ln lc) w :: F) (fun h hs => ?_) ?_
    · have s1 : Star (all [ansK (av, [(d, told)])] :: arr nb 0 [.slice wa' wn' wc', .slice la' ln' lc'] :: arr b5 0 [.slice none 0 0, .slice none 0 0] :: vec 1 ansv [av] :: vec 2 mv ((st.tr.map (·.2)).map mkC).flatten :: wvC (.slice wa' wn' wc') (.slice la' ln' lc') st.w :: wvC (.slice wa wn wc) (.slice la ln lc) w :: F) h := by
        refine Ent.star ?_ hs
        exact (.take (.there (.there (.there (.there (.there (.there .here)))))) (.take (.there .here) (.take (.there (.there (.there .here))) (.take (.there (.there (.there .here))) (.take .here (.take (.there (.there .here)) (.take (.there (.there .here)) (.drop (.drop .refl)))))))))
      exact star_open s1
    refine we_ex .here fun al => we_and .here fun e1 => we_open .here ?_
    obtain ⟨⟨d', tv, told'⟩, rfl⟩ : ∃ y, al = [y] := by
      have hal1 : al.length = 1 := by have := congrArg List.length e1; simpa using this
      exact List.length_eq_one_iff.1 hal1
    obtain ⟨rfl, rfl⟩ : d' = d ∧ told' = told := by
      simp only [List.map_cons, List.map_nil, ansOf, List.cons.injEq, Prod.mk.injEq, and_true] at e1
      exact e1
    refine we_star (vec 2 av [.bool d', tv] :: vec 1 tv (told'.map num) :: arr nb 0 [.slice wa' wn' wc', .slice la' ln' lc'] :: arr b5 0 [.slice none 0 0, .slice none 0 0] :: vec 1 ansv [av] :: vec 2 mv ((st.tr.map (·.2)).map mkC).flatten :: wvC (.slice wa' wn' wc') (.slice la' ln' lc') st.w :: wvC (.slice wa wn wc) (.slice la ln lc) w :: F) (fun h hs => ?_) ?_
    · exact star_map hs (fun _ z => z) (fun _ z => star_open z)
    refine we_pure (of_has .here (vec_shape (by omega))) ?_
    rintro ⟨aa, an, ac, rfl, han, _, haa, haa2⟩
    have han1 : an = 1 := by simp at han; omega
    subst han1
    obtain ⟨⟨ab, ao, sp⟩, rfl⟩ : ∃ z, aa = some z := by
      cases aa with
      | none => have : (1 : Nat) = 0 := haa rfl; omega
      | some z => exact ⟨z, rfl⟩
    cases haa2 _ rfl
    refine we_pure (of_has (.there (.there (.there (.there .here)))) (vec_shape (by omega))) ?_
    rintro ⟨qa, qn, qc, rfl, hqn, _, hqa, hqa2⟩
    have hqn1 : qn = 1 := by simp at hqn; omega
    subst hqn1
    obtain ⟨⟨qb, qo, sp⟩, rfl⟩ : ∃ z, qa = some z := by
      cases qa with
      | none => have : (1 : Nat) = 0 := hqa rfl; omega
      | some z => exact ⟨z, rfl⟩
    cases hqa2 _ rfl
    obtain ⟨F5, hF5⟩ : ∃ F5, F5 = vec 1 (.slice (some ⟨qb, qo, none⟩) 1 qc) [.slice (some ⟨ab, ao, none⟩) 1 ac] :: vec 2 mv ((st.tr.map (·.2)).map mkC).flatten :: wvC (.slice wa' wn' wc') (.slice la' ln' lc') st.w :: wvC (.slice wa wn wc) (.slice la ln lc) w :: F := ⟨_, rfl⟩
    rw [← hF5]
    have hq0 : ∀ d1 d2 d3 d4 : HProp, Rd (d1 :: d2 :: d3 :: d4 :: F5) qb (qo + 0) (.slice (some ⟨ab, ao, none⟩) 1 ac) := fun d1 d2 d3 d4 => by rw [hF5]; exact rd_vec (.there (.there (.there (.there .here)))) rfl
    have ht0 : ∀ {F : List HProp}, Rd (vec 2 (.slice (some ⟨ab, ao, none⟩) 1 ac) [.bool d', tv] :: F) ab (ao + 0 + 1) tv := fun {F} => rd_vec (i := 1) .here rfl
    have hn0 : ∀ {d1 d2 : HProp} {F : List HProp}, Rds (d1 :: d2 :: arr nb 0 [.slice wa' wn' wc', .slice la' ln' lc'] :: F) nb 0 [.slice wa' wn' wc', .slice la' ln' lc'] := fun {d1 d2 F} => Rds.all (.there (.there .here))
    refine we_draw (List.range' 0 11) (by kernel_rfl) ?_
    repeat (first
      | (apply ap_pure; exact rfl; exact rfl; exact trivial; intro L; apply mo_indexAddr (r := qo + 0); exact rfl; exact rfl; omega; omega; omega)
      | (apply ap_pure; exact rfl; exact rfl; exact trivial; intro L; apply mo_indexAddr (r := ao + 0); exact rfl; exact rfl; omega; omega; omega)
      | (apply ap_read; exact rfl; exact rfl; exact trivial; apply mo_load; exact rfl; exact hq0 _ _ _ _)
      | (apply ap_read; exact rfl; exact rfl; exact trivial; apply mo_load; exact rfl; exact ht0)
      | (apply ap_read; exact rfl; exact rfl; exact trivial; apply mo_loadA (vs := [.slice wa' wn' wc', .slice la' ln' lc']); exact rfl; exact rfl; exact hn0)
      | (apply ap_pure; exact rfl; exact rfl; (first | exact trivial | exact rfl); intro L; apply mo_move; exact rfl)
      | (apply ap_pure; exact rfl; exact rfl; (first | exact trivial | exact rfl); intro L; apply mo_assign; exact rfl)
      | (apply ap_pure; exact rfl; exact rfl; (first | exact trivial | exact rfl); intro L; apply mo_fieldAddr; exact rfl; exact rfl; (first | exact Nat.zero_add _ | exact rfl)))
    refine ap_loud rfl rfl rfl rfl rfl trivial (mo_storeA (c := 0) (k := 0) (a := 0) (vs := [.slice none 0 0, .slice none 0 0]) rfl rfl rfl (by intro w hw; simp [Value.cells] at hw; rcases hw with rfl | rfl <;> rfl) rfl (Nat.le_refl 2) (.there (.there (.there .here)))) ?_
    rintro v' L' ⟨rfl, rfl⟩
    repeat (first
      | (apply ap_pure; exact rfl; exact rfl; (first | exact trivial | exact rfl); intro L; apply mo_assign; exact rfl)
      | refine ap_end ?_)
    repeat (first
      | refine we_ret ?_)
    refine at_leaveM (rs := [.tmp 4, .cell 5 32, .tmp 6]) Try.func14 Try.results14 hQ (.inl rfl) (.cons (.tmp rfl) (.cons (.cell (vs := [.slice wa' wn' wc', .slice la' ln' lc']) rfl rfl (Rds.all (.there (.there (.there .here))))) (.cons (.tmp rfl) .nil))) ?_
    refine ⟨tv, _, _, mv, rfl, rfl, fun h hs => ?_⟩
    rw [hF5] at hs
    refine Ent.star ?_ hs
    exact (.take (.there .here) (.take (.there (.there (.there (.there (.there .here))))) (.take (.there (.there (.there (.there .here)))) (.take (.there (.there (.there (.there .here)))) (.drop (.drop (.drop (.drop .refl))))))))

end Go.Proofs.Ytmkkanmkjfnpdaa
