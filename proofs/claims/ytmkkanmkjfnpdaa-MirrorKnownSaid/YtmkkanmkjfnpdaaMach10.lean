/-
  patchbayref00's thread.op: worlds in memory; the operations that are told.
-/
import Derived.Test.YtmkkanmkjfnpdaaMach9
set_option linter.unusedVariables false
set_option linter.unusedSimpArgs false
namespace Go.Proofs.Ytmkkanmkjfnpdaa
open Go Go.PB
attribute [local irreducible] Mo Bin Eql Tr Wo Ap

variable {B : Hand} [Lets B] {L F G : List HProp} {x : B.X}

/-- a row of words, where it lies -/
def rowT (y : Value × List Nat) : HProp := vec 1 y.1 (y.2.map num)

/-- lists without pairs -/
def lstT (v : Value) : HProp := vec 2 v []
def lstC (lv : Value) (nl : Nat) : HProp := fun h => ∃ lw : List Value, lw.length = nl ∧ all [vec 1 lv lw, all (lw.map lstT)] h

/-- a world's rows, behind its two slices -/
def wdB (wv lv : Value) (wl : List (Value × List Nat)) (nl : Nat) : List HProp := [vec 1 wv (wl.map (·.1)), lstC lv nl, all (wl.map rowT)]

/-- a world in the block wb -/
def wdC (wb : Nat) (w : Mach.Wd) : HProp := fun h => ∃ y : Value × Value × List (Value × List Nat), y.2.2.map (·.2) = w.words ∧ w.ok ∧ all (arr wb 0 [y.1, y.2.1] :: wdB y.1 y.2.1 y.2.2 w.nl) h

omit [Lets B] in
theorem wd_close {wb : Nat} {w : Mach.Wd} {y : Value × Value × List (Value × List Nat)} (h1 : y.2.2.map (·.2) = w.words) (h2 : w.ok) {h : Hp} (s : Star ((arr wb 0 [y.1, y.2.1] :: wdB y.1 y.2.1 y.2.2 w.nl) ++ F) h) : Star (wdC wb w :: F) h :=
  star_map (star_shut s) (fun _ z => ⟨y, h1, h2, z⟩) (fun _ z => z)

omit [Lets B] in
theorem tr_wd {wb : Nat} {w : Mach.Wd} {f : FuncId} {args : List Value} {R : Value → List HProp → B.X → Prop} (hh : Has L (wdC wb w) F)
    (k : ∀ y : Value × Value × List (Value × List Nat), y.2.2.map (·.2) = w.words → w.ok → Tr Try.prog B f args ((arr wb 0 [y.1, y.2.1] :: wdB y.1 y.2.1 y.2.2 w.nl) ++ F) x R) : Tr Try.prog B f args L x R :=
  tr_ex hh fun y => tr_and .here fun h1 => tr_and .here fun h2 => tr_star _ (fun h st => star_open st) (k y h1 h2)

theorem op1_len {y : Mach.In} {l : List Nat} {p : Nat} {r : Nat → Nat} : (Mach.op1 y l p r).1.length = l.length := by
  unfold Mach.op1
  dsimp only
  split <;> (try split) <;> simp

theorem op1_lt {y : Mach.In} {l : List Nat} {p : Nat} {r : Nat → Nat} (hl : ∀ v ∈ l, v < 18446744073709551616) (hr : ∀ j, r j < 18446744073709551616) : (∀ v ∈ (Mach.op1 y l p r).1, v < 18446744073709551616) ∧ ∀ j, (Mach.op1 y l p r).2 j < 18446744073709551616 := by
  have hv : l.getD p 0 < 18446744073709551616 := by
    rw [List.getD_eq_getElem?_getD]
    cases h : l[p]? with
    | none => decide
    | some v => exact hl v (List.mem_of_getElem? h)
  have hs : ∀ u, u < 18446744073709551616 → ∀ v ∈ l.set p u, v < 18446744073709551616 := fun u hu v hm => by
    rcases List.mem_or_eq_of_mem_set hm with h | h
    · exact hl v h
    · omega
  have hu : ∀ u, u < 18446744073709551616 → ∀ j, upd r y.a u j < 18446744073709551616 := fun u h j => by
    unfold upd; split
    · exact h
    · exact hr j
  have hm : ∀ n : Nat, n % 18446744073709551616 < 18446744073709551616 := fun n => Nat.mod_lt _ (by decide)
  unfold Mach.op1
  dsimp only
  split <;> (try split) <;> constructor <;> first | exact hl | exact hr | exact hs _ (hr _) | exact hs _ (hm _) | exact hu _ hv | exact hu _ (hm _) | exact hu _ (by decide)

theorem wd_op {w : Mach.Wd} {y : Mach.In} {p on : Nat} {r : Nat → Nat} (hw : w.ok) (hr : ∀ j, r j < 18446744073709551616) : ({ w with words := w.words.set on (Mach.op1 y (w.row on) p r).1 } : Mach.Wd).ok := by
  by_cases hon : on < w.words.length
  · have hrow : w.row on ∈ w.words := by
      unfold Mach.Wd.row
      rw [List.getD_eq_getElem?_getD, List.getElem?_eq_getElem hon]; simp
    refine ⟨by simp; exact hw.n, hw.nl, fun l hl => ?_, fun l hl => ?_⟩
    · rcases List.mem_or_eq_of_mem_set hl with h | rfl
      · exact hw.len l h
      · rw [op1_len]; exact hw.len _ hrow
    · rcases List.mem_or_eq_of_mem_set hl with h | rfl
      · exact hw.lt l h
      · exact (op1_lt (hw.lt _ hrow) hr).1
  · rw [List.set_eq_of_length_le (by omega)]; exact hw

theorem op1_1 {y : Mach.In} {l : List Nat} {p : Nat} {r : Nat → Nat} (h : y.op = 1) : Mach.op1 y l p r = (l, upd r y.a (l.getD p 0)) := by cases y; simp only at h; subst h; rfl
theorem op1_2 {y : Mach.In} {l : List Nat} {p : Nat} {r : Nat → Nat} (h : y.op = 2) : Mach.op1 y l p r = (l.set p (r y.a), r) := by cases y; simp only at h; subst h; rfl
theorem op1_3 {y : Mach.In} {l : List Nat} {p : Nat} {r : Nat → Nat} (h : y.op = 3) : Mach.op1 y l p r = (l.set p ((l.getD p 0 + r y.c) % 18446744073709551616), upd r y.a ((l.getD p 0 + r y.c) % 18446744073709551616)) := by cases y; simp only at h; subst h; rfl
theorem op1_4 {y : Mach.In} {l : List Nat} {p : Nat} {r : Nat → Nat} (h : y.op = 4) : Mach.op1 y l p r = (l.set p (r y.c), upd r y.a (l.getD p 0)) := by cases y; simp only at h; subst h; rfl
theorem op1_5 {y : Mach.In} {l : List Nat} {p : Nat} {r : Nat → Nat} (h : y.op = 5) : Mach.op1 y l p r = if l.getD p 0 = r y.c then (l.set p (r y.d), upd r y.a 1) else (l, upd r y.a 0) := by cases y; simp only at h; subst h; rfl

theorem map_num_set {l : List Nat} {p v : Nat} : (l.map num).set p (num v) = (l.set p v).map num := by rw [List.map_set]

omit [Lets B] in
theorem op_back {tb wb on : Nat} {cv av wv lv iv : Value} {t : Mach.Th} {al : List (Bool × Value × List Nat)} {wl : List (Value × List Nat)} {w : Mach.Wd} {l row' : List Nat} {M : List HProp} (e1 : al.map ansOf = t.ans) (hr : ∀ j, t.r j < 18446744073709551616) (e2 : wl.map (·.2) = w.words) (hon : wl[on]? = some (iv, l))
    (hok : ({ w with words := w.words.set on row' } : Mach.Wd).ok) {h : Hp}
    (s : Star (arr tb 0 (thCells cv t av) :: vec 1 iv (row'.map num) :: arr wb 0 [wv, lv] :: vec 1 wv (wl.map (·.1)) :: all ((wl.map rowT).eraseIdx on) :: lstC lv w.nl :: vec 2 av (al.map ansV).flatten :: all (al.map ansT) :: M) h) :
    Star (thC tb cv t :: wdC wb { w with words := w.words.set on row' } :: M) h := by
  have hlt : on < wl.length := (List.getElem?_eq_some_iff.1 hon).1
  have s1 : Star (vec 1 iv (row'.map num) :: all ((wl.map rowT).eraseIdx on) :: arr wb 0 [wv, lv] :: vec 1 wv (wl.map (·.1)) :: lstC lv w.nl :: arr tb 0 (thCells cv t av) :: vec 2 av (al.map ansV).flatten :: all (al.map ansT) :: M) h := by
    refine Ent.star ?_ s
    exact .take (.there .here) (.take (.there (.there (.there .here))) (.take (.there .here) (.take (.there .here) (.take (.there .here) (.take .here .refl)))))
  have s2 := star_put (M := wl.map rowT) (by simpa using hlt) s1
  have hs : (wl.map rowT).set on (vec 1 iv (row'.map num)) = (wl.set on (iv, row')).map rowT := by rw [List.map_set]; rfl
  have hf : (wl.set on (iv, row')).map (·.1) = wl.map (·.1) := by
    rw [List.map_set]
    apply List.ext_getElem?
    intro j
    rw [List.getElem?_set]
    by_cases e : on = j
    · subst e; rw [if_pos rfl, if_pos (by simpa using hlt), List.getElem?_map, hon]; rfl
    · rw [if_neg e]
  rw [hs] at s2
  have s3 : Star ((arr wb 0 [wv, lv] :: wdB wv lv (wl.set on (iv, row')) w.nl) ++ (arr tb 0 (thCells cv t av) :: vec 2 av (al.map ansV).flatten :: all (al.map ansT) :: M)) h := by
    unfold wdB
    rw [hf]
    refine Ent.star ?_ s2
    exact .take (.there .here) (.take (.there .here) (.take (.there .here) (.take .here .refl)))
  have s4 := wd_close (w := { w with words := w.words.set on row' }) (y := (wv, lv, wl.set on (iv, row'))) (by show (wl.set on (iv, row')).map (·.2) = w.words.set on row'; rw [List.map_set, e2]) hok s3
  have s5 : Star (thB tb cv t (av, al) ++ (wdC wb { w with words := w.words.set on row' } :: M)) h := by
    refine Ent.star ?_ s4
    exact .take (.there .here) (.take (.there .here) (.take (.there .here) (.take .here .refl)))
  exact th_close e1 hr s5

/-- behind the operation, ahead of going on -/
def opMid (tb xb mb : Nat) (wv cv av iv : Value) (y : Mach.In) (t : Mach.Th) (l : List Nat) (p : Nat) (G : List HProp) (x : B.X) : Inv Unit B.X where
  e := fun _ => [(0, .pointer (some ⟨tb, 0, none⟩)), (1, wv), (4, .pointer (some ⟨mb, 0, none⟩)), (5, .pointer (some ⟨xb, 0, none⟩)), (7, .int .i64 (p : Nat))]
  L := fun _ => arr xb 0 (inC y) :: arr mb 0 [.int .u8 0, .int .i64 0] :: arr tb 0 (thCells cv { t with r := (Mach.op1 y l p t.r).2 } av) :: vec 1 iv ((Mach.op1 y l p t.r).1.map num) :: G
  x := fun _ => x
  ok := fun _ => True

set_option maxHeartbeats 8000000 in
theorem op_tr {tb wb : Nat} {cw : CW} {cs : List Mach.Cl} {w w' : Mach.Wd} {t t' : Mach.Th} {f : Nat} (ho : Mach.opF f w t = some (w', t')) (g : Good cs t (f + 1)) (hf : f + 1 < 1000000000) (hlt : t.call < cs.length) (htold : Mach.told t.next.op = true)
    (hh : Has L (thC tb (cw.v cs.length) t) F) (hw : Has F (wdC wb w) G) (hcode : Obs G (codeC cw cs)) :
    Tr Try.prog B 61 [.pointer (some ⟨tb, 0, none⟩), .pointer (some ⟨wb, 0, none⟩)] L x fun v L' x' => v = .agg #[.int .u8 (t.mark.1 : Nat), .int .i64 (t.mark.2 : Nat)] ∧ L' = thC tb (cw.v cs.length) t' :: wdC wb w' :: G ∧ x' = x := by
  refine Tr.post (R := fun v L' x' => v = .agg #[.int .u8 (t.mark.1 : Nat), .int .i64 (t.mark.2 : Nat)] ∧ x' = x ∧ ∀ h, Star L' h → Star (thC tb (cw.v cs.length) t' :: wdC wb w' :: G) h) ?_ (by rintro v L' x' ⟨rfl, rfl, hs⟩; exact ⟨_, ⟨rfl, rfl, rfl⟩, hs⟩)
  refine tr_star (thC tb (cw.v cs.length) t :: wdC wb w :: G) (fun h s => star_map (hh.star s) (fun _ z => z) (fun _ z => hw.star z)) ?_
  clear hh hw
  refine tr_th .here ?_
  rintro ⟨av, al⟩ e1 hr
  refine tr_wd (.there (.there (.there .here))) ?_
  rintro ⟨wv, lv, wl⟩ e2 hwok
  dsimp only at e1 e2
  -- the operation
  unfold Mach.opF at ho
  obtain ⟨y, hy⟩ : ∃ y, y = t.next := ⟨_, rfl⟩
  obtain ⟨p, hp⟩ : ∃ p, p = t.place := ⟨_, rfl⟩
  obtain ⟨l, hl⟩ : ∃ l, l = w.row y.on := ⟨_, rfl⟩
  rw [← hy, ← hp, ← hl] at ho
  by_cases hpl : p < l.length
  case neg => rw [if_neg hpl] at ho; cases ho
  rw [if_pos hpl] at ho
  dsimp only at ho
  have hyok : y.ok = true := by
    rcases g.next hlt with h | ⟨h, _⟩
    · rw [h] at htold; cases htold
    · rw [hy]; exact h
  rw [← hy] at htold
  have hpc : t.pc + 1 < 1000000 := by
    rcases g.next hlt with h | ⟨_, h⟩
    · rw [← hy] at h; rw [h] at htold; cases htold
    · exact h
  obtain ⟨kk, hkk⟩ : ∃ kk, kk = y.op := ⟨_, rfl⟩
  have hyok2 := hyok
  simp only [Mach.In.ok, Bool.and_eq_true, decide_eq_true_eq, Bool.or_eq_true, Bool.not_eq_true', decide_eq_false_iff_not] at hyok2
  obtain ⟨⟨⟨⟨⟨⟨⟨⟨⟨⟨_, _⟩, ha⟩, hb⟩, hc⟩, hd⟩, hon⟩, hn⟩, _⟩, _⟩, _⟩ := hyok2
  have h15 : 1 ≤ y.op ∧ y.op ≤ 5 := by simpa [Mach.told] using htold
  have hplace : (t.r y.b + y.n) % 18446744073709551616 = p := by rw [hp, hy]; rfl
  -- the row that it is on
  have honl : y.on < wl.length := by
    have h1 : ¬ w.words.length ≤ y.on := fun h => by
      rw [hl] at hpl; unfold Mach.Wd.row at hpl
      rw [List.getD_eq_getElem?_getD, List.getElem?_eq_none h] at hpl; simp at hpl
    rw [← e2, List.length_map] at h1; omega
  obtain ⟨⟨iv, l2⟩, hwl⟩ : ∃ z, wl[y.on]? = some z := ⟨wl[y.on], by simp [honl]⟩
  have hl2 : l2 = l := by
    rw [hl]; unfold Mach.Wd.row
    rw [← e2, List.getD_eq_getElem?_getD, List.getElem?_map, hwl]; rfl
  subst hl2
  have hlm : l2 ∈ w.words := by rw [← e2]; exact List.mem_map.2 ⟨_, List.mem_of_getElem? hwl, rfl⟩
  have hll := hwok.len _ hlm
  have hlv := hwok.lt _ hlm
  have hwn : wl.length < 1000000 := by have := hwok.n; rw [← e2, List.length_map] at this; exact this
  refine tr_star (arr tb 0 (thCells (cw.v cs.length) t av) :: vec 1 iv (l2.map num) :: arr wb 0 [wv, lv] :: vec 1 wv (wl.map (·.1)) :: all ((wl.map rowT).eraseIdx y.on) :: lstC lv w.nl :: vec 2 av (al.map ansV).flatten :: all (al.map ansT) :: G) (fun h s => ?_) ?_
  · have s1 : Star (all (wl.map rowT) :: arr wb 0 [wv, lv] :: vec 1 wv (wl.map (·.1)) :: lstC lv w.nl :: arr tb 0 (thCells (cw.v cs.length) t av) :: vec 2 av (al.map ansV).flatten :: all (al.map ansT) :: G) h := by
      refine Ent.star ?_ s
      exact .take (.there (.there (.there .here))) (.take .here (.take .here (.take .here .refl)))
    have s2 := star_pick (i := y.on) (c := rowT (iv, l2)) (by rw [List.getElem?_map, hwl]; rfl) s1
    refine Ent.star ?_ s2
    exact .take (.there (.there (.there (.there (.there .here))))) (.take .here (.take (.there .here) (.take (.there .here) (.take .here (.take .here .refl)))))
  obtain ⟨R, hR⟩ : ∃ R, R = all ((wl.map rowT).eraseIdx y.on) :: lstC lv w.nl :: vec 2 av (al.map ansV).flatten :: all (al.map ansT) :: G := ⟨_, rfl⟩
  rw [← hR]
  have hcodeR : ∀ {d1 d2 d3 d4 : HProp}, Obs (d1 :: d2 :: d3 :: d4 :: R) (codeC cw cs) := fun {d1 d2 d3 d4} => by rw [hR]; exact .there (.there (.there (.there (.there (.there (.there (.there hcode)))))))
  -- shapes
  refine tr_pure (of_has (.there .here) (vec_shape (by omega))) ?_
  rintro ⟨ia, inn, ic, rfl, hin, _, hia, hia2⟩
  have hinn : inn = l2.length := by simpa using hin.symm
  subst hinn
  obtain ⟨⟨ib, io, sp⟩, rfl⟩ : ∃ z, ia = some z := by
    cases ia with
    | none => have := hia rfl; omega
    | some z => exact ⟨z, rfl⟩
  cases hia2 _ rfl
  refine tr_pure (of_has (.there (.there (.there .here))) (vec_shape (by omega))) ?_
  rintro ⟨va, vn, vc, rfl, hvn, _, hva, hva2⟩
  have hvnn : vn = wl.length := by simpa using hvn.symm
  subst hvnn
  obtain ⟨⟨vb, vo, sp⟩, rfl⟩ : ∃ z, va = some z := by
    cases va with
    | none => have := hva rfl; omega
    | some z => exact ⟨z, rfl⟩
  cases hva2 _ rfl
  -- the next instruction
  obtain ⟨cl, hcl⟩ : ∃ cl, cs[t.call]? = some cl := ⟨cs[t.call], by simp [hlt]⟩
  have hnx : y = cl.code.getD t.pc Mach.fin := by rw [hy]; unfold Mach.Th.next Mach.Th.cl; rw [g.calls, List.getD_eq_getElem?_getD (l := cs), hcl]; rfl
  obtain ⟨cv, hcv⟩ : ∃ cv, cv = cw.v cs.length := ⟨_, rfl⟩
  have hcode' := @hcodeR (arr tb 0 (thCells (cw.v cs.length) t av)) (vec 1 (.slice (some ⟨ib, io, none⟩) l2.length ic) (l2.map num)) (arr wb 0 [.slice (some ⟨vb, vo, none⟩) wl.length vc, lv]) (vec 1 (.slice (some ⟨vb, vo, none⟩) wl.length vc) (wl.map (·.1)))
  refine tr_pure (fun h st => code_at hcode' hcl h st) ?_
  rintro ⟨cb, co, hca⟩
  refine tr_pure (p := ∀ y, cl.code[t.pc]? = some y → ∃ kb ko, (cw.k t.call).1 = some ⟨kb, ko, none⟩) (fun h st y hy => (rd_instr hcode' hcl hy).1 h st) ?_
  intro hk
  have hcvs : cw.v cs.length = .slice (some ⟨cb, co, none⟩) cs.length cw.c := by unfold CW.v; rw [hca]
  have hn := fun (mb : Nat) (c : HProp) => next_tr (B := B) (L := c :: arr tb 0 (thCells (cw.v cs.length) t av) :: vec 1 (.slice (some ⟨ib, io, none⟩) l2.length ic) (l2.map num) :: arr wb 0 [.slice (some ⟨vb, vo, none⟩) wl.length vc, lv] :: vec 1 (.slice (some ⟨vb, vo, none⟩) wl.length vc) (wl.map (·.1)) :: R) (x := x) (tb := tb) (cb := cb) (co := co) (ncalls := cs.length) (ccap := cw.c) (call := t.call) (pc := t.pc) (code := cl.code)
    (.there (Rd.row0 (by rw [hcvs]; rfl))) (.there (Rd.row0 rfl)) (.there (Rd.row0 rfl)) hlt (.there (rd_code hcode' hcl hca).1) (fun y hy => by
      obtain ⟨kb, ko, e⟩ := hk y hy
      exact ⟨kb, ko, e, fun i v hi => .there ((rd_instr hcode' hcl hy).2 kb ko e i v hi)⟩)
  rw [← hnx] at hn
  rw [← hcv] at hn ⊢
  have hregs : ∀ {d1 d2 : HProp} {R : List HProp}, ∀ j, j < 24 → Rd (d1 :: d2 :: arr tb 0 (thCells cv t av) :: R) tb (3 + j) (num (t.r j)) := fun {d1 d2 R} j h => rd_reg (.there (.there .here)) h
  refine tr_of_body Try.func61 rfl Try.ntmps61 (by simp) fun um Q hQ => ?_
  simp only [argE, Nat.zero_add, Nat.reduceAdd]
  repeat (first
    | (apply wo_mo; apply mo_alloc; exact trivial)
    | refine we_seq ?_
    | (refine we_region _ rfl rfl ?_; simp only [opsOf, List.map_cons, List.map_nil, Option.map_none, Option.map_some, List.getElem?_toArray, List.getElem?_cons_zero, List.getElem?_cons_succ, Option.bind_some, Option.getD_some]))
  rintro v' L' ⟨mb, rfl, rfl⟩
  repeat (first
    | refine we_seq ?_
    | (refine we_region _ rfl rfl ?_; simp only [opsOf, List.map_cons, List.map_nil, Option.map_none, Option.map_some, List.getElem?_toArray, List.getElem?_cons_zero, List.getElem?_cons_succ, Option.bind_some, Option.getD_some])
    | refine wo_nil ?_
    | (apply wo_po; apply mo_move; exact rfl; (first | exact trivial | exact rfl)))
  refine wo_call (.cons rfl .nil) trivial (hn mb _) ?_
  rintro v' L' x' ⟨rfl, rfl, rfl⟩
  repeat (first
    | (apply wo_mo; apply mo_alloc; exact trivial))
  rintro v' L' ⟨xb, rfl, rfl⟩
  repeat (first
    | (apply wo_pm; apply mo_storeA (c := 0) (k := 0) (a := 0) (vs := inC { op := 0 }) (v := .agg (inC y).toArray); exact rfl; exact rfl; exact rfl; (intro w hw; simp [Value.cells, inC] at hw; rcases hw with rfl | rfl | rfl | rfl | rfl | rfl | rfl <;> rfl); exact rfl; exact Nat.le_refl 7; exact .here; exact trivial)
    | refine we_seq ?_
    | (refine we_region _ rfl rfl ?_; simp only [opsOf, List.map_cons, List.map_nil, Option.map_none, Option.map_some, List.getElem?_toArray, List.getElem?_cons_zero, List.getElem?_cons_succ, Option.bind_some, Option.getD_some])
    | refine wo_nil ?_
    | (apply wo_po; apply mo_move; exact rfl; (first | exact trivial | exact rfl))
    | (apply wo_po; apply mo_assign; exact rfl; (first | exact trivial | exact rfl))
    | (apply wo_po; apply mo_nilCheck; exact rfl; (first | exact trivial | exact rfl))
    | (apply wo_po; apply mo_fieldAddr; exact rfl; exact rfl; (first | exact Nat.zero_add _ | exact rfl); (first | exact trivial | exact rfl)))
  obtain ⟨R2, hR2⟩ : ∃ R2, R2 = arr wb 0 [.slice (some ⟨vb, vo, none⟩) wl.length vc, lv] :: vec 1 (.slice (some ⟨vb, vo, none⟩) wl.length vc) (wl.map (·.1)) :: R := ⟨_, rfl⟩
  refine we_ent (arr xb 0 (inC y) :: arr mb 0 [.int .u8 0, .int .i64 0] :: arr tb 0 (thCells cv t av) :: vec 1 (.slice (some ⟨ib, io, none⟩) l2.length ic) (l2.map num) :: R2) (ent_eq (by rw [hR2]; rfl)) ?_
  have hreg := @hregs (arr xb 0 (inC y)) (arr mb 0 [.int .u8 0, .int .i64 0]) (vec 1 (.slice (some ⟨ib, io, none⟩) l2.length ic) (l2.map num) :: R2)
  have hadd : IntKind.u64.wrap ((t.r y.b : Int) + (y.n : Int)) = (p : Int) := by rw [← hplace]; exact u64_add
  have hpw : IntKind.i64.wrap (p : Int) = (p : Int) := wrap_i64 (by omega) (by omega)
  have hwrd : Rd (arr xb 0 (inC y) :: arr mb 0 [.int .u8 0, .int .i64 0] :: arr tb 0 (thCells cv t av) :: vec 1 (.slice (some ⟨ib, io, none⟩) l2.length ic) (l2.map num) :: R2) wb 0 (.slice (some ⟨vb, vo, none⟩) wl.length vc) := by rw [hR2]; exact .there (.there (.there (.there (.row0 rfl))))
  have hiv : Rd (arr xb 0 (inC y) :: arr mb 0 [.int .u8 0, .int .i64 0] :: arr tb 0 (thCells cv t av) :: vec 1 (.slice (some ⟨ib, io, none⟩) l2.length ic) (l2.map num) :: R2) vb (vo + y.on) (.slice (some ⟨ib, io, none⟩) l2.length ic) := by
    rw [hR2]; exact rd_vec (.there (.there (.there (.there (.there .here))))) (by rw [List.getElem?_map, hwl]; rfl)
  refine we_draw (List.range' 0 11) (by kernel_rfl) ?_
  repeat (first
    | (apply ap_pure; exact rfl; exact rfl; exact trivial; intro L; apply mo_indexArr1; exact rfl; exact rfl; omega)
    | (apply ap_read; exact rfl; exact rfl; exact trivial; apply mo_load; exact rfl; exact hreg _ hb)
    | (apply ap_pure; exact rfl; exact rfl; exact trivial; intro L; apply mo_bin; exact rfl; exact rfl; apply bin_add; exact hadd)
    | (apply ap_pure; exact rfl; exact rfl; exact trivial; intro L; apply mo_conv; exact rfl; exact hpw)
    | (apply ap_pure; exact rfl; exact rfl; (first | exact trivial | exact rfl); intro L; apply mo_move; exact rfl)
    | (apply ap_pure; exact rfl; exact rfl; (first | exact trivial | exact rfl); intro L; apply mo_assign; exact rfl)
    | (apply ap_pure; exact rfl; exact rfl; (first | exact trivial | exact rfl); intro L; apply mo_nilCheck; exact rfl)
    | (apply ap_pure; exact rfl; exact rfl; (first | exact trivial | exact rfl); intro L; apply mo_fieldAddr; exact rfl; exact rfl; (first | exact Nat.zero_add _ | exact rfl))
    | (apply ap_read; exact rfl; exact rfl; (first | exact trivial | exact rfl); apply mo_load; exact rfl; (repeat (first | exact Rd.row0 rfl | exact Rd.row rfl rfl | exact Rd.still | apply Rd.there)))
    | refine ap_end ?_)
  repeat (first
    | refine we_seq ?_)
  refine we_draw (List.range' 0 11) (by kernel_rfl) ?_
  repeat (first
    | (apply ap_read; exact rfl; exact rfl; exact trivial; apply mo_load; exact rfl; exact hwrd)
    | (apply ap_pure; exact rfl; exact rfl; exact trivial; intro L; apply mo_index1; exact rfl; exact rfl; omega)
    | (apply ap_read; exact rfl; exact rfl; exact trivial; apply mo_load; exact rfl; exact hiv)
    | (apply ap_pure; exact rfl; exact rfl; (first | exact trivial | exact rfl); intro L; apply mo_move; exact rfl)
    | (apply ap_pure; exact rfl; exact rfl; (first | exact trivial | exact rfl); intro L; apply mo_assign; exact rfl)
    | (apply ap_pure; exact rfl; exact rfl; (first | exact trivial | exact rfl); intro L; apply mo_nilCheck; exact rfl)
    | (apply ap_pure; exact rfl; exact rfl; (first | exact trivial | exact rfl); intro L; apply mo_fieldAddr; exact rfl; exact rfl; (first | exact Nat.zero_add _ | exact rfl))
    | (apply ap_read; exact rfl; exact rfl; (first | exact trivial | exact rfl); apply mo_load; exact rfl; (repeat (first | exact Rd.row0 rfl | exact Rd.row rfl rfl | exact Rd.still | apply Rd.there)))
    | refine ap_end ?_)
  repeat (first
    | refine we_seq ?_
    | (refine we_region _ rfl rfl ?_; simp only [opsOf, List.map_cons, List.map_nil, Option.map_none, Option.map_some, List.getElem?_toArray, List.getElem?_cons_zero, List.getElem?_cons_succ, Option.bind_some, Option.getD_some])
    | refine wo_nil ?_
    | (apply wo_po; apply mo_fieldAddr; exact rfl; exact rfl; (first | exact Nat.zero_add _ | exact rfl); (first | exact trivial | exact rfl))
    | (apply wo_po; apply mo_load; exact rfl; (repeat (first | exact Rd.row0 rfl | exact Rd.row rfl rfl | exact Rd.still | apply Rd.there)); (first | exact trivial | exact rfl)))
  refine we_join (opMid tb xb mb (.pointer (some ⟨wb, 0, none⟩)) cv av (.slice (some ⟨ib, io, none⟩) l2.length ic) y t l2 p R2 x') ?_ ?_
  · obtain ⟨v, hv⟩ : ∃ v, l2[p]? = some v := ⟨l2[p], by simp [hpl]⟩
    have hvd : l2.getD p 0 = v := by rw [List.getD_eq_getElem?_getD, hv]; rfl
    have hvlt := hlv v (List.mem_of_getElem? hv)
    have hpn : p < (l2.map num).length := by simpa using hpl
    have hword : Rd (arr xb 0 (inC y) :: arr mb 0 [.int .u8 0, .int .i64 0] :: arr tb 0 (thCells cv t av) :: vec 1 (.slice (some ⟨ib, io, none⟩) l2.length ic) (l2.map num) :: R2) ib (io + p) (num v) := rd_vec (.there (.there (.there .here))) (by rw [List.getElem?_map, hv]; rfl)
    have va := hr y.a
    have vc := hr y.c
    have hops : y.op = 1 ∨ y.op = 2 ∨ y.op = 3 ∨ y.op = 4 ∨ y.op = 5 := by omega
    rcases hops with h | h | h | h | h
    · have h' : (y.op : Int) = 1 := by omega
      have hop : Mach.op1 y l2 p t.r = (l2, upd t.r y.a v) := by rw [op1_1 h, hvd]
      repeat (first
        | (apply wo_po; apply mo_bin; exact rfl; exact rfl; apply bin_eqlT; omega; (first | exact trivial | exact rfl))
        | refine we_seq ?_
        | (refine we_region _ rfl rfl ?_; simp only [opsOf, List.map_cons, List.map_nil, Option.map_none, Option.map_some, List.getElem?_toArray, List.getElem?_cons_zero, List.getElem?_cons_succ, Option.bind_some, Option.getD_some])
        | refine wo_nil ?_
        | (apply wo_po; apply mo_assign; exact rfl; (first | exact trivial | exact rfl))
        | (apply we_condT; exact rfl; (first | exact rfl | (simp <;> omega) | omega))
        | refine we_block ?_)
      refine we_draw (List.range' 0 9) (by kernel_rfl) ?_
      repeat (first
        | (apply ap_pure; exact rfl; exact rfl; exact trivial; intro L; apply mo_indexArr1; exact rfl; exact rfl; omega)
        | (apply ap_read; exact rfl; exact rfl; exact trivial; apply mo_load; exact rfl; exact hword)
        | (apply ap_pure; exact rfl; exact rfl; (first | exact trivial | exact rfl); intro L; apply mo_move; exact rfl)
        | (apply ap_pure; exact rfl; exact rfl; (first | exact trivial | exact rfl); intro L; apply mo_nilCheck; exact rfl)
        | (apply ap_pure; exact rfl; exact rfl; (first | exact trivial | exact rfl); intro L; apply mo_fieldAddr; exact rfl; exact rfl; (first | exact Nat.zero_add _ | exact rfl))
        | (apply ap_read; exact rfl; exact rfl; (first | exact trivial | exact rfl); apply mo_load; exact rfl; (repeat (first | exact Rd.row0 rfl | exact Rd.row rfl rfl | exact Rd.still | apply Rd.there))))
      refine ap_loud rfl rfl rfl rfl rfl trivial (mo_store rfl rfl rfl (Wt.row0 (k := 3 + y.a) (vs := thCells cv t av) (.there (.there .here)) (by rw [thCells_len]; omega))) ?_
      rintro v' L' ⟨rfl, rfl⟩
      refine ap_end ?_
      skip
      refine at_mid (I := opMid tb xb mb (.pointer (some ⟨wb, 0, none⟩)) cv av (.slice (some ⟨ib, io, none⟩) l2.length ic) y t l2 p R2 x') () trivial ⟨rfl, rfl, rfl, rfl, rfl, trivial⟩ (ent_eq ?_) rfl
      simp only [opMid, hop]
      rw [thCells_set ha]
    · have h' : (y.op : Int) = 2 := by omega
      have hop : Mach.op1 y l2 p t.r = (l2.set p (t.r y.a), t.r) := op1_2 h
      repeat (first
        | (apply wo_po; apply mo_bin; exact rfl; exact rfl; apply bin_eqlT; omega; (first | exact trivial | exact rfl))
        | (apply wo_po; apply mo_bin; exact rfl; exact rfl; apply bin_eqlF; omega; (first | exact trivial | exact rfl))
        | refine we_seq ?_
        | (refine we_region _ rfl rfl ?_; simp only [opsOf, List.map_cons, List.map_nil, Option.map_none, Option.map_some, List.getElem?_toArray, List.getElem?_cons_zero, List.getElem?_cons_succ, Option.bind_some, Option.getD_some])
        | refine wo_nil ?_
        | (apply wo_po; apply mo_assign; exact rfl; (first | exact trivial | exact rfl))
        | (apply we_condT; exact rfl; (first | exact rfl | (simp <;> omega) | omega))
        | (apply we_condF; exact rfl; (first | exact rfl | (simp <;> omega) | omega))
        | refine we_block ?_)
      refine we_draw (List.range' 0 9) (by kernel_rfl) ?_
      repeat (first
        | (apply ap_pure; exact rfl; exact rfl; exact trivial; intro L; apply mo_indexArr1; exact rfl; exact rfl; omega)
        | (apply ap_read; exact rfl; exact rfl; exact trivial; apply mo_load; exact rfl; exact hreg _ ha)
        | (apply ap_pure; exact rfl; exact rfl; (first | exact trivial | exact rfl); intro L; apply mo_move; exact rfl)
        | (apply ap_pure; exact rfl; exact rfl; (first | exact trivial | exact rfl); intro L; apply mo_nilCheck; exact rfl)
        | (apply ap_pure; exact rfl; exact rfl; (first | exact trivial | exact rfl); intro L; apply mo_fieldAddr; exact rfl; exact rfl; (first | exact Nat.zero_add _ | exact rfl))
        | (apply ap_read; exact rfl; exact rfl; (first | exact trivial | exact rfl); apply mo_load; exact rfl; (repeat (first | exact Rd.row0 rfl | exact Rd.row rfl rfl | exact Rd.still | apply Rd.there))))
      refine ap_loud rfl rfl rfl rfl rfl trivial (mo_store rfl rfl rfl (wt_vec (i := p) (.there (.there (.there .here))) hpn)) ?_
      rintro v' L' ⟨rfl, rfl⟩
      refine ap_end ?_
      skip
      refine at_mid (I := opMid tb xb mb (.pointer (some ⟨wb, 0, none⟩)) cv av (.slice (some ⟨ib, io, none⟩) l2.length ic) y t l2 p R2 x') () trivial ⟨rfl, rfl, rfl, rfl, rfl, trivial⟩ ?_ rfl
      simp only [opMid, hop]
      rw [← map_num_set]
      exact .take (.there .here) (.take (.there .here) (.take (.there .here) .refl))
    · have h' : (y.op : Int) = 3 := by omega
      have hop : Mach.op1 y l2 p t.r = (l2.set p ((v + t.r y.c) % 18446744073709551616), upd t.r y.a ((v + t.r y.c) % 18446744073709551616)) := by rw [op1_3 h, hvd]
      obtain ⟨q, hq⟩ : ∃ q, (v + t.r y.c) % 18446744073709551616 = q := ⟨_, rfl⟩
      have hadd2 : IntKind.u64.wrap ((v : Int) + (t.r y.c : Int)) = (q : Int) := by rw [← hq]; exact u64_add
      rw [hq] at hop
      repeat (first
        | (apply wo_po; apply mo_bin; exact rfl; exact rfl; apply bin_eqlT; omega; (first | exact trivial | exact rfl))
        | (apply wo_po; apply mo_bin; exact rfl; exact rfl; apply bin_eqlF; omega; (first | exact trivial | exact rfl))
        | refine we_seq ?_
        | (refine we_region _ rfl rfl ?_; simp only [opsOf, List.map_cons, List.map_nil, Option.map_none, Option.map_some, List.getElem?_toArray, List.getElem?_cons_zero, List.getElem?_cons_succ, Option.bind_some, Option.getD_some])
        | refine wo_nil ?_
        | (apply wo_po; apply mo_assign; exact rfl; (first | exact trivial | exact rfl))
        | (apply we_condT; exact rfl; (first | exact rfl | (simp <;> omega) | omega))
        | (apply we_condF; exact rfl; (first | exact rfl | (simp <;> omega) | omega))
        | refine we_block ?_)
      refine we_draw (List.range' 0 13) (by kernel_rfl) ?_
      repeat (first
        | (apply ap_pure; exact rfl; exact rfl; exact trivial; intro L; apply mo_indexArr1; exact rfl; exact rfl; omega)
        | (apply ap_read; exact rfl; exact rfl; exact trivial; apply mo_load; exact rfl; exact hreg _ hc)
        | (apply ap_read; exact rfl; exact rfl; exact trivial; apply mo_load; exact rfl; exact hword)
        | (apply ap_pure; exact rfl; exact rfl; exact trivial; intro L; apply mo_bin; exact rfl; exact rfl; apply bin_add; exact hadd2)
        | (apply ap_pure; exact rfl; exact rfl; (first | exact trivial | exact rfl); intro L; apply mo_move; exact rfl)
        | (apply ap_pure; exact rfl; exact rfl; (first | exact trivial | exact rfl); intro L; apply mo_nilCheck; exact rfl)
        | (apply ap_pure; exact rfl; exact rfl; (first | exact trivial | exact rfl); intro L; apply mo_fieldAddr; exact rfl; exact rfl; (first | exact Nat.zero_add _ | exact rfl))
        | (apply ap_read; exact rfl; exact rfl; (first | exact trivial | exact rfl); apply mo_load; exact rfl; (repeat (first | exact Rd.row0 rfl | exact Rd.row rfl rfl | exact Rd.still | apply Rd.there))))
      refine ap_loud rfl rfl rfl rfl rfl trivial (mo_store rfl rfl rfl (wt_vec (i := p) (.there (.there (.there .here))) hpn)) ?_
      rintro v' L' ⟨rfl, rfl⟩
      refine ap_end ?_
      have hword2 : Rd (vec 1 (.slice (some ⟨ib, io, none⟩) l2.length ic) ((l2.map num).set p (num q)) :: arr xb 0 (inC y) :: arr mb 0 [.int .u8 0, .int .i64 0] :: arr tb 0 (thCells cv t av) :: R2) ib (io + p) (num q) := rd_vec (i := p) .here (by rw [List.getElem?_set_self hpn])
      have hreg2 : ∀ j, j < 24 → Rd (vec 1 (.slice (some ⟨ib, io, none⟩) l2.length ic) ((l2.map num).set p (num q)) :: arr xb 0 (inC y) :: arr mb 0 [.int .u8 0, .int .i64 0] :: arr tb 0 (thCells cv t av) :: R2) tb (3 + j) (num (t.r j)) := fun j hj => .there (hregs j hj)
      clear hword hreg
      have hword := hword2
      have hreg := hreg2
      skip
      refine we_draw (List.range' 0 9) (by kernel_rfl) ?_
      repeat (first
        | (apply ap_pure; exact rfl; exact rfl; exact trivial; intro L; apply mo_indexArr1; exact rfl; exact rfl; omega)
        | (apply ap_read; exact rfl; exact rfl; exact trivial; apply mo_load; exact rfl; exact hword)
        | (apply ap_pure; exact rfl; exact rfl; (first | exact trivial | exact rfl); intro L; apply mo_move; exact rfl)
        | (apply ap_pure; exact rfl; exact rfl; (first | exact trivial | exact rfl); intro L; apply mo_nilCheck; exact rfl)
        | (apply ap_pure; exact rfl; exact rfl; (first | exact trivial | exact rfl); intro L; apply mo_fieldAddr; exact rfl; exact rfl; (first | exact Nat.zero_add _ | exact rfl))
        | (apply ap_read; exact rfl; exact rfl; (first | exact trivial | exact rfl); apply mo_load; exact rfl; (repeat (first | exact Rd.row0 rfl | exact Rd.row rfl rfl | exact Rd.still | apply Rd.there))))
      refine ap_loud rfl rfl rfl rfl rfl trivial (mo_store rfl rfl rfl (Wt.row0 (k := 3 + y.a) (vs := thCells cv t av) (.there (.there (.there .here))) (by rw [thCells_len]; omega))) ?_
      rintro v' L' ⟨rfl, rfl⟩
      refine ap_end ?_
      skip
      refine at_mid (I := opMid tb xb mb (.pointer (some ⟨wb, 0, none⟩)) cv av (.slice (some ⟨ib, io, none⟩) l2.length ic) y t l2 p R2 x') () trivial ⟨rfl, rfl, rfl, rfl, rfl, trivial⟩ ?_ rfl
      simp only [opMid, hop]
      rw [← map_num_set, thCells_set ha]
      exact .take (.there .here) (.take (.there .here) (.take (.there .here) .refl))
    · have h' : (y.op : Int) = 4 := by omega
      have hop : Mach.op1 y l2 p t.r = (l2.set p (t.r y.c), upd t.r y.a v) := by rw [op1_4 h, hvd]
      repeat (first
        | (apply wo_po; apply mo_load; exact rfl; exact hword; exact trivial)
        | (apply wo_po; apply mo_bin; exact rfl; exact rfl; apply bin_eqlT; omega; (first | exact trivial | exact rfl))
        | (apply wo_po; apply mo_bin; exact rfl; exact rfl; apply bin_eqlF; omega; (first | exact trivial | exact rfl))
        | refine we_seq ?_
        | (refine we_region _ rfl rfl ?_; simp only [opsOf, List.map_cons, List.map_nil, Option.map_none, Option.map_some, List.getElem?_toArray, List.getElem?_cons_zero, List.getElem?_cons_succ, Option.bind_some, Option.getD_some])
        | refine wo_nil ?_
        | (apply wo_po; apply mo_move; exact rfl; (first | exact trivial | exact rfl))
        | (apply wo_po; apply mo_assign; exact rfl; (first | exact trivial | exact rfl))
        | (apply wo_po; apply mo_nilCheck; exact rfl; (first | exact trivial | exact rfl))
        | (apply we_condT; exact rfl; (first | exact rfl | (simp <;> omega) | omega))
        | (apply we_condF; exact rfl; (first | exact rfl | (simp <;> omega) | omega))
        | refine we_block ?_)
      refine we_draw (List.range' 0 9) (by kernel_rfl) ?_
      repeat (first
        | (apply ap_pure; exact rfl; exact rfl; exact trivial; intro L; apply mo_indexArr1; exact rfl; exact rfl; omega)
        | (apply ap_read; exact rfl; exact rfl; exact trivial; apply mo_load; exact rfl; exact hreg _ hc)
        | (apply ap_pure; exact rfl; exact rfl; (first | exact trivial | exact rfl); intro L; apply mo_move; exact rfl)
        | (apply ap_pure; exact rfl; exact rfl; (first | exact trivial | exact rfl); intro L; apply mo_nilCheck; exact rfl)
        | (apply ap_pure; exact rfl; exact rfl; (first | exact trivial | exact rfl); intro L; apply mo_fieldAddr; exact rfl; exact rfl; (first | exact Nat.zero_add _ | exact rfl))
        | (apply ap_read; exact rfl; exact rfl; (first | exact trivial | exact rfl); apply mo_load; exact rfl; (repeat (first | exact Rd.row0 rfl | exact Rd.row rfl rfl | exact Rd.still | apply Rd.there))))
      refine ap_loud rfl rfl rfl rfl rfl trivial (mo_store rfl rfl rfl (wt_vec (i := p) (.there (.there (.there .here))) hpn)) ?_
      rintro v' L' ⟨rfl, rfl⟩
      refine ap_end ?_
      have hreg2 : ∀ j, j < 24 → Rd (vec 1 (.slice (some ⟨ib, io, none⟩) l2.length ic) ((l2.map num).set p (num (t.r y.c))) :: arr xb 0 (inC y) :: arr mb 0 [.int .u8 0, .int .i64 0] :: arr tb 0 (thCells cv t av) :: R2) tb (3 + j) (num (t.r j)) := fun j hj => .there (hregs j hj)
      clear hword hreg
      have hreg := hreg2
      skip
      refine we_draw (List.range' 0 7) (by kernel_rfl) ?_
      repeat (first
        | (apply ap_pure; exact rfl; exact rfl; exact trivial; intro L; apply mo_indexArr1; exact rfl; exact rfl; omega)
        | (apply ap_pure; exact rfl; exact rfl; (first | exact trivial | exact rfl); intro L; apply mo_move; exact rfl)
        | (apply ap_pure; exact rfl; exact rfl; (first | exact trivial | exact rfl); intro L; apply mo_nilCheck; exact rfl)
        | (apply ap_pure; exact rfl; exact rfl; (first | exact trivial | exact rfl); intro L; apply mo_fieldAddr; exact rfl; exact rfl; (first | exact Nat.zero_add _ | exact rfl))
        | (apply ap_read; exact rfl; exact rfl; (first | exact trivial | exact rfl); apply mo_load; exact rfl; (repeat (first | exact Rd.row0 rfl | exact Rd.row rfl rfl | exact Rd.still | apply Rd.there))))
      refine ap_loud rfl rfl rfl rfl rfl trivial (mo_store rfl rfl rfl (Wt.row0 (k := 3 + y.a) (vs := thCells cv t av) (.there (.there (.there .here))) (by rw [thCells_len]; omega))) ?_
      rintro v' L' ⟨rfl, rfl⟩
      refine ap_end ?_
      skip
      refine at_mid (I := opMid tb xb mb (.pointer (some ⟨wb, 0, none⟩)) cv av (.slice (some ⟨ib, io, none⟩) l2.length ic) y t l2 p R2 x') () trivial ⟨rfl, rfl, rfl, rfl, rfl, trivial⟩ ?_ rfl
      simp only [opMid, hop]
      rw [← map_num_set, thCells_set ha]
      exact .take (.there .here) (.take (.there .here) (.take (.there .here) .refl))
    · have h' : (y.op : Int) = 5 := by omega
      have hop := op1_5 (y := y) (l := l2) (p := p) (r := t.r) h
      rw [hvd] at hop
      by_cases hcas : v = t.r y.c
      · have hcas' : (v : Int) = (t.r y.c : Int) := by omega
        rw [if_pos hcas] at hop
        repeat (first
          | (apply wo_po; apply mo_bin; exact rfl; exact rfl; apply bin_eqlT; omega; (first | exact trivial | exact rfl))
          | (apply wo_po; apply mo_bin; exact rfl; exact rfl; apply bin_eqlF; omega; (first | exact trivial | exact rfl))
          | refine we_seq ?_
          | (refine we_region _ rfl rfl ?_; simp only [opsOf, List.map_cons, List.map_nil, Option.map_none, Option.map_some, List.getElem?_toArray, List.getElem?_cons_zero, List.getElem?_cons_succ, Option.bind_some, Option.getD_some])
          | refine wo_nil ?_
          | (apply wo_po; apply mo_assign; exact rfl; (first | exact trivial | exact rfl))
          | (apply we_condT; exact rfl; (first | exact rfl | (simp <;> omega) | omega))
          | (apply we_condF; exact rfl; (first | exact rfl | (simp <;> omega) | omega))
          | refine we_block ?_)
        refine we_draw (List.range' 0 10) (by kernel_rfl) ?_
        repeat (first
          | (apply ap_pure; exact rfl; exact rfl; exact trivial; intro L; apply mo_indexArr1; exact rfl; exact rfl; omega)
          | (apply ap_read; exact rfl; exact rfl; exact trivial; apply mo_load; exact rfl; exact hreg _ hc)
          | (apply ap_read; exact rfl; exact rfl; exact trivial; apply mo_load; exact rfl; exact hword)
          | (apply ap_pure; exact rfl; exact rfl; exact trivial; intro L; apply mo_bin; exact rfl; exact rfl; apply bin_eqlT; exact hcas')
          | (apply ap_pure; exact rfl; exact rfl; (first | exact trivial | exact rfl); intro L; apply mo_move; exact rfl)
          | (apply ap_pure; exact rfl; exact rfl; (first | exact trivial | exact rfl); intro L; apply mo_nilCheck; exact rfl)
          | (apply ap_pure; exact rfl; exact rfl; (first | exact trivial | exact rfl); intro L; apply mo_fieldAddr; exact rfl; exact rfl; (first | exact Nat.zero_add _ | exact rfl))
          | (apply ap_read; exact rfl; exact rfl; (first | exact trivial | exact rfl); apply mo_load; exact rfl; (repeat (first | exact Rd.row0 rfl | exact Rd.row rfl rfl | exact Rd.still | apply Rd.there)))
          | refine ap_end ?_)
        repeat (first
          | refine we_seq ?_
          | (refine we_region _ rfl rfl ?_; simp only [opsOf, List.map_cons, List.map_nil, Option.map_none, Option.map_some, List.getElem?_toArray, List.getElem?_cons_zero, List.getElem?_cons_succ, Option.bind_some, Option.getD_some])
          | refine wo_nil ?_
          | (apply wo_po; apply mo_assign; exact rfl; (first | exact trivial | exact rfl))
          | (apply we_condT; exact rfl; (first | exact rfl | (simp <;> omega) | omega)))
        refine we_draw (List.range' 0 9) (by kernel_rfl) ?_
        repeat (first
          | (apply ap_pure; exact rfl; exact rfl; exact trivial; intro L; apply mo_indexArr1; exact rfl; exact rfl; omega)
          | (apply ap_read; exact rfl; exact rfl; exact trivial; apply mo_load; exact rfl; exact hreg _ hd)
          | (apply ap_pure; exact rfl; exact rfl; (first | exact trivial | exact rfl); intro L; apply mo_move; exact rfl)
          | (apply ap_pure; exact rfl; exact rfl; (first | exact trivial | exact rfl); intro L; apply mo_nilCheck; exact rfl)
          | (apply ap_pure; exact rfl; exact rfl; (first | exact trivial | exact rfl); intro L; apply mo_fieldAddr; exact rfl; exact rfl; (first | exact Nat.zero_add _ | exact rfl))
          | (apply ap_read; exact rfl; exact rfl; (first | exact trivial | exact rfl); apply mo_load; exact rfl; (repeat (first | exact Rd.row0 rfl | exact Rd.row rfl rfl | exact Rd.still | apply Rd.there))))
        refine ap_loud rfl rfl rfl rfl rfl trivial (mo_store rfl rfl rfl (wt_vec (i := p) (.there (.there (.there .here))) hpn)) ?_
        rintro v' L' ⟨rfl, rfl⟩
        refine ap_end ?_
        have hreg2 : ∀ j, j < 24 → Rd (vec 1 (.slice (some ⟨ib, io, none⟩) l2.length ic) ((l2.map num).set p (num (t.r y.d))) :: arr xb 0 (inC y) :: arr mb 0 [.int .u8 0, .int .i64 0] :: arr tb 0 (thCells cv t av) :: R2) tb (3 + j) (num (t.r j)) := fun j hj => .there (hregs j hj)
        clear hword hreg
        have hreg := hreg2
        skip
        refine we_draw (List.range' 0 7) (by kernel_rfl) ?_
        repeat (first
          | (apply ap_pure; exact rfl; exact rfl; exact trivial; intro L; apply mo_indexArr1; exact rfl; exact rfl; omega)
          | (apply ap_pure; exact rfl; exact rfl; (first | exact trivial | exact rfl); intro L; apply mo_move; exact rfl)
          | (apply ap_pure; exact rfl; exact rfl; (first | exact trivial | exact rfl); intro L; apply mo_nilCheck; exact rfl)
          | (apply ap_pure; exact rfl; exact rfl; (first | exact trivial | exact rfl); intro L; apply mo_fieldAddr; exact rfl; exact rfl; (first | exact Nat.zero_add _ | exact rfl))
          | (apply ap_read; exact rfl; exact rfl; (first | exact trivial | exact rfl); apply mo_load; exact rfl; (repeat (first | exact Rd.row0 rfl | exact Rd.row rfl rfl | exact Rd.still | apply Rd.there))))
        refine ap_loud rfl rfl rfl rfl rfl trivial (mo_store rfl rfl rfl (Wt.row0 (k := 3 + y.a) (vs := thCells cv t av) (.there (.there (.there .here))) (by rw [thCells_len]; omega))) ?_
        rintro v' L' ⟨rfl, rfl⟩
        refine ap_end ?_
        skip
        refine at_mid (I := opMid tb xb mb (.pointer (some ⟨wb, 0, none⟩)) cv av (.slice (some ⟨ib, io, none⟩) l2.length ic) y t l2 p R2 x') () trivial ⟨rfl, rfl, rfl, rfl, rfl, trivial⟩ ?_ rfl
        simp only [opMid, hop]
        rw [← map_num_set, show Value.int .u64 1 = num 1 from rfl, thCells_set ha]
        exact .take (.there .here) (.take (.there .here) (.take (.there .here) .refl))
      · have hcas' : ¬ (v : Int) = (t.r y.c : Int) := by omega
        rw [if_neg hcas] at hop
        repeat (first
          | (apply wo_po; apply mo_bin; exact rfl; exact rfl; apply bin_eqlT; omega; (first | exact trivial | exact rfl))
          | (apply wo_po; apply mo_bin; exact rfl; exact rfl; apply bin_eqlF; omega; (first | exact trivial | exact rfl))
          | refine we_seq ?_
          | (refine we_region _ rfl rfl ?_; simp only [opsOf, List.map_cons, List.map_nil, Option.map_none, Option.map_some, List.getElem?_toArray, List.getElem?_cons_zero, List.getElem?_cons_succ, Option.bind_some, Option.getD_some])
          | refine wo_nil ?_
          | (apply wo_po; apply mo_assign; exact rfl; (first | exact trivial | exact rfl))
          | (apply we_condT; exact rfl; (first | exact rfl | (simp <;> omega) | omega))
          | (apply we_condF; exact rfl; (first | exact rfl | (simp <;> omega) | omega))
          | refine we_block ?_)
        refine we_draw (List.range' 0 10) (by kernel_rfl) ?_
        repeat (first
          | (apply ap_pure; exact rfl; exact rfl; exact trivial; intro L; apply mo_indexArr1; exact rfl; exact rfl; omega)
          | (apply ap_read; exact rfl; exact rfl; exact trivial; apply mo_load; exact rfl; exact hreg _ hc)
          | (apply ap_read; exact rfl; exact rfl; exact trivial; apply mo_load; exact rfl; exact hword)
          | (apply ap_pure; exact rfl; exact rfl; exact trivial; intro L; apply mo_bin; exact rfl; exact rfl; apply bin_eqlF; exact hcas')
          | (apply ap_pure; exact rfl; exact rfl; (first | exact trivial | exact rfl); intro L; apply mo_move; exact rfl)
          | (apply ap_pure; exact rfl; exact rfl; (first | exact trivial | exact rfl); intro L; apply mo_nilCheck; exact rfl)
          | (apply ap_pure; exact rfl; exact rfl; (first | exact trivial | exact rfl); intro L; apply mo_fieldAddr; exact rfl; exact rfl; (first | exact Nat.zero_add _ | exact rfl))
          | (apply ap_read; exact rfl; exact rfl; (first | exact trivial | exact rfl); apply mo_load; exact rfl; (repeat (first | exact Rd.row0 rfl | exact Rd.row rfl rfl | exact Rd.still | apply Rd.there)))
          | refine ap_end ?_)
        repeat (first
          | (apply we_condF; exact rfl; (first | exact rfl | (simp <;> omega) | omega))
          | refine we_skip ?_)
        refine we_draw (List.range' 0 7) (by kernel_rfl) ?_
        repeat (first
          | (apply ap_pure; exact rfl; exact rfl; exact trivial; intro L; apply mo_indexArr1; exact rfl; exact rfl; omega)
          | (apply ap_pure; exact rfl; exact rfl; (first | exact trivial | exact rfl); intro L; apply mo_move; exact rfl)
          | (apply ap_pure; exact rfl; exact rfl; (first | exact trivial | exact rfl); intro L; apply mo_nilCheck; exact rfl)
          | (apply ap_pure; exact rfl; exact rfl; (first | exact trivial | exact rfl); intro L; apply mo_fieldAddr; exact rfl; exact rfl; (first | exact Nat.zero_add _ | exact rfl))
          | (apply ap_read; exact rfl; exact rfl; (first | exact trivial | exact rfl); apply mo_load; exact rfl; (repeat (first | exact Rd.row0 rfl | exact Rd.row rfl rfl | exact Rd.still | apply Rd.there))))
        refine ap_loud rfl rfl rfl rfl rfl trivial (mo_store rfl rfl rfl (Wt.row0 (k := 3 + y.a) (vs := thCells cv t av) (.there (.there .here)) (by rw [thCells_len]; omega))) ?_
        rintro v' L' ⟨rfl, rfl⟩
        refine ap_end ?_
        skip
        refine at_mid (I := opMid tb xb mb (.pointer (some ⟨wb, 0, none⟩)) cv av (.slice (some ⟨ib, io, none⟩) l2.length ic) y t l2 p R2 x') () trivial ⟨rfl, rfl, rfl, rfl, rfl, trivial⟩ (ent_eq ?_) rfl
        simp only [opMid, hop]
        rw [show Value.int .u64 0 = num 0 from rfl, thCells_set ha]
  rintro ⟨⟩ _
  dsimp only [opMid]
  cases hon1 : Mach.onF f { t with pc := t.pc + 1, r := (Mach.op1 y l2 p t.r).2 } with
  | none => rw [hon1] at ho; cases ho
  | some t1 =>
  rw [hon1] at ho
  simp only [Option.map_some, Option.some.injEq, Prod.mk.injEq] at ho
  obtain ⟨rfl, rfl⟩ := ho
  have g1 : Good cs { t with pc := t.pc + 1, r := (Mach.op1 y l2 p t.r).2 } f := ⟨g.calls, g.ok, g.len, hpc, g.call, g.ans1, g.ans2, fun z hz => by have := g.room z hz; omega⟩
  have hr1 := (op1_lt (y := y) (p := p) hlv hr).2
  have hwok1 : ({ w with words := w.words.set y.on (Mach.op1 y l2 p t.r).1 } : Mach.Wd).ok := by rw [hl]; exact wd_op hwok hr
  have hpcw : IntKind.i64.wrap ((t.pc : Int) + 1) = ((t.pc + 1 : Nat) : Int) := wrap_i64 (by omega) (by omega)
  repeat (first
    | (apply wo_pm; apply mo_store; exact rfl; exact rfl; exact rfl; apply Wt.row0; (repeat (first | exact Foc.here | apply Foc.there)); (first | exact Nat.lt_of_sub_eq_succ rfl | omega); (first | exact trivial | exact rfl))
    | (apply wo_po; apply mo_bin; exact rfl; exact rfl; apply bin_add; exact hpcw; exact trivial)
    | refine we_seq ?_
    | (refine we_region _ rfl rfl ?_; simp only [opsOf, List.map_cons, List.map_nil, Option.map_none, Option.map_some, List.getElem?_toArray, List.getElem?_cons_zero, List.getElem?_cons_succ, Option.bind_some, Option.getD_some])
    | refine wo_nil ?_
    | (apply wo_po; apply mo_move; exact rfl; (first | exact trivial | exact rfl))
    | (apply wo_po; apply mo_nilCheck; exact rfl; (first | exact trivial | exact rfl))
    | (apply wo_po; apply mo_fieldAddr; exact rfl; exact rfl; (first | exact Nat.zero_add _ | exact rfl); (first | exact trivial | exact rfl))
    | (apply wo_po; apply mo_load; exact rfl; (repeat (first | exact Rd.row0 rfl | exact Rd.row rfl rfl | exact Rd.still | apply Rd.there)); (first | exact trivial | exact rfl)))
  refine wo_star (thC tb cv { t with pc := t.pc + 1, r := (Mach.op1 y l2 p t.r).2 } :: wdC wb { w with words := w.words.set y.on (Mach.op1 y l2 p t.r).1 } :: arr xb 0 (inC y) :: arr mb 0 [.int .u8 0, .int .i64 0] :: G) (fun h st => ?_) ?_
  · refine op_back (t := { t with pc := t.pc + 1, r := (Mach.op1 y l2 p t.r).2 }) (av := av) (wv := .slice (some ⟨vb, vo, none⟩) wl.length vc) (lv := lv) e1 hr1 e2 hwl hwok1 ?_
    rw [hR2, hR] at st
    have st' : Star (arr xb 0 (inC y) :: arr mb 0 [.int .u8 0, .int .i64 0] :: arr tb 0 (thCells cv { t with pc := t.pc + 1, r := (Mach.op1 y l2 p t.r).2 } av) :: vec 1 (.slice (some ⟨ib, io, none⟩) l2.length ic) ((Mach.op1 y l2 p t.r).1.map num) :: arr wb 0 [.slice (some ⟨vb, vo, none⟩) wl.length vc, lv] :: vec 1 (.slice (some ⟨vb, vo, none⟩) wl.length vc) (wl.map (·.1)) :: all ((wl.map rowT).eraseIdx y.on) :: lstC lv w.nl :: vec 2 av (al.map ansV).flatten :: all (al.map ansT) :: G) h := st
    refine Ent.star ?_ st'
    exact .take (.there (.there .here)) (.take (.there (.there .here)) (.take (.there (.there .here)) (.take (.there (.there .here)) (.take (.there (.there .here)) (.take (.there (.there .here)) (.take (.there (.there .here)) (.take (.there (.there .here)) .refl)))))))
  subst hcv
  refine wo_call (.cons rfl (.cons rfl .nil)) trivial (on_tr hon1 g1 (by omega) .here (.there (.there (.there hcode)))) ?_
  rintro v' L' x'' ⟨rfl, rfl, rfl⟩
  repeat (first
    | refine we_seq ?_
    | (refine we_region _ rfl rfl ?_; simp only [opsOf, List.map_cons, List.map_nil, Option.map_none, Option.map_some, List.getElem?_toArray, List.getElem?_cons_zero, List.getElem?_cons_succ, Option.bind_some, Option.getD_some])
    | refine wo_nil ?_
    | (apply wo_po; apply mo_fieldAddr; exact rfl; exact rfl; (first | exact Nat.zero_add _ | exact rfl); (first | exact trivial | exact rfl))
    | (apply wo_po; apply mo_load; exact rfl; (repeat (first | exact Rd.row0 rfl | exact Rd.row rfl rfl | exact Rd.still | apply Rd.there)); (first | exact trivial | exact rfl)))
  refine wo_call (.cons rfl .nil) trivial (kind_tr h15) ?_
  rintro v' L' x3 ⟨rfl, rfl, rfl⟩
  repeat (first
    | (apply wo_po; apply mo_build (pv := [(0, _), (1, _)]); exact rfl; exact .cons rfl (.cons rfl .nil); exact rfl; exact trivial)
    | (apply wo_po; apply mo_move; exact rfl; (first | exact trivial | exact rfl)))
  refine wo_pm (mo_storeA (c := 0) (k := 0) (a := 0) (vs := [.int .u8 0, .int .i64 0]) rfl rfl rfl (by intro w hw; simp [Value.cells] at hw; rcases hw with rfl | rfl <;> rfl) rfl (Nat.le_refl 2) (.there (.there (.there .here)))) trivial ?_
  repeat (first
    | refine wo_nil ?_
    | refine we_ret ?_)
  refine at_leaveM (rs := [.cell 4 110]) Try.func61 Try.results61 hQ (.inl rfl) (.cons (.cell (vs := [.int .u8 (y.op : Nat), .int .i64 (p : Nat)]) rfl rfl (Rds.all (.there (.there (.there .here))))) .nil) ?_
  refine ⟨?_, rfl, fun h st => ?_⟩
  · show Value.agg #[.int .u8 (y.op : Nat), .int .i64 (p : Nat)] = _
    rw [hy, hp]; rfl
  · refine Ent.star ?_ st
    exact .take .here (.take .here (.drop (.drop .refl)))

end Go.Proofs.Ytmkkanmkjfnpdaa
