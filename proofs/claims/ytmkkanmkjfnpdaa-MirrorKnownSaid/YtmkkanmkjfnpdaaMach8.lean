/-
  patchbayref00's thread.own, all instructions, over a thread's chunk.
-/
import Derived.Test.YtmkkanmkjfnpdaaMach7
set_option linter.unusedVariables false
set_option linter.unusedSimpArgs false
namespace Go.Proofs.Ytmkkanmkjfnpdaa
open Go Go.PB
attribute [local irreducible] Mo Bin Eql Tr Wo Ap

variable {B : Hand} [Lets B] {L F G : List HProp} {x : B.X}

set_option maxHeartbeats 4000000 in
/-- own, where it hands on to turns -/
theorem own_turns_tr {tb : Nat} {w cv av : Value} {t : Mach.Th} {i : Mach.In} {R : Value → List HProp → B.X → Prop} (hop : 18 ≤ i.op ∧ i.op ≤ 22) (hpc : t.pc < 1000000)
    (tn : ∀ xb, Tr Try.prog B 100 [.pointer (some ⟨tb, 0, none⟩), w, .agg (inC i).toArray] (arr xb 0 (inC i) :: arr tb 0 (thCells cv { t with pc := t.pc + 1 } av) :: F) x fun v L' x' => v = .tuple #[] ∧ R v L' x') :
    Tr Try.prog B 92 [.pointer (some ⟨tb, 0, none⟩), w, .agg (inC i).toArray] (arr tb 0 (thCells cv t av) :: F) x R := by
  obtain ⟨op, on, a, b, c, d, n⟩ := i
  simp only at hop
  have h1 : ¬ (op : Int) = 6 := by omega
  refine tr_of_body Try.func92 rfl Try.ntmps92 (by simp) fun um Q hQ => ?_
  simp only [argE, Nat.zero_add, Nat.reduceAdd]
  repeat (first
    | (apply wo_mo; apply mo_box; exact rfl; exact trivial)
    | refine we_seq ?_
    | (refine we_region _ rfl rfl ?_; simp only [opsOf, List.map_cons, List.map_nil, Option.map_none, Option.map_some, List.getElem?_toArray, List.getElem?_cons_zero, List.getElem?_cons_succ, Option.bind_some, Option.getD_some]))
  rintro v' L' ⟨xb, rfl, rfl⟩
  repeat (first
    | (apply wo_pm; apply mo_store; exact rfl; exact rfl; exact rfl; apply Wt.row0; (repeat (first | exact Foc.here | apply Foc.there)); (first | exact Nat.lt_of_sub_eq_succ rfl | omega); (first | exact trivial | exact rfl))
    | (apply wo_po; apply mo_bin; exact rfl; exact rfl; apply bin_eqlF; omega; (first | exact trivial | exact rfl))
    | refine we_seq ?_
    | (refine we_region _ rfl rfl ?_; simp only [opsOf, List.map_cons, List.map_nil, Option.map_none, Option.map_some, List.getElem?_toArray, List.getElem?_cons_zero, List.getElem?_cons_succ, Option.bind_some, Option.getD_some])
    | refine wo_nil ?_
    | (apply wo_po; apply mo_move; exact rfl; (first | exact trivial | exact rfl))
    | (apply wo_po; apply mo_assign; exact rfl; (first | exact trivial | exact rfl))
    | (apply wo_po; apply mo_nilCheck; exact rfl; (first | exact trivial | exact rfl))
    | (apply wo_po; apply mo_fieldAddr; exact rfl; exact rfl; (first | exact Nat.zero_add _ | exact rfl); (first | exact trivial | exact rfl))
    | (apply wo_po; apply mo_load; exact rfl; (repeat (first | exact Rd.row0 rfl | exact Rd.row rfl rfl | exact Rd.still | apply Rd.there)); (first | exact trivial | exact rfl))
    | (apply wo_po; apply mo_bin; exact rfl; exact rfl; apply bin_add; exact wrap_i64 (by omega) (by omega); (first | exact trivial | exact rfl))
    | (apply we_condF; exact rfl; (first | exact rfl | (simp <;> omega) | omega))
    | refine we_block ?_)
  have hx : Rds (arr xb 0 (inC ⟨op, on, a, b, c, d, n⟩) :: arr tb 0 (thCells cv { t with pc := t.pc + 1 } av) :: F) xb 0 (inC ⟨op, on, a, b, c, d, n⟩) := Rds.all .here
  refine wo_ent (arr xb 0 (inC ⟨op, on, a, b, c, d, n⟩) :: arr tb 0 (thCells cv { t with pc := t.pc + 1 } av) :: F) .refl ?_
  repeat (first
    | (apply wo_po; apply mo_loadA (vs := inC ⟨op, on, a, b, c, d, n⟩); exact rfl; exact rfl; exact hx; exact trivial))
  refine wo_call (.cons rfl (.cons rfl (.cons rfl .nil))) trivial (tn xb) ?_
  rintro v L' x' ⟨rfl, hR⟩
  repeat (first
    | refine wo_nil ?_)
  (first | refine at_ret0 (ex := .ret) Try.func92 Try.results92 hQ (.inl rfl) ?_ | refine at_ret0 (ex := .normal) Try.func92 Try.results92 hQ (.inr rfl) ?_)
  exact hR

theorem th_close {tb : Nat} {cv : Value} {t : Mach.Th} {y : Value × List (Bool × Value × List Nat)} (h1 : y.2.map ansOf = t.ans) (h2 : ∀ j, t.r j < 18446744073709551616) {h : Hp} (s : Star (thB tb cv t y ++ F) h) : Star (thC tb cv t :: F) h :=
  star_map (star_shut s) (fun _ z => ⟨y, h1, h2, z⟩) (fun _ z => z)

omit [Lets B] in
theorem tr_th {tb : Nat} {cv : Value} {t : Mach.Th} {f : FuncId} {args : List Value} {R : Value → List HProp → B.X → Prop} (hh : Has L (thC tb cv t) F)
    (k : ∀ y : Value × List (Bool × Value × List Nat), y.2.map ansOf = t.ans → (∀ j, t.r j < 18446744073709551616) → Tr Try.prog B f args (thB tb cv t y ++ F) x R) : Tr Try.prog B f args L x R :=
  tr_ex hh fun y => tr_and .here fun h1 => tr_and .here fun h2 => tr_star _ (fun h st => star_open st) (k y h1 h2)

theorem ans_len {al : List (Bool × Value × List Nat)} {an : Nat} (h : (al.map ansV).flatten.length = an * 2) : al.length = an := by
  rw [flat_len (k := 2) (fun _ => rfl)] at h; omega

theorem tell_ans {al : List (Bool × Value × List Nat)} {t : Mach.Th} {v : Nat} {d : Bool} {tv tv' : Value} {told : List Nat} (h : al.map ansOf = t.ans) (hk : al[t.call]? = some (d, tv, told)) :
    (al.set t.call (d, tv', told ++ [v])).map ansOf = (t.tell v).ans := by
  unfold Mach.Th.tell
  simp only [← h]
  apply List.ext_getElem?
  intro j
  rw [List.getElem?_map, List.getElem?_modify, List.getElem?_map, List.getElem?_set]
  have hlt : t.call < al.length := (List.getElem?_eq_some_iff.1 hk).1
  by_cases e : t.call = j
  · subst e; rw [if_pos rfl, if_pos hlt, hk]; show some _ = some _; simp [ansOf]
  · simp [e]

set_option maxHeartbeats 1000000 in
theorem own_tr {tb : Nat} {w : Value} {cw : CW} {t : Mach.Th} {i : Mach.In} (hop : 6 ≤ i.op ∧ i.op ≤ 22) (hi : i.ok = true) (hpc : t.pc < 1000000) (hlt : t.call < t.calls.length) (hans : t.call < t.ans.length)
    (hd : (t.calls.all Mach.Cl.ok) = true) (hl : t.calls.length < 1000000) (hb : ∀ y ∈ t.ans, y.2.length < 1000000000) (hh : Has L (thC tb (cw.v t.calls.length) t) F) (hcode : Obs F (codeC cw t.calls)) :
    Tr Try.prog B 92 [.pointer (some ⟨tb, 0, none⟩), w, .agg (inC i).toArray] L x fun v L' x' => v = .tuple #[] ∧ L' = thC tb (cw.v t.calls.length) (Mach.own t i) :: F ∧ x' = x := by
  refine tr_th hh ?_
  rintro ⟨av, al⟩ e1 hr
  have hr' := own_regs (i := i) hr
  dsimp only at e1
  refine Tr.post (R := fun v L' x' => ∃ y : Value × List (Bool × Value × List Nat), y.2.map ansOf = (Mach.own t i).ans ∧ v = .tuple #[] ∧ x' = x ∧ ∀ h, Star L' h → Star (thB tb (cw.v t.calls.length) (Mach.own t i) y ++ F) h) ?_
    (by rintro v L' x' ⟨y, h1, rfl, rfl, hs⟩; exact ⟨_, ⟨rfl, rfl, rfl⟩, fun h st => th_close h1 hr' (hs h st)⟩)
  by_cases c1 : i.op ≤ 16
  · refine (own_reg_tr ⟨hop.1, c1⟩ hi hr hpc .here).mono ?_
    rintro v L' x' ⟨rfl, rfl, rfl⟩
    exact ⟨(av, al), by rw [own_ans (by omega)]; exact e1, rfl, rfl, fun h st => st⟩
  by_cases c2 : i.op = 17
  · refine (own_look_tr c2 hi hr hpc hlt hd hl .here (.there (.there hcode))).mono ?_
    rintro v L' x' ⟨rfl, rfl, rfl⟩
    exact ⟨(av, al), by rw [own_ans (by omega)]; exact e1, rfl, rfl, fun h st => st⟩
  refine tr_pure (of_has (.there .here) (vec_shape (by omega))) ?_
  rintro ⟨aa, an, ac, rfl, hlen, _, ha, ha2⟩
  have han : al.length = an := ans_len hlen
  have hal : al.length = t.ans.length := by rw [← e1, List.length_map]
  obtain ⟨⟨ab, ao, sp⟩, rfl⟩ : ∃ y, aa = some y := by
    cases aa with
    | none => have := ha rfl; omega
    | some y => exact ⟨y, rfl⟩
  cases ha2 _ rfl
  by_cases c3 : i.op ≤ 21
  · refine own_turns_tr ⟨by omega, by omega⟩ hpc fun xb => ?_
    refine Tr.post (turns_jump_tr ⟨by omega, c3⟩ hi hr (by omega) (.there .here)) ?_
    rintro v L' x' ⟨rfl, rfl, rfl⟩
    refine ⟨_, ⟨rfl, (.slice (some ⟨ab, ao, none⟩) an ac, al), by rw [own_ans (by omega)]; exact e1, rfl, rfl, fun h st => st⟩, fun h st => ?_⟩
    exact (Ent.take .here (.drop .refl)).star st
  · have c4 : i.op = 22 := by omega
    obtain ⟨⟨d, tv, told⟩, hk⟩ : ∃ y, al[t.call]? = some y := ⟨al[t.call]'(by omega), by simp⟩
    have hcs : (al.map ansV).flatten[2 * t.call + 1]? = some tv := by rw [flat_get (k := 2) (fun _ => rfl) al _ _ _ hk (by omega)]; rfl
    have hm : (al.map ansT)[t.call]? = some (vec 1 tv (told.map num)) := by rw [List.getElem?_map, hk]; rfl
    have hbt : told.length < 1000000000 := hb (d, told) (by
      rw [← e1]
      exact List.mem_map.2 ⟨_, List.mem_of_getElem? hk, rfl⟩)
    refine own_turns_tr ⟨by omega, by omega⟩ hpc fun xb => ?_
    refine tr_star (arr tb 0 (thCells (cw.v t.calls.length) { t with pc := t.pc + 1 } (.slice (some ⟨ab, ao, none⟩) an ac)) :: vec 2 (.slice (some ⟨ab, ao, none⟩) an ac) (al.map ansV).flatten :: vec 1 tv (told.map num) :: all ((al.map ansT).eraseIdx t.call) :: F) (fun h st => ?_) ?_
    · exact star_map (star_drop st) (fun _ z => z) (fun _ st => star_map st (fun _ z => z) (fun _ st => star_pick hm st))
    refine Tr.post (turns_tell_tr (told := told) c4 hi hr (by omega) hcs hbt) ?_
    rintro v L' x' ⟨tv', rfl, rfl, rfl⟩
    refine ⟨_, ⟨rfl, (.slice (some ⟨ab, ao, none⟩) an ac, al.set t.call (d, tv', told ++ [t.r i.a])), ?_, rfl, rfl, fun h st => st⟩, fun h st => ?_⟩
    · rw [tell_ans e1 hk]
      obtain ⟨op, on, a, b, c, dd, n⟩ := i
      simp only at c4
      subst c4
      rfl
    · have e2 : Mach.own t i = { t with pc := t.pc + 1, ans := (t.tell (t.r i.a)).ans } := by
        obtain ⟨op, on, a, b, c, dd, n⟩ := i
        simp only at c4
        subst c4
        rfl
      rw [e2]
      show Star (arr tb 0 (thCells (cw.v t.calls.length) _ _) :: vec 2 _ ((al.set t.call (d, tv', told ++ [t.r i.a])).map ansV).flatten :: all ((al.set t.call (d, tv', told ++ [t.r i.a])).map ansT) :: F) h
      rw [← flat_set (k := 2) (fun _ => rfl) al t.call 1 (d, tv, told) _ hk (by omega) (v := tv') rfl, List.map_set]
      exact star_map st (fun _ z => z) (fun _ st => star_map st (fun _ z => z) (fun _ st => star_put (by simp; omega) st))

end Go.Proofs.Ytmkkanmkjfnpdaa
