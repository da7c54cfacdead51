/-
  patchbayref00's thread.on.
-/
import Derived.Test.YtmkkanmkjfnpdaaMach8
set_option linter.unusedVariables false
set_option linter.unusedSimpArgs false
namespace Go.Proofs.Ytmkkanmkjfnpdaa
open Go Go.PB
attribute [local irreducible] Mo Bin Eql Tr Wo Ap

/-- a thread as it must be; room for k more numbers told -/
structure Good (cs : List Mach.Cl) (t : Mach.Th) (k : Nat) : Prop where
  calls : t.calls = cs
  ok : (cs.all Mach.Cl.ok) = true
  len : cs.length < 1000000
  pc : t.pc < 1000000
  call : t.call ≤ cs.length
  ans1 : t.call ≤ t.ans.length
  ans2 : t.ans.length ≤ t.call + 1
  room : ∀ y ∈ t.ans, y.2.length + k < 1000000000

theorem Good.begun {cs : List Mach.Cl} {t : Mach.Th} {k : Nat} (g : Good cs t k) (hk : k < 1000000000) : Good cs t.begun k := by
  unfold Mach.Th.begun
  split
  · refine ⟨g.calls, g.ok, g.len, g.pc, g.call, by simp; omega, by simp; omega, fun y hy => ?_⟩
    rcases List.mem_append.1 hy with hy | hy
    · exact g.room y hy
    · cases List.mem_singleton.1 hy; simpa using hk
  · exact g

theorem begun_ans {cs : List Mach.Cl} {t : Mach.Th} {k : Nat} (g : Good cs t k) : t.begun.call = t.call ∧ t.call < t.begun.ans.length := by
  unfold Mach.Th.begun
  split
  · exact ⟨rfl, by simp; omega⟩
  · exact ⟨rfl, by have := g.ans1; omega⟩

theorem mem_modify {α : Type} {f : α → α} : ∀ {l : List α} {i : Nat} {y : α}, y ∈ l.modify i f → y ∈ l ∨ ∃ z ∈ l, y = f z := by
  intro l
  induction l with
  | nil => intro i y h; simp at h
  | cons a l ih =>
    intro i y h
    cases i with
    | zero =>
      simp only [List.modify_zero_cons, List.mem_cons] at h
      rcases h with h | h
      · exact .inr ⟨a, by simp, h⟩
      · exact .inl (by simp [h])
    | succ i =>
      simp only [List.modify_succ_cons, List.mem_cons] at h
      rcases h with h | h
      · exact .inl (by simp [h])
      · rcases ih h with h | ⟨z, h1, h2⟩
        · exact .inl (by simp [h])
        · exact .inr ⟨z, by simp [h1], h2⟩

theorem Good.done {cs : List Mach.Cl} {t : Mach.Th} {k : Nat} (g : Good cs t k) (h : t.call < t.ans.length) (hl : t.call < cs.length) : Good cs t.done k := by
  refine ⟨g.calls, g.ok, g.len, by show 0 < 1000000; omega, by show t.call + 1 ≤ _; omega, ?_, ?_, fun y hy => ?_⟩
  · show t.call + 1 ≤ (t.ans.modify _ _).length; rw [List.length_modify]; omega
  · show (t.ans.modify _ _).length ≤ t.call + 1 + 1; rw [List.length_modify]; have := g.ans2; omega
  · rcases mem_modify hy with h | ⟨z, h1, rfl⟩
    · exact g.room y h
    · exact g.room z h1

theorem own_pc {t : Mach.Th} {i : Mach.In} : (Mach.own t i).pc = t.pc + 1 ∨ (Mach.own t i).pc = i.n ∧ 18 ≤ i.op ∧ i.op ≤ 21 := by
  obtain ⟨op, on, a, b, c, d, n⟩ := i
  unfold Mach.own Mach.Th.put Mach.Th.tell
  dsimp only
  split <;> (try split) <;> first | exact .inl rfl | exact .inr ⟨rfl, by omega, by omega⟩

theorem own_told {t : Mach.Th} {i : Mach.In} {k : Nat} (h : ∀ y ∈ t.ans, y.2.length + (k + 1) < 1000000000) : ∀ y ∈ (Mach.own t i).ans, y.2.length + k < 1000000000 := by
  intro y hy
  by_cases e : i.op = 22
  · have e2 : (Mach.own t i).ans = (t.tell (t.r i.a)).ans := by
      obtain ⟨op, on, a, b, c, dd, n⟩ := i
      simp only at e
      subst e
      rfl
    rw [e2] at hy
    rcases mem_modify hy with h1 | ⟨z, h1, rfl⟩
    · have := h y h1; omega
    · have := h z h1
      simp only [List.length_append, List.length_cons, List.length_nil]; omega
  · rw [own_ans e] at hy
    have := h y hy; omega

theorem own_len {t : Mach.Th} {i : Mach.In} : (Mach.own t i).ans.length = t.ans.length := by
  by_cases e : i.op = 22
  · have e2 : (Mach.own t i).ans = (t.tell (t.r i.a)).ans := by
      obtain ⟨op, on, a, b, c, dd, n⟩ := i
      simp only at e
      subst e
      rfl
    rw [e2]
    show (t.ans.modify _ _).length = _
    rw [List.length_modify]
  · rw [own_ans e]

/-- what is next may stand in a call -/
theorem Good.next {cs : List Mach.Cl} {t : Mach.Th} {k : Nat} (g : Good cs t k) (hl : t.call < cs.length) : t.next = Mach.fin ∨ t.next.ok = true ∧ t.pc + 1 < 1000000 := by
  unfold Mach.Th.next Mach.Th.cl
  obtain ⟨cl, hcl⟩ : ∃ cl, t.calls[t.call]? = some cl := ⟨t.calls[t.call]'(by rw [g.calls]; omega), by simp⟩
  rw [List.getD_eq_getElem?_getD, List.getD_eq_getElem?_getD, hcl, Option.getD_some]
  have hok := List.all_eq_true.1 g.ok cl (by rw [← g.calls]; exact List.mem_of_getElem? hcl)
  simp only [Mach.Cl.ok, Bool.and_eq_true, decide_eq_true_eq] at hok
  cases hp : cl.code[t.pc]? with
  | none => exact .inl rfl
  | some y =>
    have := (List.getElem?_eq_some_iff.1 hp).1
    exact .inr ⟨List.all_eq_true.1 hok.1.1.1 y (List.mem_of_getElem? hp), by omega⟩

theorem Good.own {cs : List Mach.Cl} {t : Mach.Th} {k : Nat} (g : Good cs t (k + 1)) (hl : t.call < cs.length) (hn : t.next.op ≠ 23) : Good cs (Mach.own t t.next) k := by
  obtain ⟨o1, o2, o3⟩ := own_calls (t := t) (i := t.next)
  rcases g.next hl with hf | ⟨hok, hpc⟩
  · rw [hf] at hn; exact absurd rfl hn
  refine ⟨o1.trans g.calls, g.ok, g.len, ?_, by rw [o2]; exact g.call, by rw [o2, own_len]; exact g.ans1, by rw [o2, own_len]; exact g.ans2, own_told g.room⟩
  rcases own_pc (t := t) (i := t.next) with h | ⟨h, h2, h3⟩
  · rw [h]; exact hpc
  · rw [h]
    simp only [Mach.In.ok, Bool.and_eq_true, decide_eq_true_eq, Bool.or_eq_true, Bool.not_eq_true', decide_eq_false_iff_not] at hok
    obtain ⟨⟨⟨_, hj⟩, _⟩, _⟩ := hok
    rcases hj with hj | hj
    · simp at hj; omega
    · exact hj

/-- a thread that came so far is as it must be -/
theorem Good.onF {cs : List Mach.Cl} : ∀ {f : Nat} {t t' : Mach.Th} {k : Nat}, Good cs t (k + f) → k + f < 1000000000 → Mach.onF f t = some t' → Good cs t' k := by
  intro f
  induction f with
  | zero => intro t t' k g hk h; cases h
  | succ f ih =>
    intro t t' k g hk h
    have weak : ∀ {t : Mach.Th} {m : Nat}, Good cs t m → k ≤ m → Good cs t k := fun g hm => ⟨g.calls, g.ok, g.len, g.pc, g.call, g.ans1, g.ans2, fun y hy => by have := g.room y hy; omega⟩
    unfold Mach.onF at h
    split at h
    · cases h; exact weak g (by omega)
    split at h
    · cases h; exact ⟨g.calls, g.ok, g.len, g.pc, g.call, g.ans1, g.ans2, fun y hy => by have := g.room y hy; omega⟩
    rename_i h1 h2
    have hl : t.call < cs.length := by rw [← g.calls]; omega
    have gb := g.begun hk
    obtain ⟨b1, b2⟩ := begun_ans g
    split at h
    · cases h; exact weak gb (by omega)
    split at h
    · exact ih (k := k) ⟨(gb.done (by rw [b1]; exact b2) (by rw [b1]; exact hl)).calls, g.ok, g.len, by show 0 < 1000000; omega, (gb.done (by rw [b1]; exact b2) (by rw [b1]; exact hl)).call, (gb.done (by rw [b1]; exact b2) (by rw [b1]; exact hl)).ans1, (gb.done (by rw [b1]; exact b2) (by rw [b1]; exact hl)).ans2, fun y hy => by have := (gb.done (by rw [b1]; exact b2) (by rw [b1]; exact hl)).room y hy; omega⟩ (by omega) h
    · rename_i h3
      exact ih (k := k) (Good.own (k := k + f) gb (by rw [b1]; exact hl) h3) (by omega) h

variable {B : Hand} [Lets B] {L F G : List HProp} {x : B.X}

/-- ahead of a round of on -/
def onInv (tb : Nat) (wv : Value) (cw : CW) (cs : List Mach.Cl) (x : B.X) (F : List HProp) (t' : Mach.Th) : Inv (Nat × Mach.Th) B.X where
  e := fun _ => [(0, .pointer (some ⟨tb, 0, none⟩)), (1, wv)]
  L := fun i => thC tb (cw.v cs.length) i.2 :: F
  x := fun _ => x
  ok := fun i => Mach.onF i.1 i.2 = some t' ∧ Good cs i.2 i.1 ∧ i.1 < 1000000000

/-- ahead of asking for the next instruction -/
def onMid (tb : Nat) (wv : Value) (cw : CW) (cs : List Mach.Cl) (x : B.X) (F : List HProp) (f : Nat) (t : Mach.Th) : Inv (Value × List (Bool × Value × List Nat)) B.X where
  e := fun _ => [(0, .pointer (some ⟨tb, 0, none⟩)), (1, wv)]
  L := fun y => thB tb (cw.v cs.length) t.begun y ++ F
  x := fun _ => x
  ok := fun y => y.2.map ansOf = t.begun.ans

set_option maxHeartbeats 4000000 in
theorem on_tr {tb : Nat} {wv : Value} {cw : CW} {cs : List Mach.Cl} {t t' : Mach.Th} {f : Nat} (ht : Mach.onF f t = some t') (g : Good cs t f) (hf : f < 1000000000) (hh : Has L (thC tb (cw.v cs.length) t) F) (hcode : Obs F (codeC cw cs)) :
    Tr Try.prog B 60 [.pointer (some ⟨tb, 0, none⟩), wv] L x fun v L' x' => v = .tuple #[] ∧ L' = thC tb (cw.v cs.length) t' :: F ∧ x' = x := by
  refine tr_star _ (fun h s => hh.star s) ?_
  clear hh
  refine tr_of_body Try.func60 rfl Try.ntmps60 (by simp) fun um Q hQ => ?_
  simp only [argE, Nat.zero_add, Nat.reduceAdd]
  refine we_block ?_
  refine we_loopN (onInv tb wv cw cs x F t') (fun i => i.1) (f, t) ⟨ht, g, hf⟩ ⟨rfl, rfl, trivial⟩ .refl rfl ?_
  clear ht g t hf f
  rintro ⟨f, t⟩ ⟨ht, g, hf⟩
  dsimp only [onInv] at ht g hf ⊢
  obtain ⟨f, rfl⟩ : ∃ q, f = q + 1 := by
    cases f with
    | zero => cases ht
    | succ q => exact ⟨q, rfl⟩
  refine we_ex .here fun y => we_and .here fun e1 => we_and .here fun hr => we_open .here ?_
  obtain ⟨av, al⟩ := y
  dsimp only at e1
  refine we_ent (arr tb 0 (thCells (cw.v cs.length) t av) :: vec 2 av (al.map ansV).flatten :: all (al.map ansT) :: F) .refl ?_
  have hav : Rd (arr tb 0 (thCells (cw.v cs.length) t av) :: vec 2 av (al.map ansV).flatten :: all (al.map ansT) :: F) tb 27 av := Rd.row0 rfl
  have hov : Rd (arr tb 0 (thCells (cw.v cs.length) t av) :: vec 2 av (al.map ansV).flatten :: all (al.map ansT) :: F) tb 28 (.bool t.over) := Rd.row0 rfl
  unfold Mach.onF at ht
  by_cases ho : t.over = true
  · rw [if_pos ho] at ht
    cases ht
    rw [ho] at hov
    repeat (first
      | (apply wo_po; apply mo_load; exact rfl; exact hov; (first | exact trivial | exact rfl))
      | refine we_seq ?_
      | (refine we_region _ rfl rfl ?_; simp only [opsOf, List.map_cons, List.map_nil, Option.map_none, Option.map_some, List.getElem?_toArray, List.getElem?_cons_zero, List.getElem?_cons_succ, Option.bind_some, Option.getD_some])
      | refine wo_nil ?_
      | (apply wo_po; apply mo_move; exact rfl; (first | exact trivial | exact rfl))
      | (apply wo_po; apply mo_nilCheck; exact rfl; (first | exact trivial | exact rfl))
      | (apply wo_po; apply mo_fieldAddr; exact rfl; exact rfl; (first | exact Nat.zero_add _ | exact rfl); (first | exact trivial | exact rfl))
      | (apply wo_po; apply mo_not; exact rfl; (first | exact trivial | exact rfl))
      | (apply we_condF; exact rfl; (first | exact rfl | (simp <;> omega) | omega))
      | refine we_exit ?_)
    refine at_star (thC tb (cw.v cs.length) t' :: F) (fun h st => th_close (y := (av, al)) e1 hr st) ?_
    (first | refine at_ret0 (ex := .ret) Try.func60 Try.results60 hQ (.inl rfl) ?_ | refine at_ret0 (ex := .normal) Try.func60 Try.results60 hQ (.inr rfl) ?_)
    exact ⟨rfl, rfl, rfl⟩
  rw [if_neg ho] at ht
  rw [Bool.not_eq_true] at ho
  rw [ho] at hov
  have hcl := g.calls
  rw [hcl] at ht
  by_cases hc : cs.length ≤ t.call
  · rw [if_pos hc] at ht
    cases ht
    repeat (first
      | (apply wo_po; apply mo_load; exact rfl; exact hov; (first | exact trivial | exact rfl))
      | refine we_seq ?_
      | (refine we_region _ rfl rfl ?_; simp only [opsOf, List.map_cons, List.map_nil, Option.map_none, Option.map_some, List.getElem?_toArray, List.getElem?_cons_zero, List.getElem?_cons_succ, Option.bind_some, Option.getD_some])
      | refine wo_nil ?_
      | (apply wo_po; apply mo_move; exact rfl; (first | exact trivial | exact rfl))
      | (apply wo_po; apply mo_nilCheck; exact rfl; (first | exact trivial | exact rfl))
      | (apply wo_po; apply mo_fieldAddr; exact rfl; exact rfl; (first | exact Nat.zero_add _ | exact rfl); (first | exact trivial | exact rfl))
      | (apply wo_po; apply mo_not; exact rfl; (first | exact trivial | exact rfl))
      | (apply we_condT; exact rfl; (first | exact rfl | (simp <;> omega) | omega))
      | refine we_skip ?_
      | refine we_block ?_)
    refine we_draw (List.range' 0 10) (by kernel_rfl) ?_
    repeat (first
      | (apply ap_pure; exact rfl; exact rfl; exact trivial; intro L; apply mo_bin; exact rfl; exact rfl; apply bin_geqT; omega)
      | (apply ap_pure; exact rfl; exact rfl; (first | exact trivial | exact rfl); intro L; apply mo_move; exact rfl)
      | (apply ap_pure; exact rfl; exact rfl; (first | exact trivial | exact rfl); intro L; apply mo_nilCheck; exact rfl)
      | (apply ap_pure; exact rfl; exact rfl; (first | exact trivial | exact rfl); intro L; apply mo_fieldAddr; exact rfl; exact rfl; (first | exact Nat.zero_add _ | exact rfl))
      | (apply ap_pure; exact rfl; exact rfl; (first | exact trivial | exact rfl); intro L; apply mo_len; exact rfl)
      | (apply ap_read; exact rfl; exact rfl; (first | exact trivial | exact rfl); apply mo_load; exact rfl; (repeat (first | exact Rd.row0 rfl | exact Rd.row rfl rfl | exact Rd.still | apply Rd.there)))
      | refine ap_end ?_)
    repeat (first
      | (apply wo_pm; apply mo_store; exact rfl; exact rfl; exact rfl; apply Wt.row0; (repeat (first | exact Foc.here | apply Foc.there)); (first | exact Nat.lt_of_sub_eq_succ rfl | omega); (first | exact trivial | exact rfl))
      | refine we_seq ?_
      | (refine we_region _ rfl rfl ?_; simp only [opsOf, List.map_cons, List.map_nil, Option.map_none, Option.map_some, List.getElem?_toArray, List.getElem?_cons_zero, List.getElem?_cons_succ, Option.bind_some, Option.getD_some])
      | refine wo_nil ?_
      | (apply wo_po; apply mo_move; exact rfl; (first | exact trivial | exact rfl))
      | (apply wo_po; apply mo_nilCheck; exact rfl; (first | exact trivial | exact rfl))
      | (apply wo_po; apply mo_fieldAddr; exact rfl; exact rfl; (first | exact Nat.zero_add _ | exact rfl); (first | exact trivial | exact rfl))
      | (apply we_condT; exact rfl; (first | exact rfl | (simp <;> omega) | omega))
      | refine we_ret ?_)
    refine at_star (thC tb (cw.v cs.length) { t with over := true } :: F) (fun h st => th_close (t := { t with over := true }) (y := (av, al)) e1 hr st) ?_
    (first | refine at_ret0 (ex := .ret) Try.func60 Try.results60 hQ (.inl rfl) ?_ | refine at_ret0 (ex := .normal) Try.func60 Try.results60 hQ (.inr rfl) ?_)
    exact ⟨rfl, rfl, rfl⟩
  rw [if_neg hc] at ht
  obtain ⟨b1, b2⟩ := begun_ans g
  have gb := g.begun hf
  repeat (first
    | (apply wo_po; apply mo_load; exact rfl; exact hov; (first | exact trivial | exact rfl))
    | refine we_seq ?_
    | (refine we_region _ rfl rfl ?_; simp only [opsOf, List.map_cons, List.map_nil, Option.map_none, Option.map_some, List.getElem?_toArray, List.getElem?_cons_zero, List.getElem?_cons_succ, Option.bind_some, Option.getD_some])
    | refine wo_nil ?_
    | (apply wo_po; apply mo_move; exact rfl; (first | exact trivial | exact rfl))
    | (apply wo_po; apply mo_nilCheck; exact rfl; (first | exact trivial | exact rfl))
    | (apply wo_po; apply mo_fieldAddr; exact rfl; exact rfl; (first | exact Nat.zero_add _ | exact rfl); (first | exact trivial | exact rfl))
    | (apply wo_po; apply mo_not; exact rfl; (first | exact trivial | exact rfl))
    | (apply we_condT; exact rfl; (first | exact rfl | (simp <;> omega) | omega))
    | refine we_skip ?_
    | refine we_block ?_)
  refine we_draw (List.range' 0 10) (by kernel_rfl) ?_
  repeat (first
    | (apply ap_pure; exact rfl; exact rfl; exact trivial; intro L; apply mo_bin; exact rfl; exact rfl; apply bin_geqF; omega)
    | (apply ap_pure; exact rfl; exact rfl; (first | exact trivial | exact rfl); intro L; apply mo_move; exact rfl)
    | (apply ap_pure; exact rfl; exact rfl; (first | exact trivial | exact rfl); intro L; apply mo_nilCheck; exact rfl)
    | (apply ap_pure; exact rfl; exact rfl; (first | exact trivial | exact rfl); intro L; apply mo_fieldAddr; exact rfl; exact rfl; (first | exact Nat.zero_add _ | exact rfl))
    | (apply ap_pure; exact rfl; exact rfl; (first | exact trivial | exact rfl); intro L; apply mo_len; exact rfl)
    | (apply ap_read; exact rfl; exact rfl; (first | exact trivial | exact rfl); apply mo_load; exact rfl; (repeat (first | exact Rd.row0 rfl | exact Rd.row rfl rfl | exact Rd.still | apply Rd.there)))
    | refine ap_end ?_)
  repeat (first
    | refine we_seq ?_
    | (apply we_condF; exact rfl; (first | exact rfl | (simp <;> omega) | omega))
    | refine we_skip ?_)
  refine we_join2 (onMid tb wv cw cs x F f t) ?_ ?_
  · -- the call's answer is begun
    refine we_pure (of_has (.there .here) (vec_shape (by omega))) ?_
    rintro ⟨aa, an, ac, rfl, hlen, _, ha, ha2⟩
    have han : al.length = an := ans_len hlen
    have hal : al.length = t.ans.length := by rw [← e1, List.length_map]
    by_cases hq : t.ans.length = t.call
    · have hb : t.begun = { t with ans := t.ans ++ [(false, [])] } := by unfold Mach.Th.begun; rw [if_pos hq]
      refine we_draw (List.range' 0 10) (by kernel_rfl) ?_
      repeat (first
        | (apply ap_read; exact rfl; exact rfl; exact trivial; apply mo_load; exact rfl; exact hav)
        | (apply ap_pure; exact rfl; exact rfl; exact trivial; intro L; apply mo_bin; exact rfl; exact rfl; apply bin_eqlT; omega)
        | (apply ap_pure; exact rfl; exact rfl; (first | exact trivial | exact rfl); intro L; apply mo_move; exact rfl)
        | (apply ap_pure; exact rfl; exact rfl; (first | exact trivial | exact rfl); intro L; apply mo_nilCheck; exact rfl)
        | (apply ap_pure; exact rfl; exact rfl; (first | exact trivial | exact rfl); intro L; apply mo_fieldAddr; exact rfl; exact rfl; (first | exact Nat.zero_add _ | exact rfl))
        | (apply ap_pure; exact rfl; exact rfl; (first | exact trivial | exact rfl); intro L; apply mo_len; exact rfl)
        | (apply ap_read; exact rfl; exact rfl; (first | exact trivial | exact rfl); apply mo_load; exact rfl; (repeat (first | exact Rd.row0 rfl | exact Rd.row rfl rfl | exact Rd.still | apply Rd.there)))
        | refine ap_end ?_)
      repeat (first
        | (apply wo_po; apply mo_load; exact rfl; exact hav; exact trivial)
        | (apply wo_po; apply mo_build (pv := []); exact rfl; exact .nil; exact rfl; exact trivial)
        | (apply wo_mo; apply mo_buildSlice (sz := 2) (vs := [.agg #[.bool false, .slice none 0 0]]); exact rfl; exact .cons rfl .nil; exact rfl; (intro v hv; cases (List.mem_singleton.1 hv); exact rfl); omega; exact trivial)
        | (refine we_region _ rfl rfl ?_; simp only [opsOf, List.map_cons, List.map_nil, Option.map_none, Option.map_some, List.getElem?_toArray, List.getElem?_cons_zero, List.getElem?_cons_succ, Option.bind_some, Option.getD_some])
        | (apply wo_po; apply mo_move; exact rfl; (first | exact trivial | exact rfl))
        | (apply wo_po; apply mo_nilCheck; exact rfl; (first | exact trivial | exact rfl))
        | (apply wo_po; apply mo_fieldAddr; exact rfl; exact rfl; (first | exact Nat.zero_add _ | exact rfl); (first | exact trivial | exact rfl))
        | (apply we_condT; exact rfl; (first | exact rfl | (simp <;> omega) | omega)))
      rintro v' L' ⟨sb, rfl, rfl⟩
      repeat (first
        | (apply wo_mo; apply mo_append (sz := 2) (new := [.bool false, .slice none 0 0]); exact rfl; exact rfl; exact rfl; exact rfl; exact .there (.there .here); exact rfl; exact .inr ⟨_, _, rfl, Rds.all .here⟩; (intro v hv; simp at hv; rcases hv with rfl | rfl <;> rfl); (simp only [sliceLen]; have := g.call; have := g.len; omega); exact trivial))
      rintro v' L' rfl
      refine wo_pure (of_has .here (vec_shape (by omega))) ?_
      rintro ⟨qa, ql, qc, rfl, _⟩
      repeat (first
        | (apply wo_pm; apply mo_store; exact rfl; exact rfl; exact rfl; apply Wt.row0; (repeat (first | exact Foc.here | apply Foc.there)); (first | exact Nat.lt_of_sub_eq_succ rfl | omega); (first | exact trivial | exact rfl))
        | refine wo_nil ?_
        | (apply wo_po; apply mo_nilCheck; exact rfl; (first | exact trivial | exact rfl))
        | (apply wo_po; apply mo_fieldAddr; exact rfl; exact rfl; (first | exact Nat.zero_add _ | exact rfl); (first | exact trivial | exact rfl)))
      refine at_midS (I := onMid tb wv cw cs x F f t) (.slice qa ql qc, al ++ [(false, .slice none 0 0, [])]) ?_ ⟨rfl, rfl, trivial⟩ (fun h st => ?_) rfl
      · show (al ++ [(false, Value.slice none 0 0, [])]).map ansOf = _
        rw [hb, List.map_append, e1]; rfl
      · show Star (arr tb 0 (thCells (cw.v cs.length) t.begun (.slice qa ql qc)) :: vec 2 (.slice qa ql qc) ((al ++ [(false, Value.slice none 0 0, [])]).map ansV).flatten :: all ((al ++ [(false, Value.slice none 0 0, [])]).map ansT) :: F) h
        rw [hb, List.map_append, List.map_append, List.flatten_append]
        have st2 : Star (arr tb 0 (thCells (cw.v cs.length) t (.slice qa ql qc)) :: vec 2 (.slice qa ql qc) ((al.map ansV).flatten ++ [.bool false, .slice none 0 0]) :: all (al.map ansT) :: F) h := by
          refine Ent.star ?_ st
          exact .take (.there (.there .here)) (.take .here (.drop .refl))
        exact star_map st2 (fun _ z => z) (fun _ z => star_map z (fun _ z => z) (fun _ z => star_push (vec_nil z)))
    · have hb : t.begun = t := by unfold Mach.Th.begun; rw [if_neg hq]
      refine we_draw (List.range' 0 10) (by kernel_rfl) ?_
      repeat (first
        | (apply ap_read; exact rfl; exact rfl; exact trivial; apply mo_load; exact rfl; exact hav)
        | (apply ap_pure; exact rfl; exact rfl; exact trivial; intro L; apply mo_bin; exact rfl; exact rfl; apply bin_eqlF; omega)
        | (apply ap_pure; exact rfl; exact rfl; (first | exact trivial | exact rfl); intro L; apply mo_move; exact rfl)
        | (apply ap_pure; exact rfl; exact rfl; (first | exact trivial | exact rfl); intro L; apply mo_nilCheck; exact rfl)
        | (apply ap_pure; exact rfl; exact rfl; (first | exact trivial | exact rfl); intro L; apply mo_fieldAddr; exact rfl; exact rfl; (first | exact Nat.zero_add _ | exact rfl))
        | (apply ap_pure; exact rfl; exact rfl; (first | exact trivial | exact rfl); intro L; apply mo_len; exact rfl)
        | (apply ap_read; exact rfl; exact rfl; (first | exact trivial | exact rfl); apply mo_load; exact rfl; (repeat (first | exact Rd.row0 rfl | exact Rd.row rfl rfl | exact Rd.still | apply Rd.there)))
        | refine ap_end ?_)
      repeat (first
        | (apply we_condF; exact rfl; (first | exact rfl | (simp <;> omega) | omega))
        | refine we_skip ?_)
      refine at_mid (I := onMid tb wv cw cs x F f t) (.slice aa an ac, al) ?_ ⟨rfl, rfl, trivial⟩ (ent_eq ?_) rfl
      · show al.map ansOf = _
        rw [hb, e1]
      · show _ = arr tb 0 (thCells (cw.v cs.length) t.begun (.slice aa an ac)) :: _
        rw [hb]; rfl
  clear e1 hov hav al av
  rintro ⟨av, al⟩ e1
  dsimp only [onMid] at e1 ⊢
  repeat (first
    | refine we_seq ?_
    | (refine we_region _ rfl rfl ?_; simp only [opsOf, List.map_cons, List.map_nil, Option.map_none, Option.map_some, List.getElem?_toArray, List.getElem?_cons_zero, List.getElem?_cons_succ, Option.bind_some, Option.getD_some])
    | (apply wo_po; apply mo_move; exact rfl; (first | exact trivial | exact rfl)))
  have hltb : t.begun.call < cs.length := by rw [b1]; omega
  obtain ⟨cl, hcl2⟩ : ∃ cl, cs[t.begun.call]? = some cl := ⟨cs[t.begun.call], by simp [hltb]⟩
  have hclB : t.begun.calls = cs := gb.calls
  have hnx : t.begun.next = cl.code.getD t.begun.pc Mach.fin := by unfold Mach.Th.next Mach.Th.cl; rw [hclB, List.getD_eq_getElem?_getD (l := cs), hcl2]; rfl
  have hrB : ∀ j, t.begun.r j < 18446744073709551616 := by unfold Mach.Th.begun; split <;> exact hr
  refine wo_pure (fun h st => code_at (.there (.there (.there hcode))) hcl2 h st) ?_
  rintro ⟨cb, co, hca⟩
  have q1 : Rd (thB tb (cw.v cs.length) t.begun (av, al) ++ F) cb (co + 2 * t.begun.call) _ := (rd_code (.there (.there (.there hcode))) hcl2 hca).1
  have hn := next_tr (B := B) (L := thB tb (cw.v cs.length) t.begun (av, al) ++ F) (x := x) (tb := tb) (cb := cb) (co := co) (ncalls := cs.length) (ccap := cw.c) (call := t.begun.call) (pc := t.begun.pc) (code := cl.code)
    (Rd.row0 (by unfold CW.v; rw [hca]; rfl)) (Rd.row0 rfl) (Rd.row0 rfl) hltb q1
  refine wo_pure (p := ∀ y, cl.code[t.begun.pc]? = some y → ∃ kb ko, (cw.k t.begun.call).1 = some ⟨kb, ko, none⟩) (fun h st y hy => (rd_instr (.there (.there (.there hcode))) hcl2 hy).1 h st) ?_
  intro hk
  replace hn := hn fun y hy => by
    obtain ⟨kb, ko, e⟩ := hk y hy
    exact ⟨kb, ko, e, (rd_instr (.there (.there (.there hcode))) hcl2 hy).2 kb ko e⟩
  rw [← hnx] at hn
  refine wo_call (.cons rfl .nil) trivial hn ?_
  rintro v' L' x' ⟨rfl, rfl, rfl⟩
  obtain ⟨y, hy⟩ : ∃ y, y = t.begun.next := ⟨_, rfl⟩
  rw [← hy]
  have hy23 : y.op ≤ 23 := by
    rcases gb.next hltb with h | ⟨h, _⟩
    · rw [hy, h]; decide
    · rw [← hy] at h
      simp only [Mach.In.ok, Bool.and_eq_true, decide_eq_true_eq] at h
      omega
  repeat (first
    | (apply wo_mo; apply mo_alloc; exact trivial))
  rintro v' L' ⟨ib, rfl, rfl⟩
  repeat (first
    | (apply wo_pm; apply mo_storeA (c := 0) (k := 0) (a := 0) (vs := inC { op := 0 }) (v := .agg (inC y).toArray); exact rfl; exact rfl; exact rfl; (intro w hw; simp [Value.cells, inC] at hw; rcases hw with rfl | rfl | rfl | rfl | rfl | rfl | rfl <;> rfl); exact rfl; exact Nat.le_refl 7; exact .here; exact trivial)
    | refine we_seq ?_
    | (refine we_region _ rfl rfl ?_; simp only [opsOf, List.map_cons, List.map_nil, Option.map_none, Option.map_some, List.getElem?_toArray, List.getElem?_cons_zero, List.getElem?_cons_succ, Option.bind_some, Option.getD_some])
    | refine wo_nil ?_
    | (apply wo_po; apply mo_fieldAddr; exact rfl; exact rfl; (first | exact Nat.zero_add _ | exact rfl); (first | exact trivial | exact rfl))
    | (apply wo_po; apply mo_load; exact rfl; (repeat (first | exact Rd.row0 rfl | exact Rd.row rfl rfl | exact Rd.still | apply Rd.there)); (first | exact trivial | exact rfl)))
  refine wo_call (.cons rfl .nil) trivial (told_tr (by omega)) ?_
  rintro v' L' x' ⟨rfl, rfl, rfl⟩
  refine wo_ent (arr ib 0 (inC y) :: thB tb (cw.v cs.length) t.begun (av, al) ++ F) .refl ?_
  rw [← hy] at ht
  cases htold : Mach.told y.op with
  | true =>
    rw [if_pos htold] at ht
    cases ht
    repeat (first
      | refine wo_nil ?_
      | (apply we_condT; exact rfl; (first | exact rfl | (simp <;> omega) | omega))
      | refine we_ret ?_)
    refine at_star (thC tb (cw.v cs.length) t.begun :: F) (fun h st => th_close (y := (av, al)) e1 hrB (star_drop st)) ?_
    (first | refine at_ret0 (ex := .ret) Try.func60 Try.results60 hQ (.inl rfl) ?_ | refine at_ret0 (ex := .normal) Try.func60 Try.results60 hQ (.inr rfl) ?_)
    exact ⟨rfl, rfl, rfl⟩
  | false =>
    rw [if_neg (by rw [htold]; decide)] at ht
    by_cases hfin : y.op = 23
    · rw [if_pos hfin] at ht
      have hfin' : (y.op : Int) = 23 := by omega
      repeat (first
        | (apply wo_po; apply mo_bin; exact rfl; exact rfl; apply bin_eqlT; exact hfin'; (first | exact trivial | exact rfl))
        | refine we_seq ?_
        | (refine we_region _ rfl rfl ?_; simp only [opsOf, List.map_cons, List.map_nil, Option.map_none, Option.map_some, List.getElem?_toArray, List.getElem?_cons_zero, List.getElem?_cons_succ, Option.bind_some, Option.getD_some])
        | refine wo_nil ?_
        | (apply wo_po; apply mo_fieldAddr; exact rfl; exact rfl; (first | exact Nat.zero_add _ | exact rfl); (first | exact trivial | exact rfl))
        | (apply wo_po; apply mo_load; exact rfl; (repeat (first | exact Rd.row0 rfl | exact Rd.row rfl rfl | exact Rd.still | apply Rd.there)); (first | exact trivial | exact rfl))
        | (apply we_condT; exact rfl; (first | exact rfl | (simp <;> omega) | omega))
        | (apply we_condF; exact rfl; (first | exact rfl | (simp <;> omega) | omega))
        | refine we_skip ?_)
      have hlenb := g.len
      refine we_pure (of_has (.there (.there .here)) (vec_shape (by omega))) ?_
      rintro ⟨aa, an, ac, rfl, hlen, _, ha, ha2⟩
      have han : al.length = an := ans_len hlen
      have hal : al.length = t.begun.ans.length := by rw [← e1, List.length_map]
      obtain ⟨⟨ab, ao, sp⟩, rfl⟩ : ∃ y, aa = some y := by
        cases aa with
        | none => have : an = 0 := ha rfl; omega
        | some y => exact ⟨y, rfl⟩
      cases ha2 _ rfl
      obtain ⟨⟨d, tv, told⟩, hk2⟩ : ∃ y, al[t.begun.call]? = some y := ⟨al[t.begun.call]'(by omega), by simp⟩
      have hlenc : 2 * t.begun.call < ((al.map ansV).flatten).length := by rw [flat_len (k := 2) (fun _ => rfl)]; omega
      refine we_ent (arr ib 0 (inC y) :: arr tb 0 (thCells (cw.v cs.length) t.begun (.slice (some ⟨ab, ao, none⟩) an ac)) :: vec 2 (.slice (some ⟨ab, ao, none⟩) an ac) (al.map ansV).flatten :: all (al.map ansT) :: F) .refl ?_
      have hav : Rd (arr ib 0 (inC y) :: arr tb 0 (thCells (cw.v cs.length) t.begun (.slice (some ⟨ab, ao, none⟩) an ac)) :: vec 2 (.slice (some ⟨ab, ao, none⟩) an ac) (al.map ansV).flatten :: all (al.map ansT) :: F) tb 27 (.slice (some ⟨ab, ao, none⟩) an ac) := .there (.row0 rfl)
      refine we_draw (List.range' 0 11) (by kernel_rfl) ?_
      repeat (first
        | (apply ap_read; exact rfl; exact rfl; exact trivial; apply mo_load; exact rfl; exact hav)
        | (apply ap_pure; exact rfl; exact rfl; exact trivial; intro L; apply mo_index2; exact rfl; exact rfl; omega)
        | (apply ap_pure; exact rfl; exact rfl; (first | exact trivial | exact rfl); intro L; apply mo_move; exact rfl)
        | (apply ap_pure; exact rfl; exact rfl; (first | exact trivial | exact rfl); intro L; apply mo_nilCheck; exact rfl)
        | (apply ap_pure; exact rfl; exact rfl; (first | exact trivial | exact rfl); intro L; apply mo_fieldAddr; exact rfl; exact rfl; (first | exact Nat.zero_add _ | exact rfl))
        | (apply ap_read; exact rfl; exact rfl; (first | exact trivial | exact rfl); apply mo_load; exact rfl; (repeat (first | exact Rd.row0 rfl | exact Rd.row rfl rfl | exact Rd.still | apply Rd.there))))
      refine ap_loud rfl rfl rfl rfl rfl trivial (mo_store rfl rfl rfl (wt_vec (i := 2 * t.begun.call) (.there (.there .here)) hlenc)) ?_
      rintro v' L' ⟨rfl, rfl⟩
      refine ap_end ?_
      repeat (first
        | (apply wo_pm; apply mo_store; exact rfl; exact rfl; exact rfl; apply Wt.row0; (repeat (first | exact Foc.here | apply Foc.there)); (first | exact Nat.lt_of_sub_eq_succ rfl | omega); (first | exact trivial | exact rfl))
        | (apply wo_po; apply mo_buildArr (pv := []); exact rfl; exact .nil; exact rfl; exact trivial)
        | refine we_seq ?_
        | (refine we_region _ rfl rfl ?_; simp only [opsOf, List.map_cons, List.map_nil, Option.map_none, Option.map_some, List.getElem?_toArray, List.getElem?_cons_zero, List.getElem?_cons_succ, Option.bind_some, Option.getD_some])
        | refine wo_nil ?_
        | (apply wo_po; apply mo_move; exact rfl; (first | exact trivial | exact rfl))
        | (apply wo_po; apply mo_nilCheck; exact rfl; (first | exact trivial | exact rfl))
        | (apply wo_po; apply mo_fieldAddr; exact rfl; exact rfl; (first | exact Nat.zero_add _ | exact rfl); (first | exact trivial | exact rfl))
        | (apply wo_po; apply mo_load; exact rfl; (repeat (first | exact Rd.row0 rfl | exact Rd.row rfl rfl | exact Rd.still | apply Rd.there)); (first | exact trivial | exact rfl))
        | (apply wo_po; apply mo_bin; exact rfl; exact rfl; apply bin_add; exact wrap_i64 (by omega) (by omega); (first | exact trivial | exact rfl)))
      refine wo_ent (vec 2 (.slice (some ⟨ab, ao, none⟩) an ac) ((al.map ansV).flatten.set (2 * t.begun.call) (.bool true)) :: arr ib 0 (inC y) :: arr tb 0 (thCells (cw.v cs.length) { t.begun with call := t.begun.call + 1, pc := 0 } (.slice (some ⟨ab, ao, none⟩) an ac)) :: all (al.map ansT) :: F) .refl ?_
      refine wo_pm (mo_storeA (c := 0) (k := 3) (a := 3) rfl rfl rfl (List.all_eq_true.1 rfl) rfl (Nat.le_of_ble_eq_true rfl) (.there (.there .here))) trivial ?_
      repeat (first
        | refine wo_nil ?_
        | refine we_exit ?_)
      refine at_roundS (I := onInv tb wv cw cs x' F t') (R := fun i' => i'.1 < f + 1) (f, t.begun.done) (by simp) ⟨ht, ?_, by omega⟩ ⟨rfl, rfl, trivial⟩ (fun h st => ?_) rfl
      · have gd := gb.done (by rw [b1]; exact b2) hltb
        exact ⟨gd.calls, gd.ok, gd.len, gd.pc, gd.call, gd.ans1, gd.ans2, fun z hz => by have := gd.room z hz; omega⟩
      · have hm : (al.set t.begun.call (true, tv, told)).map ansOf = t.begun.done.ans := by
          show _ = t.begun.ans.modify t.begun.call fun y => (true, y.2)
          rw [← e1]
          apply List.ext_getElem?
          intro j
          have hlt : t.begun.call < al.length := (List.getElem?_eq_some_iff.1 hk2).1
          rw [List.getElem?_map, List.getElem?_modify, List.getElem?_map, List.getElem?_set]
          by_cases e : t.begun.call = j
          · subst e; rw [if_pos rfl, if_pos hlt, hk2]; show some _ = some _; simp [ansOf]
          · simp [e]
        refine th_close (y := (.slice (some ⟨ab, ao, none⟩) an ac, al.set t.begun.call (true, tv, told))) hm (fun _ => by show 0 < 18446744073709551616; omega) ?_
        show Star (arr tb 0 (thCells (cw.v cs.length) t.begun.done (.slice (some ⟨ab, ao, none⟩) an ac)) :: vec 2 (.slice (some ⟨ab, ao, none⟩) an ac) ((al.set t.begun.call (true, tv, told)).map ansV).flatten :: all ((al.set t.begun.call (true, tv, told)).map ansT) :: F) h
        rw [← flat_set (k := 2) (fun _ => rfl) al t.begun.call 0 (d, tv, told) _ hk2 (by omega) (v := .bool true) rfl, Nat.add_zero]
        have hT : (al.set t.begun.call (true, tv, told)).map ansT = al.map ansT := by
          rw [List.map_set]
          apply List.ext_getElem?
          intro j
          rw [List.getElem?_set]
          by_cases e : t.begun.call = j
          · subst e
            rw [if_pos rfl, List.getElem?_map, hk2, if_pos (by simp; exact (List.getElem?_eq_some_iff.1 hk2).1)]; rfl
          · rw [if_neg e]
        rw [hT]
        refine Ent.star ?_ st
        exact .take (.there (.there .here)) (.take .here (.drop .refl))
    · rw [if_neg hfin] at ht
      have hfin' : ¬ (y.op : Int) = 23 := by omega
      have hyok : y.ok = true := by
        rcases gb.next hltb with h | ⟨h, _⟩
        · rw [hy, h] at hfin; exact absurd rfl hfin
        · rw [hy]; exact h
      have hy6 : 6 ≤ y.op ∧ y.op ≤ 22 := by
        simp only [Mach.In.ok, Bool.and_eq_true, decide_eq_true_eq] at hyok
        simp only [Mach.told, Bool.and_eq_false_iff, decide_eq_false_iff_not] at htold
        omega
      have gn := Good.own (k := f) gb hltb (by rw [← hy]; exact hfin)
      rw [← hy] at gn
      have hx : Rds (arr ib 0 (inC y) :: thB tb (cw.v cs.length) t.begun (av, al) ++ F) ib 0 (inC y) := Rds.all .here
      repeat (first
        | (apply wo_po; apply mo_bin; exact rfl; exact rfl; apply bin_eqlF; exact hfin'; (first | exact trivial | exact rfl))
        | (apply wo_po; apply mo_loadA (vs := inC y); exact rfl; exact rfl; exact hx; exact trivial)
        | refine we_seq ?_
        | (refine we_region _ rfl rfl ?_; simp only [opsOf, List.map_cons, List.map_nil, Option.map_none, Option.map_some, List.getElem?_toArray, List.getElem?_cons_zero, List.getElem?_cons_succ, Option.bind_some, Option.getD_some])
        | refine wo_nil ?_
        | (apply wo_po; apply mo_move; exact rfl; (first | exact trivial | exact rfl))
        | (apply wo_po; apply mo_fieldAddr; exact rfl; exact rfl; (first | exact Nat.zero_add _ | exact rfl); (first | exact trivial | exact rfl))
        | (apply wo_po; apply mo_load; exact rfl; (repeat (first | exact Rd.row0 rfl | exact Rd.row rfl rfl | exact Rd.still | apply Rd.there)); (first | exact trivial | exact rfl))
        | (apply we_condF; exact rfl; (first | exact rfl | (simp <;> omega) | omega))
        | refine we_skip ?_)
      refine wo_star (thC tb (cw.v cs.length) t.begun :: arr ib 0 (inC y) :: F) (fun h st => th_close (y := (av, al)) e1 hrB ?_) ?_
      · exact (Ent.take (.there .here) (.take (.there .here) (.take (.there .here) .refl))).star st
      rw [← hclB] at hcode gn ⊢
      refine wo_call (.cons rfl (.cons rfl (.cons rfl .nil))) trivial (own_tr hy6 hyok gb.pc (by rw [hclB]; exact hltb) (by rw [b1]; exact b2) (by rw [hclB]; exact g.ok) (by rw [hclB]; exact g.len) (fun z hz => by have := gb.room z hz; omega) .here (.there hcode)) ?_
      rintro v' L' x'' ⟨rfl, rfl, rfl⟩
      rw [hclB] at gn ⊢
      repeat (first
        | refine wo_nil ?_)
      refine at_round (I := onInv tb wv cw cs x'' F t') (R := fun i' => i'.1 < f + 1) (f, Mach.own t.begun y) (by simp) ⟨ht, gn, by omega⟩ ⟨rfl, rfl, trivial⟩ ?_ rfl
      exact .take .here (.drop .refl)

end Go.Proofs.Ytmkkanmkjfnpdaa
