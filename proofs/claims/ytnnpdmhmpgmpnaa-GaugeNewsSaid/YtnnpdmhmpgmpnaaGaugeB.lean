/-
  THE BREAKER (package gauge), over whatever access to its word and its gate.
-/
import Derived.Test.YtnnpdmhmpgmpnaaGauge
set_option linter.unusedVariables false
set_option linter.unusedSimpArgs false
namespace Go.Proofs.Ytnnpdmhmpgmpnaa
open Go Go.PB
attribute [local irreducible] Mo Bin Eql Tr Wo Ap Wle

section
variable {B : Hand} [Lets B] {gv : Value} {A : Acc B gv} {r fails wait : Nat} {L F : List HProp}

/-- turn: what a function makes of the word, until it is done -/
def TurnF (A : Acc B gv) (G : Nat → Nat → Nat → Option (Nat × Nat × Nat)) (Q : Nat × Nat × Nat → Bool → A.S → Prop) (X : A.S → Prop) (s : A.S) : Prop :=
  A.step 1 0 s fun s => A.load 0 s fun o s => match G (o % 4) (o / 4 % 2097152) (o / 8388608) with
    | none => Q (o % 4, o / 4 % 2097152, o / 8388608) false s
    | some y => A.step 5 0 s fun s => A.cas 0 o (packN y.1 y.2.1 y.2.2) s fun c s => if c then Q y true s else X s
def TurnT (A : Acc B gv) (G : Nat → Nat → Nat → Option (Nat × Nat × Nat)) (s : A.S) (Q : Nat × Nat × Nat → Bool → A.S → Prop) : Prop := ∀ X : A.S → Prop, (∀ s, TurnF A G Q X s → X s) → X s

/-- a function that turn is given -/
def NextTr (A : Acc B gv) (F : List HProp) (fn : FuncId) (caps : List Value) (G : Nat → Nat → Nat → Option (Nat × Nat × Nat)) : Prop :=
  ∀ s (d : HProp) a b c, a < 4 → b < 2097152 → c < 2199023255552 → Tr Try.prog B fn ([w3 a b c] ++ caps) (A.C s :: d :: F) (A.x s) fun v L' x' => L' = A.C s :: d :: F ∧ x' = A.x s ∧
    match G a b c with
    | none => ∃ y1 y2 y3 : Nat, v = .tuple #[w3 y1 y2 y3, .bool false]
    | some y => y.1 < 18446744073709551616 ∧ y.2.1 < 18446744073709551616 ∧ y.2.2 < 18446744073709551616 ∧ v = .tuple #[w3 y.1 y.2.1 y.2.2, .bool true]

theorem turn_tr (R : BreakerAt A r fails wait) {fn : FuncId} {caps : List Value} {G : Nat → Nat → Nat → Option (Nat × Nat × Nat)} [Ent' Try.prog fn] (hfn : NextTr A F fn caps G) {s : A.S} {T : Nat × Nat × Nat → Bool → A.S → Prop} (hs : TurnT A G s T) (hh : Has L (A.C s) F) :
    Tr Try.prog B 45 [.pointer (some ⟨r, 0, none⟩), gv, .func (.func fn) #[] caps.toArray] L (A.x s) fun v L' x' => ∃ y q s', T y q s' ∧ v = .tuple #[w3 y.1 y.2.1 y.2.2, .bool q] ∧ L' = A.C s' :: F ∧ x' = A.x s' := by
  refine Tr.post (R := fun v L' x' => ∃ y q s', T y q s' ∧ v = .tuple #[w3 y.1 y.2.1 y.2.2, .bool q] ∧ x' = A.x s' ∧ ∀ h, Star L' h → Star (A.C s' :: F) h) ?_ (by rintro v L' x' ⟨y, q, s', h1, rfl, rfl, hs⟩; exact ⟨_, ⟨y, q, s', h1, rfl, rfl, rfl⟩, hs⟩)
  refine tr_of_body Try.func45 rfl Try.ntmps45 (by simp) fun um Q hQ => ?_
  simp only [argE, Nat.zero_add, Nat.reduceAdd]
  repeat (first
    | (apply wo_mo; apply mo_alloc; exact trivial)
    | refine we_seq ?_
    | (refine we_region _ rfl rfl ?_; simp only [opsOf, List.map_cons, List.map_nil, Option.map_none, Option.map_some, List.getElem?_toArray, List.getElem?_cons_zero, List.getElem?_cons_succ, Option.bind_some, Option.getD_some]))
  rintro v' L' ⟨rb, rfl, rfl⟩
  repeat (first
    | refine wo_nil ?_
    | (apply wo_po; apply mo_assign; exact rfl; (first | exact trivial | exact rfl))
    | refine we_block ?_)
  refine we_lfp (TurnF A G T) (fun s => A.C s :: arr rb 0 [.int .u64 0, .int .u64 0, .int .u64 0] :: F) A.x s hs [(0, .pointer (some ⟨r, 0, none⟩)), (1, gv), (2, .func (.func fn) #[] caps.toArray), (6, .pointer (some ⟨rb, 0, none⟩))] ⟨rfl, rfl, rfl, rfl, trivial⟩ (.take (.there hh) (.take .here .refl)) rfl ?_
  clear hs hh
  intro s hs
  repeat (first
    | refine we_seq ?_
    | (refine we_region _ rfl rfl ?_; simp only [opsOf, List.map_cons, List.map_nil, Option.map_none, Option.map_some, List.getElem?_toArray, List.getElem?_cons_zero, List.getElem?_cons_succ, Option.bind_some, Option.getD_some])
    | (apply wo_po; apply mo_move; exact rfl; (first | exact trivial | exact rfl))
    | refine we_block ?_)
  refine wo_call (.cons rfl (.cons rfl (.cons rfl .nil))) trivial (step_tr (w := 0) hs .here) ?_
  rintro v1 L1 x1 ⟨s1, h1, rfl, rfl, rfl⟩
  repeat (first
    | refine we_seq ?_
    | (refine we_region _ rfl rfl ?_; simp only [opsOf, List.map_cons, List.map_nil, Option.map_none, Option.map_some, List.getElem?_toArray, List.getElem?_cons_zero, List.getElem?_cons_succ, Option.bind_some, Option.getD_some])
    | refine wo_nil ?_
    | (apply wo_po; apply mo_move; exact rfl; (first | exact trivial | exact rfl))
    | (apply wo_po; apply mo_nilCheck; exact rfl; (first | exact trivial | exact rfl))
    | (apply wo_po; apply mo_fieldAddr; exact rfl; exact rfl; (first | exact Nat.zero_add _ | exact rfl); (first | exact trivial | exact rfl)))
  refine wo_call (.cons rfl .nil) trivial (A.load_ok _ _ _ _ _ _ _ R.a h1 .here) ?_
  rintro v1 L1 x1 ⟨o, s2, ho, h2, rfl, rfl, rfl⟩
  repeat (first
    | refine we_seq ?_
    | (refine we_region _ rfl rfl ?_; simp only [opsOf, List.map_cons, List.map_nil, Option.map_none, Option.map_some, List.getElem?_toArray, List.getElem?_cons_zero, List.getElem?_cons_succ, Option.bind_some, Option.getD_some])
    | refine wo_nil ?_
    | (apply wo_po; apply mo_move; exact rfl; (first | exact trivial | exact rfl))
    | (apply wo_po; apply mo_assign; exact rfl; (first | exact trivial | exact rfl)))
  refine wo_call (.cons rfl .nil) trivial (apart_tr ho) ?_
  rintro v1 L1 x1 ⟨rfl, rfl, rfl⟩
  skip
  refine wo_callv rfl (f := fn) (first := []) (cap := caps) rfl (.cons rfl .nil) trivial (hfn s2 _ _ _ _ (by omega) (by omega) (by omega)) ?_
  rintro v1 L1 x1 ⟨rfl, rfl, hv⟩
  cases hG : G (o % 4) (o / 4 % 2097152) (o / 8388608) with
  | none =>
    rw [hG] at h2 hv
    obtain ⟨y1, y2, y3, rfl⟩ := hv
    repeat (first
      | (apply wo_mo; apply mo_alloc; exact trivial)
      | (apply wo_po; apply mo_move; exact rfl; (first | exact trivial | exact rfl))
      | (apply wo_po; apply mo_extract; exact rfl; exact rfl; (first | exact trivial | exact rfl)))
    rintro v' L' ⟨cb, rfl, rfl⟩
    repeat (first
      | (apply wo_pm; apply mo_storeA (b := cb) (c := 0) (k := 0) (a := 0) (vs := [.int .u64 0, .int .u64 0, .int .u64 0]); exact rfl; exact rfl; exact rfl; (intro w hw; simp [Value.cells, w3] at hw; rcases hw with rfl | rfl | rfl <;> rfl); exact rfl; exact Nat.le_refl 3; exact .here; exact trivial)
      | refine we_seq ?_
      | (refine we_region _ rfl rfl ?_; simp only [opsOf, List.map_cons, List.map_nil, Option.map_none, Option.map_some, List.getElem?_toArray, List.getElem?_cons_zero, List.getElem?_cons_succ, Option.bind_some, Option.getD_some])
      | refine wo_nil ?_
      | (apply wo_po; apply mo_move; exact rfl; (first | exact trivial | exact rfl))
      | (apply wo_po; apply mo_assign; exact rfl; (first | exact trivial | exact rfl))
      | (apply wo_po; apply mo_not; exact rfl; (first | exact trivial | exact rfl))
      | (apply we_condT; exact rfl; (first | exact rfl | (simp <;> omega) | omega)))
    refine wo_call (.cons rfl .nil) trivial (apart_tr ho) ?_
    rintro v1 L1 x1 ⟨rfl, rfl, rfl⟩
    repeat (first
      | (apply wo_pm; apply mo_storeA (b := rb) (c := 0) (k := 0) (a := 0) (vs := [.int .u64 0, .int .u64 0, .int .u64 0]); exact rfl; exact rfl; exact rfl; (intro w hw; simp [Value.cells, w3] at hw; rcases hw with rfl | rfl | rfl <;> rfl); exact rfl; exact Nat.le_refl 3; exact (.there (.there .here)); exact trivial)
      | refine wo_nil ?_
      | (apply wo_po; apply mo_assign; exact rfl; (first | exact trivial | exact rfl))
      | refine we_ret ?_)
    refine at_leaveM (rs := [.cell 6 128, .tmp 7]) Try.func45 Try.results45 hQ (.inl rfl) (.cons (.cell (vs := [.int .u64 ((o % 4 : Nat) : Int), .int .u64 ((o / 4 % 2097152 : Nat) : Int), .int .u64 ((o / 8388608 : Nat) : Int)]) rfl rfl (Rds.all (.there (.there .here)))) (.cons (.tmp rfl) .nil)) ?_
    exact ⟨(o % 4, o / 4 % 2097152, o / 8388608), false, s2, h2, rfl, rfl, fun h st => Ent.star (.take (.there .here) (.drop (.drop .refl))) st⟩
  | some y =>
    rw [hG] at h2 hv
    obtain ⟨b1, b2, b3, rfl⟩ := hv
    repeat (first
      | (apply wo_mo; apply mo_alloc; exact trivial)
      | (apply wo_po; apply mo_move; exact rfl; (first | exact trivial | exact rfl))
      | (apply wo_po; apply mo_extract; exact rfl; exact rfl; (first | exact trivial | exact rfl)))
    rintro v' L' ⟨cb, rfl, rfl⟩
    repeat (first
      | (apply wo_pm; apply mo_storeA (b := cb) (c := 0) (k := 0) (a := 0) (vs := [.int .u64 0, .int .u64 0, .int .u64 0]); exact rfl; exact rfl; exact rfl; (intro w hw; simp [Value.cells, w3] at hw; rcases hw with rfl | rfl | rfl <;> rfl); exact rfl; exact Nat.le_refl 3; exact .here; exact trivial)
      | refine we_seq ?_
      | (refine we_region _ rfl rfl ?_; simp only [opsOf, List.map_cons, List.map_nil, Option.map_none, Option.map_some, List.getElem?_toArray, List.getElem?_cons_zero, List.getElem?_cons_succ, Option.bind_some, Option.getD_some])
      | refine wo_nil ?_
      | (apply wo_po; apply mo_move; exact rfl; (first | exact trivial | exact rfl))
      | (apply wo_po; apply mo_assign; exact rfl; (first | exact trivial | exact rfl))
      | (apply wo_po; apply mo_not; exact rfl; (first | exact trivial | exact rfl))
      | (apply we_condF; exact rfl; (first | exact rfl | (simp <;> omega) | omega))
      | refine we_skip ?_)
    refine wo_call (.cons rfl (.cons rfl (.cons rfl .nil))) trivial (step_tr (w := 0) h2 (.there .here)) ?_
    rintro v1 L1 x1 ⟨s3, h3, rfl, rfl, rfl⟩
    have hw : Rds (A.C s3 :: arr cb 0 [.int .u64 (y.1 : Nat), .int .u64 (y.2.1 : Nat), .int .u64 (y.2.2 : Nat)] :: arr rb 0 [.int .u64 0, .int .u64 0, .int .u64 0] :: F) cb 0 [.int .u64 (y.1 : Nat), .int .u64 (y.2.1 : Nat), .int .u64 (y.2.2 : Nat)] := Rds.all (.there .here)
    refine wo_ent (A.C s3 :: arr cb 0 [.int .u64 (y.1 : Nat), .int .u64 (y.2.1 : Nat), .int .u64 (y.2.2 : Nat)] :: arr rb 0 [.int .u64 0, .int .u64 0, .int .u64 0] :: F) .refl ?_
    repeat (first
      | refine we_seq ?_
      | refine wo_nil ?_)
    refine we_draw (List.range' 0 7) (by kernel_rfl) ?_
    repeat (first
      | (apply ap_read; exact rfl; exact rfl; (first | exact trivial | exact rfl); apply mo_loadA (vs := [.int .u64 (y.1 : Nat), .int .u64 (y.2.1 : Nat), .int .u64 (y.2.2 : Nat)]); exact rfl; exact rfl; exact hw)
      | (apply ap_pure; exact rfl; exact rfl; (first | exact trivial | exact rfl); intro L; apply mo_move; exact rfl)
      | (apply ap_pure; exact rfl; exact rfl; (first | exact trivial | exact rfl); intro L; apply mo_nilCheck; exact rfl)
      | (apply ap_pure; exact rfl; exact rfl; (first | exact trivial | exact rfl); intro L; apply mo_fieldAddr; exact rfl; exact rfl; (first | exact Nat.zero_add _ | exact rfl)))
    refine ap_callv rfl rfl rfl rfl trivial rfl rfl (.cons rfl .nil) (packed_tr b1 b2 b3) ?_
    rintro v1 L1 x1 ⟨rfl, rfl, rfl⟩
    refine ap_callv rfl rfl rfl rfl trivial rfl rfl (.cons rfl (.cons rfl (.cons rfl .nil))) (A.cas_ok _ _ _ _ _ _ _ _ _ R.a packN_lt h3 .here) ?_
    rintro v1 L1 x1 ⟨q, s4, h4, rfl, rfl, rfl⟩
    refine ap_end ?_
    cases q
    · simp only [Bool.false_eq_true, if_false] at h4
      repeat (first
        | (apply we_condF; exact rfl; (first | exact rfl | (simp <;> omega) | omega))
        | refine we_skip ?_)
      exact at_again h4 ⟨rfl, rfl, rfl, rfl, trivial⟩ (.take .here (.drop .refl))
    · simp only [if_true] at h4
      repeat (first
        | (apply wo_po; apply mo_loadA (vs := [.int .u64 (y.1 : Nat), .int .u64 (y.2.1 : Nat), .int .u64 (y.2.2 : Nat)]); exact rfl; exact rfl; exact Rds.all (.there .here); exact trivial)
        | (apply wo_pm; apply mo_storeA (b := rb) (c := 0) (k := 0) (a := 0) (vs := [.int .u64 0, .int .u64 0, .int .u64 0]); exact rfl; exact rfl; exact rfl; (intro w hw; simp [Value.cells, w3] at hw; rcases hw with rfl | rfl | rfl <;> rfl); exact rfl; exact Nat.le_refl 3; exact (.there (.there .here)); exact trivial)
        | refine we_seq ?_
        | (refine we_region _ rfl rfl ?_; simp only [opsOf, List.map_cons, List.map_nil, Option.map_none, Option.map_some, List.getElem?_toArray, List.getElem?_cons_zero, List.getElem?_cons_succ, Option.bind_some, Option.getD_some])
        | refine wo_nil ?_
        | (apply wo_po; apply mo_assign; exact rfl; (first | exact trivial | exact rfl))
        | (apply we_condT; exact rfl; (first | exact rfl | (simp <;> omega) | omega))
        | refine we_ret ?_)
      refine at_leaveM (rs := [.cell 6 128, .tmp 7]) Try.func45 Try.results45 hQ (.inl rfl) (.cons (.cell (vs := [.int .u64 (y.1 : Nat), .int .u64 (y.2.1 : Nat), .int .u64 (y.2.2 : Nat)]) rfl rfl (Rds.all (.there (.there .here)))) (.cons (.tmp rfl) .nil)) ?_
      exact ⟨y, true, s4, h4, rfl, rfl, fun h st => Ent.star (.take .here (.drop (.drop .refl))) st⟩

/-- what Ask makes of the word -/
def askG (wait now : Nat) (a b c : Nat) : Option (Nat × Nat × Nat) := if a ≠ 0 ∧ c + wait ≤ now then some (2, b, now) else none
/-- what Tell makes of the word -/
def tellG (fails now : Nat) (good : Bool) (a b c : Nat) : Option (Nat × Nat × Nat) :=
  if a = 1 ∨ (good = true ∧ a = 0 ∧ b = 0) then none else if good = true then some (0, 0, 0) else if a = 2 then some (1, b, now) else if b + 1 = fails then some (1, fails, now) else some (0, b + 1, 0)
end

section
variable {B : Hand} [Lets B] {gv : Value} {A : Acc B gv} {r fails wait : Nat} {L F : List HProp}

theorem ask1_tr (R : BreakerAt A r fails wait) {now nb bb : Nat} (hn : now ≤ 1099511627776) : NextTr A (arr nb 0 [.int .u64 (now : Nat)] :: arr bb 0 [.pointer (some ⟨r, 0, none⟩)] :: F) 46 [.pointer (some ⟨nb, 0, none⟩), .pointer (some ⟨bb, 0, none⟩)] (askG wait now) := by
  intro s d a b c ha hb hc
  refine Tr.post (R := fun v L' x' => x' = A.x s ∧ (∀ h, Star L' h → Star (A.C s :: d :: arr nb 0 [.int .u64 (now : Nat)] :: arr bb 0 [.pointer (some ⟨r, 0, none⟩)] :: F) h) ∧
    match askG wait now a b c with
    | none => ∃ y1 y2 y3 : Nat, v = .tuple #[w3 y1 y2 y3, .bool false]
    | some y => y.1 < 18446744073709551616 ∧ y.2.1 < 18446744073709551616 ∧ y.2.2 < 18446744073709551616 ∧ v = .tuple #[w3 y.1 y.2.1 y.2.2, .bool true]) ?_ (by rintro v L' x' ⟨rfl, hs, h1⟩; exact ⟨_, ⟨rfl, rfl, h1⟩, hs⟩)
  have hw := R.whi
  have hadd : IntKind.u64.wrap ((c : Int) + (wait : Int)) = ((c + wait : Nat) : Int) := (wrap_u64 (by omega) (by omega)).trans (by omega)
  simp only [List.cons_append, List.nil_append]
  refine tr_of_body Try.func46 rfl Try.ntmps46 (by simp) fun um Q hQ => ?_
  simp only [argE, Nat.zero_add, Nat.reduceAdd]
  repeat (first
    | (apply wo_mo; apply mo_box; exact rfl; exact trivial)
    | refine we_seq ?_
    | (refine we_region _ rfl rfl ?_; simp only [opsOf, List.map_cons, List.map_nil, Option.map_none, Option.map_some, List.getElem?_toArray, List.getElem?_cons_zero, List.getElem?_cons_succ, Option.bind_some, Option.getD_some]))
  rintro v' L' ⟨kb, rfl, rfl⟩
  refine wo_ent (arr kb 0 [.int .u64 (a : Nat), .int .u64 (b : Nat), .int .u64 (c : Nat)] :: A.C s :: d :: arr nb 0 [.int .u64 (now : Nat)] :: arr bb 0 [.pointer (some ⟨r, 0, none⟩)] :: F) .refl ?_
  repeat (first
    | (apply wo_mo; apply mo_alloc; exact trivial))
  rintro v' L' ⟨cb, rfl, rfl⟩
  have hwt : ∀ {c1 c2 : HProp}, Rd (c1 :: c2 :: A.C s :: d :: arr nb 0 [.int .u64 (now : Nat)] :: arr bb 0 [.pointer (some ⟨r, 0, none⟩)] :: F) r 1 (.int .u64 (wait : Nat)) := fun {c1 c2} => Rd.there (Rd.there (Rd.of .here (R.hdw s)))
  repeat (first
    | refine we_seq ?_
    | refine wo_nil ?_
    | (apply wo_po; apply mo_assign; exact rfl; (first | exact trivial | exact rfl)))
  refine we_draw (List.range' 0 20) (by kernel_rfl) ?_
  by_cases c1 : a = 0
  · subst c1
    repeat (first
      | (apply ap_pure; exact rfl; exact rfl; (first | exact trivial | exact rfl); intro L; apply mo_bin; exact rfl; exact rfl; apply bin_neqF; rfl)
      | (apply ap_pure; exact rfl; exact rfl; (first | exact trivial | exact rfl); intro L; apply mo_buildV; (repeat (first | exact EvL.nil | apply EvL.cons rfl)); exact rfl)
      | (apply ap_pure; exact rfl; exact rfl; (first | exact trivial | exact rfl); intro L; apply mo_move; exact rfl)
      | (apply ap_no; exact rfl; exact rfl; exact rfl; exact rfl)
      | (apply ap_pure; exact rfl; exact rfl; (first | exact trivial | exact rfl); intro L; apply mo_fieldAddr; exact rfl; exact rfl; (first | exact Nat.zero_add _ | exact rfl))
      | (apply ap_pure; exact rfl; exact rfl; (first | exact trivial | exact rfl); intro L; apply mo_pickF; exact rfl; exact rfl; exact rfl)
      | (apply ap_read; exact rfl; exact rfl; (first | exact trivial | exact rfl); apply mo_load; exact rfl; (repeat (first | exact Rd.row0 rfl | exact Rd.row rfl rfl | exact Rd.still | apply Rd.there))))
    refine ap_loudR rfl rfl rfl rfl trivial (mo_storeA (b := cb) (c := 0) (k := 0) (a := 0) (vs := [.int .u64 0, .int .u64 0, .int .u64 0]) rfl rfl rfl (by intro w hw; simp [Value.cells, w3] at hw; rcases hw with rfl | rfl | rfl <;> rfl) rfl (Nat.le_refl 3) .here) ?_ ?_
    · rintro v L' ⟨rfl, rfl⟩ p hp
      replace hp := (List.mem_filter.1 hp).1
      simp only [List.mem_cons, List.not_mem_nil, or_false] at hp
      repeat (rcases hp with rfl | hp; · first | exact .inl rfl | exact .inr ⟨_, rfl, (by first | exact trivial | exact rfl), mo_load rfl (by repeat (first | exact hwt | exact Rd.row0 rfl | exact Rd.row rfl rfl | exact Rd.still | apply Rd.there))⟩)
    rintro v' L' ⟨rfl, rfl⟩
    repeat (first
      | (apply ap_pure; exact rfl; exact rfl; (first | exact trivial | exact rfl); intro L; apply mo_assign; exact rfl)
      | refine ap_end ?_)
    repeat (first
      | refine we_ret ?_)
    refine at_leaveM (rs := [.cell 4 128, .tmp 5]) Try.func46 Try.results46 hQ (.inl rfl) (.cons (.cell (vs := [.int .u64 2, .int .u64 (b : Nat), .int .u64 (now : Nat)]) rfl rfl (Rds.all .here)) (.cons (.tmp rfl) .nil)) ?_
    refine ⟨rfl, fun h st => Ent.star (.drop (.drop .refl)) st, ?_⟩
    rw [show askG wait now 0 b c = none from if_neg (fun h => h.1 rfl)]
    exact ⟨2, b, now, rfl⟩
  · by_cases c2 : c + wait ≤ now
    · repeat (first
        | (apply ap_pure; exact rfl; exact rfl; (first | exact trivial | exact rfl); intro L; apply mo_bin; exact rfl; exact rfl; apply bin_neqT; omega)
        | (apply ap_read; exact rfl; exact rfl; (first | exact trivial | exact rfl); apply mo_load; exact rfl; exact hwt)
        | (apply ap_pure; exact rfl; exact rfl; (first | exact trivial | exact rfl); intro L; apply mo_buildV; (repeat (first | exact EvL.nil | apply EvL.cons rfl)); exact rfl)
        | (apply ap_pure; exact rfl; exact rfl; (first | exact trivial | exact rfl); intro L; apply mo_bin; exact rfl; exact rfl; apply bin_add; exact hadd)
        | (apply ap_pure; exact rfl; exact rfl; (first | exact trivial | exact rfl); intro L; apply mo_bin; exact rfl; exact rfl; apply bin_geqT; omega)
        | (apply ap_pure; exact rfl; exact rfl; (first | exact trivial | exact rfl); intro L; apply mo_move; exact rfl)
        | (apply ap_pure; exact rfl; exact rfl; (first | exact trivial | exact rfl); intro L; apply mo_nilCheck; exact rfl)
        | (apply ap_pure; exact rfl; exact rfl; (first | exact trivial | exact rfl); intro L; apply mo_fieldAddr; exact rfl; exact rfl; (first | exact Nat.zero_add _ | exact rfl))
        | (apply ap_pure; exact rfl; exact rfl; (first | exact trivial | exact rfl); intro L; apply mo_pickT; exact rfl; exact rfl; exact rfl)
        | (apply ap_read; exact rfl; exact rfl; (first | exact trivial | exact rfl); apply mo_load; exact rfl; (repeat (first | exact Rd.row0 rfl | exact Rd.row rfl rfl | exact Rd.still | apply Rd.there))))
      refine ap_loudR rfl rfl rfl rfl trivial (mo_storeA (b := cb) (c := 0) (k := 0) (a := 0) (vs := [.int .u64 0, .int .u64 0, .int .u64 0]) rfl rfl rfl (by intro w hw; simp [Value.cells, w3] at hw; rcases hw with rfl | rfl | rfl <;> rfl) rfl (Nat.le_refl 3) .here) ?_ ?_
      · rintro v L' ⟨rfl, rfl⟩ p hp
        replace hp := (List.mem_filter.1 hp).1
        simp only [List.mem_cons, List.not_mem_nil, or_false] at hp
        repeat (rcases hp with rfl | hp; · first | exact .inl rfl | exact .inr ⟨_, rfl, (by first | exact trivial | exact rfl), mo_load rfl (by repeat (first | exact hwt | exact Rd.row0 rfl | exact Rd.row rfl rfl | exact Rd.still | apply Rd.there))⟩)
      rintro v' L' ⟨rfl, rfl⟩
      repeat (first
        | (apply ap_pure; exact rfl; exact rfl; (first | exact trivial | exact rfl); intro L; apply mo_assign; exact rfl)
        | refine ap_end ?_)
      repeat (first
        | refine we_ret ?_)
      refine at_leaveM (rs := [.cell 4 128, .tmp 5]) Try.func46 Try.results46 hQ (.inl rfl) (.cons (.cell (vs := [.int .u64 2, .int .u64 (b : Nat), .int .u64 (now : Nat)]) rfl rfl (Rds.all .here)) (.cons (.tmp rfl) .nil)) ?_
      refine ⟨rfl, fun h st => Ent.star (.drop (.drop .refl)) st, ?_⟩
      rw [show askG wait now a b c = some (2, b, now) from if_pos ⟨c1, c2⟩]
      exact ⟨by show 2 < 18446744073709551616; omega, by show b < _; omega, by show now < _; omega, rfl⟩
    · repeat (first
        | (apply ap_pure; exact rfl; exact rfl; (first | exact trivial | exact rfl); intro L; apply mo_bin; exact rfl; exact rfl; apply bin_neqT; omega)
        | (apply ap_read; exact rfl; exact rfl; (first | exact trivial | exact rfl); apply mo_load; exact rfl; exact hwt)
        | (apply ap_pure; exact rfl; exact rfl; (first | exact trivial | exact rfl); intro L; apply mo_buildV; (repeat (first | exact EvL.nil | apply EvL.cons rfl)); exact rfl)
        | (apply ap_pure; exact rfl; exact rfl; (first | exact trivial | exact rfl); intro L; apply mo_bin; exact rfl; exact rfl; apply bin_add; exact hadd)
        | (apply ap_pure; exact rfl; exact rfl; (first | exact trivial | exact rfl); intro L; apply mo_bin; exact rfl; exact rfl; apply bin_geqF; omega)
        | (apply ap_pure; exact rfl; exact rfl; (first | exact trivial | exact rfl); intro L; apply mo_move; exact rfl)
        | (apply ap_pure; exact rfl; exact rfl; (first | exact trivial | exact rfl); intro L; apply mo_nilCheck; exact rfl)
        | (apply ap_pure; exact rfl; exact rfl; (first | exact trivial | exact rfl); intro L; apply mo_fieldAddr; exact rfl; exact rfl; (first | exact Nat.zero_add _ | exact rfl))
        | (apply ap_pure; exact rfl; exact rfl; (first | exact trivial | exact rfl); intro L; apply mo_pickT; exact rfl; exact rfl; exact rfl)
        | (apply ap_read; exact rfl; exact rfl; (first | exact trivial | exact rfl); apply mo_load; exact rfl; (repeat (first | exact Rd.row0 rfl | exact Rd.row rfl rfl | exact Rd.still | apply Rd.there))))
      refine ap_loudR rfl rfl rfl rfl trivial (mo_storeA (b := cb) (c := 0) (k := 0) (a := 0) (vs := [.int .u64 0, .int .u64 0, .int .u64 0]) rfl rfl rfl (by intro w hw; simp [Value.cells, w3] at hw; rcases hw with rfl | rfl | rfl <;> rfl) rfl (Nat.le_refl 3) .here) ?_ ?_
      · rintro v L' ⟨rfl, rfl⟩ p hp
        replace hp := (List.mem_filter.1 hp).1
        simp only [List.mem_cons, List.not_mem_nil, or_false] at hp
        repeat (rcases hp with rfl | hp; · first | exact .inl rfl | exact .inr ⟨_, rfl, (by first | exact trivial | exact rfl), mo_load rfl (by repeat (first | exact hwt | exact Rd.row0 rfl | exact Rd.row rfl rfl | exact Rd.still | apply Rd.there))⟩)
      rintro v' L' ⟨rfl, rfl⟩
      repeat (first
        | (apply ap_pure; exact rfl; exact rfl; (first | exact trivial | exact rfl); intro L; apply mo_assign; exact rfl)
        | refine ap_end ?_)
      repeat (first
        | refine we_ret ?_)
      refine at_leaveM (rs := [.cell 4 128, .tmp 5]) Try.func46 Try.results46 hQ (.inl rfl) (.cons (.cell (vs := [.int .u64 2, .int .u64 (b : Nat), .int .u64 (now : Nat)]) rfl rfl (Rds.all .here)) (.cons (.tmp rfl) .nil)) ?_
      refine ⟨rfl, fun h st => Ent.star (.drop (.drop .refl)) st, ?_⟩
      rw [show askG wait now a b c = none from if_neg (fun h => c2 h.2)]
      exact ⟨2, b, now, rfl⟩

end
end Go.Proofs.Ytnnpdmhmpgmpnaa
