/-
  patchbayref00's thread.own over a thread's chunk.
-/
import Derived.Test.YtmkkanmkjfnpdaaMach6
set_option linter.unusedVariables false
set_option linter.unusedSimpArgs false
namespace Go.Proofs.Ytmkkanmkjfnpdaa
open Go Go.PB
attribute [local irreducible] Mo Bin Eql Tr Wo Ap

variable {B : Hand} [Lets B] {L F G : List HProp} {x : B.X}

/-- where calls lie -/
structure CW where
  a : Option Addr
  c : Nat
  k : Nat → Option Addr × Nat
  d : Nat → Option Addr × Nat

def CW.v (w : CW) (n : Nat) : Value := .slice w.a n w.c

/-- calls, in memory that is not turned -/
def codeC (w : CW) (cs : List Mach.Cl) : HProp := fun h => ∀ i cl, cs[i]? = some cl → ∃ cb co, w.a = some ⟨cb, co, none⟩ ∧
  h.can ⟨cb, co + 2 * i, none⟩ (.slice (w.k i).1 cl.code.length (w.k i).2) ∧ h.can ⟨cb, co + 2 * i + 1, none⟩ (.slice (w.d i).1 cl.data.length (w.d i).2) ∧
  (∀ j y, cl.code[j]? = some y → ∃ kb ko, (w.k i).1 = some ⟨kb, ko, none⟩ ∧ ∀ m v, (inC y)[m]? = some v → h.can ⟨kb, ko + 7 * j + m, none⟩ v) ∧
  (∀ j v, cl.data[j]? = some v → ∃ db dq, (w.d i).1 = some ⟨db, dq, none⟩ ∧ h.can ⟨db, dq + j, none⟩ (num v))

section
variable {w : CW} {cs : List Mach.Cl} {cl : Mach.Cl} {i : Nat}

theorem can_mono {h h1 h2 : Hp} (s : Split h h1 h2) {a : Addr} {v : Value} (c : h1.can a v) : h.can a v := ⟨c.1, c.2.elim (fun e => .inl (s.o1 _ _ _ e)) (fun e => .inr (s.r1 _ _ _ e))⟩

theorem rd_of {c : HProp} {b o : Nat} {v : Value} (hh : Has L c F) (hc : ∀ h, c h → h.can ⟨b, o, none⟩ v) : Rd L b o v := Rd.of hh fun h s => by
  obtain ⟨h1, h2, s1, hx, _⟩ := s
  exact can_mono s1 (hc h1 hx)

/-- what the chunks say, all together -/
def Obs (L : List HProp) (c : HProp) : Prop := ∀ h, Star L h → c h

theorem code_mono {h h1 h2 : Hp} (s : Split h h1 h2) (c : codeC w cs h1) : codeC w cs h := by
  intro i cl hi
  obtain ⟨cb, co, q1, q2, q3, q4, q5⟩ := c i cl hi
  refine ⟨cb, co, q1, can_mono s q2, can_mono s q3, fun j y hj => ?_, fun j v hj => ?_⟩
  · obtain ⟨kb, ko, q6, q7⟩ := q4 j y hj
    exact ⟨kb, ko, q6, fun m v hm => can_mono s (q7 m v hm)⟩
  · obtain ⟨db, dq, q6, q7⟩ := q5 j v hj
    exact ⟨db, dq, q6, can_mono s q7⟩

theorem Obs.there {d : HProp} (o : Obs L (codeC w cs)) : Obs (d :: L) (codeC w cs) := fun h s => by
  obtain ⟨h1, h2, s1, _, hL⟩ := s
  exact code_mono s1.swap (o h2 hL)

theorem code_at (hh : Obs L (codeC w cs)) (hi : cs[i]? = some cl) : ∀ h, Star L h → ∃ cb co, w.a = some ⟨cb, co, none⟩ := fun h s => by
  obtain ⟨cb, co, h1, _⟩ := hh h s i cl hi
  exact ⟨cb, co, h1⟩

theorem rd_code {cb co : Nat} (hh : Obs L (codeC w cs)) (hi : cs[i]? = some cl) (ha : w.a = some ⟨cb, co, none⟩) :
    Rd L cb (co + 2 * i) (.slice (w.k i).1 cl.code.length (w.k i).2) ∧ Rd L cb (co + 2 * i + 1) (.slice (w.d i).1 cl.data.length (w.d i).2) := by
  constructor
  · intro h s
    obtain ⟨cb', co', h1, h2, h3, h4⟩ := hh h s i cl hi
    rw [ha] at h1; cases h1; exact h2
  · intro h s
    obtain ⟨cb', co', h1, h2, h3, h4⟩ := hh h s i cl hi
    rw [ha] at h1; cases h1; exact h3

theorem rd_instr {j : Nat} {y : Mach.In} (hh : Obs L (codeC w cs)) (hi : cs[i]? = some cl) (hj : cl.code[j]? = some y) : (∀ h, Star L h → ∃ kb ko, (w.k i).1 = some ⟨kb, ko, none⟩) ∧ ∀ kb ko, (w.k i).1 = some ⟨kb, ko, none⟩ → Rds L kb (ko + 7 * j) (inC y) := by
  constructor
  · intro h s
    obtain ⟨cb', co', h1, h2, h3, h4, h5⟩ := hh h s i cl hi
    obtain ⟨kb, ko, h6, _⟩ := h4 j y hj
    exact ⟨kb, ko, h6⟩
  · intro kb ko hk m v hm
    intro h s
    obtain ⟨cb', co', h1, h2, h3, h4, h5⟩ := hh h s i cl hi
    obtain ⟨kb', ko', h6, h7⟩ := h4 j y hj
    rw [hk] at h6; cases h6; exact h7 m v hm

theorem rd_data {j v : Nat} (hh : Obs L (codeC w cs)) (hi : cs[i]? = some cl) (hj : cl.data[j]? = some v) : (∀ h, Star L h → ∃ db dq, (w.d i).1 = some ⟨db, dq, none⟩) ∧ ∀ db dq, (w.d i).1 = some ⟨db, dq, none⟩ → Rd L db (dq + j) (num v) := by
  constructor
  · intro h s
    obtain ⟨cb', co', h1, h2, h3, h4, h5⟩ := hh h s i cl hi
    obtain ⟨kb, ko, h6, _⟩ := h5 j v hj
    exact ⟨kb, ko, h6⟩
  · intro kb ko hk
    intro h s
    obtain ⟨cb', co', h1, h2, h3, h4, h5⟩ := hh h s i cl hi
    obtain ⟨kb', ko', h6, h7⟩ := h5 j v hj
    rw [hk] at h6; cases h6; exact h7
end

/-- an answer's cells; what was told -/
def ansV (y : Bool × Value × List Nat) : List Value := [.bool y.1, y.2.1]
def ansT (y : Bool × Value × List Nat) : HProp := vec 1 y.2.1 (y.2.2.map num)
def ansOf (y : Bool × Value × List Nat) : Bool × List Nat := (y.1, y.2.2)

def thB (tb : Nat) (cv : Value) (t : Mach.Th) (y : Value × List (Bool × Value × List Nat)) : List HProp := [arr tb 0 (thCells cv t y.1), vec 2 y.1 (y.2.map ansV).flatten, all (y.2.map ansT)]

/-- a thread in block tb -/
def thC (tb : Nat) (cv : Value) (t : Mach.Th) : HProp := fun h => ∃ y : Value × List (Bool × Value × List Nat), y.2.map ansOf = t.ans ∧ (∀ j, t.r j < 18446744073709551616) ∧ all (thB tb cv t y) h

theorem own_calls {t : Mach.Th} {i : Mach.In} : (Mach.own t i).calls = t.calls ∧ (Mach.own t i).call = t.call ∧ (Mach.own t i).over = t.over := by
  unfold Mach.own Mach.Th.put Mach.Th.tell
  dsimp only
  split <;> (try split) <;> exact ⟨rfl, rfl, rfl⟩

theorem own_regs {t : Mach.Th} {i : Mach.In} (h : ∀ j, t.r j < 18446744073709551616) : ∀ j, (Mach.own t i).r j < 18446744073709551616 := by
  intro j
  have hu : ∀ v, upd t.r i.a (v % 18446744073709551616) j < 18446744073709551616 := fun v => by
    unfold upd; split
    · exact Nat.mod_lt _ (by decide)
    · exact h j
  unfold Mach.own Mach.Th.put Mach.Th.tell
  dsimp only
  split <;> (try split) <;> first | exact hu _ | exact h j

theorem own_ans {t : Mach.Th} {i : Mach.In} (h : i.op ≠ 22) : (Mach.own t i).ans = t.ans := by
  unfold Mach.own Mach.Th.put Mach.Th.tell
  dsimp only
  split <;> (try split) <;> first | rfl | exact absurd (by assumption) h

set_option maxHeartbeats 4000000 in
theorem own_look_tr {tb : Nat} {w av : Value} {cw : CW} {t : Mach.Th} {i : Mach.In} (hop : i.op = 17) (hi : i.ok = true) (hr : ∀ j, t.r j < 18446744073709551616) (hpc : t.pc < 1000000) (hlt : t.call < t.calls.length) (hd : (t.calls.all Mach.Cl.ok) = true) (hl : t.calls.length < 1000000)
    (hh : Has L (arr tb 0 (thCells (cw.v t.calls.length) t av)) F) (hcode : Obs F (codeC cw t.calls)) :
    Tr Try.prog B 92 [.pointer (some ⟨tb, 0, none⟩), w, .agg (inC i).toArray] L x fun v L' x' => v = .tuple #[] ∧ L' = arr tb 0 (thCells (cw.v t.calls.length) (Mach.own t i) av) :: F ∧ x' = x := by
  refine tr_star _ (fun h s => hh.star s) ?_
  clear hh
  obtain ⟨cl, hcl⟩ : ∃ cl, t.calls[t.call]? = some cl := ⟨t.calls[t.call], by simp [hlt]⟩
  have hclok := List.all_eq_true.1 hd cl (List.mem_of_getElem? hcl)
  simp only [Mach.Cl.ok, Bool.and_eq_true, decide_eq_true_eq] at hclok
  refine tr_pure (code_at (.there hcode) hcl) ?_
  rintro ⟨cb, co, hca⟩
  obtain ⟨q1, q2⟩ := rd_code hcode hcl hca
  have hcv : cw.v t.calls.length = .slice (some ⟨cb, co, none⟩) t.calls.length cw.c := by unfold CW.v; rw [hca]
  have hdat : t.cl.data = cl.data := by unfold Mach.Th.cl; rw [List.getD_eq_getElem?_getD, hcl]; rfl
  obtain ⟨op, on, a, b, c, d, n⟩ := i
  simp only [Mach.In.ok, Bool.and_eq_true, decide_eq_true_eq, Bool.or_eq_true, Bool.not_eq_true', decide_eq_false_iff_not] at hi hop
  obtain ⟨⟨⟨⟨⟨⟨⟨⟨⟨⟨_, _⟩, ha⟩, hb⟩, hc⟩, hd⟩, hon⟩, hn⟩, _⟩, hab⟩, hsh⟩ := hi
  subst hop
  have hab : ¬ a = b := hab.resolve_left (by simp)
  have vb := hr b
  obtain ⟨q, hq⟩ : ∃ q, (t.r b + n) % 18446744073709551616 = q := ⟨_, rfl⟩
  have hadd : IntKind.u64.wrap ((t.r b : Int) + (n : Int)) = (q : Int) := by rw [← hq]; exact u64_add
  have hlen : IntKind.u64.wrap (cl.data.length : Int) = (cl.data.length : Int) := wrap_u64 (by omega) (by omega)
  have hown : Mach.own t ⟨17, on, a, b, c, d, n⟩ = { t with pc := t.pc + 1, r := upd t.r a (cl.data.getD q 0 % 18446744073709551616) } := by
    show Mach.Th.put _ _ _ = _
    unfold Mach.Th.put
    show { t with pc := t.pc + 1, r := upd t.r a (({ t with pc := t.pc + 1 } : Mach.Th).cl.data.getD ((t.r b + n) % 18446744073709551616) 0 % 18446744073709551616) } = _
    rw [hq, show ({ t with pc := t.pc + 1 } : Mach.Th).cl = t.cl from rfl, hdat]
  refine Tr.post (R := fun v L' x' => ∃ e, v = .tuple #[] ∧ L' = e :: arr tb 0 (thCells (cw.v t.calls.length) (Mach.own t ⟨17, on, a, b, c, d, n⟩) av) :: F ∧ x' = x) ?_ (by rintro v L' x' ⟨c, rfl, rfl, rfl⟩; exact ⟨_, ⟨rfl, rfl, rfl⟩, fun h s => star_drop s⟩)
  rw [hown, hcv]
  obtain ⟨cv, hcv'⟩ : ∃ cv, cv = Value.slice (some ⟨cb, co, none⟩) t.calls.length cw.c := ⟨_, rfl⟩
  have hregs : ∀ {t' : Mach.Th}, ∀ j, j < 24 → Rd (arr tb 0 (thCells (.slice (some ⟨cb, co, none⟩) t.calls.length cw.c) t' av) :: F) tb (3 + j) (num (t'.r j)) := fun {t'} j h => rd_reg .here h
  refine tr_of_body Try.func92 rfl Try.ntmps92 (by simp) fun um Q hQ => ?_
  simp only [argE, Nat.zero_add, Nat.reduceAdd]
  repeat (first
    | (apply wo_mo; apply mo_box; exact rfl; exact trivial)
    | refine we_seq ?_
    | (refine we_region _ rfl rfl ?_; simp only [opsOf, List.map_cons, List.map_nil, Option.map_none, Option.map_some, List.getElem?_toArray, List.getElem?_cons_zero, List.getElem?_cons_succ, Option.bind_some, Option.getD_some]))
  rintro v' L' ⟨xb, rfl, rfl⟩
  repeat (first
    | (apply wo_pm; apply mo_store; exact rfl; exact rfl; exact rfl; apply Wt.row0; (repeat (first | exact Foc.here | apply Foc.there)); (first | exact Nat.lt_of_sub_eq_succ rfl | omega); (first | exact trivial | exact rfl))
    | (apply wo_po; apply mo_bin; exact rfl; exact rfl; apply bin_eqlT; omega; (first | exact trivial | exact rfl))
    | (apply wo_po; apply mo_bin; exact rfl; exact rfl; apply bin_eqlF; omega; (first | exact trivial | exact rfl))
    | refine we_seq ?_
    | (refine we_region _ rfl rfl ?_; simp only [opsOf, List.map_cons, List.map_nil, Option.map_none, Option.map_some, List.getElem?_toArray, List.getElem?_cons_zero, List.getElem?_cons_succ, Option.bind_some, Option.getD_some])
    | refine wo_nil ?_
    | (apply wo_po; apply mo_move; exact rfl; (first | exact trivial | exact rfl))
    | (apply wo_po; apply mo_assign; exact rfl; (first | exact trivial | exact rfl))
    | (apply wo_po; apply mo_nilCheck; exact rfl; (first | exact trivial | exact rfl))
    | (apply wo_po; apply mo_fieldAddr; exact rfl; exact rfl; (first | exact Nat.zero_add _ | exact rfl); (first | exact trivial | exact rfl))
    | (apply wo_po; apply mo_load; exact rfl; (repeat (first | exact Rd.row0 rfl | exact Rd.row rfl rfl | exact Rd.still | apply Rd.there)); (first | exact trivial | exact rfl))
    | (apply wo_po; apply mo_bin; exact rfl; exact rfl; apply bin_add; exact wrap_i64 (by omega) (by omega); (first | exact trivial | exact rfl))
    | (apply we_condT; exact rfl; (first | exact rfl | (simp <;> omega) | omega))
    | (apply we_condF; exact rfl; (first | exact rfl | (simp <;> omega) | omega))
    | refine we_block ?_)
  refine we_ent (arr xb 0 (inC ⟨17, on, a, b, c, d, n⟩) :: arr tb 0 (thCells (.slice (some ⟨cb, co, none⟩) t.calls.length cw.c) { t with pc := t.pc + 1 } av) :: F) .refl ?_
  refine we_draw (List.range' 0 12) (by kernel_rfl) ?_
  repeat (first
    | (apply ap_pure; exact rfl; exact rfl; exact trivial; intro L; apply mo_index2; exact rfl; exact rfl; omega)
    | (apply ap_read; exact rfl; exact rfl; exact trivial; apply mo_load; exact rfl; exact .there (.there q2))
    | (apply ap_pure; exact rfl; exact rfl; (first | exact trivial | exact rfl); intro L; apply mo_move; exact rfl)
    | (apply ap_pure; exact rfl; exact rfl; (first | exact trivial | exact rfl); intro L; apply mo_assign; exact rfl)
    | (apply ap_pure; exact rfl; exact rfl; (first | exact trivial | exact rfl); intro L; apply mo_nilCheck; exact rfl)
    | (apply ap_pure; exact rfl; exact rfl; (first | exact trivial | exact rfl); intro L; apply mo_fieldAddr; exact rfl; exact rfl; (first | exact Nat.zero_add _ | exact rfl))
    | (apply ap_read; exact rfl; exact rfl; (first | exact trivial | exact rfl); apply mo_load; exact rfl; (repeat (first | exact Rd.row0 rfl | exact Rd.row rfl rfl | exact Rd.still | apply Rd.there)))
    | refine ap_end ?_)
  repeat (first
    | refine we_seq ?_)
  refine we_draw (List.range' 0 6) (by kernel_rfl) ?_
  have hreg : ∀ j, j < 24 → Rd (arr xb 0 (inC ⟨17, on, a, b, c, d, n⟩) :: arr tb 0 (thCells (.slice (some ⟨cb, co, none⟩) t.calls.length cw.c) { t with pc := t.pc + 1 } av) :: F) tb (3 + j) (num (t.r j)) := fun j h => .there (hregs j h)
  repeat (first
    | (apply ap_pure; exact rfl; exact rfl; exact trivial; intro L; apply mo_indexArr1; exact rfl; exact rfl; omega)
    | (apply ap_pure; exact rfl; exact rfl; (first | exact trivial | exact rfl); intro L; apply mo_move; exact rfl)
    | (apply ap_pure; exact rfl; exact rfl; (first | exact trivial | exact rfl); intro L; apply mo_nilCheck; exact rfl)
    | (apply ap_pure; exact rfl; exact rfl; (first | exact trivial | exact rfl); intro L; apply mo_fieldAddr; exact rfl; exact rfl; (first | exact Nat.zero_add _ | exact rfl))
    | (apply ap_read; exact rfl; exact rfl; (first | exact trivial | exact rfl); apply mo_load; exact rfl; (repeat (first | exact Rd.row0 rfl | exact Rd.row rfl rfl | exact Rd.still | apply Rd.there))))
  refine ap_loud rfl rfl rfl rfl rfl trivial (mo_store rfl rfl rfl (Wt.row0 (k := 3 + a) (vs := thCells (.slice (some ⟨cb, co, none⟩) t.calls.length cw.c) { t with pc := t.pc + 1 } av) (.there .here) (by rw [thCells_len]; omega))) ?_
  rintro v' L' ⟨rfl, rfl⟩
  refine ap_end ?_
  refine at_ent (arr xb 0 (inC ⟨17, on, a, b, c, d, n⟩) :: arr tb 0 (thCells (.slice (some ⟨cb, co, none⟩) t.calls.length cw.c) { t with pc := t.pc + 1, r := upd t.r a 0 } av) :: F) (ent_eq (by rw [show Value.int .u64 0 = num 0 from rfl, thCells_set ha])) ?_
  have hreg2 : ∀ j, j < 24 → Rd (arr xb 0 (inC ⟨17, on, a, b, c, d, n⟩) :: arr tb 0 (thCells (.slice (some ⟨cb, co, none⟩) t.calls.length cw.c) { t with pc := t.pc + 1, r := upd t.r a 0 } av) :: F) tb (3 + j) (num (upd t.r a 0 j)) := fun j h => .there (hregs (t' := { t with pc := t.pc + 1, r := upd t.r a 0 }) j h)
  clear hreg
  have hrb : Rd (arr xb 0 (inC ⟨17, on, a, b, c, d, n⟩) :: arr tb 0 (thCells (.slice (some ⟨cb, co, none⟩) t.calls.length cw.c) { t with pc := t.pc + 1, r := upd t.r a 0 } av) :: F) tb (3 + b) (num (t.r b)) := by
    have := hreg2 b hb
    rwa [upd_other (fun h => hab h.symm)] at this
  repeat (first
    | refine we_seq ?_)
  by_cases hin : q < cl.data.length
  · have hin' : (q : Int) < (cl.data.length : Int) := by omega
    refine we_draw (List.range' 0 13) (by kernel_rfl) ?_
    repeat (first
      | (apply ap_pure; exact rfl; exact rfl; exact trivial; intro L; apply mo_indexArr1; exact rfl; exact rfl; omega)
      | (apply ap_read; exact rfl; exact rfl; exact trivial; apply mo_load; exact rfl; exact hrb)
      | (apply ap_pure; exact rfl; exact rfl; exact trivial; intro L; apply mo_bin; exact rfl; exact rfl; apply bin_add; exact hadd)
      | (apply ap_pure; exact rfl; exact rfl; exact trivial; intro L; apply mo_conv; exact rfl; exact hlen)
      | (apply ap_pure; exact rfl; exact rfl; exact trivial; intro L; apply mo_bin; exact rfl; exact rfl; apply bin_lssT; exact hin')
      | (apply ap_pure; exact rfl; exact rfl; (first | exact trivial | exact rfl); intro L; apply mo_move; exact rfl)
      | (apply ap_pure; exact rfl; exact rfl; (first | exact trivial | exact rfl); intro L; apply mo_nilCheck; exact rfl)
      | (apply ap_pure; exact rfl; exact rfl; (first | exact trivial | exact rfl); intro L; apply mo_fieldAddr; exact rfl; exact rfl; (first | exact Nat.zero_add _ | exact rfl))
      | (apply ap_pure; exact rfl; exact rfl; (first | exact trivial | exact rfl); intro L; apply mo_len; exact rfl)
      | (apply ap_read; exact rfl; exact rfl; (first | exact trivial | exact rfl); apply mo_load; exact rfl; (repeat (first | exact Rd.row0 rfl | exact Rd.row rfl rfl | exact Rd.still | apply Rd.there)))
      | refine ap_end ?_)
    repeat (first
      | (apply we_condT; exact rfl; (first | exact rfl | (simp <;> omega) | omega)))
    obtain ⟨v, hv⟩ : ∃ v, cl.data[q]? = some v := ⟨cl.data[q], by simp [hin]⟩
    have hvlt : v < 18446744073709551616 := by
      have := List.all_eq_true.1 hclok.1.1.2 v (List.mem_of_getElem? hv)
      simpa using this
    have huu : upd (upd t.r a 0) a v = upd t.r a v := by funext j; unfold upd; split <;> rfl
    obtain ⟨q3, q4⟩ := rd_data hcode hcl hv
    refine we_pure (fun h st => q3 h (star_drop (star_drop st))) ?_
    rintro ⟨db, dq, hdb⟩
    have q5 := q4 db dq hdb
    rw [hdb]
    refine we_draw (List.range' 0 18) (by kernel_rfl) ?_
    repeat (first
      | (apply ap_pure; exact rfl; exact rfl; exact trivial; intro L; apply mo_indexArr1; exact rfl; exact rfl; omega)
      | (apply ap_read; exact rfl; exact rfl; exact trivial; apply mo_load; exact rfl; exact hrb)
      | (apply ap_pure; exact rfl; exact rfl; exact trivial; intro L; apply mo_bin; exact rfl; exact rfl; apply bin_add; exact hadd)
      | (apply ap_pure; exact rfl; exact rfl; exact trivial; intro L; apply mo_index1; exact rfl; exact rfl; exact hin)
      | (apply ap_read; exact rfl; exact rfl; exact trivial; apply mo_load; exact rfl; exact .there (.there q5))
      | (apply ap_pure; exact rfl; exact rfl; (first | exact trivial | exact rfl); intro L; apply mo_move; exact rfl)
      | (apply ap_pure; exact rfl; exact rfl; (first | exact trivial | exact rfl); intro L; apply mo_nilCheck; exact rfl)
      | (apply ap_pure; exact rfl; exact rfl; (first | exact trivial | exact rfl); intro L; apply mo_fieldAddr; exact rfl; exact rfl; (first | exact Nat.zero_add _ | exact rfl))
      | (apply ap_read; exact rfl; exact rfl; (first | exact trivial | exact rfl); apply mo_load; exact rfl; (repeat (first | exact Rd.row0 rfl | exact Rd.row rfl rfl | exact Rd.still | apply Rd.there))))
    refine ap_loud rfl rfl rfl rfl rfl trivial (mo_store rfl rfl rfl (Wt.row0 (k := 3 + a) (vs := thCells (.slice (some ⟨cb, co, none⟩) t.calls.length cw.c) { t with pc := t.pc + 1, r := upd t.r a 0 } av) (.there .here) (by rw [thCells_len]; omega))) ?_
    rintro v' L' ⟨rfl, rfl⟩
    refine ap_end ?_
    refine at_ent (arr xb 0 (inC ⟨17, on, a, b, c, d, n⟩) :: arr tb 0 (thCells (.slice (some ⟨cb, co, none⟩) t.calls.length cw.c) { t with pc := t.pc + 1, r := upd t.r a (cl.data.getD q 0 % 18446744073709551616) } av) :: F) (ent_eq (by
      rw [thCells_set ha, List.getD_eq_getElem?_getD, hv, Option.getD_some, Nat.mod_eq_of_lt hvlt]
      dsimp only
      rw [huu])) ?_
    skip
    (first | refine at_ret0 (ex := .ret) Try.func92 Try.results92 hQ (.inl rfl) ?_ | refine at_ret0 (ex := .normal) Try.func92 Try.results92 hQ (.inr rfl) ?_)
    exact ⟨_, rfl, rfl, rfl⟩
  · have hin' : ¬ (q : Int) < (cl.data.length : Int) := by omega
    refine we_draw (List.range' 0 13) (by kernel_rfl) ?_
    repeat (first
      | (apply ap_pure; exact rfl; exact rfl; exact trivial; intro L; apply mo_indexArr1; exact rfl; exact rfl; omega)
      | (apply ap_read; exact rfl; exact rfl; exact trivial; apply mo_load; exact rfl; exact hrb)
      | (apply ap_pure; exact rfl; exact rfl; exact trivial; intro L; apply mo_bin; exact rfl; exact rfl; apply bin_add; exact hadd)
      | (apply ap_pure; exact rfl; exact rfl; exact trivial; intro L; apply mo_conv; exact rfl; exact hlen)
      | (apply ap_pure; exact rfl; exact rfl; exact trivial; intro L; apply mo_bin; exact rfl; exact rfl; apply bin_lssF; exact hin')
      | (apply ap_pure; exact rfl; exact rfl; (first | exact trivial | exact rfl); intro L; apply mo_move; exact rfl)
      | (apply ap_pure; exact rfl; exact rfl; (first | exact trivial | exact rfl); intro L; apply mo_nilCheck; exact rfl)
      | (apply ap_pure; exact rfl; exact rfl; (first | exact trivial | exact rfl); intro L; apply mo_fieldAddr; exact rfl; exact rfl; (first | exact Nat.zero_add _ | exact rfl))
      | (apply ap_pure; exact rfl; exact rfl; (first | exact trivial | exact rfl); intro L; apply mo_len; exact rfl)
      | (apply ap_read; exact rfl; exact rfl; (first | exact trivial | exact rfl); apply mo_load; exact rfl; (repeat (first | exact Rd.row0 rfl | exact Rd.row rfl rfl | exact Rd.still | apply Rd.there)))
      | refine ap_end ?_)
    repeat (first
      | (apply we_condF; exact rfl; (first | exact rfl | (simp <;> omega) | omega))
      | refine we_skip ?_)
    refine at_ent (arr xb 0 (inC ⟨17, on, a, b, c, d, n⟩) :: arr tb 0 (thCells (.slice (some ⟨cb, co, none⟩) t.calls.length cw.c) { t with pc := t.pc + 1, r := upd t.r a (cl.data.getD q 0 % 18446744073709551616) } av) :: F) (ent_eq (by
      rw [List.getD_eq_getElem?_getD, List.getElem?_eq_none (by omega)]; rfl)) ?_
    (first | refine at_ret0 (ex := .ret) Try.func92 Try.results92 hQ (.inl rfl) ?_ | refine at_ret0 (ex := .normal) Try.func92 Try.results92 hQ (.inr rfl) ?_)
    exact ⟨_, rfl, rfl, rfl⟩

end Go.Proofs.Ytmkkanmkjfnpdaa
