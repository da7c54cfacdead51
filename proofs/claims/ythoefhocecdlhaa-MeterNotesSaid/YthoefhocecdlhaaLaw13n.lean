/-
  patchbaylaw13: MeterNotes: the parts of a round.
-/
import Derived.Test.YthoefhocecdlhaaMeter13o
import Derived.Test.YthoefhocecdlhaaLaw13a
set_option linter.unusedVariables false
set_option linter.unusedSimpArgs false
namespace Go.Proofs.Ythoefhocecdlhaa
open Go Go.PB
attribute [local irreducible] Mo Bin Eql Tr Wo Ap Wle

section
variable {B : Hand} [Lets B] {L F G : List HProp} {x : B.X} {r nb num den burst now n : Nat}

theorem mbucket_tr (hr : Rds L r 0 [.int .u64 (num : Nat), .int .u64 (den : Nat), .int .u64 (burst : Nat)]) : Tr Try.prog B 12 [.pointer (some ⟨r, 0, none⟩)] L x fun v L' x' => v = .agg #[.int .u64 (num : Nat), .int .u64 (den : Nat), .int .u64 (burst : Nat)] ∧ L' = L ∧ x' = x := by
  refine Tr.post (R := fun v L' x' => v = .agg #[.int .u64 (num : Nat), .int .u64 (den : Nat), .int .u64 (burst : Nat)] ∧ x' = x ∧ ∀ h, Star L' h → Star L h) ?_ (by rintro v L' x' ⟨h0, rfl, hs⟩; exact ⟨L, ⟨h0, rfl, rfl⟩, hs⟩)
  have hr' : ∀ {c : HProp}, Rds (c :: L) r 0 [.int .u64 (num : Nat), .int .u64 (den : Nat), .int .u64 (burst : Nat)] := fun i v hv => Rd.there (hr i v hv)
  refine tr_of_body Try.func12 rfl Try.ntmps12 (by simp) fun um Q hQ => ?_
  simp only [argE, Nat.zero_add, Nat.reduceAdd]
  repeat (first
    | (apply wo_mo; apply mo_alloc; exact trivial)
    | refine we_seq ?_
    | (refine we_region _ rfl rfl ?_; simp only [opsOf, List.map_cons, List.map_nil, Option.map_none, Option.map_some, List.getElem?_toArray, List.getElem?_cons_zero, List.getElem?_cons_succ, Option.bind_some, Option.getD_some]))
  rintro v' L' ⟨cb, rfl, rfl⟩
  repeat (first
    | (apply wo_po; apply mo_loadA (vs := [.int .u64 (num : Nat), .int .u64 (den : Nat), .int .u64 (burst : Nat)]); exact rfl; exact rfl; exact hr'; exact trivial)
    | (apply wo_pm; apply mo_storeA (b := cb) (c := 0) (k := 0) (a := 0) (vs := [.int .u64 0, .int .u64 0, .int .u64 0]); exact rfl; exact rfl; exact rfl; (intro w hw; simp [Value.cells] at hw; rcases hw with rfl | rfl | rfl <;> rfl); exact rfl; exact Nat.le_refl 3; exact .here; exact trivial)
    | refine we_seq ?_
    | (refine we_region _ rfl rfl ?_; simp only [opsOf, List.map_cons, List.map_nil, Option.map_none, Option.map_some, List.getElem?_toArray, List.getElem?_cons_zero, List.getElem?_cons_succ, Option.bind_some, Option.getD_some])
    | refine wo_nil ?_
    | (apply wo_po; apply mo_move; exact rfl; (first | exact trivial | exact rfl))
    | (apply wo_po; apply mo_nilCheck; exact rfl; (first | exact trivial | exact rfl))
    | (apply wo_po; apply mo_fieldAddr; exact rfl; exact rfl; (first | exact Nat.zero_add _ | exact rfl); (first | exact trivial | exact rfl))
    | (apply wo_po; apply mo_bin; exact rfl; exact rfl; apply bin_eq; apply eql_ptr_nil; (first | exact trivial | exact rfl))
    | (apply we_condF; exact rfl; (first | exact rfl | (simp <;> omega) | omega))
    | refine we_ret ?_
    | refine we_skip ?_)
  refine at_leaveM (rs := [.cell 2 25]) Try.func12 Try.results12 hQ (.inl rfl) (.cons (.cell (vs := [.int .u64 (num : Nat), .int .u64 (den : Nat), .int .u64 (burst : Nat)]) rfl rfl (Rds.all .here)) .nil) ?_
  exact ⟨rfl, rfl, fun h st => star_drop st⟩

theorem call_ok (O : BOk num den burst) {kd : Nat} : (callCl num den burst kd now n).ok = true := by
  have hb : burst * den ≤ 1048576 * 65536 := Nat.mul_le_mul O.b2 O.d2
  have hd := O.d2
  unfold callCl
  by_cases ht : now ≤ 1099511627776
  · have hm : now * num ≤ 1099511627776 * 65536 := Nat.mul_le_mul ht O.n2
    have h1 : needN den burst n ≤ 68719476736 := by
      unfold needN
      split
      · rename_i c
        have : n * den ≤ burst * den := Nat.mul_le_mul_right _ c
        omega
      · omega
    have h2 : topN num den burst now n ≤ 72057662757404672 := by
      unfold topN
      split <;> omega
    generalize now * num = ck at *
    generalize burst * den = bd at *
    generalize needN den burst n = need at *
    generalize topN num den burst now n = top at *
    split
    · simp [Mach.Cl.ok, Mach.mtakeCl, Mach.mtakeCode, Mach.In.ok]; omega
    split
    · simp [Mach.Cl.ok, Mach.mlevelCl, Mach.In.ok]; omega
    · decide
  · split
    · decide
    split
    · decide
    · decide

/-- done with notes, and the machine's call -/
theorem done_n (O : BOk num den burst) {f : Nat → Nat} (hs : f 0 ≤ 72057662757404672) {kind : Int} {kd : Nat} (hk : -9223372036854775808 ≤ kind ∧ kind ≤ 9223372036854775807) (hkd : kind % 3 = kd) (hn : n < 18446744073709551616)
    (hh : Has L (notesC nb []) G) (hw : Has G (mC r num den burst f) F) :
    Tr Try.prog B 18 [.pointer (some ⟨r, 0, none⟩), .iface 50 (.pointer (some ⟨nb, 0, none⟩)), .agg #[.int .i64 kind, .int .u64 (now : Nat), .int .u64 (n : Nat)]] L x fun w L' x' => ∃ told f' ms, Mach.Comes 30 (ms.length + 1) ⟨[rowOf 1 f], 1⟩ (callCl num den burst kd now n) ⟨[rowOf 1 f'], 1⟩ told ms ∧ ms.length ≤ 2 ∧ told.length = 2 ∧ f' 0 ≤ 72057662757404672 ∧ L' = vec 1 w (told.map Go.PB.num) :: mC r num den burst f' :: notesC nb (ms.map mkI) :: F ∧ x' = x := by
  obtain ⟨told, f', ms, h1, h2, h3, h4, h5⟩ := done_comes (B := B) (x := x) (r := r) (nb := nb) (kd := kd) (now := now) (n := n) O hs
  refine tr_star ((meterAccN x r num den burst nb).C (f, []) :: F) (fun hp st => ?_) ?_
  · exact star_shut (M := [_, _]) (star_swap (star_map (hh.star st) (fun _ y => y) (fun _ y => hw.star y)))
  refine (done_tr (A := meterAccN x r num den burst nb) (m_at_n O) hk hkd hn h1 .here).post ?_
  rintro v' L' x' ⟨told', s', ⟨rfl, rfl⟩, rfl, rfl⟩
  refine ⟨_, ⟨told', f', ms, h2, h3, h4, h5, rfl, rfl⟩, fun hp st => ?_⟩
  exact star_map st (fun _ y => y) (fun _ y => star_open (M := [_, _]) y)
end
end Go.Proofs.Ythoefhocecdlhaa
