/-
  patchbaylaw07: QueueNotes: the parts of a round.
-/
import Derived.Test.YthghlchcjeocpaaQueue7o
import Derived.Test.YthghlchcjeocpaaLaw7a
set_option linter.unusedVariables false
set_option linter.unusedSimpArgs false
namespace Go.Proofs.Ythghlchcjeocpaa
open Go Go.PB
attribute [local irreducible] Mo Bin Eql Tr Wo Ap

section
variable {B : Hand} [Lets B] {L F G : List HProp} {x : B.X} {n k : Nat}

theorem call_ok {kd v : Nat} (hn : n ≤ 1024) (hv : v < 18446744073709551616) : (callCl n kd v).ok = true := by
  unfold callCl
  split
  · simp [Mach.Cl.ok, Mach.qputCl, Mach.qputCode, Mach.In.ok]; omega
  split
  · simp [Mach.Cl.ok, Mach.qtakeCl, Mach.qtakeCode, Mach.In.ok]; omega
  · simp [Mach.Cl.ok, Mach.qdrainCl, Mach.qtakeCode, Mach.In.ok]; omega

/-- the words of a new queue, as a row -/
theorem rowOf_succ {N : Nat} {f : Nat → Nat} : rowOf (N + 1) f = rowOf N f ++ [f N] := by
  simp [rowOf, List.range_succ]
def evenW (w : Nat) : Nat := if 2 ≤ w ∧ w % 2 = 0 then (w - 2) / 2 else 0
theorem even_row : ∀ n, rowOf (2 * n + 2) evenW = qwords n := by
  intro n
  induction n with
  | zero => rfl
  | succ n ih =>
    show rowOf ((2 * n + 2) + 1 + 1) evenW = _
    rw [rowOf_succ, rowOf_succ, ih, qwords_succ, List.append_assoc]
    have e1 : evenW (2 * n + 2) = n := by unfold evenW; rw [if_pos (by omega)]; omega
    have e2 : evenW (2 * n + 2 + 1) = 0 := by unfold evenW; rw [if_neg (by omega)]
    rw [e1, e2]; rfl
theorem seqs_row (n : Nat) : rowOf (2 * n + 2) (seqs n) = qwords n := by
  rw [← even_row]
  unfold rowOf
  refine List.map_congr_left fun w hw => ?_
  rw [List.mem_range] at hw
  unfold seqs evenW
  by_cases c : 2 ≤ w ∧ w % 2 = 0
  · rw [if_pos ⟨c.1, c.2, by omega⟩, if_pos c]
  · rw [if_neg (fun h => c ⟨h.1, h.2.1⟩), if_neg c]

theorem RowAt.seqs (h2 : 2 ≤ n) (hle : n ≤ 1024) : RowAt n (seqs n) [] := by
  refine ⟨by simp, rfl, by show 0 < 18446744073709551616; decide, fun i v hi => by simp at hi, fun i _ hi => ?_⟩
  show Go.Proofs.Ythghlchcjeocpaa.seqs n (2 + 2 * ((0 + i) % n)) = (0 + i) % 18446744073709551616
  rw [Nat.zero_add, Nat.mod_eq_of_lt hi, Nat.mod_eq_of_lt (by omega)]
  unfold Go.Proofs.Ythghlchcjeocpaa.seqs
  rw [if_pos (by omega)]
  omega

/-- done with notes, and the machine's call -/
theorem done_n {r b nb : Nat} {f : Nat → Nat} {row : List Nat} (h : r ≠ b) (hn : n = 2 ^ k) (hk0 : 1 ≤ k) (hk : k ≤ 10) {kind : Int} {kd v : Nat} (hr : -9223372036854775808 ≤ kind ∧ kind ≤ 9223372036854775807) (hkd : kind % 3 = kd) (hv : v < 18446744073709551616) (R : RowAt n f row)
    (hh : Has L (notesC nb []) G) (hw : Has G (wds (twoAddr r b) (2 * n + 2) [(r, 2, .slice (some ⟨b, 0, none⟩) n n)] f) F) :
    Tr Try.prog B 21 [.pointer (some ⟨r, 0, none⟩), .iface 49 (.pointer (some ⟨nb, 0, none⟩)), .agg #[.int .i64 kind, .int .u64 (v : Nat)]] L x fun w L' x' => ∃ told f' row' ms bv, Mach.Comes 30 (ms.length + 1) ⟨[rowOf (2 * n + 2) f], 1⟩ (callCl n kd v) ⟨[rowOf (2 * n + 2) f'], 1⟩ told ms ∧ ms.length ≤ 5122 ∧ told.length ≤ 1026 ∧ RowAt n f' row' ∧ w = .tuple #[bv, .int .i64 0] ∧ L' = vec 1 bv (told.map num) :: wds (twoAddr r b) (2 * n + 2) [(r, 2, .slice (some ⟨b, 0, none⟩) n n)] f' :: notesC nb (ms.map mkI) :: F ∧ x' = x := by
  obtain ⟨told, f', row', ms, h1, h2, h3, h4, h5⟩ := done_comes (B := B) (x := x) (r := r) (b := b) (h := h) (nb := nb) (kd := kd) hn hk0 hk hv R
  refine tr_star ((queueAccN x r b n nb h).C (f, []) :: F) (fun hp st => ?_) ?_
  · exact star_shut (M := [_, _]) (star_swap (star_map (hh.star st) (fun _ y => y) (fun _ y => hw.star y)))
  refine (done_tr (A := queueAccN x r b n nb h) (queue_at_n h hn hk) hr hkd hv h1 .here).post ?_
  rintro v' L' x' ⟨told', s', bv, ⟨rfl, rfl⟩, rfl, rfl, rfl⟩
  refine ⟨_, ⟨told', f', row', ms, bv, h2, h3, h4, h5, rfl, rfl, rfl⟩, fun hp st => ?_⟩
  exact star_map st (fun _ y => y) (fun _ y => star_open (M := [_, _]) y)

theorem and_self_pow {m : Nat} (h1 : 2 ≤ m) (h2 : m ≤ 1024) : (m &&& (m - 1) = 0) ↔ ∃ k, 1 ≤ k ∧ k ≤ 10 ∧ m = 2 ^ k := by
  constructor
  · intro h
    have key : ∀ m ∈ List.range 1025, m &&& (m - 1) = 0 → m = 0 ∨ m = 1 ∨ ∃ k ∈ List.range 11, 1 ≤ k ∧ m = 2 ^ k := by decide +kernel
    rcases key m (by simp; omega) h with h0 | h0 | ⟨k, hk, h0, h3⟩
    · omega
    · omega
    · exact ⟨k, h0, by simp at hk; omega, h3⟩
  · rintro ⟨k, _, hk, rfl⟩
    have key : ∀ k ∈ List.range 11, (2 ^ k) &&& (2 ^ k - 1) = 0 := by decide +kernel
    exact key k (by simp; omega)

theorem new_nopow {n : Int} (h : ¬ ∃ k : Nat, 1 ≤ k ∧ k ≤ 10 ∧ n = ((2 ^ k : Nat) : Int)) :
    Tr Try.prog B 11 [.int .i64 n] L x fun v L' x' => v = .tuple #[.pointer none, .int .i64 2] ∧ L' = L ∧ x' = x := by
  by_cases c1 : n < 2
  · refine tr_of_body Try.func11 rfl Try.ntmps11 (by simp) fun um Q hQ => ?_
    simp only [argE, Nat.zero_add, Nat.reduceAdd]
    repeat (first
      | (apply wo_po; apply mo_bin; exact rfl; exact rfl; apply bin_lssT; omega; (first | exact trivial | exact rfl))
      | refine we_seq ?_
      | (refine we_region _ rfl rfl ?_; simp only [opsOf, List.map_cons, List.map_nil, Option.map_none, Option.map_some, List.getElem?_toArray, List.getElem?_cons_zero, List.getElem?_cons_succ, Option.bind_some, Option.getD_some])
      | refine wo_nil ?_
      | (apply wo_po; apply mo_move; exact rfl; (first | exact trivial | exact rfl))
      | (apply wo_po; apply mo_assign; exact rfl; (first | exact trivial | exact rfl))
      | (apply wo_no; exact rfl)
      | (apply wo_po; apply mo_pickT; exact rfl; exact rfl; exact rfl; (first | exact trivial | exact rfl))
      | (apply we_condT; exact rfl; (first | exact rfl | (simp <;> omega) | omega))
      | refine we_ret ?_)
    (first | refine at_ret2 (ex := .ret) Try.func11 Try.results11 hQ (.inl rfl) rfl rfl ?_ | refine at_ret2 (ex := .normal) Try.func11 Try.results11 hQ (.inr rfl) rfl rfl ?_)
    exact ⟨rfl, rfl, rfl⟩
  by_cases c2 : 1024 < n
  · refine tr_of_body Try.func11 rfl Try.ntmps11 (by simp) fun um Q hQ => ?_
    simp only [argE, Nat.zero_add, Nat.reduceAdd]
    repeat (first
      | (apply wo_po; apply mo_bin; exact rfl; exact rfl; apply bin_lssF; omega; (first | exact trivial | exact rfl))
      | (apply wo_po; apply mo_bin; exact rfl; exact rfl; apply bin_gtrT; omega; (first | exact trivial | exact rfl))
      | refine we_seq ?_
      | (refine we_region _ rfl rfl ?_; simp only [opsOf, List.map_cons, List.map_nil, Option.map_none, Option.map_some, List.getElem?_toArray, List.getElem?_cons_zero, List.getElem?_cons_succ, Option.bind_some, Option.getD_some])
      | refine wo_nil ?_
      | (apply wo_po; apply mo_move; exact rfl; (first | exact trivial | exact rfl))
      | (apply wo_po; apply mo_assign; exact rfl; (first | exact trivial | exact rfl))
      | (apply wo_no; exact rfl)
      | (apply wo_po; apply mo_pickT; exact rfl; exact rfl; exact rfl; (first | exact trivial | exact rfl))
      | (apply wo_po; apply mo_pickF; exact rfl; exact rfl; exact rfl; (first | exact trivial | exact rfl))
      | (apply we_condT; exact rfl; (first | exact rfl | (simp <;> omega) | omega))
      | refine we_ret ?_)
    (first | refine at_ret2 (ex := .ret) Try.func11 Try.results11 hQ (.inl rfl) rfl rfl ?_ | refine at_ret2 (ex := .normal) Try.func11 Try.results11 hQ (.inr rfl) rfl rfl ?_)
    exact ⟨rfl, rfl, rfl⟩
  obtain ⟨n, rfl⟩ : ∃ m : Nat, n = m := ⟨n.toNat, by omega⟩
  have hand : ¬ IntKind.i64.wrap (BitVec.ofInt IntKind.i64.bits (n : Int) &&& BitVec.ofInt IntKind.i64.bits ((n : Int) - 1)).toNat = 0 := by
    have e1 : ((n : Int) - 1) = ((n - 1 : Nat) : Int) := by omega
    rw [e1, and_i64 (by omega) (by omega)]
    intro h0
    obtain ⟨k, k1, k2, e⟩ := (and_self_pow (by omega) (by omega)).1 (show n &&& (n - 1) = 0 by omega)
    exact h ⟨k, k1, k2, by rw [e]⟩
  obtain ⟨q, hq⟩ : ∃ q, IntKind.i64.wrap (BitVec.ofInt IntKind.i64.bits (n : Int) &&& BitVec.ofInt IntKind.i64.bits ((n : Int) - 1)).toNat = q := ⟨_, rfl⟩
  rw [hq] at hand
  refine tr_of_body Try.func11 rfl Try.ntmps11 (by simp) fun um Q hQ => ?_
  simp only [argE, Nat.zero_add, Nat.reduceAdd]
  repeat (first
    | (apply wo_po; apply mo_bin; exact rfl; exact rfl; apply bin_and; exact hq; (first | exact trivial | exact rfl))
    | (apply wo_po; apply mo_bin; exact rfl; exact rfl; apply bin_lssF; omega; (first | exact trivial | exact rfl))
    | (apply wo_po; apply mo_bin; exact rfl; exact rfl; apply bin_gtrF; omega; (first | exact trivial | exact rfl))
    | (apply wo_po; apply mo_bin; exact rfl; exact rfl; apply bin_neqT; omega; (first | exact trivial | exact rfl))
    | refine we_seq ?_
    | (refine we_region _ rfl rfl ?_; simp only [opsOf, List.map_cons, List.map_nil, Option.map_none, Option.map_some, List.getElem?_toArray, List.getElem?_cons_zero, List.getElem?_cons_succ, Option.bind_some, Option.getD_some])
    | refine wo_nil ?_
    | (apply wo_po; apply mo_move; exact rfl; (first | exact trivial | exact rfl))
    | (apply wo_po; apply mo_assign; exact rfl; (first | exact trivial | exact rfl))
    | (apply wo_po; apply mo_pickF; exact rfl; exact rfl; exact rfl; (first | exact trivial | exact rfl))
    | (apply wo_po; apply mo_bin; exact rfl; exact rfl; apply bin_sub; exact wrap_i64 (by omega) (by omega); (first | exact trivial | exact rfl))
    | (apply we_condT; exact rfl; (first | exact rfl | (simp <;> omega) | omega))
    | refine we_ret ?_)
  (first | refine at_ret2 (ex := .ret) Try.func11 Try.results11 hQ (.inl rfl) rfl rfl ?_ | refine at_ret2 (ex := .normal) Try.func11 Try.results11 hQ (.inr rfl) rfl rfl ?_)
  exact ⟨rfl, rfl, rfl⟩

/-- Slots of a queue that is there -/
theorem slots_tr {r b n : Nat} (hr : Rd L r 2 (.slice (some ⟨b, 0, none⟩) n n)) :
    Tr Try.prog B 18 [.pointer (some ⟨r, 0, none⟩)] L x fun v L' x' => v = .int .i64 (n : Nat) ∧ L' = L ∧ x' = x := by
  refine tr_of_body Try.func18 rfl Try.ntmps18 (by simp) fun um Q hQ => ?_
  simp only [argE, Nat.zero_add, Nat.reduceAdd]
  repeat (first
    | (apply wo_po; apply mo_load; exact rfl; exact hr; exact trivial)
    | refine we_seq ?_
    | (refine we_region _ rfl rfl ?_; simp only [opsOf, List.map_cons, List.map_nil, Option.map_none, Option.map_some, List.getElem?_toArray, List.getElem?_cons_zero, List.getElem?_cons_succ, Option.bind_some, Option.getD_some])
    | refine wo_nil ?_
    | (apply wo_po; apply mo_move; exact rfl; (first | exact trivial | exact rfl))
    | (apply wo_po; apply mo_assign; exact rfl; (first | exact trivial | exact rfl))
    | (apply wo_po; apply mo_nilCheck; exact rfl; (first | exact trivial | exact rfl))
    | (apply wo_po; apply mo_fieldAddr; exact rfl; exact rfl; (first | exact Nat.zero_add _ | exact rfl); (first | exact trivial | exact rfl))
    | (apply wo_po; apply mo_bin; exact rfl; exact rfl; apply bin_eq; apply eql_ptr_nil; (first | exact trivial | exact rfl))
    | (apply wo_po; apply mo_len; exact rfl; (first | exact trivial | exact rfl))
    | (apply we_condF; exact rfl; (first | exact rfl | (simp <;> omega) | omega))
    | refine we_ret ?_
    | refine we_skip ?_)
  (first | refine at_ret1 (ex := .ret) Try.func18 Try.results18 hQ (.inl rfl) rfl ?_ | refine at_ret1 (ex := .normal) Try.func18 Try.results18 hQ (.inr rfl) rfl ?_)
  exact ⟨rfl, rfl, rfl⟩

end
end Go.Proofs.Ythghlchcjeocpaa
