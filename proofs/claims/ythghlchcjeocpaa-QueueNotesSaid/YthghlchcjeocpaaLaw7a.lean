/-
  patchbaylaw07: works, QueueRow: the walks.
-/
import Derived.Test.YthghlchcjeocpaaRow7
set_option linter.unusedVariables false
set_option linter.unusedSimpArgs false
namespace Go.Proofs.Ythghlchcjeocpaa
open Go Go.PB
attribute [local irreducible] Mo Bin Eql Tr Wo Ap

section
variable {B : Hand} [Lets B] {L : List HProp} {x : B.X}
theorem width_tr {n : Int} (hn : -9223372036854775808 ≤ n ∧ n ≤ 9223372036854775807) :
    Tr Try.prog B 10 [.int .i64 n] L x fun v L' x' => ∃ k : Nat, 1 ≤ k ∧ k ≤ 3 ∧ v = .int .i64 ((2 ^ k : Nat) : Int) ∧ L' = L ∧ x' = x := by
  have h1 := Int.emod_nonneg n (by omega : (3 : Int) ≠ 0)
  have h2 := Int.emod_lt_of_pos n (by omega : (0 : Int) < 3)
  refine tr_of_body Try.func10 rfl Try.ntmps10 (by simp) fun um Q hQ => ?_
  simp only [argE, Nat.zero_add, Nat.reduceAdd]
  repeat (first
    | refine we_seq ?_
    | (refine we_region _ rfl rfl ?_; simp only [opsOf, List.map_cons, List.map_nil, Option.map_none, Option.map_some, List.getElem?_toArray, List.getElem?_cons_zero, List.getElem?_cons_succ, Option.bind_some, Option.getD_some])
    | refine wo_nil ?_
    | (apply wo_po; apply mo_move; exact rfl; (first | exact trivial | exact rfl))
    | (apply wo_po; apply mo_assign; exact rfl; (first | exact trivial | exact rfl)))
  refine wo_call (.cons rfl (.cons rfl .nil)) trivial (within_tr hn (by omega)) ?_
  rintro v L' x' ⟨rfl, rfl, rfl⟩
  obtain ⟨k, hk⟩ : ∃ k : Nat, n % 3 = k := ⟨(n % 3).toNat, by omega⟩
  rw [hk]
  have hk3 : k ≤ 2 := by omega
  have hw : IntKind.i64.wrap (2 * 2 ^ (min (k : Int).toNat IntKind.i64.bits)) = ((2 ^ (k + 1) : Nat) : Int) := by
    have : k = 0 ∨ k = 1 ∨ k = 2 := by omega
    rcases this with rfl | rfl | rfl <;> rfl
  repeat (first
    | (apply wo_po; apply mo_bin; exact rfl; exact rfl; apply bin_shl; omega; exact hw; (first | exact trivial | exact rfl))
    | refine wo_nil ?_
    | (apply wo_po; apply mo_assign; exact rfl; (first | exact trivial | exact rfl))
    | refine we_ret ?_)
  (first | refine at_ret1 (ex := .ret) Try.func10 Try.results10 hQ (.inl rfl) rfl ?_ | refine at_ret1 (ex := .normal) Try.func10 Try.results10 hQ (.inr rfl) rfl ?_)
  exact ⟨k + 1, by omega, by omega, rfl, rfl, rfl⟩
end

variable {L F : List HProp} {x : solo0.X} {r b n k : Nat} {s : Nat → Nat} {row : List Nat}

theorem new_lone (hn : n = 2 ^ k) (hk0 : 1 ≤ k) (hk : k ≤ 10) :
    Tr Try.prog solo0 11 [.int .i64 n] L x fun v L' x' => ∃ r b, ∃ h : r ≠ b, ∃ s, v = .tuple #[.pointer (some ⟨r, 0, none⟩), .int .i64 0] ∧ RowAt n s [] ∧ L' = (queueAcc x r b n h).C s :: L ∧ x' = x := by
  have hle : n ≤ 1024 := by rw [hn]; exact pow_le hk
  refine (new_tr hn hk0 hk).mono ?_
  rintro v L' x' ⟨r, b, rfl, hne, rfl, rfl⟩
  refine ⟨r, b, hne, seqs n, rfl, ⟨by simp, rfl, by show 0 < 18446744073709551616; decide, fun i v hi => by simp at hi, fun i _ hi => ?_⟩, rfl, rfl⟩
  show seqs n (2 + 2 * ((0 + i) % n)) = (0 + i) % 18446744073709551616
  rw [Nat.zero_add, Nat.mod_eq_of_lt hi, Nat.mod_eq_of_lt (by omega)]
  unfold seqs
  rw [if_pos (by omega)]
  omega

theorem put_lone (h : r ≠ b) (hn : n = 2 ^ k) (hk0 : 1 ≤ k) (hk : k ≤ 10) (R : RowAt n s row) {v : Nat} (hv : v < 18446744073709551616) (hh : Has L ((queueAcc x r b n h).C s) F) :
    Tr Try.prog solo0 13 [.pointer (some ⟨r, 0, none⟩), .nilIface, .int .u64 v] L x fun v' L' x' => ∃ s', v' = .tuple #[.bool (decide (row.length < n)), .int .i64 0] ∧ RowAt n s' (if row.length < n then row ++ [v] else row) ∧ L' = (queueAcc x r b n h).C s' :: F ∧ x' = x :=
  (put_tr (A := queueAcc x r b n h) (queue_at h hn hk) hv (put_row hn hk0 hk R) hh).mono fun v' L' x' ⟨q, s', ⟨h1, h2⟩, h3, h4, h5⟩ => ⟨s', h1 ▸ h3, h2, h4, h5⟩

theorem take_lone (h : r ≠ b) (hn : n = 2 ^ k) (hk0 : 1 ≤ k) (hk : k ≤ 10) (R : RowAt n s row) (hh : Has L ((queueAcc x r b n h).C s) F) :
    Tr Try.prog solo0 14 [.pointer (some ⟨r, 0, none⟩), .nilIface] L x fun v' L' x' => ∃ s', row.head?.getD 0 < 18446744073709551616 ∧ v' = .tuple #[.int .u64 (row.head?.getD 0 : Nat), .bool row.head?.isSome, .int .i64 0] ∧ RowAt n s' row.tail ∧ L' = (queueAcc x r b n h).C s' :: F ∧ x' = x :=
  (take_tr (A := queueAcc x r b n h) (queue_at h hn hk) (take_row hn hk0 hk R) hh).mono fun v' L' x' ⟨q, s', ⟨h1, h2⟩, h3, h4, h5, h6⟩ => ⟨s', h1 ▸ h3, h1 ▸ h4, h2, h5, h6⟩

theorem drain_lone (h : r ≠ b) (hn : n = 2 ^ k) (hk0 : 1 ≤ k) (hk : k ≤ 10) (R : RowAt n s row) (hh : Has L ((queueAcc x r b n h).C s) F) :
    Tr Try.prog solo0 15 [.pointer (some ⟨r, 0, none⟩), .nilIface] L x fun v' L' x' => ∃ s' v, v' = .tuple #[v, .int .i64 0] ∧ RowAt n s' [] ∧ L' = (queueAcc x r b n h).C s' :: vec 1 v (row.map num) :: F ∧ x' = x :=
  (drain_tr (A := queueAcc x r b n h) (queue_at h hn hk) (drain_row hn hk0 hk n R.len R) hh).mono fun v' L' x' ⟨out, s', v, ⟨h1, h2⟩, h3, h4, h5⟩ => ⟨s', v, h3, h2, by rw [h4, h1, List.nil_append], h5⟩

theorem works_tr : Tr Try.prog solo0 9 [] L x fun v L' x' => v = .bool true ∧ L' = L ∧ x' = x := by
  refine Tr.post (R := fun v L' x' => ∃ c, v = .bool true ∧ L' = c :: L ∧ x' = x) ?_ (by rintro v L' x' ⟨c, rfl, rfl, rfl⟩; exact ⟨L, ⟨rfl, rfl, rfl⟩, fun h s => star_drop s⟩)
  refine tr_of_body Try.func9 rfl Try.ntmps9 (by simp) fun um Q hQ => ?_
  simp only [argE, Nat.zero_add, Nat.reduceAdd]
  repeat (first
    | refine we_seq ?_
    | (refine we_region _ rfl rfl ?_; simp only [opsOf, List.map_cons, List.map_nil, Option.map_none, Option.map_some, List.getElem?_toArray, List.getElem?_cons_zero, List.getElem?_cons_succ, Option.bind_some, Option.getD_some])
    | refine wo_nil ?_
    | (apply wo_po; apply mo_assign; exact rfl; (first | exact trivial | exact rfl)))
  refine wo_call (.cons rfl .nil) trivial (new_lone (n := 2) (k := 1) rfl (by omega) (by omega)) ?_
  rintro v L' x' ⟨r, b, h, s, rfl, R, rfl, rfl⟩
  repeat (first
    | refine we_seq ?_
    | (refine we_region _ rfl rfl ?_; simp only [opsOf, List.map_cons, List.map_nil, Option.map_none, Option.map_some, List.getElem?_toArray, List.getElem?_cons_zero, List.getElem?_cons_succ, Option.bind_some, Option.getD_some])
    | refine wo_nil ?_
    | (apply wo_po; apply mo_move; exact rfl; (first | exact trivial | exact rfl))
    | (apply wo_po; apply mo_assign; exact rfl; (first | exact trivial | exact rfl))
    | (apply wo_po; apply mo_extract; exact rfl; exact rfl; (first | exact trivial | exact rfl)))
  refine wo_call (.cons rfl (.cons rfl (.cons rfl .nil))) trivial (put_lone (k := 1) (v := 5) h rfl (by omega) (by omega) R (by omega) .here) ?_
  rintro v L' x' ⟨s, rfl, R, rfl, rfl⟩
  repeat (first
    | refine we_seq ?_
    | (refine we_region _ rfl rfl ?_; simp only [opsOf, List.map_cons, List.map_nil, Option.map_none, Option.map_some, List.getElem?_toArray, List.getElem?_cons_zero, List.getElem?_cons_succ, Option.bind_some, Option.getD_some])
    | refine wo_nil ?_
    | (apply wo_po; apply mo_move; exact rfl; (first | exact trivial | exact rfl))
    | (apply wo_po; apply mo_assign; exact rfl; (first | exact trivial | exact rfl))
    | (apply wo_po; apply mo_extract; exact rfl; exact rfl; (first | exact trivial | exact rfl)))
  refine wo_call (.cons rfl (.cons rfl .nil)) trivial (take_lone (k := 1) h rfl (by omega) (by omega) R .here) ?_
  rintro v L' x' ⟨s, _, rfl, R, rfl, rfl⟩
  repeat (first
    | refine we_seq ?_
    | (refine we_region _ rfl rfl ?_; simp only [opsOf, List.map_cons, List.map_nil, Option.map_none, Option.map_some, List.getElem?_toArray, List.getElem?_cons_zero, List.getElem?_cons_succ, Option.bind_some, Option.getD_some])
    | refine wo_nil ?_
    | (apply wo_po; apply mo_move; exact rfl; (first | exact trivial | exact rfl))
    | (apply wo_po; apply mo_assign; exact rfl; (first | exact trivial | exact rfl))
    | (apply wo_po; apply mo_extract; exact rfl; exact rfl; (first | exact trivial | exact rfl)))
  refine wo_call (.cons rfl (.cons rfl .nil)) trivial (take_lone (k := 1) h rfl (by omega) (by omega) R .here) ?_
  rintro v L' x' ⟨s, _, rfl, R, rfl, rfl⟩
  repeat (first
    | (apply wo_po; apply mo_bin; exact rfl; exact rfl; apply bin_eqlT; omega; (first | exact trivial | exact rfl))
    | refine we_seq ?_
    | (refine we_region _ rfl rfl ?_; simp only [opsOf, List.map_cons, List.map_nil, Option.map_none, Option.map_some, List.getElem?_toArray, List.getElem?_cons_zero, List.getElem?_cons_succ, Option.bind_some, Option.getD_some])
    | refine wo_nil ?_
    | (apply wo_po; apply mo_move; exact rfl; (first | exact trivial | exact rfl))
    | (apply wo_po; apply mo_assign; exact rfl; (first | exact trivial | exact rfl))
    | (apply wo_po; apply mo_pickT; exact rfl; exact rfl; exact rfl; (first | exact trivial | exact rfl))
    | (apply wo_po; apply mo_extract; exact rfl; exact rfl; (first | exact trivial | exact rfl))
    | (apply wo_po; apply mo_not; exact rfl; (first | exact trivial | exact rfl))
    | (apply wo_po; apply mo_bin; exact rfl; exact rfl; exact bin_eql; (first | exact trivial | exact rfl))
    | refine we_ret ?_)
  (first | refine at_ret1 (ex := .ret) Try.func9 Try.results9 hQ (.inl rfl) rfl ?_ | refine at_ret1 (ex := .normal) Try.func9 Try.results9 hQ (.inr rfl) rfl ?_)
  exact ⟨_, rfl, rfl, rfl⟩

/-- what a row of Do holds, in memory that is only read -/
structure DoAt (L : List HProp) (a : Option Addr) (l : List (Int × Nat)) : Prop where
  rng : ∀ y ∈ l, (-9223372036854775808 ≤ y.1 ∧ y.1 ≤ 9223372036854775807) ∧ y.2 < 18446744073709551616
  at_ : ∀ i y, l[i]? = some y → ∃ b o, a = some ⟨b, o, none⟩ ∧ Rd L b (o + 2 * i) (.int .i64 y.1) ∧ Rd L b (o + 2 * i + 1) (.int .u64 y.2)

/-- ahead of a round of the outer loop -/
def rowOut (x : solo0.X) (r b n : Nat) (hne : r ≠ b) (a : Option Addr) (l : List (Int × Nat)) (cap : Nat) (rounds : Int) (W : World) : Inv (Nat × Value × List Nat × (Nat → Nat)) solo0.X where
  e := fun i => [(1, .slice a l.length cap), (2, .int .i64 rounds), (7, .int .i64 n), (8, .pointer (some ⟨r, 0, none⟩)), (10, i.2.1), (11, .int .i64 i.1)]
  L := fun i => [(queueAcc x r b n hne).C i.2.2.2, vec 1 i.2.1 (i.2.2.1.map num), base W]
  x := fun _ => x
  ok := fun i => i.1 ≤ 20 ∧ RowAt n i.2.2.2 i.2.2.1

/-- ahead of a round of the inner loop -/
def rowIn (x : solo0.X) (r b n : Nat) (hne : r ≠ b) (a : Option Addr) (l : List (Int × Nat)) (cap : Nat) (rounds : Int) (W : World) (j : Nat) : Inv (Nat × Value × List Nat × (Nat → Nat)) solo0.X where
  e := fun i => [(1, .slice a l.length cap), (2, .int .i64 rounds), (7, .int .i64 n), (8, .pointer (some ⟨r, 0, none⟩)), (10, i.2.1), (11, .int .i64 j), (12, .int .i64 i.1)]
  L := fun i => [(queueAcc x r b n hne).C i.2.2.2, vec 1 i.2.1 (i.2.2.1.map num), base W]
  x := fun _ => x
  ok := fun i => i.1 ≤ 30 ∧ RowAt n i.2.2.2 i.2.2.1

theorem row_tr {slots rounds : Int} (h1 : -9223372036854775808 ≤ slots ∧ slots ≤ 9223372036854775807) (h2 : -9223372036854775808 ≤ rounds ∧ rounds ≤ 9223372036854775807) {a : Option Addr} {l : List (Int × Nat)} {cap : Nat} {W : World} (hl : DoAt [base W] a l) :
    Tr Try.prog solo0 3 [.int .i64 slots, .slice a l.length cap, .int .i64 rounds] [base W] x fun v L' x' => v = .bool true := by
  refine tr_of_body Try.func3 rfl Try.ntmps3 (by simp) fun um Q hQ => ?_
  simp only [argE, Nat.zero_add, Nat.reduceAdd]
  repeat (first
    | refine we_seq ?_
    | (refine we_region _ rfl rfl ?_; simp only [opsOf, List.map_cons, List.map_nil, Option.map_none, Option.map_some, List.getElem?_toArray, List.getElem?_cons_zero, List.getElem?_cons_succ, Option.bind_some, Option.getD_some])
    | refine wo_nil ?_
    | (apply wo_po; apply mo_assign; exact rfl; (first | exact trivial | exact rfl)))
  refine wo_call .nil trivial works_tr ?_
  rintro v L' x' ⟨rfl, rfl, rfl⟩
  repeat (first
    | refine we_seq ?_
    | (refine we_region _ rfl rfl ?_; simp only [opsOf, List.map_cons, List.map_nil, Option.map_none, Option.map_some, List.getElem?_toArray, List.getElem?_cons_zero, List.getElem?_cons_succ, Option.bind_some, Option.getD_some])
    | refine wo_nil ?_
    | (apply wo_po; apply mo_move; exact rfl; (first | exact trivial | exact rfl))
    | (apply wo_po; apply mo_not; exact rfl; (first | exact trivial | exact rfl))
    | (apply we_condF; exact rfl; (first | exact rfl | (simp <;> omega) | omega))
    | refine we_skip ?_)
  refine wo_call (.cons rfl .nil) trivial (width_tr h1) ?_
  rintro v L' x' ⟨k, hk0, hk, rfl, rfl, rfl⟩
  repeat (first
    | refine we_seq ?_
    | (refine we_region _ rfl rfl ?_; simp only [opsOf, List.map_cons, List.map_nil, Option.map_none, Option.map_some, List.getElem?_toArray, List.getElem?_cons_zero, List.getElem?_cons_succ, Option.bind_some, Option.getD_some])
    | refine wo_nil ?_
    | (apply wo_po; apply mo_move; exact rfl; (first | exact trivial | exact rfl))
    | (apply wo_po; apply mo_assign; exact rfl; (first | exact trivial | exact rfl)))
  obtain ⟨n, hn⟩ : ∃ n, 2 ^ k = n := ⟨_, rfl⟩
  rw [hn]
  have hk' : k ≤ 10 := by omega
  have hn8 : n ≤ 8 := by rw [← hn]; exact Nat.pow_le_pow_right (by omega) hk
  refine wo_call (.cons rfl .nil) trivial (new_lone hn.symm hk0 (by omega)) ?_
  rintro v L' x' ⟨r, b, hne, s, rfl, R, rfl, rfl⟩
  repeat (first
    | (apply wo_po; apply mo_bin; exact rfl; exact rfl; apply bin_neqF; omega; (first | exact trivial | exact rfl))
    | refine we_seq ?_
    | (refine we_region _ rfl rfl ?_; simp only [opsOf, List.map_cons, List.map_nil, Option.map_none, Option.map_some, List.getElem?_toArray, List.getElem?_cons_zero, List.getElem?_cons_succ, Option.bind_some, Option.getD_some])
    | refine wo_nil ?_
    | (apply wo_po; apply mo_move; exact rfl; (first | exact trivial | exact rfl))
    | (apply wo_po; apply mo_assign; exact rfl; (first | exact trivial | exact rfl))
    | (apply wo_po; apply mo_extract; exact rfl; exact rfl; (first | exact trivial | exact rfl))
    | (apply we_condF; exact rfl; (first | exact rfl | (simp <;> omega) | omega))
    | refine we_skip ?_
    | refine we_block ?_)
  have g1 := Int.emod_nonneg rounds (by omega : (20 : Int) ≠ 0)
  have g2 := Int.emod_lt_of_pos rounds (by omega : (0 : Int) < 20)
  obtain ⟨m, hm⟩ : ∃ m : Nat, rounds % 20 = m := ⟨(rounds % 20).toNat, by omega⟩
  refine we_star [(queueAcc x' r b n hne).C s, vec 1 (.slice none 0 0) (([] : List Nat).map num), base W] (fun h st => star_map st (fun _ y => y) (fun _ y => vec_nil y)) ?_
  refine we_loopN (rowOut x' r b n hne a l cap rounds W) (fun i => 21 - i.1) (0, _, [], s) ⟨by omega, R⟩ ⟨rfl, rfl, rfl, rfl, rfl, rfl, trivial⟩ .refl rfl ?_
  rintro ⟨j, rv, row, s⟩ ⟨hj, R⟩
  dsimp only [rowOut] at hj R ⊢
  repeat (first
    | refine we_seq ?_
    | (refine we_region _ rfl rfl ?_; simp only [opsOf, List.map_cons, List.map_nil, Option.map_none, Option.map_some, List.getElem?_toArray, List.getElem?_cons_zero, List.getElem?_cons_succ, Option.bind_some, Option.getD_some])
    | (apply wo_po; apply mo_move; exact rfl; (first | exact trivial | exact rfl)))
  refine wo_call (.cons rfl (.cons rfl .nil)) trivial (within_tr h2 (by omega)) ?_
  rintro v L' x1 ⟨rfl, rfl, rfl⟩
  rw [hm]
  by_cases hc : j < 1 + m
  · repeat (first
      | (apply wo_po; apply mo_bin; exact rfl; exact rfl; apply bin_lssT; omega; (first | exact trivial | exact rfl))
      | refine we_seq ?_
      | (refine we_region _ rfl rfl ?_; simp only [opsOf, List.map_cons, List.map_nil, Option.map_none, Option.map_some, List.getElem?_toArray, List.getElem?_cons_zero, List.getElem?_cons_succ, Option.bind_some, Option.getD_some])
      | refine wo_nil ?_
      | (apply wo_po; apply mo_assign; exact rfl; (first | exact trivial | exact rfl))
      | (apply wo_po; apply mo_bin; exact rfl; exact rfl; apply bin_add; exact wrap_i64 (by omega) (by omega); (first | exact trivial | exact rfl))
      | (apply we_condT; exact rfl; (first | exact rfl | (simp <;> omega) | omega))
      | refine we_skip ?_
      | refine we_block ?_)
    refine we_loopN (rowIn x1 r b n hne a l cap rounds W j) (fun i => 31 - i.1) (0, rv, row, s) ⟨by omega, R⟩ ⟨rfl, rfl, rfl, rfl, rfl, rfl, rfl, trivial⟩ .refl rfl ?_
    clear R s rv row
    rintro ⟨i, rv, row, s⟩ ⟨hi, R⟩
    dsimp only [rowIn] at hi R ⊢
    refine we_pure (of_has (.there .here) (vec_shape (by omega))) ?_
    rintro ⟨ra, rl, rc, rfl, hlen, hrc, hra, hra2⟩
    obtain rfl : rl = row.length := by simpa using hlen.symm
    have hR1 := R.len
    by_cases hci : i < l.length
    · by_cases hci2 : i < 30
      · obtain ⟨y, hy⟩ : ∃ y, l[i]? = some y := ⟨l[i], by simp [hci]⟩
        obtain ⟨bb, oo, rfl, r1, r2⟩ := hl.at_ i y hy
        obtain ⟨y1, y2⟩ := hl.rng y (List.mem_of_getElem? hy)
        have r1' : ∀ {c d : HProp}, Rd [c, d, base W] bb (oo + 2 * i) (.int .i64 y.1) := fun {c d} => Rd.there (Rd.there r1)
        have r2' : ∀ {c d : HProp}, Rd [c, d, base W] bb (oo + 2 * i + 1) (.int .u64 y.2) := fun {c d} => Rd.there (Rd.there r2)
        have hrds : Rds [(queueAcc x1 r b n hne).C s, vec 1 (.slice ra row.length rc) (row.map num), base W] bb (oo + 2 * i) [.int .i64 y.1, .int .u64 y.2] := by
          intro q v hq
          match q, hq with
          | 0, hq => cases hq; exact r1'
          | 1, hq => cases hq; exact r2'
        repeat (first
          | (apply wo_po; apply mo_indexAddr (r := oo + 2 * i); exact rfl; exact rfl; omega; omega; omega; (first | exact trivial | exact rfl))
          | (apply wo_po; apply mo_loadA (vs := [.int .i64 y.1, .int .u64 y.2]); exact rfl; exact rfl; exact hrds; exact trivial)
          | (apply wo_mo; apply mo_alloc; exact trivial)
          | (apply wo_po; apply mo_bin; exact rfl; exact rfl; apply bin_lssT; omega; (first | exact trivial | exact rfl))
          | refine we_seq ?_
          | (refine we_region _ rfl rfl ?_; simp only [opsOf, List.map_cons, List.map_nil, Option.map_none, Option.map_some, List.getElem?_toArray, List.getElem?_cons_zero, List.getElem?_cons_succ, Option.bind_some, Option.getD_some])
          | refine wo_nil ?_
          | (apply wo_po; apply mo_move; exact rfl; (first | exact trivial | exact rfl))
          | (apply wo_po; apply mo_pickT; exact rfl; exact rfl; exact rfl; (first | exact trivial | exact rfl))
          | (apply wo_po; apply mo_len; exact rfl; (first | exact trivial | exact rfl))
          | (apply we_condT; exact rfl; (first | exact rfl | (simp <;> omega) | omega))
          | refine we_skip ?_
          | refine we_block ?_)
        rintro v L' ⟨xb, rfl, rfl⟩
        repeat (first
          | (apply wo_pm; apply mo_storeA (c := 0) (k := 0) (a := 0) (vs := [.int .i64 0, .int .u64 0]) (v := .agg #[.int .i64 y.1, .int .u64 y.2]); exact rfl; exact rfl; exact rfl; (intro w hw; simp [Value.cells] at hw; rcases hw with rfl | rfl <;> rfl); exact rfl; exact Nat.le_refl 2; exact .here; exact trivial)
          | refine we_seq ?_
          | (refine we_region _ rfl rfl ?_; simp only [opsOf, List.map_cons, List.map_nil, Option.map_none, Option.map_some, List.getElem?_toArray, List.getElem?_cons_zero, List.getElem?_cons_succ, Option.bind_some, Option.getD_some])
          | refine wo_nil ?_
          | (apply wo_po; apply mo_fieldAddr; exact rfl; exact rfl; (first | exact Nat.zero_add _ | exact rfl); (first | exact trivial | exact rfl))
          | (apply wo_po; apply mo_load; exact rfl; (repeat (first | exact Rd.row0 rfl | exact Rd.row rfl rfl | exact Rd.still | apply Rd.there)); (first | exact trivial | exact rfl)))
        refine wo_ent [(queueAcc x1 r b n hne).C s, vec 1 (.slice ra row.length rc) (row.map num), base W, arr xb 0 [.int .i64 y.1, .int .u64 y.2]] (.take (.there .here) (.take (.there .here) (.take (.there .here) .refl))) ?_
        have q1 : ∀ {c d : HProp}, Rd [c, d, base W, arr xb 0 [.int .i64 y.1, .int .u64 y.2]] xb 0 (.int .i64 y.1) := fun {c d} => Rd.there (Rd.there (Rd.there (Rd.row (k := 0) rfl rfl)))
        have q2 : ∀ {c d : HProp}, Rd [c, d, base W, arr xb 0 [.int .i64 y.1, .int .u64 y.2]] xb 1 (.int .u64 y.2) := fun {c d} => Rd.there (Rd.there (Rd.there (Rd.row (k := 1) rfl rfl)))
        skip
        refine wo_call (.cons rfl (.cons rfl .nil)) trivial (within_tr y1 (by omega)) ?_
        rintro v L' x2 ⟨rfl, rfl, rfl⟩
        have w1 := Int.emod_nonneg y.1 (by omega : (3 : Int) ≠ 0)
        have w2 := Int.emod_lt_of_pos y.1 (by omega : (0 : Int) < 3)
        obtain ⟨kd, hkd⟩ : ∃ kd : Nat, y.1 % 3 = kd := ⟨(y.1 % 3).toNat, by omega⟩
        rw [hkd]
        by_cases k0 : kd = 0
        · repeat (first
            | (apply wo_po; apply mo_load; exact rfl; exact q2; exact trivial)
            | (apply wo_po; apply mo_bin; exact rfl; exact rfl; apply bin_eqlT; omega; (first | exact trivial | exact rfl))
            | refine we_seq ?_
            | (refine we_region _ rfl rfl ?_; simp only [opsOf, List.map_cons, List.map_nil, Option.map_none, Option.map_some, List.getElem?_toArray, List.getElem?_cons_zero, List.getElem?_cons_succ, Option.bind_some, Option.getD_some])
            | refine wo_nil ?_
            | (apply wo_po; apply mo_move; exact rfl; (first | exact trivial | exact rfl))
            | (apply wo_po; apply mo_assign; exact rfl; (first | exact trivial | exact rfl))
            | (apply wo_po; apply mo_fieldAddr; exact rfl; exact rfl; (first | exact Nat.zero_add _ | exact rfl); (first | exact trivial | exact rfl))
            | (apply we_condT; exact rfl; (first | exact rfl | (simp <;> omega) | omega))
            | refine we_block ?_)
          refine wo_call (.cons rfl (.cons rfl (.cons rfl .nil))) trivial (put_lone (k := k) hne hn.symm hk0 hk' R y2 .here) ?_
          rintro v L' x3 ⟨s', rfl, R', rfl, rfl⟩
          by_cases hf : row.length < n
          · rw [decide_eq_true hf]
            rw [if_pos hf] at R'
            repeat (first
              | (apply wo_po; apply mo_bin; exact rfl; exact rfl; apply bin_ne; apply eql_bool; (first | exact trivial | exact rfl))
              | (apply wo_po; apply mo_load; exact rfl; exact q2; exact trivial)
              | (apply wo_mo; apply mo_buildSlice (vs := [_]); exact rfl; exact .cons rfl .nil; exact rfl; (intro v hv; cases (List.mem_singleton.1 hv); exact rfl); omega; exact trivial)
              | (apply wo_po; apply mo_bin; exact rfl; exact rfl; apply bin_lssT; omega; (first | exact trivial | exact rfl))
              | (apply wo_po; apply mo_bin; exact rfl; exact rfl; apply bin_neqF; omega; (first | exact trivial | exact rfl))
              | refine we_seq ?_
              | (refine we_region _ rfl rfl ?_; simp only [opsOf, List.map_cons, List.map_nil, Option.map_none, Option.map_some, List.getElem?_toArray, List.getElem?_cons_zero, List.getElem?_cons_succ, Option.bind_some, Option.getD_some])
              | refine wo_nil ?_
              | (apply wo_po; apply mo_move; exact rfl; (first | exact trivial | exact rfl))
              | (apply wo_po; apply mo_assign; exact rfl; (first | exact trivial | exact rfl))
              | (apply wo_po; apply mo_pickF; exact rfl; exact rfl; exact rfl; (first | exact trivial | exact rfl))
              | (apply wo_po; apply mo_fieldAddr; exact rfl; exact rfl; (first | exact Nat.zero_add _ | exact rfl); (first | exact trivial | exact rfl))
              | (apply wo_po; apply mo_extract; exact rfl; exact rfl; (first | exact trivial | exact rfl))
              | (apply wo_po; apply mo_len; exact rfl; (first | exact trivial | exact rfl))
              | (apply we_condT; exact rfl; (first | exact rfl | (simp <;> omega) | omega))
              | (apply we_condF; exact rfl; (first | exact rfl | (simp <;> omega) | omega))
              | refine we_skip ?_)
            rintro v L' ⟨nb, rfl, rfl⟩
            repeat (first
              | (apply wo_mo; apply mo_append (new := [num y.2]); exact rfl; exact rfl; exact rfl; exact rfl; exact .there (.there .here); exact rfl; exact .inr ⟨_, _, rfl, Rds.all .here⟩; (intro v hv; cases (List.mem_singleton.1 hv); exact rfl); (simp only [sliceLen]; omega); exact trivial))
            rintro v L' hL
            rw [show row.map num ++ [num y.2] = (row ++ [y.2]).map num by simp] at hL
            subst hL
            repeat (first
              | (refine we_region _ rfl rfl ?_; simp only [opsOf, List.map_cons, List.map_nil, Option.map_none, Option.map_some, List.getElem?_toArray, List.getElem?_cons_zero, List.getElem?_cons_succ, Option.bind_some, Option.getD_some])
              | refine wo_nil ?_
              | (apply wo_po; apply mo_move; exact rfl; (first | exact trivial | exact rfl))
              | (apply wo_po; apply mo_assign; exact rfl; (first | exact trivial | exact rfl))
              | (apply wo_po; apply mo_bin; exact rfl; exact rfl; apply bin_add; exact wrap_i64 (by omega) (by omega); (first | exact trivial | exact rfl)))
            refine at_round (I := rowIn x3 r b n hne _ l cap rounds W j) (R := fun i' => 31 - i'.1 < 31 - i) (i + 1, v, row ++ [y.2], s') (by simp; omega) ⟨by simp; omega, R'⟩ ⟨rfl, rfl, rfl, rfl, rfl, rfl, rfl, trivial⟩ ?_ rfl
            refine .take (.there (.there .here)) (.take .here (.take (.there .here) .nil))
          · rw [decide_eq_false hf]
            rw [if_neg hf] at R'
            repeat (first
              | (apply wo_po; apply mo_bin; exact rfl; exact rfl; apply bin_ne; apply eql_bool; (first | exact trivial | exact rfl))
              | (apply wo_po; apply mo_bin; exact rfl; exact rfl; apply bin_lssF; omega; (first | exact trivial | exact rfl))
              | (apply wo_po; apply mo_bin; exact rfl; exact rfl; apply bin_neqF; omega; (first | exact trivial | exact rfl))
              | refine we_seq ?_
              | (refine we_region _ rfl rfl ?_; simp only [opsOf, List.map_cons, List.map_nil, Option.map_none, Option.map_some, List.getElem?_toArray, List.getElem?_cons_zero, List.getElem?_cons_succ, Option.bind_some, Option.getD_some])
              | refine wo_nil ?_
              | (apply wo_po; apply mo_move; exact rfl; (first | exact trivial | exact rfl))
              | (apply wo_po; apply mo_assign; exact rfl; (first | exact trivial | exact rfl))
              | (apply wo_po; apply mo_pickF; exact rfl; exact rfl; exact rfl; (first | exact trivial | exact rfl))
              | (apply wo_po; apply mo_extract; exact rfl; exact rfl; (first | exact trivial | exact rfl))
              | (apply wo_po; apply mo_bin; exact rfl; exact rfl; apply bin_add; exact wrap_i64 (by omega) (by omega); (first | exact trivial | exact rfl))
              | (apply wo_po; apply mo_len; exact rfl; (first | exact trivial | exact rfl))
              | (apply we_condF; exact rfl; (first | exact rfl | (simp <;> omega) | omega))
              | refine we_skip ?_)
            refine at_round (I := rowIn x3 r b n hne _ l cap rounds W j) (R := fun i' => 31 - i'.1 < 31 - i) (i + 1, _, row, s') (by simp; omega) ⟨by simp; omega, R'⟩ ⟨rfl, rfl, rfl, rfl, rfl, rfl, rfl, trivial⟩ (.take .here (.take .here (.take .here .nil))) rfl
        · by_cases k1 : kd = 1
          · repeat (first
              | (apply wo_po; apply mo_bin; exact rfl; exact rfl; apply bin_eqlT; omega; (first | exact trivial | exact rfl))
              | (apply wo_po; apply mo_bin; exact rfl; exact rfl; apply bin_eqlF; omega; (first | exact trivial | exact rfl))
              | refine we_seq ?_
              | (refine we_region _ rfl rfl ?_; simp only [opsOf, List.map_cons, List.map_nil, Option.map_none, Option.map_some, List.getElem?_toArray, List.getElem?_cons_zero, List.getElem?_cons_succ, Option.bind_some, Option.getD_some])
              | refine wo_nil ?_
              | (apply wo_po; apply mo_move; exact rfl; (first | exact trivial | exact rfl))
              | (apply wo_po; apply mo_assign; exact rfl; (first | exact trivial | exact rfl))
              | (apply we_condT; exact rfl; (first | exact rfl | (simp <;> omega) | omega))
              | (apply we_condF; exact rfl; (first | exact rfl | (simp <;> omega) | omega))
              | refine we_block ?_)
            obtain ⟨hd, hhd⟩ : ∃ hd, row.head? = hd := ⟨_, rfl⟩
            have tl := take_lone (x := x2) (k := k) hne hn.symm hk0 hk' R (.here (L := [vec 1 (.slice ra row.length rc) (row.map num), base W, arr xb 0 [.int .i64 y.1, .int .u64 y.2]]))
            rw [hhd] at tl
            refine wo_call (.cons rfl (.cons rfl .nil)) trivial tl ?_
            rintro v L' x3 ⟨s', ht, rfl, R', rfl, rfl⟩
            clear tl
            cases hd with
            | none =>
              have hl0 : row = [] := by simpa using hhd
              have hl1 : row.length = 0 := by rw [hl0]; rfl
              rw [show row.tail = row by rw [hl0]; rfl] at R'
              repeat (first
                | (apply wo_po; apply mo_bin; exact rfl; exact rfl; apply bin_ne; apply eql_bool; (first | exact trivial | exact rfl))
                | (apply wo_po; apply mo_bin; exact rfl; exact rfl; apply bin_gtrF; omega; (first | exact trivial | exact rfl))
                | (apply wo_po; apply mo_bin; exact rfl; exact rfl; apply bin_neqF; omega; (first | exact trivial | exact rfl))
                | refine we_seq ?_
                | (refine we_region _ rfl rfl ?_; simp only [opsOf, List.map_cons, List.map_nil, Option.map_none, Option.map_some, List.getElem?_toArray, List.getElem?_cons_zero, List.getElem?_cons_succ, Option.bind_some, Option.getD_some])
                | refine wo_nil ?_
                | (apply wo_po; apply mo_move; exact rfl; (first | exact trivial | exact rfl))
                | (apply wo_po; apply mo_assign; exact rfl; (first | exact trivial | exact rfl))
                | (apply wo_no; exact rfl)
                | (apply wo_po; apply mo_pickT; exact rfl; exact rfl; exact rfl; (first | exact trivial | exact rfl))
                | (apply wo_po; apply mo_pickF; exact rfl; exact rfl; exact rfl; (first | exact trivial | exact rfl))
                | (apply wo_po; apply mo_extract; exact rfl; exact rfl; (first | exact trivial | exact rfl))
                | (apply wo_po; apply mo_not; exact rfl; (first | exact trivial | exact rfl))
                | (apply wo_po; apply mo_bin; exact rfl; exact rfl; exact bin_neq; (first | exact trivial | exact rfl))
                | (apply wo_po; apply mo_bin; exact rfl; exact rfl; apply bin_add; exact wrap_i64 (by omega) (by omega); (first | exact trivial | exact rfl))
                | (apply wo_po; apply mo_len; exact rfl; (first | exact trivial | exact rfl))
                | (apply we_condF; exact rfl; (first | exact rfl | (simp <;> omega) | omega))
                | refine we_skip ?_)
              refine at_round (I := rowIn x3 r b n hne _ l cap rounds W j) (R := fun i' => 31 - i'.1 < 31 - i) (i + 1, _, row, s') (by simp; omega) ⟨by simp; omega, R'⟩ ⟨rfl, rfl, rfl, rfl, rfl, rfl, rfl, trivial⟩ (.take .here (.take .here (.take .here .nil))) rfl
            | some q =>
              obtain ⟨row', hl0⟩ : ∃ row', row = q :: row' := by
                cases row with
                | nil => cases hhd
                | cons a l => cases hhd; exact ⟨l, rfl⟩
              have hl1 : 0 < row.length := by rw [hl0]; simp
              obtain ⟨⟨vb, vo, vs⟩, rfl⟩ : ∃ y, ra = some y := by
                cases ra with
                | none => have := hra rfl; omega
                | some y => exact ⟨y, rfl⟩
              cases hra2 _ rfl
              have hr0 : Rd [(queueAcc x3 r b n hne).C s', vec 1 (.slice (some ⟨vb, vo, none⟩) row.length rc) (row.map num), base W, arr xb 0 [.int .i64 y.1, .int .u64 y.2]] vb (vo + 0) (num q) := rd_vec (.there .here) (by rw [hl0]; rfl)
              repeat (first
                | (apply wo_po; apply mo_bin; exact rfl; exact rfl; apply bin_ne; apply eql_bool; (first | exact trivial | exact rfl))
                | (apply wo_po; apply mo_indexAddr (r := vo + 0); exact rfl; exact rfl; omega; omega; rfl; (first | exact trivial | exact rfl))
                | (apply wo_po; apply mo_load; exact rfl; exact hr0; (first | exact trivial | exact rfl))
                | (apply wo_po; apply mo_bin; exact rfl; exact rfl; apply bin_gtrT; omega; (first | exact trivial | exact rfl))
                | (apply wo_po; apply mo_bin; exact rfl; exact rfl; apply bin_neqF; omega; (first | exact trivial | exact rfl))
                | refine we_seq ?_
                | (refine we_region _ rfl rfl ?_; simp only [opsOf, List.map_cons, List.map_nil, Option.map_none, Option.map_some, List.getElem?_toArray, List.getElem?_cons_zero, List.getElem?_cons_succ, Option.bind_some, Option.getD_some])
                | refine wo_nil ?_
                | (apply wo_po; apply mo_move; exact rfl; (first | exact trivial | exact rfl))
                | (apply wo_po; apply mo_assign; exact rfl; (first | exact trivial | exact rfl))
                | (apply wo_no; exact rfl)
                | (apply wo_po; apply mo_pickT; exact rfl; exact rfl; exact rfl; (first | exact trivial | exact rfl))
                | (apply wo_po; apply mo_pickF; exact rfl; exact rfl; exact rfl; (first | exact trivial | exact rfl))
                | (apply wo_po; apply mo_extract; exact rfl; exact rfl; (first | exact trivial | exact rfl))
                | (apply wo_po; apply mo_not; exact rfl; (first | exact trivial | exact rfl))
                | (apply wo_po; apply mo_len; exact rfl; (first | exact trivial | exact rfl))
                | (apply we_condT; exact rfl; (first | exact rfl | (simp <;> omega) | omega))
                | (apply we_condF; exact rfl; (first | exact rfl | (simp <;> omega) | omega))
                | refine we_skip ?_)
              repeat (first
                | (apply wo_mo; apply mo_slice (l := 1) (u := row.length); exact rfl; exact .yes rfl rfl; exact .no; omega; omega; exact trivial))
              rintro v L' ⟨hv, rfl⟩
              refine wo_star [(queueAcc x3 r b n hne).C s', vec 1 v (row.tail.map num), base W, arr xb 0 [.int .i64 y.1, .int .u64 y.2]] (fun h st => star_map st (fun _ y => y) (fun _ y => ?_)) ?_
              · have := vec_cut y (by omega : 1 ≤ row.length)
                rw [hv, show row.tail.map num = (row.map num).drop (1 * 1) by rw [hl0]; rfl]
                exact this
              repeat (first
                | (refine we_region _ rfl rfl ?_; simp only [opsOf, List.map_cons, List.map_nil, Option.map_none, Option.map_some, List.getElem?_toArray, List.getElem?_cons_zero, List.getElem?_cons_succ, Option.bind_some, Option.getD_some])
                | refine wo_nil ?_
                | (apply wo_po; apply mo_move; exact rfl; (first | exact trivial | exact rfl))
                | (apply wo_po; apply mo_assign; exact rfl; (first | exact trivial | exact rfl))
                | (apply wo_po; apply mo_bin; exact rfl; exact rfl; apply bin_add; exact wrap_i64 (by omega) (by omega); (first | exact trivial | exact rfl)))
              refine at_round (I := rowIn x3 r b n hne _ l cap rounds W j) (R := fun i' => 31 - i'.1 < 31 - i) (i + 1, v, row.tail, s') (by simp; omega) ⟨by simp; omega, R'⟩ ⟨rfl, rfl, rfl, rfl, rfl, rfl, rfl, trivial⟩ (.take .here (.take .here (.take .here .nil))) rfl
          · repeat (first
              | (apply wo_po; apply mo_bin; exact rfl; exact rfl; apply bin_eqlF; omega; (first | exact trivial | exact rfl))
              | refine we_seq ?_
              | (refine we_region _ rfl rfl ?_; simp only [opsOf, List.map_cons, List.map_nil, Option.map_none, Option.map_some, List.getElem?_toArray, List.getElem?_cons_zero, List.getElem?_cons_succ, Option.bind_some, Option.getD_some])
              | refine wo_nil ?_
              | (apply wo_po; apply mo_move; exact rfl; (first | exact trivial | exact rfl))
              | (apply wo_po; apply mo_assign; exact rfl; (first | exact trivial | exact rfl))
              | (apply we_condF; exact rfl; (first | exact rfl | (simp <;> omega) | omega))
              | refine we_block ?_)
            refine wo_call (.cons rfl (.cons rfl .nil)) trivial (drain_lone (k := k) hne hn.symm hk0 hk' R .here) ?_
            rintro v L' x3 ⟨s', dv, rfl, R', rfl, rfl⟩
            refine wo_pure (of_has (.there .here) (vec_shape (by omega))) ?_
            rintro ⟨da, dl, dc, rfl, hdlen, hdc, hda, hda2⟩
            obtain rfl : dl = row.length := by simpa using hdlen.symm
            repeat (first
              | (apply wo_po; apply mo_bin; exact rfl; exact rfl; apply bin_neqF; omega; (first | exact trivial | exact rfl))
              | refine we_seq ?_
              | (refine we_region _ rfl rfl ?_; simp only [opsOf, List.map_cons, List.map_nil, Option.map_none, Option.map_some, List.getElem?_toArray, List.getElem?_cons_zero, List.getElem?_cons_succ, Option.bind_some, Option.getD_some])
              | refine wo_nil ?_
              | (apply wo_po; apply mo_move; exact rfl; (first | exact trivial | exact rfl))
              | (apply wo_po; apply mo_assign; exact rfl; (first | exact trivial | exact rfl))
              | (apply wo_po; apply mo_extract; exact rfl; exact rfl; (first | exact trivial | exact rfl)))
            refine wo_call (.cons rfl (.cons rfl .nil)) rfl (same_words_tr (l := row) (l' := row) rfl rfl (by omega) (RdV.vec (.there .here) hda2 fun h => by have := hda h; exact List.length_eq_zero_iff.1 this) (RdV.vec (.there (.there .here)) hra2 fun h => by have := hra h; exact List.length_eq_zero_iff.1 this)) ?_
            rintro v L' x4 ⟨rfl, rfl, rfl⟩
            rw [decide_eq_true rfl]
            repeat (first
              | (refine we_region _ rfl rfl ?_; simp only [opsOf, List.map_cons, List.map_nil, Option.map_none, Option.map_some, List.getElem?_toArray, List.getElem?_cons_zero, List.getElem?_cons_succ, Option.bind_some, Option.getD_some])
              | refine wo_nil ?_
              | (apply wo_po; apply mo_move; exact rfl; (first | exact trivial | exact rfl))
              | (apply wo_po; apply mo_assign; exact rfl; (first | exact trivial | exact rfl))
              | (apply wo_po; apply mo_pickF; exact rfl; exact rfl; exact rfl; (first | exact trivial | exact rfl))
              | (apply wo_po; apply mo_not; exact rfl; (first | exact trivial | exact rfl))
              | (apply wo_po; apply mo_bin; exact rfl; exact rfl; apply bin_add; exact wrap_i64 (by omega) (by omega); (first | exact trivial | exact rfl))
              | (apply we_condF; exact rfl; (first | exact rfl | (simp <;> omega) | omega))
              | refine we_skip ?_)
            refine at_star [(queueAcc x4 r b n hne).C s', vec 1 (.slice none 0 0) (([] : List Nat).map num), base W] (fun h st => star_map st (fun _ y => y) (fun _ y => vec_nil ((Ent.drop (Ent.drop (Ent.take .here .nil))).star y))) ?_
            refine at_round (I := rowIn x4 r b n hne _ l cap rounds W j) (R := fun i' => 31 - i'.1 < 31 - i) (i + 1, _, [], s') (by simp; omega) ⟨by simp; omega, R'⟩ ⟨rfl, rfl, rfl, rfl, rfl, rfl, rfl, trivial⟩ .refl rfl
      · repeat (first
          | (apply wo_po; apply mo_bin; exact rfl; exact rfl; apply bin_lssT; omega; (first | exact trivial | exact rfl))
          | (apply wo_po; apply mo_bin; exact rfl; exact rfl; apply bin_lssF; omega; (first | exact trivial | exact rfl))
          | refine we_seq ?_
          | (refine we_region _ rfl rfl ?_; simp only [opsOf, List.map_cons, List.map_nil, Option.map_none, Option.map_some, List.getElem?_toArray, List.getElem?_cons_zero, List.getElem?_cons_succ, Option.bind_some, Option.getD_some])
          | refine wo_nil ?_
          | (apply wo_po; apply mo_move; exact rfl; (first | exact trivial | exact rfl))
          | (apply wo_po; apply mo_assign; exact rfl; (first | exact trivial | exact rfl))
          | (apply wo_po; apply mo_pickT; exact rfl; exact rfl; exact rfl; (first | exact trivial | exact rfl))
          | (apply wo_po; apply mo_bin; exact rfl; exact rfl; apply bin_add; exact wrap_i64 (by omega) (by omega); (first | exact trivial | exact rfl))
          | (apply wo_po; apply mo_len; exact rfl; (first | exact trivial | exact rfl))
          | (apply we_condF; exact rfl; (first | exact rfl | (simp <;> omega) | omega))
          | refine we_exit ?_)
        refine at_round (I := rowOut x1 r b n hne _ l cap rounds W) (R := fun i' => 21 - i'.1 < 21 - j) (j + 1, _, row, s) (by simp; omega) ⟨by simp; omega, R⟩ ⟨rfl, rfl, rfl, rfl, rfl, rfl, trivial⟩ .refl rfl
    · repeat (first
        | (apply wo_po; apply mo_bin; exact rfl; exact rfl; apply bin_lssF; omega; (first | exact trivial | exact rfl))
        | refine we_seq ?_
        | (refine we_region _ rfl rfl ?_; simp only [opsOf, List.map_cons, List.map_nil, Option.map_none, Option.map_some, List.getElem?_toArray, List.getElem?_cons_zero, List.getElem?_cons_succ, Option.bind_some, Option.getD_some])
        | refine wo_nil ?_
        | (apply wo_po; apply mo_move; exact rfl; (first | exact trivial | exact rfl))
        | (apply wo_po; apply mo_assign; exact rfl; (first | exact trivial | exact rfl))
        | (apply wo_no; exact rfl)
        | (apply wo_po; apply mo_pickF; exact rfl; exact rfl; exact rfl; (first | exact trivial | exact rfl))
        | (apply wo_po; apply mo_bin; exact rfl; exact rfl; apply bin_add; exact wrap_i64 (by omega) (by omega); (first | exact trivial | exact rfl))
        | (apply wo_po; apply mo_len; exact rfl; (first | exact trivial | exact rfl))
        | (apply we_condF; exact rfl; (first | exact rfl | (simp <;> omega) | omega))
        | refine we_exit ?_)
      refine at_round (I := rowOut x1 r b n hne _ l cap rounds W) (R := fun i' => 21 - i'.1 < 21 - j) (j + 1, _, row, s) (by simp; omega) ⟨by simp; omega, R⟩ ⟨rfl, rfl, rfl, rfl, rfl, rfl, trivial⟩ .refl rfl
  · repeat (first
      | (apply wo_po; apply mo_bin; exact rfl; exact rfl; apply bin_lssF; omega; (first | exact trivial | exact rfl))
      | refine we_seq ?_
      | (refine we_region _ rfl rfl ?_; simp only [opsOf, List.map_cons, List.map_nil, Option.map_none, Option.map_some, List.getElem?_toArray, List.getElem?_cons_zero, List.getElem?_cons_succ, Option.bind_some, Option.getD_some])
      | refine wo_nil ?_
      | (apply wo_po; apply mo_assign; exact rfl; (first | exact trivial | exact rfl))
      | (apply wo_po; apply mo_bin; exact rfl; exact rfl; apply bin_add; exact wrap_i64 (by omega) (by omega); (first | exact trivial | exact rfl))
      | (apply we_condF; exact rfl; (first | exact rfl | (simp <;> omega) | omega))
      | refine we_ret ?_
      | refine we_exit ?_)
    (first | refine at_ret1 (ex := .ret) Try.func3 Try.results3 hQ (.inl rfl) rfl ?_ | refine at_ret1 (ex := .normal) Try.func3 Try.results3 hQ (.inr rfl) rfl ?_)
    rfl

end Go.Proofs.Ythghlchcjeocpaa
