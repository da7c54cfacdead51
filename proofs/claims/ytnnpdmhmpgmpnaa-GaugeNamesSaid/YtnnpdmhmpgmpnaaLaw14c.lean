/-
  patchbaylaw14: the gauge and the breaker with notes; GaugeNews.
-/
import Derived.Test.YtnnpdmhmpgmpnaaLaw14a
import Derived.Test.YtnnpdmhmpgmpnaaNotes2
set_option linter.unusedVariables false
set_option linter.unusedSimpArgs false
namespace Go.Proofs.Ytnnpdmhmpgmpnaa
open Go Go.PB
attribute [local irreducible] Mo Bin Eql Tr Wo Ap Wle

section
variable {B : Hand} [Lets B] {x : B.X} {r limit fails wait now nb : Nat} {L F : List HProp} {s : Nat → Nat} {ms : List (Int × Nat)} {gv : Value}


omit [Lets B] in
theorem rd_in {M : List HProp} {b o : Nat} {v : Value} (h : Rd M b o v) : Rd [all M] b o v := fun w st => h w (by have := star_open st; rwa [List.append_nil] at this)

def gNotes (x : B.X) (r limit nb : Nat) : Acc B (.iface 44 (.pointer (some ⟨nb, 0, none⟩))) := notesAcc x (gAddr r) 2 (gK r limit) (g_apart r limit) nb
def bNotes (x : B.X) (r fails wait nb : Nat) : Acc B (.iface 44 (.pointer (some ⟨nb, 0, none⟩))) := notesAcc x (bAddr r) 1 (bK r fails wait) (b_apart r fails wait) nb

theorem gn_at (h1 : 1 ≤ limit) (h2 : limit ≤ 1048576) : GaugeAt (gNotes x r limit nb) r limit := ⟨h1, h2, fun s => rd_in (Rd.of .here gC_rd), fun w _ => rfl⟩
theorem bn_at (h1 : 1 ≤ fails) (h2 : fails ≤ 1048576) (h3 : wait ≤ 1099511627776) : BreakerAt (bNotes x r fails wait nb) r fails wait := ⟨h1, h2, h3, fun s => rd_in (Rd.of .here bC_rd), fun s => rd_in (Rd.of .here bC_rw), rfl⟩

theorem ask_note (h1 : 1 ≤ fails) (h2 : fails ≤ 1048576) (h3 : wait ≤ 1099511627776) (hn : now ≤ 1099511627776) (hz : s 0 = 0) (hm : ms.length < 1000000) (hh : Has L (all [bC r fails wait s, notesC nb ms]) F) :
    Tr Try.prog B 12 [.pointer (some ⟨r, 0, none⟩), .iface 44 (.pointer (some ⟨nb, 0, none⟩)), .int .u64 (now : Nat)] L x fun v L' x' => v = .tuple #[.bool true, .int .i64 0] ∧ L' = all [bC r fails wait s, notesC nb (ms ++ [(1, 0)])] :: F ∧ x' = x := by
  refine (ask_tr (A := bNotes x r fails wait nb) (bn_at h1 h2 h3) hn (s := (s, ms)) (Q := fun q s' => q = true ∧ s' = (s, ms ++ [(1, 0)])) ?_ hh).mono ?_
  · intro X hX
    refine hX _ ⟨hm, by show 0 < 1; omega, ?_⟩
    show match askG wait now (s 0 % 4) (s 0 / 4 % 2097152) (s 0 / 8388608) with | none => _ | some y => _
    rw [hz, show askG wait now (0 % 4) (0 / 4 % 2097152) (0 / 8388608) = none from if_neg (by simp)]
    exact ⟨by show (false || (s 0 % 4 == 0)) = true; rw [hz]; rfl, rfl⟩
  · rintro v L' x' ⟨q, s', ⟨rfl, rfl⟩, rfl, rfl, rfl⟩
    exact ⟨rfl, rfl, rfl⟩

theorem tell_note (h1 : 1 ≤ fails) (h2 : fails ≤ 1048576) (h3 : wait ≤ 1099511627776) (hn : now ≤ 1099511627776) (hz : s 0 = 0) (hm : ms.length < 1000000) (hh : Has L (all [bC r fails wait s, notesC nb ms]) F) :
    Tr Try.prog B 13 [.pointer (some ⟨r, 0, none⟩), .iface 44 (.pointer (some ⟨nb, 0, none⟩)), .int .u64 (now : Nat), .bool true] L x fun v L' x' => v = .int .i64 0 ∧ L' = all [bC r fails wait s, notesC nb (ms ++ [(1, 0)])] :: F ∧ x' = x := by
  refine (tell_tr (A := bNotes x r fails wait nb) (good := true) (bn_at h1 h2 h3) hn (s := (s, ms)) (Q := fun s' => s' = (s, ms ++ [(1, 0)])) ?_ hh).mono ?_
  · intro X hX
    refine hX _ ⟨hm, by show 0 < 1; omega, ?_⟩
    show match tellG fails now true (s 0 % 4) (s 0 / 4 % 2097152) (s 0 / 8388608) with | none => _ | some y => _
    rw [hz, show tellG fails now true (0 % 4) (0 / 4 % 2097152) (0 / 8388608) = none from if_pos (.inr ⟨rfl, rfl, rfl⟩)]
  · rintro v L' x' ⟨s', rfl, rfl, rfl, rfl⟩
    exact ⟨rfl, rfl, rfl⟩

theorem leave_note (h1 : 1 ≤ limit) (h2 : limit ≤ 1048576) (hz : s 0 = 0) (hm : ms.length < 1000000) (hh : Has L (all [gC r limit s, notesC nb ms]) F) :
    Tr Try.prog B 21 [.pointer (some ⟨r, 0, none⟩), .iface 44 (.pointer (some ⟨nb, 0, none⟩))] L x fun v L' x' => v = .int .i64 3 ∧ L' = all [gC r limit s, notesC nb (ms ++ [(1, 0)])] :: F ∧ x' = x := by
  refine (leave_tr (A := gNotes x r limit nb) (gn_at h1 h2) (s := (s, ms)) (G := fun q s' => q = 3 ∧ s' = (s, ms ++ [(1, 0)])) ?_ hh).mono ?_
  · intro X hX
    refine hX _ ⟨hm, by show 0 < 2; omega, ?_⟩
    show if s 0 = 0 then _ else _
    rw [if_pos hz]
    exact ⟨rfl, rfl⟩
  · rintro v L' x' ⟨q, s', ⟨rfl, rfl⟩, rfl, rfl, rfl⟩
    exact ⟨rfl, rfl, rfl⟩

theorem bnone_no (h1 : 1 ≤ fails) (hr : Rd L r 0 (.int .u64 (fails : Nat))) :
    Tr Try.prog B 44 [.pointer (some ⟨r, 0, none⟩)] L x fun v L' x' => v = .bool false ∧ L' = L ∧ x' = x := by
  refine tr_of_body Try.func44 rfl Try.ntmps44 (by simp) fun um Q hQ => ?_
  simp only [argE, Nat.zero_add, Nat.reduceAdd]
  repeat (first
    | (apply wo_po; apply mo_load; exact rfl; exact hr; exact rfl)
    | (apply wo_po; apply mo_bin; exact rfl; exact rfl; apply bin_eqlF; omega; (first | exact trivial | exact rfl))
    | refine we_seq ?_
    | (refine we_region _ rfl rfl ?_; simp only [opsOf, List.map_cons, List.map_nil, Option.map_none, Option.map_some, List.getElem?_toArray, List.getElem?_cons_zero, List.getElem?_cons_succ, Option.bind_some, Option.getD_some])
    | refine wo_nil ?_
    | (apply wo_po; apply mo_move; exact rfl; (first | exact trivial | exact rfl))
    | (apply wo_po; apply mo_assign; exact rfl; (first | exact trivial | exact rfl))
    | (apply wo_po; apply mo_pickF; exact rfl; exact rfl; exact rfl; (first | exact trivial | exact rfl))
    | (apply wo_po; apply mo_nilCheck; exact rfl; (first | exact trivial | exact rfl))
    | (apply wo_po; apply mo_fieldAddr; exact rfl; exact rfl; (first | exact Nat.zero_add _ | exact rfl); (first | exact trivial | exact rfl))
    | (apply wo_po; apply mo_bin; exact rfl; exact rfl; apply bin_eq; apply eql_ptr_nil; (first | exact trivial | exact rfl))
    | refine we_ret ?_)
  (first | refine at_ret1 (ex := .ret) Try.func44 Try.results44 hQ (.inl rfl) rfl ?_ | refine at_ret1 (ex := .normal) Try.func44 Try.results44 hQ (.inr rfl) rfl ?_)
  exact ⟨rfl, rfl, rfl⟩

/-- a tick that none is -/
theorem ask_far (h1 : 1 ≤ fails) (hr : Rd L r 0 (.int .u64 (fails : Nat))) (hn : 1099511627776 < now) :
    Tr Try.prog B 12 [.pointer (some ⟨r, 0, none⟩), gv, .int .u64 (now : Nat)] L x fun v L' x' => v = .tuple #[.bool false, .int .i64 2] ∧ L' = L ∧ x' = x := by
  refine Tr.post (R := fun v L' x' => v = .tuple #[.bool false, .int .i64 2] ∧ x' = x ∧ ∀ h, Star L' h → Star L h) ?_ (by rintro v L' x' ⟨rfl, rfl, hs⟩; exact ⟨L, ⟨rfl, rfl, rfl⟩, hs⟩)
  refine tr_of_body Try.func12 rfl Try.ntmps12 (by simp) fun um Q hQ => ?_
  simp only [argE, Nat.zero_add, Nat.reduceAdd]
  repeat (first
    | (apply wo_mo; apply mo_box; exact rfl; exact trivial)
    | refine we_seq ?_
    | (refine we_region _ rfl rfl ?_; simp only [opsOf, List.map_cons, List.map_nil, Option.map_none, Option.map_some, List.getElem?_toArray, List.getElem?_cons_zero, List.getElem?_cons_succ, Option.bind_some, Option.getD_some]))
  rintro v' L' ⟨bb, rfl, rfl⟩
  refine wo_ent (arr bb 0 [.pointer (some ⟨r, 0, none⟩)] :: L) .refl ?_
  repeat (first
    | (apply wo_mo; apply mo_box; exact rfl; exact trivial))
  rintro v' L' ⟨nb, rfl, rfl⟩
  refine wo_ent (arr nb 0 [.int .u64 (now : Nat)] :: arr bb 0 [.pointer (some ⟨r, 0, none⟩)] :: L) .refl ?_
  repeat (first
    | refine we_seq ?_
    | (refine we_region _ rfl rfl ?_; simp only [opsOf, List.map_cons, List.map_nil, Option.map_none, Option.map_some, List.getElem?_toArray, List.getElem?_cons_zero, List.getElem?_cons_succ, Option.bind_some, Option.getD_some])
    | refine wo_nil ?_
    | (apply wo_po; apply mo_assign; exact rfl; (first | exact trivial | exact rfl))
    | (apply wo_po; apply mo_load; exact rfl; (repeat (first | exact Rd.row0 rfl | exact Rd.row rfl rfl | exact Rd.still | apply Rd.there)); (first | exact trivial | exact rfl))
    | refine we_block ?_)
  refine wo_call (.cons rfl .nil) trivial (bnone_no h1 (.there (.there hr))) ?_
  rintro v1 L1 x1 ⟨rfl, rfl, rfl⟩
  repeat (first
    | (apply wo_po; apply mo_bin; exact rfl; exact rfl; apply bin_gtrT; omega; (first | exact trivial | exact rfl))
    | refine we_seq ?_
    | (refine we_region _ rfl rfl ?_; simp only [opsOf, List.map_cons, List.map_nil, Option.map_none, Option.map_some, List.getElem?_toArray, List.getElem?_cons_zero, List.getElem?_cons_succ, Option.bind_some, Option.getD_some])
    | refine wo_nil ?_
    | (apply wo_po; apply mo_assign; exact rfl; (first | exact trivial | exact rfl))
    | (apply wo_po; apply mo_load; exact rfl; (repeat (first | exact Rd.row0 rfl | exact Rd.row rfl rfl | exact Rd.still | apply Rd.there)); (first | exact trivial | exact rfl))
    | (apply we_condT; exact rfl; (first | exact rfl | (simp <;> omega) | omega))
    | (apply we_condF; exact rfl; (first | exact rfl | (simp <;> omega) | omega))
    | refine we_ret ?_)
  (first | refine at_ret2 (ex := .ret) Try.func12 Try.results12 hQ (.inl rfl) rfl rfl ?_ | refine at_ret2 (ex := .normal) Try.func12 Try.results12 hQ (.inr rfl) rfl rfl ?_)
  exact ⟨rfl, rfl, fun h st => Ent.star (.drop (.drop .refl)) st⟩

theorem tell_far {good : Bool} (h1 : 1 ≤ fails) (hr : Rd L r 0 (.int .u64 (fails : Nat))) (hn : 1099511627776 < now) :
    Tr Try.prog B 13 [.pointer (some ⟨r, 0, none⟩), gv, .int .u64 (now : Nat), .bool good] L x fun v L' x' => v = .int .i64 2 ∧ L' = L ∧ x' = x := by
  refine Tr.post (R := fun v L' x' => v = .int .i64 2 ∧ x' = x ∧ ∀ h, Star L' h → Star L h) ?_ (by rintro v L' x' ⟨rfl, rfl, hs⟩; exact ⟨L, ⟨rfl, rfl, rfl⟩, hs⟩)
  refine tr_of_body Try.func13 rfl Try.ntmps13 (by simp) fun um Q hQ => ?_
  simp only [argE, Nat.zero_add, Nat.reduceAdd]
  repeat (first
    | (apply wo_mo; apply mo_box; exact rfl; exact trivial)
    | refine we_seq ?_
    | (refine we_region _ rfl rfl ?_; simp only [opsOf, List.map_cons, List.map_nil, Option.map_none, Option.map_some, List.getElem?_toArray, List.getElem?_cons_zero, List.getElem?_cons_succ, Option.bind_some, Option.getD_some]))
  rintro v' L' ⟨bb, rfl, rfl⟩
  refine wo_ent (arr bb 0 [.pointer (some ⟨r, 0, none⟩)] :: L) .refl ?_
  repeat (first
    | (apply wo_mo; apply mo_box; exact rfl; exact trivial))
  rintro v' L' ⟨nb, rfl, rfl⟩
  refine wo_ent (arr nb 0 [.int .u64 (now : Nat)] :: arr bb 0 [.pointer (some ⟨r, 0, none⟩)] :: L) .refl ?_
  repeat (first
    | (apply wo_mo; apply mo_box; exact rfl; exact trivial))
  rintro v' L' ⟨gb, rfl, rfl⟩
  refine wo_ent (arr gb 0 [.bool good] :: arr nb 0 [.int .u64 (now : Nat)] :: arr bb 0 [.pointer (some ⟨r, 0, none⟩)] :: L) .refl ?_
  repeat (first
    | refine we_seq ?_
    | (refine we_region _ rfl rfl ?_; simp only [opsOf, List.map_cons, List.map_nil, Option.map_none, Option.map_some, List.getElem?_toArray, List.getElem?_cons_zero, List.getElem?_cons_succ, Option.bind_some, Option.getD_some])
    | refine wo_nil ?_
    | (apply wo_po; apply mo_assign; exact rfl; (first | exact trivial | exact rfl))
    | (apply wo_po; apply mo_load; exact rfl; (repeat (first | exact Rd.row0 rfl | exact Rd.row rfl rfl | exact Rd.still | apply Rd.there)); (first | exact trivial | exact rfl))
    | refine we_block ?_)
  refine wo_call (.cons rfl .nil) trivial (bnone_no h1 (.there (.there (.there hr)))) ?_
  rintro v1 L1 x1 ⟨rfl, rfl, rfl⟩
  repeat (first
    | (apply wo_po; apply mo_bin; exact rfl; exact rfl; apply bin_gtrT; omega; (first | exact trivial | exact rfl))
    | refine we_seq ?_
    | (refine we_region _ rfl rfl ?_; simp only [opsOf, List.map_cons, List.map_nil, Option.map_none, Option.map_some, List.getElem?_toArray, List.getElem?_cons_zero, List.getElem?_cons_succ, Option.bind_some, Option.getD_some])
    | refine wo_nil ?_
    | (apply wo_po; apply mo_assign; exact rfl; (first | exact trivial | exact rfl))
    | (apply wo_po; apply mo_load; exact rfl; (repeat (first | exact Rd.row0 rfl | exact Rd.row rfl rfl | exact Rd.still | apply Rd.there)); (first | exact trivial | exact rfl))
    | (apply we_condT; exact rfl; (first | exact rfl | (simp <;> omega) | omega))
    | (apply we_condF; exact rfl; (first | exact rfl | (simp <;> omega) | omega))
    | refine we_ret ?_)
  (first | refine at_ret1 (ex := .ret) Try.func13 Try.results13 hQ (.inl rfl) rfl ?_ | refine at_ret1 (ex := .normal) Try.func13 Try.results13 hQ (.inr rfl) rfl ?_)
  exact ⟨rfl, rfl, fun h st => Ent.star (.drop (.drop (.drop .refl))) st⟩

/-- New, whatever the limit; the gauge is left -/
theorem new_any : Tr Try.prog B 15 [.int .u64 (limit : Nat)] L x fun v L' x' => L' = L ∧ x' = x ∧ (((1 ≤ limit ∧ limit ≤ 1048576) ∧ ∃ r, v = .tuple #[.pointer (some ⟨r, 0, none⟩), .int .i64 0]) ∨ (limit < 1 ∧ v = .tuple #[.pointer none, .int .i64 2]) ∨ (1048576 < limit ∧ v = .tuple #[.pointer none, .int .i64 2])) := by
  by_cases c1 : limit < 1
  · exact (new_no (.inl c1)).mono fun v L' x' ⟨a, b, c⟩ => ⟨b, c, .inr (.inl ⟨c1, a⟩)⟩
  by_cases c2 : 1048576 < limit
  · exact (new_no (.inr c2)).mono fun v L' x' ⟨a, b, c⟩ => ⟨b, c, .inr (.inr ⟨c2, a⟩)⟩
  · exact (new_tr (by omega) (by omega)).post fun v L' x' ⟨r, a, b, c⟩ => ⟨L, ⟨rfl, c, .inl ⟨⟨by omega, by omega⟩, r, a⟩⟩, fun h st => star_drop (b ▸ st)⟩

/-- NewBreaker, whatever it is given -/
theorem newb_any : Tr Try.prog B 16 [.int .u64 (fails : Nat), .int .u64 (wait : Nat)] L x fun v L' x' => x' = x ∧ (((1 ≤ fails ∧ fails ≤ 1048576 ∧ 1 ≤ wait ∧ wait ≤ 1099511627776) ∧ ∃ r, v = .tuple #[.pointer (some ⟨r, 0, none⟩), .int .i64 0] ∧ L' = bC r fails wait (fun _ => 0) :: L) ∨ (((fails < 1) ∨ (1 ≤ fails ∧ 1048576 < fails) ∨ (1 ≤ fails ∧ fails ≤ 1048576 ∧ wait < 1) ∨ (1 ≤ fails ∧ fails ≤ 1048576 ∧ 1 ≤ wait ∧ 1099511627776 < wait)) ∧ v = .tuple #[.pointer none, .int .i64 2] ∧ L' = L)) := by
  by_cases c : 1 ≤ fails ∧ fails ≤ 1048576 ∧ 1 ≤ wait ∧ wait ≤ 1099511627776
  · exact (newb_tr c.1 c.2.1 c.2.2.1 c.2.2.2).post fun v L' x' ⟨r, a, b, d⟩ => ⟨_, ⟨d, .inl ⟨c, r, a, rfl⟩⟩, fun h st => b_wds (b ▸ st)⟩
  · exact (newb_no (by omega)).mono fun v L' x' ⟨a, b, d⟩ => ⟨d, .inr ⟨by omega, a, b⟩⟩


set_option maxHeartbeats 8000000 in
theorem news_far (h1 : limit < 18446744073709551616) (h2 : fails < 18446744073709551616) (h3 : wait < 18446744073709551616) (hf : 1099511627776 < limit) :
    Tr Try.prog B 4 [.int .u64 (limit : Nat), .int .u64 (fails : Nat), .int .u64 (wait : Nat)] L x fun v L' x' => v = .bool true ∧ L' = L ∧ x' = x := by
  refine Tr.post (R := fun v L' x' => v = .bool true ∧ x' = x ∧ ∀ h, Star L' h → Star L h) ?_ (by rintro v L' x' ⟨rfl, rfl, hs⟩; exact ⟨L, ⟨rfl, rfl, rfl⟩, hs⟩)
  refine tr_of_body Try.func4 rfl Try.ntmps4 (by simp) fun um Q hQ => ?_
  simp only [argE, Nat.zero_add, Nat.reduceAdd]
  repeat (first
    | refine we_seq ?_
    | (refine we_region _ rfl rfl ?_; simp only [opsOf, List.map_cons, List.map_nil, Option.map_none, Option.map_some, List.getElem?_toArray, List.getElem?_cons_zero, List.getElem?_cons_succ, Option.bind_some, Option.getD_some])
    | refine wo_nil ?_
    | (apply wo_po; apply mo_move; exact rfl; (first | exact trivial | exact rfl))
    | (apply wo_po; apply mo_assign; exact rfl; (first | exact trivial | exact rfl)))
  refine wo_call (.cons rfl .nil) trivial new_any ?_
  rintro v L' x' ⟨rfl, rfl, hnew⟩
  obtain ⟨c1, rfl⟩ : 1048576 < limit ∧ v = .tuple #[.pointer none, .int .i64 2] := by
    rcases hnew with ⟨⟨c1, c2⟩, _⟩ | ⟨c1, _⟩ | h
    · omega
    · omega
    · exact h
  repeat (first
    | (apply wo_po; apply mo_bin; exact rfl; exact rfl; apply bin_ne; apply eql_bool; (first | exact trivial | exact rfl))
    | (apply wo_po; apply mo_bin; exact rfl; exact rfl; apply bin_eq; apply eql_bool; (first | exact trivial | exact rfl))
    | (apply wo_po; apply mo_bin; exact rfl; exact rfl; apply bin_leqF; omega; (first | exact trivial | exact rfl))
    | (apply wo_po; apply mo_bin; exact rfl; exact rfl; apply bin_geqT; omega; (first | exact trivial | exact rfl))
    | (apply wo_po; apply mo_bin; exact rfl; exact rfl; apply bin_eqlF; omega; (first | exact trivial | exact rfl))
    | (apply wo_po; apply mo_bin; exact rfl; exact rfl; apply bin_neqT; omega; (first | exact trivial | exact rfl))
    | (apply wo_po; apply mo_bin; exact rfl; exact rfl; apply bin_neqF; omega; (first | exact trivial | exact rfl))
    | refine we_seq ?_
    | (refine we_region _ rfl rfl ?_; simp only [opsOf, List.map_cons, List.map_nil, Option.map_none, Option.map_some, List.getElem?_toArray, List.getElem?_cons_zero, List.getElem?_cons_succ, Option.bind_some, Option.getD_some])
    | refine wo_nil ?_
    | (apply wo_po; apply mo_move; exact rfl; (first | exact trivial | exact rfl))
    | (apply wo_po; apply mo_assign; exact rfl; (first | exact trivial | exact rfl))
    | (apply wo_po; apply mo_pickT; exact rfl; exact rfl; exact rfl; (first | exact trivial | exact rfl))
    | (apply wo_po; apply mo_pickF; exact rfl; exact rfl; exact rfl; (first | exact trivial | exact rfl))
    | (apply wo_po; apply mo_extract; exact rfl; exact rfl; (first | exact trivial | exact rfl))
    | (apply wo_po; apply mo_bin; exact rfl; exact rfl; apply bin_eq; apply eql_ptr_nil; (first | exact trivial | exact rfl))
    | (apply we_condF; exact rfl; (first | exact rfl | (simp <;> omega) | omega))
    | refine we_skip ?_)
  refine wo_call (.cons rfl (.cons rfl .nil)) trivial newb_any ?_
  rintro v L' x' ⟨rfl, hnew⟩
  rcases hnew with ⟨⟨c3, c4, c5, c6⟩, br, rfl, rfl⟩ | ⟨hc, rfl, rfl⟩
  · repeat (first
      | (apply wo_po; apply mo_bin; exact rfl; exact rfl; apply bin_ne; apply eql_bool; (first | exact trivial | exact rfl))
      | (apply wo_po; apply mo_bin; exact rfl; exact rfl; apply bin_eq; apply eql_bool; (first | exact trivial | exact rfl))
      | (apply wo_po; apply mo_bin; exact rfl; exact rfl; apply bin_leqT; omega; (first | exact trivial | exact rfl))
      | (apply wo_po; apply mo_bin; exact rfl; exact rfl; apply bin_geqT; omega; (first | exact trivial | exact rfl))
      | (apply wo_po; apply mo_bin; exact rfl; exact rfl; apply bin_eqlT; omega; (first | exact trivial | exact rfl))
      | (apply wo_po; apply mo_bin; exact rfl; exact rfl; apply bin_neqF; omega; (first | exact trivial | exact rfl))
      | refine we_seq ?_
      | (refine we_region _ rfl rfl ?_; simp only [opsOf, List.map_cons, List.map_nil, Option.map_none, Option.map_some, List.getElem?_toArray, List.getElem?_cons_zero, List.getElem?_cons_succ, Option.bind_some, Option.getD_some])
      | refine wo_nil ?_
      | (apply wo_po; apply mo_move; exact rfl; (first | exact trivial | exact rfl))
      | (apply wo_po; apply mo_assign; exact rfl; (first | exact trivial | exact rfl))
      | (apply wo_no; exact rfl)
      | (apply wo_po; apply mo_pickT; exact rfl; exact rfl; exact rfl; (first | exact trivial | exact rfl))
      | (apply wo_po; apply mo_pickF; exact rfl; exact rfl; exact rfl; (first | exact trivial | exact rfl))
      | (apply wo_po; apply mo_extract; exact rfl; exact rfl; (first | exact trivial | exact rfl))
      | (apply wo_po; apply mo_bin; exact rfl; exact rfl; apply bin_eq; apply eql_ptr_nil; (first | exact trivial | exact rfl))
      | (apply we_condF; exact rfl; (first | exact rfl | (simp <;> omega) | omega))
      | refine we_skip ?_)
    refine wo_call .nil trivial new_notes_tr ?_
    rintro v L' x' ⟨nb, rfl, rfl, rfl⟩
    have hr : Rd (notesC nb [] :: bC br fails wait (fun _ => 0) :: L') br 0 (.int .u64 (fails : Nat)) := .there (Rd.of .here bC_rd)
    repeat (first
      | (apply wo_po; apply mo_makeInterface; exact rfl; (first | exact trivial | exact rfl))
      | refine we_seq ?_
      | (refine we_region _ rfl rfl ?_; simp only [opsOf, List.map_cons, List.map_nil, Option.map_none, Option.map_some, List.getElem?_toArray, List.getElem?_cons_zero, List.getElem?_cons_succ, Option.bind_some, Option.getD_some])
      | refine wo_nil ?_
      | (apply wo_po; apply mo_move; exact rfl; (first | exact trivial | exact rfl))
      | (apply wo_po; apply mo_assign; exact rfl; (first | exact trivial | exact rfl)))
    refine wo_call (.cons rfl (.cons rfl (.cons rfl .nil))) trivial (ask_far c3 hr hf) ?_
    rintro v L1 x' ⟨rfl, rfl, rfl⟩
    repeat (first
      | (apply wo_po; apply mo_makeInterface; exact rfl; (first | exact trivial | exact rfl))
      | refine we_seq ?_
      | (refine we_region _ rfl rfl ?_; simp only [opsOf, List.map_cons, List.map_nil, Option.map_none, Option.map_some, List.getElem?_toArray, List.getElem?_cons_zero, List.getElem?_cons_succ, Option.bind_some, Option.getD_some])
      | refine wo_nil ?_
      | (apply wo_po; apply mo_move; exact rfl; (first | exact trivial | exact rfl))
      | (apply wo_po; apply mo_assign; exact rfl; (first | exact trivial | exact rfl))
      | (apply wo_po; apply mo_extract; exact rfl; exact rfl; (first | exact trivial | exact rfl)))
    refine wo_call (.cons rfl (.cons rfl (.cons rfl (.cons rfl .nil)))) trivial (tell_far c3 hr hf) ?_
    rintro v L1 x' ⟨rfl, rfl, rfl⟩
    repeat (first
      | (apply wo_po; apply mo_bin; exact rfl; exact rfl; apply bin_gtrT; omega; (first | exact trivial | exact rfl))
      | (apply wo_po; apply mo_bin; exact rfl; exact rfl; apply bin_eqlT; omega; (first | exact trivial | exact rfl))
      | refine we_seq ?_
      | (refine we_region _ rfl rfl ?_; simp only [opsOf, List.map_cons, List.map_nil, Option.map_none, Option.map_some, List.getElem?_toArray, List.getElem?_cons_zero, List.getElem?_cons_succ, Option.bind_some, Option.getD_some])
      | refine wo_nil ?_
      | (apply wo_po; apply mo_move; exact rfl; (first | exact trivial | exact rfl))
      | (apply wo_po; apply mo_assign; exact rfl; (first | exact trivial | exact rfl))
      | (apply wo_po; apply mo_pickT; exact rfl; exact rfl; exact rfl; (first | exact trivial | exact rfl))
      | (apply wo_po; apply mo_not; exact rfl; (first | exact trivial | exact rfl))
      | (apply we_condT; exact rfl; (first | exact rfl | (simp <;> omega) | omega)))
    refine wo_call (.cons rfl .nil) (by first | exact trivial | exact rfl) (marks_tr (by simp) .here) ?_
    rintro v L1 x' ⟨rfl, rfl⟩
    refine wo_pure (of_has .here (vec_shape (by omega))) ?_
    rintro ⟨ma, ml, mc, rfl, hlen, _⟩
    have hml : ml = 0 := by
      simp at hlen
      omega
    subst hml
    repeat (first
      | (apply wo_po; apply mo_bin; exact rfl; exact rfl; apply bin_eqlT; omega; (first | exact trivial | exact rfl))
      | (apply wo_po; apply mo_move; exact rfl; (first | exact trivial | exact rfl))
      | (apply wo_po; apply mo_pickT; exact rfl; exact rfl; exact rfl; (first | exact trivial | exact rfl))
      | (apply wo_po; apply mo_len; exact rfl; (first | exact trivial | exact rfl)))
    refine wo_call .nil (by first | exact trivial | exact rfl) awake_tr ?_
    rintro v L1 x' ⟨rfl, rfl, rfl⟩
    repeat (first
      | refine wo_nil ?_
      | (apply wo_po; apply mo_assign; exact rfl; (first | exact trivial | exact rfl))
      | (apply wo_po; apply mo_pickT; exact rfl; exact rfl; exact rfl; (first | exact trivial | exact rfl))
      | refine we_ret ?_)
    (first | refine at_ret1 (ex := .ret) Try.func4 Try.results4 hQ (.inl rfl) rfl ?_ | refine at_ret1 (ex := .normal) Try.func4 Try.results4 hQ (.inr rfl) rfl ?_)
    exact ⟨rfl, rfl, fun h st => Ent.star (.drop (.drop (.drop .refl))) st⟩
  · rcases hc with c3 | c3 | c3 | c3
    all_goals
      repeat (first
        | (apply wo_po; apply mo_bin; exact rfl; exact rfl; apply bin_ne; apply eql_bool; (first | exact trivial | exact rfl))
        | (apply wo_po; apply mo_bin; exact rfl; exact rfl; apply bin_eq; apply eql_bool; (first | exact trivial | exact rfl))
        | (apply wo_po; apply mo_bin; exact rfl; exact rfl; apply bin_leqT; omega; (first | exact trivial | exact rfl))
        | (apply wo_po; apply mo_bin; exact rfl; exact rfl; apply bin_leqF; omega; (first | exact trivial | exact rfl))
        | (apply wo_po; apply mo_bin; exact rfl; exact rfl; apply bin_geqT; omega; (first | exact trivial | exact rfl))
        | (apply wo_po; apply mo_bin; exact rfl; exact rfl; apply bin_geqF; omega; (first | exact trivial | exact rfl))
        | (apply wo_po; apply mo_bin; exact rfl; exact rfl; apply bin_eqlF; omega; (first | exact trivial | exact rfl))
        | (apply wo_po; apply mo_bin; exact rfl; exact rfl; apply bin_neqT; omega; (first | exact trivial | exact rfl))
        | (apply wo_po; apply mo_bin; exact rfl; exact rfl; apply bin_neqF; omega; (first | exact trivial | exact rfl))
        | refine we_seq ?_
        | (refine we_region _ rfl rfl ?_; simp only [opsOf, List.map_cons, List.map_nil, Option.map_none, Option.map_some, List.getElem?_toArray, List.getElem?_cons_zero, List.getElem?_cons_succ, Option.bind_some, Option.getD_some])
        | refine wo_nil ?_
        | (apply wo_po; apply mo_move; exact rfl; (first | exact trivial | exact rfl))
        | (apply wo_po; apply mo_assign; exact rfl; (first | exact trivial | exact rfl))
        | (apply wo_no; exact rfl)
        | (apply wo_po; apply mo_pickT; exact rfl; exact rfl; exact rfl; (first | exact trivial | exact rfl))
        | (apply wo_po; apply mo_pickF; exact rfl; exact rfl; exact rfl; (first | exact trivial | exact rfl))
        | (apply wo_po; apply mo_extract; exact rfl; exact rfl; (first | exact trivial | exact rfl))
        | (apply wo_po; apply mo_bin; exact rfl; exact rfl; apply bin_eq; apply eql_ptr_nil; (first | exact trivial | exact rfl))
        | (apply we_condT; exact rfl; (first | exact rfl | (simp <;> omega) | omega))
        | (apply we_condF; exact rfl; (first | exact rfl | (simp <;> omega) | omega))
        | refine we_skip ?_)
      refine wo_call .nil (by first | exact trivial | exact rfl) awake_tr ?_
      rintro v L1 x' ⟨rfl, rfl, rfl⟩
      repeat (first
        | refine wo_nil ?_
        | (apply wo_po; apply mo_assign; exact rfl; (first | exact trivial | exact rfl))
        | refine we_ret ?_)
      (first | refine at_ret1 (ex := .ret) Try.func4 Try.results4 hQ (.inl rfl) rfl ?_ | refine at_ret1 (ex := .normal) Try.func4 Try.results4 hQ (.inr rfl) rfl ?_)
      exact ⟨rfl, rfl, fun h st => st⟩


set_option maxHeartbeats 8000000 in
theorem news_near (h1 : limit < 18446744073709551616) (h2 : fails < 18446744073709551616) (h3 : wait < 18446744073709551616) (hf : limit ≤ 1099511627776) :
    Tr Try.prog B 4 [.int .u64 (limit : Nat), .int .u64 (fails : Nat), .int .u64 (wait : Nat)] L x fun v L' x' => v = .bool true ∧ L' = L ∧ x' = x := by
  refine Tr.post (R := fun v L' x' => v = .bool true ∧ x' = x ∧ ∀ h, Star L' h → Star L h) ?_ (by rintro v L' x' ⟨rfl, rfl, hs⟩; exact ⟨L, ⟨rfl, rfl, rfl⟩, hs⟩)
  refine tr_of_body Try.func4 rfl Try.ntmps4 (by simp) fun um Q hQ => ?_
  simp only [argE, Nat.zero_add, Nat.reduceAdd]
  repeat (first
    | refine we_seq ?_
    | (refine we_region _ rfl rfl ?_; simp only [opsOf, List.map_cons, List.map_nil, Option.map_none, Option.map_some, List.getElem?_toArray, List.getElem?_cons_zero, List.getElem?_cons_succ, Option.bind_some, Option.getD_some])
    | refine wo_nil ?_
    | (apply wo_po; apply mo_move; exact rfl; (first | exact trivial | exact rfl))
    | (apply wo_po; apply mo_assign; exact rfl; (first | exact trivial | exact rfl)))
  refine wo_call (.cons rfl .nil) trivial new_any ?_
  rintro v L' x' ⟨rfl, rfl, hnew⟩
  rcases hnew with ⟨⟨c1, c2⟩, gr, rfl⟩ | ⟨c1, rfl⟩ | ⟨c1, rfl⟩
  all_goals
    repeat (first
      | (apply wo_po; apply mo_bin; exact rfl; exact rfl; apply bin_ne; apply eql_bool; (first | exact trivial | exact rfl))
      | (apply wo_po; apply mo_bin; exact rfl; exact rfl; apply bin_eq; apply eql_bool; (first | exact trivial | exact rfl))
      | (apply wo_po; apply mo_bin; exact rfl; exact rfl; apply bin_leqT; omega; (first | exact trivial | exact rfl))
      | (apply wo_po; apply mo_bin; exact rfl; exact rfl; apply bin_leqF; omega; (first | exact trivial | exact rfl))
      | (apply wo_po; apply mo_bin; exact rfl; exact rfl; apply bin_geqT; omega; (first | exact trivial | exact rfl))
      | (apply wo_po; apply mo_bin; exact rfl; exact rfl; apply bin_geqF; omega; (first | exact trivial | exact rfl))
      | (apply wo_po; apply mo_bin; exact rfl; exact rfl; apply bin_eqlT; omega; (first | exact trivial | exact rfl))
      | (apply wo_po; apply mo_bin; exact rfl; exact rfl; apply bin_eqlF; omega; (first | exact trivial | exact rfl))
      | (apply wo_po; apply mo_bin; exact rfl; exact rfl; apply bin_neqT; omega; (first | exact trivial | exact rfl))
      | (apply wo_po; apply mo_bin; exact rfl; exact rfl; apply bin_neqF; omega; (first | exact trivial | exact rfl))
      | refine we_seq ?_
      | (refine we_region _ rfl rfl ?_; simp only [opsOf, List.map_cons, List.map_nil, Option.map_none, Option.map_some, List.getElem?_toArray, List.getElem?_cons_zero, List.getElem?_cons_succ, Option.bind_some, Option.getD_some])
      | refine wo_nil ?_
      | (apply wo_po; apply mo_move; exact rfl; (first | exact trivial | exact rfl))
      | (apply wo_po; apply mo_assign; exact rfl; (first | exact trivial | exact rfl))
      | (apply wo_no; exact rfl)
      | (apply wo_po; apply mo_pickT; exact rfl; exact rfl; exact rfl; (first | exact trivial | exact rfl))
      | (apply wo_po; apply mo_pickF; exact rfl; exact rfl; exact rfl; (first | exact trivial | exact rfl))
      | (apply wo_po; apply mo_extract; exact rfl; exact rfl; (first | exact trivial | exact rfl))
      | (apply wo_po; apply mo_bin; exact rfl; exact rfl; apply bin_eq; apply eql_ptr_nil; (first | exact trivial | exact rfl))
      | (apply we_condF; exact rfl; (first | exact rfl | (simp <;> omega) | omega))
      | refine we_skip ?_)
    refine wo_call (.cons rfl (.cons rfl .nil)) trivial newb_any ?_
    rintro v L' x' ⟨rfl, hnew⟩
    rcases hnew with ⟨⟨c3, c4, c5, c6⟩, br, rfl, rfl⟩ | ⟨hc, rfl, rfl⟩
    · repeat (first
        | (apply wo_po; apply mo_bin; exact rfl; exact rfl; apply bin_ne; apply eql_bool; (first | exact trivial | exact rfl))
        | (apply wo_po; apply mo_bin; exact rfl; exact rfl; apply bin_eq; apply eql_bool; (first | exact trivial | exact rfl))
        | (apply wo_po; apply mo_bin; exact rfl; exact rfl; apply bin_leqT; omega; (first | exact trivial | exact rfl))
        | (apply wo_po; apply mo_bin; exact rfl; exact rfl; apply bin_geqT; omega; (first | exact trivial | exact rfl))
        | (apply wo_po; apply mo_bin; exact rfl; exact rfl; apply bin_eqlT; omega; (first | exact trivial | exact rfl))
        | (apply wo_po; apply mo_bin; exact rfl; exact rfl; apply bin_neqF; omega; (first | exact trivial | exact rfl))
        | refine we_seq ?_
        | (refine we_region _ rfl rfl ?_; simp only [opsOf, List.map_cons, List.map_nil, Option.map_none, Option.map_some, List.getElem?_toArray, List.getElem?_cons_zero, List.getElem?_cons_succ, Option.bind_some, Option.getD_some])
        | refine wo_nil ?_
        | (apply wo_po; apply mo_move; exact rfl; (first | exact trivial | exact rfl))
        | (apply wo_po; apply mo_assign; exact rfl; (first | exact trivial | exact rfl))
        | (apply wo_no; exact rfl)
        | (apply wo_po; apply mo_pickT; exact rfl; exact rfl; exact rfl; (first | exact trivial | exact rfl))
        | (apply wo_po; apply mo_pickF; exact rfl; exact rfl; exact rfl; (first | exact trivial | exact rfl))
        | (apply wo_po; apply mo_extract; exact rfl; exact rfl; (first | exact trivial | exact rfl))
        | (apply wo_po; apply mo_bin; exact rfl; exact rfl; apply bin_eq; apply eql_ptr_nil; (first | exact trivial | exact rfl))
        | (apply we_condF; exact rfl; (first | exact rfl | (simp <;> omega) | omega))
        | refine we_skip ?_)
      refine wo_call .nil trivial new_notes_tr ?_
      rintro v L' x' ⟨nb, rfl, rfl, rfl⟩
      refine wo_star (all [bC br fails wait (fun _ => 0), notesC nb []] :: L') (fun h st => star_shut (M := [_, _]) (star_swap st)) ?_
      repeat (first
        | (apply wo_po; apply mo_makeInterface; exact rfl; (first | exact trivial | exact rfl))
        | refine we_seq ?_
        | (refine we_region _ rfl rfl ?_; simp only [opsOf, List.map_cons, List.map_nil, Option.map_none, Option.map_some, List.getElem?_toArray, List.getElem?_cons_zero, List.getElem?_cons_succ, Option.bind_some, Option.getD_some])
        | refine wo_nil ?_
        | (apply wo_po; apply mo_move; exact rfl; (first | exact trivial | exact rfl))
        | (apply wo_po; apply mo_assign; exact rfl; (first | exact trivial | exact rfl)))
      refine wo_call (.cons rfl (.cons rfl (.cons rfl .nil))) trivial (ask_note (s := fun _ => 0) c3 c4 c6 hf rfl (by simp) .here) ?_
      rintro v L1 x' ⟨rfl, rfl, rfl⟩
      repeat (first
        | (apply wo_po; apply mo_makeInterface; exact rfl; (first | exact trivial | exact rfl))
        | refine we_seq ?_
        | (refine we_region _ rfl rfl ?_; simp only [opsOf, List.map_cons, List.map_nil, Option.map_none, Option.map_some, List.getElem?_toArray, List.getElem?_cons_zero, List.getElem?_cons_succ, Option.bind_some, Option.getD_some])
        | refine wo_nil ?_
        | (apply wo_po; apply mo_move; exact rfl; (first | exact trivial | exact rfl))
        | (apply wo_po; apply mo_assign; exact rfl; (first | exact trivial | exact rfl))
        | (apply wo_po; apply mo_extract; exact rfl; exact rfl; (first | exact trivial | exact rfl)))
      refine wo_call (.cons rfl (.cons rfl (.cons rfl (.cons rfl .nil)))) trivial (tell_note (s := fun _ => 0) c3 c4 c6 hf rfl (by simp) .here) ?_
      rintro v L1 x' ⟨rfl, rfl, rfl⟩
      refine wo_star (bC br fails wait (fun _ => 0) :: notesC nb [(1, 0), (1, 0)] :: L') (fun h st => star_open (M := [_, _]) st) ?_
      repeat (first
        | (apply wo_po; apply mo_bin; exact rfl; exact rfl; apply bin_gtrF; omega; (first | exact trivial | exact rfl))
        | (apply wo_po; apply mo_bin; exact rfl; exact rfl; apply bin_eqlT; omega; (first | exact trivial | exact rfl))
        | refine we_seq ?_
        | (refine we_region _ rfl rfl ?_; simp only [opsOf, List.map_cons, List.map_nil, Option.map_none, Option.map_some, List.getElem?_toArray, List.getElem?_cons_zero, List.getElem?_cons_succ, Option.bind_some, Option.getD_some])
        | refine wo_nil ?_
        | (apply wo_po; apply mo_move; exact rfl; (first | exact trivial | exact rfl))
        | (apply wo_po; apply mo_assign; exact rfl; (first | exact trivial | exact rfl))
        | (apply wo_po; apply mo_pickT; exact rfl; exact rfl; exact rfl; (first | exact trivial | exact rfl))
        | (apply we_condF; exact rfl; (first | exact rfl | (simp <;> omega) | omega))
        | refine we_skip ?_)
      refine wo_call (.cons rfl .nil) (by first | exact trivial | exact rfl) (marks_tr (by simp) (.there .here)) ?_
      rintro v L1 x' ⟨rfl, rfl⟩
      refine wo_pure (of_has .here (vec_shape (by omega))) ?_
      rintro ⟨ma, ml, mc, rfl, hlen, _⟩
      have hml : ml = 2 := by
        simp [mark2] at hlen
        omega
      subst hml
      repeat (first
        | (apply wo_po; apply mo_bin; exact rfl; exact rfl; apply bin_eqlT; omega; (first | exact trivial | exact rfl))
        | (apply wo_po; apply mo_move; exact rfl; (first | exact trivial | exact rfl))
        | (apply wo_po; apply mo_pickT; exact rfl; exact rfl; exact rfl; (first | exact trivial | exact rfl))
        | (apply wo_po; apply mo_len; exact rfl; (first | exact trivial | exact rfl)))
      refine wo_call .nil (by first | exact trivial | exact rfl) awake_tr ?_
      rintro v L1 x' ⟨rfl, rfl, rfl⟩
      repeat (first
        | refine wo_nil ?_
        | (apply wo_po; apply mo_assign; exact rfl; (first | exact trivial | exact rfl))
        | (apply wo_po; apply mo_pickT; exact rfl; exact rfl; exact rfl; (first | exact trivial | exact rfl))
        | refine we_ret ?_)
      (first | refine at_ret1 (ex := .ret) Try.func4 Try.results4 hQ (.inl rfl) rfl ?_ | refine at_ret1 (ex := .normal) Try.func4 Try.results4 hQ (.inr rfl) rfl ?_)
      exact ⟨rfl, rfl, fun h st => Ent.star (.drop (.drop (.drop .refl))) st⟩
    · rcases hc with c3 | c3 | c3 | c3
      all_goals
        repeat (first
          | (apply wo_po; apply mo_bin; exact rfl; exact rfl; apply bin_ne; apply eql_bool; (first | exact trivial | exact rfl))
          | (apply wo_po; apply mo_bin; exact rfl; exact rfl; apply bin_eq; apply eql_bool; (first | exact trivial | exact rfl))
          | (apply wo_po; apply mo_bin; exact rfl; exact rfl; apply bin_leqT; omega; (first | exact trivial | exact rfl))
          | (apply wo_po; apply mo_bin; exact rfl; exact rfl; apply bin_leqF; omega; (first | exact trivial | exact rfl))
          | (apply wo_po; apply mo_bin; exact rfl; exact rfl; apply bin_geqT; omega; (first | exact trivial | exact rfl))
          | (apply wo_po; apply mo_bin; exact rfl; exact rfl; apply bin_geqF; omega; (first | exact trivial | exact rfl))
          | (apply wo_po; apply mo_bin; exact rfl; exact rfl; apply bin_eqlF; omega; (first | exact trivial | exact rfl))
          | (apply wo_po; apply mo_bin; exact rfl; exact rfl; apply bin_neqT; omega; (first | exact trivial | exact rfl))
          | (apply wo_po; apply mo_bin; exact rfl; exact rfl; apply bin_neqF; omega; (first | exact trivial | exact rfl))
          | refine we_seq ?_
          | (refine we_region _ rfl rfl ?_; simp only [opsOf, List.map_cons, List.map_nil, Option.map_none, Option.map_some, List.getElem?_toArray, List.getElem?_cons_zero, List.getElem?_cons_succ, Option.bind_some, Option.getD_some])
          | refine wo_nil ?_
          | (apply wo_po; apply mo_move; exact rfl; (first | exact trivial | exact rfl))
          | (apply wo_po; apply mo_assign; exact rfl; (first | exact trivial | exact rfl))
          | (apply wo_no; exact rfl)
          | (apply wo_po; apply mo_pickT; exact rfl; exact rfl; exact rfl; (first | exact trivial | exact rfl))
          | (apply wo_po; apply mo_pickF; exact rfl; exact rfl; exact rfl; (first | exact trivial | exact rfl))
          | (apply wo_po; apply mo_extract; exact rfl; exact rfl; (first | exact trivial | exact rfl))
          | (apply wo_po; apply mo_bin; exact rfl; exact rfl; apply bin_eq; apply eql_ptr_nil; (first | exact trivial | exact rfl))
          | (apply we_condT; exact rfl; (first | exact rfl | (simp <;> omega) | omega))
          | (apply we_condF; exact rfl; (first | exact rfl | (simp <;> omega) | omega))
          | refine we_skip ?_)
        refine wo_call .nil (by first | exact trivial | exact rfl) awake_tr ?_
        rintro v L1 x' ⟨rfl, rfl, rfl⟩
        repeat (first
          | refine wo_nil ?_
          | (apply wo_po; apply mo_assign; exact rfl; (first | exact trivial | exact rfl))
          | refine we_ret ?_)
        (first | refine at_ret1 (ex := .ret) Try.func4 Try.results4 hQ (.inl rfl) rfl ?_ | refine at_ret1 (ex := .normal) Try.func4 Try.results4 hQ (.inr rfl) rfl ?_)
        exact ⟨rfl, rfl, fun h st => st⟩


theorem news_tr (h1 : limit < 18446744073709551616) (h2 : fails < 18446744073709551616) (h3 : wait < 18446744073709551616) :
    Tr Try.prog B 4 [.int .u64 (limit : Nat), .int .u64 (fails : Nat), .int .u64 (wait : Nat)] L x fun v L' x' => v = .bool true ∧ L' = L ∧ x' = x := by
  by_cases hf : 1099511627776 < limit
  · exact news_far h1 h2 h3 hf
  · exact news_near h1 h2 h3 (by omega)
end
end Go.Proofs.Ytnnpdmhmpgmpnaa
