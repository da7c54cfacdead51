/-
  patchbaylaw14: made, awake.
-/
import Derived.Test.YtnnpdmhmpgmpnaaGaugeD
set_option linter.unusedVariables false
set_option linter.unusedSimpArgs false
namespace Go.Proofs.Ytnnpdmhmpgmpnaa
open Go Go.PB
attribute [local irreducible] Mo Bin Eql Tr Wo Ap Wle

section
variable {B : Hand} [Lets B] {x : B.X} {r limit fails wait n p : Nat} {L F : List HProp} {s : Nat → Nat}

theorem enter_yes (h1 : 1 ≤ limit) (h2 : limit ≤ 1048576) (e0 : s 0 = n) (e1 : s 1 = p) (hlt : n < limit) (hh : Has L (gC r limit s) F) :
    Tr Try.prog B 19 [.pointer (some ⟨r, 0, none⟩), .nilIface] L x fun v L' x' => ∃ s', v = .tuple #[.bool true, .int .i64 0] ∧ s' 0 = n + 1 ∧ s' 1 = max p (n + 1) ∧ L' = gC r limit s' :: F ∧ x' = x := by
  refine (enter_lone h1 h2 hh).mono ?_
  rintro v L' x' ⟨rfl, rfl, rfl⟩
  rw [if_pos (by omega), decide_eq_true (show s 0 < limit by omega)]
  refine ⟨_, rfl, ?_, ?_, rfl, rfl⟩
  · unfold enterS
    split
    · rw [upd_same]; omega
    · rw [upd_other (by omega), upd_same]; omega
  · unfold enterS
    split
    · rw [upd_other (by omega)]; omega
    · rw [upd_same]; omega

theorem enter_no (h1 : 1 ≤ limit) (h2 : limit ≤ 1048576) (e0 : s 0 = n) (hge : limit ≤ n) (hh : Has L (gC r limit s) F) :
    Tr Try.prog B 19 [.pointer (some ⟨r, 0, none⟩), .nilIface] L x fun v L' x' => v = .tuple #[.bool false, .int .i64 0] ∧ L' = gC r limit s :: F ∧ x' = x := by
  refine (enter_lone h1 h2 hh).mono ?_
  rintro v L' x' ⟨rfl, rfl, rfl⟩
  rw [if_neg (by omega), decide_eq_false (show ¬ s 0 < limit by omega)]
  exact ⟨rfl, rfl, rfl⟩

/-- the pair of a gauge and a breaker -/
def pairC (p g b limit fails wait : Nat) : HProp := arr p 0 [.pointer (some ⟨g, 0, none⟩), .pointer (some ⟨b, 0, none⟩), .int .u64 (limit : Nat), .int .u64 (fails : Nat), .int .u64 (wait : Nat)]

theorem made_tr {l0 f0 w0 : Nat} (hl : 1 + l0 % 1048576 = limit) (hf : 1 + f0 % 1048576 = fails) (hw : 1 + w0 % 1099511627776 = wait) :
    Tr Try.prog B 10 [.int .u64 (l0 : Nat), .int .u64 (f0 : Nat), .int .u64 (w0 : Nat)] L x fun v L' x' => ∃ p g b, v = .pointer (some ⟨p, 0, none⟩) ∧ L' = pairC p g b limit fails wait :: gC g limit (fun _ => 0) :: bC b fails wait (fun _ => 0) :: L ∧ x' = x := by
  refine Tr.post (R := fun v L' x' => ∃ p g b, v = .pointer (some ⟨p, 0, none⟩) ∧ x' = x ∧ ∀ h, Star L' h → Star (pairC p g b limit fails wait :: gC g limit (fun _ => 0) :: bC b fails wait (fun _ => 0) :: L) h) ?_ (by rintro v L' x' ⟨p, g, b, rfl, rfl, hs⟩; exact ⟨_, ⟨p, g, b, rfl, rfl, rfl⟩, hs⟩)
  have r1 : (l0 : Int).tmod 1048576 = ((l0 % 1048576 : Nat) : Int) := by rw [Int.tmod_eq_emod_of_nonneg (by omega)]; omega
  have r2 : (f0 : Int).tmod 1048576 = ((f0 % 1048576 : Nat) : Int) := by rw [Int.tmod_eq_emod_of_nonneg (by omega)]; omega
  have r3 : (w0 : Int).tmod 1099511627776 = ((w0 % 1099511627776 : Nat) : Int) := by rw [Int.tmod_eq_emod_of_nonneg (by omega)]; omega
  have a1 : IntKind.u64.wrap ((1 : Int) + ((l0 % 1048576 : Nat) : Int)) = ((limit : Nat) : Int) := (wrap_u64 (by omega) (by omega)).trans (by omega)
  have a2 : IntKind.u64.wrap ((1 : Int) + ((f0 % 1048576 : Nat) : Int)) = ((fails : Nat) : Int) := (wrap_u64 (by omega) (by omega)).trans (by omega)
  have a3 : IntKind.u64.wrap ((1 : Int) + ((w0 % 1099511627776 : Nat) : Int)) = ((wait : Nat) : Int) := (wrap_u64 (by omega) (by omega)).trans (by omega)
  refine tr_of_body Try.func10 rfl Try.ntmps10 (by simp) fun um Q hQ => ?_
  simp only [argE, Nat.zero_add, Nat.reduceAdd]
  repeat (first
    | (apply wo_po; apply mo_bin; exact rfl; exact rfl; apply bin_rem; omega; (first | exact r1 | exact r2 | exact r3); exact trivial)
    | (apply wo_po; apply mo_bin; exact rfl; exact rfl; apply bin_add; (first | exact a1 | exact a2 | exact a3); exact trivial)
    | (apply wo_po; apply mo_buildV; (repeat (first | exact EvL.nil | apply EvL.cons rfl)); exact rfl; exact trivial)
    | (apply wo_mo; apply mo_box; exact rfl; exact trivial)
    | refine we_seq ?_
    | (refine we_region _ rfl rfl ?_; simp only [opsOf, List.map_cons, List.map_nil, Option.map_none, Option.map_some, List.getElem?_toArray, List.getElem?_cons_zero, List.getElem?_cons_succ, Option.bind_some, Option.getD_some])
    | refine wo_nil ?_
    | (apply wo_po; apply mo_move; exact rfl; (first | exact trivial | exact rfl))
    | (apply wo_po; apply mo_assign; exact rfl; (first | exact trivial | exact rfl)))
  rintro v' L' ⟨p, rfl, rfl⟩
  refine wo_ent (arr p 0 [.pointer none, .pointer none, .int .u64 (limit : Nat), .int .u64 (fails : Nat), .int .u64 (wait : Nat)] :: L) .refl ?_
  repeat (first
    | refine we_seq ?_
    | (refine we_region _ rfl rfl ?_; simp only [opsOf, List.map_cons, List.map_nil, Option.map_none, Option.map_some, List.getElem?_toArray, List.getElem?_cons_zero, List.getElem?_cons_succ, Option.bind_some, Option.getD_some])
    | refine wo_nil ?_
    | (apply wo_po; apply mo_move; exact rfl; (first | exact trivial | exact rfl))
    | (apply wo_po; apply mo_assign; exact rfl; (first | exact trivial | exact rfl))
    | (apply wo_po; apply mo_nilCheck; exact rfl; (first | exact trivial | exact rfl))
    | (apply wo_po; apply mo_fieldAddr; exact rfl; exact rfl; (first | exact Nat.zero_add _ | exact rfl); (first | exact trivial | exact rfl))
    | (apply wo_po; apply mo_load; exact rfl; (repeat (first | exact Rd.row0 rfl | exact Rd.row rfl rfl | exact Rd.still | apply Rd.there)); (first | exact trivial | exact rfl)))
  refine wo_call (.cons rfl .nil) trivial (new_tr (by omega) (by omega)) ?_
  rintro v' L' x' ⟨g, rfl, rfl, rfl⟩
  repeat (first
    | refine we_seq ?_
    | refine wo_nil ?_
    | (apply wo_po; apply mo_move; exact rfl; (first | exact trivial | exact rfl))
    | (apply wo_po; apply mo_assign; exact rfl; (first | exact trivial | exact rfl))
    | (apply wo_po; apply mo_extract; exact rfl; exact rfl; (first | exact trivial | exact rfl)))
  refine we_draw (List.range' 0 14) (by kernel_rfl) ?_
  repeat (first
    | (apply ap_pure; exact rfl; exact rfl; (first | exact trivial | exact rfl); intro L; apply mo_move; exact rfl)
    | (apply ap_pure; exact rfl; exact rfl; (first | exact trivial | exact rfl); intro L; apply mo_nilCheck; exact rfl)
    | (apply ap_pure; exact rfl; exact rfl; (first | exact trivial | exact rfl); intro L; apply mo_fieldAddr; exact rfl; exact rfl; (first | exact Nat.zero_add _ | exact rfl))
    | (apply ap_read; exact rfl; exact rfl; (first | exact trivial | exact rfl); apply mo_load; exact rfl; (repeat (first | exact Rd.row0 rfl | exact Rd.row rfl rfl | exact Rd.still | apply Rd.there))))
  refine ap_callv rfl rfl rfl rfl trivial rfl rfl (.cons rfl (.cons rfl .nil)) (newb_tr (by omega) (by omega) (by omega) (by omega)) ?_
  rintro v' L' x' ⟨b, rfl, rfl, rfl⟩
  repeat (first
    | (apply ap_pure; exact rfl; exact rfl; (first | exact trivial | exact rfl); intro L; apply mo_move; exact rfl)
    | (apply ap_pure; exact rfl; exact rfl; (first | exact trivial | exact rfl); intro L; apply mo_assign; exact rfl)
    | (apply ap_pure; exact rfl; exact rfl; (first | exact trivial | exact rfl); intro L; apply mo_extract; exact rfl; exact rfl)
    | refine ap_end ?_)
  repeat (first
    | (apply wo_pm; apply mo_store; exact rfl; exact rfl; exact rfl; apply Wt.row0; (repeat (first | exact Foc.here | apply Foc.there)); (first | exact Nat.lt_of_sub_eq_succ rfl | omega); (first | exact trivial | exact rfl))
    | (apply wo_po; apply mo_bin; exact rfl; exact rfl; apply bin_neqF; omega; (first | exact trivial | exact rfl))
    | refine we_seq ?_
    | (refine we_region _ rfl rfl ?_; simp only [opsOf, List.map_cons, List.map_nil, Option.map_none, Option.map_some, List.getElem?_toArray, List.getElem?_cons_zero, List.getElem?_cons_succ, Option.bind_some, Option.getD_some])
    | refine wo_nil ?_
    | (apply wo_po; apply mo_move; exact rfl; (first | exact trivial | exact rfl))
    | (apply wo_po; apply mo_assign; exact rfl; (first | exact trivial | exact rfl))
    | (apply wo_po; apply mo_pickF; exact rfl; exact rfl; exact rfl; (first | exact trivial | exact rfl))
    | (apply wo_po; apply mo_nilCheck; exact rfl; (first | exact trivial | exact rfl))
    | (apply wo_po; apply mo_fieldAddr; exact rfl; exact rfl; (first | exact Nat.zero_add _ | exact rfl); (first | exact trivial | exact rfl))
    | (apply wo_po; apply mo_bin; exact rfl; exact rfl; apply bin_eq; apply eql_ptr_nil; (first | exact trivial | exact rfl))
    | (apply we_condF; exact rfl; (first | exact rfl | (simp <;> omega) | omega))
    | refine we_ret ?_
    | refine we_skip ?_)
  (first | refine at_ret1 (ex := .ret) Try.func10 Try.results10 hQ (.inl rfl) rfl ?_ | refine at_ret1 (ex := .normal) Try.func10 Try.results10 hQ (.inr rfl) rfl ?_)
  refine ⟨p, g, b, rfl, rfl, fun h st => ?_⟩
  have s1 : Star (arr g 0 [.int .u64 (limit : Nat), .int .u64 0, .int .u64 0] :: arr b 0 [.int .u64 (fails : Nat), .int .u64 (wait : Nat), .int .u64 0] :: pairC p g b limit fails wait :: L) h := Ent.star (.take (.there .here) (.take .here .refl)) st
  exact Ent.star (.take (.there (.there .here)) (.take .here .refl)) (star_map (g_wds s1) (fun _ y => y) (fun _ y => b_wds y))

theorem awake_tr : Tr Try.prog B 11 [] L x fun v L' x' => v = .bool true ∧ L' = L ∧ x' = x := by
  refine Tr.post (R := fun v L' x' => v = .bool true ∧ x' = x ∧ ∀ h, Star L' h → Star L h) ?_ (by rintro v L' x' ⟨rfl, rfl, hs⟩; exact ⟨L, ⟨rfl, rfl, rfl⟩, hs⟩)
  refine tr_of_body Try.func11 rfl Try.ntmps11 (by simp) fun um Q hQ => ?_
  simp only [argE, Nat.zero_add, Nat.reduceAdd]
  repeat (first
    | refine we_seq ?_
    | (refine we_region _ rfl rfl ?_; simp only [opsOf, List.map_cons, List.map_nil, Option.map_none, Option.map_some, List.getElem?_toArray, List.getElem?_cons_zero, List.getElem?_cons_succ, Option.bind_some, Option.getD_some])
    | refine wo_nil ?_
    | (apply wo_po; apply mo_assign; exact rfl; (first | exact trivial | exact rfl)))
  refine wo_call (.cons rfl (.cons rfl (.cons rfl .nil))) trivial (made_tr (l0 := 1) (f0 := 1) (w0 := 9) (limit := 2) (fails := 2) (wait := 10) rfl rfl rfl) ?_
  rintro v' L' x' ⟨p, g, b, rfl, rfl, rfl⟩
  refine wo_star (arr p 0 [.pointer (some ⟨g, 0, none⟩), .pointer (some ⟨b, 0, none⟩), .int .u64 (2 : Nat), .int .u64 (2 : Nat), .int .u64 (10 : Nat)] :: gC g 2 (fun _ => 0) :: bC b 2 10 (fun _ => 0) :: L) (fun h st => st) ?_
  repeat (first
    | (apply wo_po; apply mo_bin; exact rfl; exact rfl; apply bin_neqF; omega; (first | exact trivial | exact rfl))
    | refine we_seq ?_
    | (refine we_region _ rfl rfl ?_; simp only [opsOf, List.map_cons, List.map_nil, Option.map_none, Option.map_some, List.getElem?_toArray, List.getElem?_cons_zero, List.getElem?_cons_succ, Option.bind_some, Option.getD_some])
    | refine wo_nil ?_
    | (apply wo_po; apply mo_move; exact rfl; (first | exact trivial | exact rfl))
    | (apply wo_po; apply mo_assign; exact rfl; (first | exact trivial | exact rfl))
    | (apply wo_po; apply mo_pickF; exact rfl; exact rfl; exact rfl; (first | exact trivial | exact rfl))
    | (apply wo_po; apply mo_nilCheck; exact rfl; (first | exact trivial | exact rfl))
    | (apply wo_po; apply mo_fieldAddr; exact rfl; exact rfl; (first | exact Nat.zero_add _ | exact rfl); (first | exact trivial | exact rfl))
    | (apply wo_po; apply mo_load; exact rfl; (repeat (first | exact Rd.row0 rfl | exact Rd.row rfl rfl | exact Rd.still | apply Rd.there)); (first | exact trivial | exact rfl))
    | (apply wo_po; apply mo_bin; exact rfl; exact rfl; apply bin_eq; apply eql_ptr_nil; (first | exact trivial | exact rfl))
    | (apply we_condF; exact rfl; (first | exact rfl | (simp <;> omega) | omega))
    | refine we_skip ?_)
  refine wo_call (.cons rfl (.cons rfl .nil)) trivial (enter_yes (n := 0) (p := 0) (by omega) (by omega) rfl rfl (by omega) (.there .here)) ?_
  rintro v' L' x' ⟨s1, rfl, f1, f2, rfl, rfl⟩
  refine wo_star (arr p 0 [.pointer (some ⟨g, 0, none⟩), .pointer (some ⟨b, 0, none⟩), .int .u64 (2 : Nat), .int .u64 (2 : Nat), .int .u64 (10 : Nat)] :: gC g 2 s1 :: bC b 2 10 (fun _ => 0) :: L) (fun h st => Ent.star (.take (.there .here) (.take .here .refl)) st) ?_
  repeat (first
    | refine we_seq ?_
    | (refine we_region _ rfl rfl ?_; simp only [opsOf, List.map_cons, List.map_nil, Option.map_none, Option.map_some, List.getElem?_toArray, List.getElem?_cons_zero, List.getElem?_cons_succ, Option.bind_some, Option.getD_some])
    | refine wo_nil ?_
    | (apply wo_po; apply mo_move; exact rfl; (first | exact trivial | exact rfl))
    | (apply wo_po; apply mo_assign; exact rfl; (first | exact trivial | exact rfl))
    | (apply wo_po; apply mo_nilCheck; exact rfl; (first | exact trivial | exact rfl))
    | (apply wo_po; apply mo_fieldAddr; exact rfl; exact rfl; (first | exact Nat.zero_add _ | exact rfl); (first | exact trivial | exact rfl))
    | (apply wo_po; apply mo_extract; exact rfl; exact rfl; (first | exact trivial | exact rfl))
    | (apply wo_po; apply mo_load; exact rfl; (repeat (first | exact Rd.row0 rfl | exact Rd.row rfl rfl | exact Rd.still | apply Rd.there)); (first | exact trivial | exact rfl)))
  refine wo_call (.cons rfl (.cons rfl .nil)) trivial (enter_yes (by omega) (by omega) f1 f2 (by omega) (.there .here)) ?_
  rintro v' L' x' ⟨s2, rfl, g1, g2, rfl, rfl⟩
  refine wo_star (arr p 0 [.pointer (some ⟨g, 0, none⟩), .pointer (some ⟨b, 0, none⟩), .int .u64 (2 : Nat), .int .u64 (2 : Nat), .int .u64 (10 : Nat)] :: gC g 2 s2 :: bC b 2 10 (fun _ => 0) :: L) (fun h st => Ent.star (.take (.there .here) (.take .here .refl)) st) ?_
  repeat (first
    | refine we_seq ?_
    | (refine we_region _ rfl rfl ?_; simp only [opsOf, List.map_cons, List.map_nil, Option.map_none, Option.map_some, List.getElem?_toArray, List.getElem?_cons_zero, List.getElem?_cons_succ, Option.bind_some, Option.getD_some])
    | refine wo_nil ?_
    | (apply wo_po; apply mo_move; exact rfl; (first | exact trivial | exact rfl))
    | (apply wo_po; apply mo_assign; exact rfl; (first | exact trivial | exact rfl))
    | (apply wo_po; apply mo_nilCheck; exact rfl; (first | exact trivial | exact rfl))
    | (apply wo_po; apply mo_fieldAddr; exact rfl; exact rfl; (first | exact Nat.zero_add _ | exact rfl); (first | exact trivial | exact rfl))
    | (apply wo_po; apply mo_extract; exact rfl; exact rfl; (first | exact trivial | exact rfl))
    | (apply wo_po; apply mo_load; exact rfl; (repeat (first | exact Rd.row0 rfl | exact Rd.row rfl rfl | exact Rd.still | apply Rd.there)); (first | exact trivial | exact rfl)))
  refine wo_call (.cons rfl (.cons rfl .nil)) trivial (enter_no (by omega) (by omega) g1 (by omega) (.there .here)) ?_
  rintro v' L' x' ⟨rfl, rfl, rfl⟩
  refine wo_star (arr p 0 [.pointer (some ⟨g, 0, none⟩), .pointer (some ⟨b, 0, none⟩), .int .u64 (2 : Nat), .int .u64 (2 : Nat), .int .u64 (10 : Nat)] :: gC g 2 s2 :: bC b 2 10 (fun _ => 0) :: L) (fun h st => Ent.star (.take (.there .here) (.take .here .refl)) st) ?_
  repeat (first
    | refine we_seq ?_
    | (refine we_region _ rfl rfl ?_; simp only [opsOf, List.map_cons, List.map_nil, Option.map_none, Option.map_some, List.getElem?_toArray, List.getElem?_cons_zero, List.getElem?_cons_succ, Option.bind_some, Option.getD_some])
    | refine wo_nil ?_
    | (apply wo_po; apply mo_move; exact rfl; (first | exact trivial | exact rfl))
    | (apply wo_po; apply mo_assign; exact rfl; (first | exact trivial | exact rfl))
    | (apply wo_po; apply mo_nilCheck; exact rfl; (first | exact trivial | exact rfl))
    | (apply wo_po; apply mo_fieldAddr; exact rfl; exact rfl; (first | exact Nat.zero_add _ | exact rfl); (first | exact trivial | exact rfl))
    | (apply wo_po; apply mo_extract; exact rfl; exact rfl; (first | exact trivial | exact rfl))
    | (apply wo_po; apply mo_load; exact rfl; (repeat (first | exact Rd.row0 rfl | exact Rd.row rfl rfl | exact Rd.still | apply Rd.there)); (first | exact trivial | exact rfl)))
  refine wo_call (.cons rfl (.cons rfl .nil)) trivial (get_lone (by omega) (by omega) (.there .here)) ?_
  rintro v' L' x' ⟨rfl, rfl, rfl⟩
  rw [g1, g2]
  refine wo_star (arr p 0 [.pointer (some ⟨g, 0, none⟩), .pointer (some ⟨b, 0, none⟩), .int .u64 (2 : Nat), .int .u64 (2 : Nat), .int .u64 (10 : Nat)] :: gC g 2 s2 :: bC b 2 10 (fun _ => 0) :: L) (fun h st => Ent.star (.take (.there .here) (.take .here .refl)) st) ?_
  repeat (first
    | refine we_seq ?_
    | (refine we_region _ rfl rfl ?_; simp only [opsOf, List.map_cons, List.map_nil, Option.map_none, Option.map_some, List.getElem?_toArray, List.getElem?_cons_zero, List.getElem?_cons_succ, Option.bind_some, Option.getD_some])
    | refine wo_nil ?_
    | (apply wo_po; apply mo_move; exact rfl; (first | exact trivial | exact rfl))
    | (apply wo_po; apply mo_assign; exact rfl; (first | exact trivial | exact rfl))
    | (apply wo_po; apply mo_nilCheck; exact rfl; (first | exact trivial | exact rfl))
    | (apply wo_po; apply mo_fieldAddr; exact rfl; exact rfl; (first | exact Nat.zero_add _ | exact rfl); (first | exact trivial | exact rfl))
    | (apply wo_po; apply mo_extract; exact rfl; exact rfl; (first | exact trivial | exact rfl))
    | (apply wo_po; apply mo_load; exact rfl; (repeat (first | exact Rd.row0 rfl | exact Rd.row rfl rfl | exact Rd.still | apply Rd.there)); (first | exact trivial | exact rfl)))
  refine wo_call (.cons rfl (.cons rfl (.cons rfl (.cons rfl .nil)))) trivial (tell_lone (fails := 2) (wait := 10) (by omega) (by omega) (by omega) (now := 5) (by omega) (s := fun _ => 0) (a := 0) (b := 0) (c := 0) ⟨by omega, by omega, by omega, rfl⟩ (by omega) (.there (.there .here))) ?_
  rintro v' L' x' ⟨t1, rfl, t1S, rfl, rfl⟩
  replace t1S : BS t1 0 1 0 := t1S
  refine wo_star (arr p 0 [.pointer (some ⟨g, 0, none⟩), .pointer (some ⟨b, 0, none⟩), .int .u64 (2 : Nat), .int .u64 (2 : Nat), .int .u64 (10 : Nat)] :: gC g 2 s2 :: bC b 2 10 t1 :: L) (fun h st => Ent.star (.take (.there .here) (.take (.there .here) .refl)) st) ?_
  repeat (first
    | refine we_seq ?_
    | (refine we_region _ rfl rfl ?_; simp only [opsOf, List.map_cons, List.map_nil, Option.map_none, Option.map_some, List.getElem?_toArray, List.getElem?_cons_zero, List.getElem?_cons_succ, Option.bind_some, Option.getD_some])
    | refine wo_nil ?_
    | (apply wo_po; apply mo_move; exact rfl; (first | exact trivial | exact rfl))
    | (apply wo_po; apply mo_nilCheck; exact rfl; (first | exact trivial | exact rfl))
    | (apply wo_po; apply mo_fieldAddr; exact rfl; exact rfl; (first | exact Nat.zero_add _ | exact rfl); (first | exact trivial | exact rfl))
    | (apply wo_po; apply mo_load; exact rfl; (repeat (first | exact Rd.row0 rfl | exact Rd.row rfl rfl | exact Rd.still | apply Rd.there)); (first | exact trivial | exact rfl)))
  refine wo_call (.cons rfl (.cons rfl (.cons rfl (.cons rfl .nil)))) trivial (tell_lone (fails := 2) (wait := 10) (by omega) (by omega) (by omega) (now := 6) (by omega) t1S (by omega) (.there (.there .here))) ?_
  rintro v' L' x' ⟨t2, rfl, t2S, rfl, rfl⟩
  replace t2S : BS t2 1 2 6 := t2S
  refine wo_star (arr p 0 [.pointer (some ⟨g, 0, none⟩), .pointer (some ⟨b, 0, none⟩), .int .u64 (2 : Nat), .int .u64 (2 : Nat), .int .u64 (10 : Nat)] :: gC g 2 s2 :: bC b 2 10 t2 :: L) (fun h st => Ent.star (.take (.there .here) (.take (.there .here) .refl)) st) ?_
  repeat (first
    | refine we_seq ?_
    | (refine we_region _ rfl rfl ?_; simp only [opsOf, List.map_cons, List.map_nil, Option.map_none, Option.map_some, List.getElem?_toArray, List.getElem?_cons_zero, List.getElem?_cons_succ, Option.bind_some, Option.getD_some])
    | refine wo_nil ?_
    | (apply wo_po; apply mo_move; exact rfl; (first | exact trivial | exact rfl))
    | (apply wo_po; apply mo_nilCheck; exact rfl; (first | exact trivial | exact rfl))
    | (apply wo_po; apply mo_fieldAddr; exact rfl; exact rfl; (first | exact Nat.zero_add _ | exact rfl); (first | exact trivial | exact rfl))
    | (apply wo_po; apply mo_load; exact rfl; (repeat (first | exact Rd.row0 rfl | exact Rd.row rfl rfl | exact Rd.still | apply Rd.there)); (first | exact trivial | exact rfl)))
  refine wo_call (.cons rfl (.cons rfl (.cons rfl .nil))) trivial (ask_lone (fails := 2) (wait := 10) (by omega) (by omega) (by omega) (now := 15) (by omega) t2S (.there (.there .here))) ?_
  rintro v' L' x' ⟨t3, rfl, t3S, rfl, rfl⟩
  replace t3S : BS t3 1 2 6 := t3S
  refine wo_star (arr p 0 [.pointer (some ⟨g, 0, none⟩), .pointer (some ⟨b, 0, none⟩), .int .u64 (2 : Nat), .int .u64 (2 : Nat), .int .u64 (10 : Nat)] :: gC g 2 s2 :: bC b 2 10 t3 :: L) (fun h st => Ent.star (.take (.there .here) (.take (.there .here) .refl)) st) ?_
  repeat (first
    | refine we_seq ?_
    | (refine we_region _ rfl rfl ?_; simp only [opsOf, List.map_cons, List.map_nil, Option.map_none, Option.map_some, List.getElem?_toArray, List.getElem?_cons_zero, List.getElem?_cons_succ, Option.bind_some, Option.getD_some])
    | refine wo_nil ?_
    | (apply wo_po; apply mo_move; exact rfl; (first | exact trivial | exact rfl))
    | (apply wo_po; apply mo_assign; exact rfl; (first | exact trivial | exact rfl))
    | (apply wo_po; apply mo_nilCheck; exact rfl; (first | exact trivial | exact rfl))
    | (apply wo_po; apply mo_fieldAddr; exact rfl; exact rfl; (first | exact Nat.zero_add _ | exact rfl); (first | exact trivial | exact rfl))
    | (apply wo_po; apply mo_extract; exact rfl; exact rfl; (first | exact trivial | exact rfl))
    | (apply wo_po; apply mo_load; exact rfl; (repeat (first | exact Rd.row0 rfl | exact Rd.row rfl rfl | exact Rd.still | apply Rd.there)); (first | exact trivial | exact rfl)))
  refine wo_call (.cons rfl (.cons rfl (.cons rfl .nil))) trivial (ask_lone (fails := 2) (wait := 10) (by omega) (by omega) (by omega) (now := 16) (by omega) t3S (.there (.there .here))) ?_
  rintro v' L' x' ⟨t4, rfl, t4S, rfl, rfl⟩
  replace t4S : BS t4 2 2 16 := t4S
  refine wo_star (arr p 0 [.pointer (some ⟨g, 0, none⟩), .pointer (some ⟨b, 0, none⟩), .int .u64 (2 : Nat), .int .u64 (2 : Nat), .int .u64 (10 : Nat)] :: gC g 2 s2 :: bC b 2 10 t4 :: L) (fun h st => Ent.star (.take (.there .here) (.take (.there .here) .refl)) st) ?_
  repeat (first
    | refine we_seq ?_
    | (refine we_region _ rfl rfl ?_; simp only [opsOf, List.map_cons, List.map_nil, Option.map_none, Option.map_some, List.getElem?_toArray, List.getElem?_cons_zero, List.getElem?_cons_succ, Option.bind_some, Option.getD_some])
    | refine wo_nil ?_
    | (apply wo_po; apply mo_move; exact rfl; (first | exact trivial | exact rfl))
    | (apply wo_po; apply mo_assign; exact rfl; (first | exact trivial | exact rfl))
    | (apply wo_po; apply mo_nilCheck; exact rfl; (first | exact trivial | exact rfl))
    | (apply wo_po; apply mo_fieldAddr; exact rfl; exact rfl; (first | exact Nat.zero_add _ | exact rfl); (first | exact trivial | exact rfl))
    | (apply wo_po; apply mo_extract; exact rfl; exact rfl; (first | exact trivial | exact rfl))
    | (apply wo_po; apply mo_load; exact rfl; (repeat (first | exact Rd.row0 rfl | exact Rd.row rfl rfl | exact Rd.still | apply Rd.there)); (first | exact trivial | exact rfl)))
  refine wo_call (.cons rfl (.cons rfl (.cons rfl .nil))) trivial (ask_lone (fails := 2) (wait := 10) (by omega) (by omega) (by omega) (now := 17) (by omega) t4S (.there (.there .here))) ?_
  rintro v' L' x' ⟨t5, rfl, t5S, rfl, rfl⟩
  replace t5S : BS t5 2 2 16 := t5S
  refine wo_star (arr p 0 [.pointer (some ⟨g, 0, none⟩), .pointer (some ⟨b, 0, none⟩), .int .u64 (2 : Nat), .int .u64 (2 : Nat), .int .u64 (10 : Nat)] :: gC g 2 s2 :: bC b 2 10 t5 :: L) (fun h st => Ent.star (.take (.there .here) (.take (.there .here) .refl)) st) ?_
  repeat (first
    | refine we_seq ?_
    | (refine we_region _ rfl rfl ?_; simp only [opsOf, List.map_cons, List.map_nil, Option.map_none, Option.map_some, List.getElem?_toArray, List.getElem?_cons_zero, List.getElem?_cons_succ, Option.bind_some, Option.getD_some])
    | refine wo_nil ?_
    | (apply wo_po; apply mo_move; exact rfl; (first | exact trivial | exact rfl))
    | (apply wo_po; apply mo_assign; exact rfl; (first | exact trivial | exact rfl))
    | (apply wo_po; apply mo_nilCheck; exact rfl; (first | exact trivial | exact rfl))
    | (apply wo_po; apply mo_fieldAddr; exact rfl; exact rfl; (first | exact Nat.zero_add _ | exact rfl); (first | exact trivial | exact rfl))
    | (apply wo_po; apply mo_extract; exact rfl; exact rfl; (first | exact trivial | exact rfl))
    | (apply wo_po; apply mo_load; exact rfl; (repeat (first | exact Rd.row0 rfl | exact Rd.row rfl rfl | exact Rd.still | apply Rd.there)); (first | exact trivial | exact rfl)))
  refine wo_call (.cons rfl (.cons rfl .nil)) trivial (bget_lone (fails := 2) (wait := 10) (by omega) (by omega) (by omega) t5S (.there (.there .here))) ?_
  rintro v' L' x' ⟨rfl, rfl, rfl⟩
  repeat (first
    | (apply wo_po; apply mo_bin; exact rfl; exact rfl; apply bin_eqlT; omega; (first | exact trivial | exact rfl))
    | refine we_seq ?_
    | (refine we_region _ rfl rfl ?_; simp only [opsOf, List.map_cons, List.map_nil, Option.map_none, Option.map_some, List.getElem?_toArray, List.getElem?_cons_zero, List.getElem?_cons_succ, Option.bind_some, Option.getD_some])
    | refine wo_nil ?_
    | (apply wo_po; apply mo_move; exact rfl; (first | exact trivial | exact rfl))
    | (apply wo_po; apply mo_assign; exact rfl; (first | exact trivial | exact rfl))
    | (apply wo_po; apply mo_pickT; exact rfl; exact rfl; exact rfl; (first | exact trivial | exact rfl))
    | (apply wo_po; apply mo_extract; exact rfl; exact rfl; (first | exact trivial | exact rfl))
    | (apply wo_po; apply mo_not; exact rfl; (first | exact trivial | exact rfl))
    | refine we_ret ?_)
  (first | refine at_ret1 (ex := .ret) Try.func11 Try.results11 hQ (.inl rfl) rfl ?_ | refine at_ret1 (ex := .normal) Try.func11 Try.results11 hQ (.inr rfl) rfl ?_)
  exact ⟨rfl, rfl, fun h st => Ent.star (.drop (.drop (.drop .refl))) st⟩
end
end Go.Proofs.Ytnnpdmhmpgmpnaa
