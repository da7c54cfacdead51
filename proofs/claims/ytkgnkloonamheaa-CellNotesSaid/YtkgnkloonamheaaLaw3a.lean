/-
  patchbaylaw03: works.
-/
import Derived.Test.YtkgnkloonamheaaCell3o
import Derived.Test.YtkgnkloonamheaaLone
set_option linter.unusedVariables false
set_option linter.unusedSimpArgs false
namespace Go.Proofs.Ytkgnkloonamheaa
open Go Go.PB
attribute [local irreducible] Mo Bin Eql Tr Wo Ap Wle

section
variable {B : Hand} [Lets B] {x : B.X} {r c n mo cb v u nm : Nat} {L F : List HProp} {s : Nat → Nat}

def cLone (x : B.X) (r : Nat) : Acc B .nilIface := loneAcc x (cAddr r) 1 (cK r) (c_apart r)
theorem cl_at : CntAt (cLone x r) r := ⟨fun s h st => by
    obtain ⟨h1, h2, s1, hc, _⟩ := st
    exact ⟨rfl, .inl (s1.o1 _ _ _ (hc.2 (r, 0, .bool true) (List.mem_singleton.2 rfl)))⟩, rfl⟩
theorem lone_in (hc : c < 18446744073709551616) {h : Hp} (st : Star (arr r 0 [.bool true, .int .u64 (c : Nat)] :: F) h) : Star ((cLone x r).C (fun _ => c) :: F) h := by
  refine star_map st (fun h a => ⟨fun w hw => ⟨hc, a 1 _ rfl⟩, fun k hk => ?_⟩) (fun _ y => y)
  simp only [cK, List.mem_singleton] at hk
  subst hk
  exact a 0 _ rfl
theorem lone_out {h : Hp} (st : Star ((cLone x r).C s :: F) h) : Star (arr r 0 [.bool true, .int .u64 (s 0 : Nat)] :: F) h := by
  refine star_map st (fun h a i v hv => ?_) (fun _ y => y)
  match i, hv with
  | 0, hv => cases hv; exact a.2 (r, 0, .bool true) (List.mem_singleton.2 rfl)
  | 1, hv => cases hv; exact (a.1 0 (by omega)).2
def nilOnly (x : B.X) : Acc B .nilIface := loneAcc x (fun _ => (0, 0)) 0 [] ⟨fun i j hi _ _ => by omega, fun i hi _ _ => by omega⟩
theorem nil_in {h : Hp} (st : Star F h) : Star ((nilOnly x).C (fun _ => 0) :: F) h :=
  star_map (vec_nil (sz := 1) st) (fun _ _ => ⟨fun w hw => by omega, fun k hk => by cases hk⟩) (fun _ y => y)

theorem changeT_l {G : Nat → Nat × Bool} {T : Nat → Bool → (cLone x r).S → Prop} (h : if (G c).2 = true then T (G c).1 true (upd (fun _ => c) 0 (G c).1) else T c false (fun _ => c)) : ChangeT (cLone x r) G (fun _ => c) T := by
  intro X hX
  refine hX _ ⟨by show 0 < 1; omega, ?_⟩
  show if (G c).2 = true then _ else _
  by_cases g : (G c).2 = true
  · rw [if_pos g] at h ⊢
    refine ⟨by show 0 < 1; omega, ?_⟩
    rw [if_pos rfl]
    exact (iff_of_eq (if_pos rfl)).mpr h
  · rw [if_neg g] at h ⊢
    exact h

theorem up_l {q : Bool} {c' : Nat} (hc : c < 18446744073709551616) (hn : n < 18446744073709551616) (hm : mo < 18446744073709551616) (hG : (if (upG n mo c).2 = true then ((upG n mo c).1, true) else (c, false)) = (c', q)) :
    Tr Try.prog B 25 [.pointer (some ⟨r, 0, none⟩), .nilIface, .int .u64 (n : Nat), .int .u64 (mo : Nat)] (arr r 0 [.bool true, .int .u64 (c : Nat)] :: F) x fun w L' x' => w = .tuple #[.int .u64 (c' : Nat), .bool q, .int .i64 0] ∧ L' = arr r 0 [.bool true, .int .u64 (c' : Nat)] :: F ∧ x' = x := by
  refine tr_star ((cLone x r).C (fun _ => c) :: F) (fun h st => lone_in hc st) ?_
  refine (cup_tr (A := cLone x r) cl_at hn hm (s := fun _ => c) (Q := fun o q' s' => o = c' ∧ q' = q ∧ s' 0 = c') (changeT_l ?_) .here).post ?_
  · by_cases g : (upG n mo c).2 = true
    · rw [if_pos g] at hG ⊢
      cases hG
      exact ⟨rfl, rfl, upd_same⟩
    · rw [if_neg g] at hG ⊢
      cases hG
      exact ⟨rfl, rfl, rfl⟩
  · rintro w L' x' ⟨o, q', s', ⟨rfl, rfl, h0⟩, rfl, rfl, rfl⟩
    exact ⟨_, ⟨rfl, rfl, rfl⟩, fun h st => by have := lone_out st; rwa [h0] at this⟩

theorem set_l (hc : c < 18446744073709551616) : Tr Try.prog B 28 [.pointer (some ⟨r, 0, none⟩), .nilIface] (arr r 0 [.bool true, .int .u64 (c : Nat)] :: F) x fun w L' x' => w = .tuple #[.bool (!decide (((c : Nat) : Int) = 1)), .int .i64 0] ∧ L' = arr r 0 [.bool true, .int .u64 (1 : Nat)] :: F ∧ x' = x := by
  refine tr_star ((cLone x r).C (fun _ => c) :: F) (fun h st => lone_in hc st) ?_
  refine (fset_tr (A := cLone x r) cl_at (s := fun _ => c) (Q := fun o s' => o = c ∧ s' 0 = 1) ⟨by show 0 < 1; omega, rfl, upd_same⟩ .here).post ?_
  rintro w L' x' ⟨o, s', _, ⟨rfl, h0⟩, rfl, rfl, rfl⟩
  exact ⟨_, ⟨rfl, rfl, rfl⟩, fun h st => by have := lone_out st; rwa [h0] at this⟩

theorem put_l (hn : nm + 1 < 18446744073709551616) : Tr Try.prog B 49 [.pointer (some ⟨r, 0, none⟩), .nilIface, .int .u32 (u : Nat)] (arr r 0 [.pointer (some ⟨cb, 0, none⟩)] :: arr cb 0 [.int .u32 (v : Nat), .int .u64 ((nm : Nat) : Int)] :: shpC cb 158 2 :: F) x fun w L' x' => ∃ cb', w = .tuple #[.int .u64 ((nm + 1 : Nat) : Int), .int .i64 0] ∧ L' = arr r 0 [.pointer (some ⟨cb', 0, none⟩)] :: arr cb' 0 [.int .u32 (u : Nat), .int .u64 ((nm + 1 : Nat) : Int)] :: shpC cb' 158 2 :: F ∧ x' = x := by
  refine tr_star ((nilOnly x).C (fun _ => 0) :: arr r 0 [.pointer (some ⟨cb, 0, none⟩)] :: arr cb 0 [.int .u32 (v : Nat), .int .u64 ((nm : Nat) : Int)] :: shpC cb 158 2 :: F) (fun h st => nil_in st) ?_
  refine (bput_tr (A := nilOnly x) (cb := cb) (v := v) (num := nm) (F := F) hn (s := fun _ => 0) (Q := fun _ => True) trivial).post ?_
  rintro w L' x' ⟨s', cb', _, rfl, rfl, rfl⟩
  exact ⟨_, ⟨cb', rfl, rfl, rfl⟩, fun h st => star_drop st⟩

theorem bget_l : Tr Try.prog B 50 [.pointer (some ⟨r, 0, none⟩), .nilIface] (arr r 0 [.pointer (some ⟨cb, 0, none⟩)] :: arr cb 0 [.int .u32 (v : Nat), .int .u64 ((nm : Nat) : Int)] :: shpC cb 158 2 :: F) x fun w L' x' => w = .tuple #[.int .u32 (v : Nat), .int .u64 (nm : Nat), .int .i64 0] ∧ L' = arr r 0 [.pointer (some ⟨cb, 0, none⟩)] :: arr cb 0 [.int .u32 (v : Nat), .int .u64 ((nm : Nat) : Int)] :: shpC cb 158 2 :: F ∧ x' = x := by
  refine tr_star ((nilOnly x).C (fun _ => 0) :: arr r 0 [.pointer (some ⟨cb, 0, none⟩)] :: arr cb 0 [.int .u32 (v : Nat), .int .u64 ((nm : Nat) : Int)] :: shpC cb 158 2 :: F) (fun h st => nil_in st) ?_
  refine (bget_tr (A := nilOnly x) (cb := cb) (v := v) (num := nm) (F := F) (s := fun _ => 0) (Q := fun _ => True) trivial).post ?_
  rintro w L' x' ⟨s', _, rfl, rfl, rfl⟩
  exact ⟨_, ⟨rfl, rfl, rfl⟩, fun h st => star_drop st⟩

theorem works_tr : Tr Try.prog B 17 [] L x fun v L' x' => v = .bool true ∧ L' = L ∧ x' = x := by
  refine Tr.post (R := fun v L' x' => v = .bool true ∧ x' = x ∧ ∀ h, Star L' h → Star L h) ?_ (by rintro v L' x' ⟨h0, rfl, hs⟩; exact ⟨L, ⟨h0, rfl, rfl⟩, hs⟩)
  refine tr_of_body Try.func17 rfl Try.ntmps17 (by simp) fun um Q hQ => ?_
  simp only [argE, Nat.zero_add, Nat.reduceAdd]
  repeat (first
    | refine we_seq ?_
    | (refine we_region _ rfl rfl ?_; simp only [opsOf, List.map_cons, List.map_nil, Option.map_none, Option.map_some, List.getElem?_toArray, List.getElem?_cons_zero, List.getElem?_cons_succ, Option.bind_some, Option.getD_some])
    | refine wo_nil ?_
    | (apply wo_po; apply mo_assign; exact rfl; (first | exact trivial | exact rfl)))
  refine wo_call (.cons rfl (.cons rfl .nil)) trivial (made_tr (c := 5) (v := 7) (by omega)) ?_
  rintro v' L' x' ⟨cr, fr, r, cb, rfl, rfl, rfl⟩
  repeat (first
    | (apply wo_mo; apply mo_alloc; exact trivial))
  rintro v' L' ⟨zb, rfl, rfl⟩
  repeat (first
    | (apply wo_pm; apply mo_storeA (b := zb) (c := 0) (k := 0) (a := 0) (vs := [.pointer none, .pointer none, .pointer none]); exact rfl; exact rfl; exact rfl; (intro w hw; simp [Value.cells] at hw; rcases hw with rfl | rfl | rfl <;> rfl); exact rfl; exact Nat.le_refl 3; exact .here; exact trivial)
    | refine we_seq ?_
    | (refine we_region _ rfl rfl ?_; simp only [opsOf, List.map_cons, List.map_nil, Option.map_none, Option.map_some, List.getElem?_toArray, List.getElem?_cons_zero, List.getElem?_cons_succ, Option.bind_some, Option.getD_some])
    | refine wo_nil ?_
    | (apply wo_po; apply mo_fieldAddr; exact rfl; exact rfl; (first | exact Nat.zero_add _ | exact rfl); (first | exact trivial | exact rfl))
    | (apply wo_po; apply mo_load; exact rfl; (repeat (first | exact Rd.row0 rfl | exact Rd.row rfl rfl | exact Rd.still | apply Rd.there)); (first | exact trivial | exact rfl)))
  refine wo_star (arr cr 0 [.bool true, .int .u64 (5 : Nat)] :: arr zb 0 [.pointer (some ⟨cr, 0, none⟩), .pointer (some ⟨fr, 0, none⟩), .pointer (some ⟨r, 0, none⟩)] :: arr fr 0 [.bool true, .int .u64 0] :: arr r 0 [.pointer (some ⟨cb, 0, none⟩)] :: arr cb 0 [.int .u32 (7 : Nat), .int .u64 ((0 : Nat) : Int)] :: shpC cb 158 2 :: L) (fun h st => Ent.star (.take (.there (.there (.there (.there (.there .here))))) (.take .here (.take (.there (.there (.there .here))) .refl))) st) ?_
  refine wo_call (.cons rfl (.cons rfl (.cons rfl (.cons rfl .nil)))) trivial (up_l (c := 5) (n := 3) (mo := 8) (q := true) (c' := 8) (by omega) (by omega) (by omega) (by decide)) ?_
  rintro v' L' x' ⟨rfl, rfl, rfl⟩
  repeat (first
    | refine we_seq ?_
    | (refine we_region _ rfl rfl ?_; simp only [opsOf, List.map_cons, List.map_nil, Option.map_none, Option.map_some, List.getElem?_toArray, List.getElem?_cons_zero, List.getElem?_cons_succ, Option.bind_some, Option.getD_some])
    | refine wo_nil ?_
    | (apply wo_po; apply mo_move; exact rfl; (first | exact trivial | exact rfl))
    | (apply wo_po; apply mo_assign; exact rfl; (first | exact trivial | exact rfl))
    | (apply wo_po; apply mo_fieldAddr; exact rfl; exact rfl; (first | exact Nat.zero_add _ | exact rfl); (first | exact trivial | exact rfl))
    | (apply wo_po; apply mo_extract; exact rfl; exact rfl; (first | exact trivial | exact rfl))
    | (apply wo_po; apply mo_load; exact rfl; (repeat (first | exact Rd.row0 rfl | exact Rd.row rfl rfl | exact Rd.still | apply Rd.there)); (first | exact trivial | exact rfl)))
  refine wo_call (.cons rfl (.cons rfl (.cons rfl (.cons rfl .nil)))) trivial (up_l (c := 8) (n := 1) (mo := 8) (q := false) (c' := 8) (by omega) (by omega) (by omega) (by decide)) ?_
  rintro v' L' x' ⟨rfl, rfl, rfl⟩
  repeat (first
    | refine we_seq ?_
    | (refine we_region _ rfl rfl ?_; simp only [opsOf, List.map_cons, List.map_nil, Option.map_none, Option.map_some, List.getElem?_toArray, List.getElem?_cons_zero, List.getElem?_cons_succ, Option.bind_some, Option.getD_some])
    | refine wo_nil ?_
    | (apply wo_po; apply mo_move; exact rfl; (first | exact trivial | exact rfl))
    | (apply wo_po; apply mo_assign; exact rfl; (first | exact trivial | exact rfl))
    | (apply wo_po; apply mo_fieldAddr; exact rfl; exact rfl; (first | exact Nat.zero_add _ | exact rfl); (first | exact trivial | exact rfl))
    | (apply wo_po; apply mo_extract; exact rfl; exact rfl; (first | exact trivial | exact rfl))
    | (apply wo_po; apply mo_load; exact rfl; (repeat (first | exact Rd.row0 rfl | exact Rd.row rfl rfl | exact Rd.still | apply Rd.there)); (first | exact trivial | exact rfl)))
  refine wo_star (arr fr 0 [.bool true, .int .u64 (0 : Nat)] :: arr cr 0 [.bool true, .int .u64 (8 : Nat)] :: arr zb 0 [.pointer (some ⟨cr, 0, none⟩), .pointer (some ⟨fr, 0, none⟩), .pointer (some ⟨r, 0, none⟩)] :: arr r 0 [.pointer (some ⟨cb, 0, none⟩)] :: arr cb 0 [.int .u32 (7 : Nat), .int .u64 ((0 : Nat) : Int)] :: shpC cb 158 2 :: L) (fun h st => Ent.star (.take (.there (.there .here)) (.take .here (.take .here .refl))) st) ?_
  refine wo_call (.cons rfl (.cons rfl .nil)) trivial (set_l (c := 0) (by omega)) ?_
  rintro v' L' x' ⟨rfl, rfl, rfl⟩
  repeat (first
    | refine we_seq ?_
    | (refine we_region _ rfl rfl ?_; simp only [opsOf, List.map_cons, List.map_nil, Option.map_none, Option.map_some, List.getElem?_toArray, List.getElem?_cons_zero, List.getElem?_cons_succ, Option.bind_some, Option.getD_some])
    | refine wo_nil ?_
    | (apply wo_po; apply mo_move; exact rfl; (first | exact trivial | exact rfl))
    | (apply wo_po; apply mo_assign; exact rfl; (first | exact trivial | exact rfl))
    | (apply wo_po; apply mo_fieldAddr; exact rfl; exact rfl; (first | exact Nat.zero_add _ | exact rfl); (first | exact trivial | exact rfl))
    | (apply wo_po; apply mo_extract; exact rfl; exact rfl; (first | exact trivial | exact rfl))
    | (apply wo_po; apply mo_load; exact rfl; (repeat (first | exact Rd.row0 rfl | exact Rd.row rfl rfl | exact Rd.still | apply Rd.there)); (first | exact trivial | exact rfl)))
  refine wo_call (.cons rfl (.cons rfl .nil)) trivial (set_l (c := 1) (by omega)) ?_
  rintro v' L' x' ⟨rfl, rfl, rfl⟩
  repeat (first
    | refine we_seq ?_
    | (refine we_region _ rfl rfl ?_; simp only [opsOf, List.map_cons, List.map_nil, Option.map_none, Option.map_some, List.getElem?_toArray, List.getElem?_cons_zero, List.getElem?_cons_succ, Option.bind_some, Option.getD_some])
    | refine wo_nil ?_
    | (apply wo_po; apply mo_move; exact rfl; (first | exact trivial | exact rfl))
    | (apply wo_po; apply mo_assign; exact rfl; (first | exact trivial | exact rfl))
    | (apply wo_po; apply mo_fieldAddr; exact rfl; exact rfl; (first | exact Nat.zero_add _ | exact rfl); (first | exact trivial | exact rfl))
    | (apply wo_po; apply mo_extract; exact rfl; exact rfl; (first | exact trivial | exact rfl))
    | (apply wo_po; apply mo_load; exact rfl; (repeat (first | exact Rd.row0 rfl | exact Rd.row rfl rfl | exact Rd.still | apply Rd.there)); (first | exact trivial | exact rfl)))
  refine wo_star (arr r 0 [.pointer (some ⟨cb, 0, none⟩)] :: arr cb 0 [.int .u32 (7 : Nat), .int .u64 ((0 : Nat) : Int)] :: shpC cb 158 2 :: arr fr 0 [.bool true, .int .u64 (1 : Nat)] :: arr cr 0 [.bool true, .int .u64 (8 : Nat)] :: arr zb 0 [.pointer (some ⟨cr, 0, none⟩), .pointer (some ⟨fr, 0, none⟩), .pointer (some ⟨r, 0, none⟩)] :: L) (fun h st => Ent.star (.take (.there (.there (.there .here))) (.take (.there (.there (.there .here))) (.take (.there (.there (.there .here))) .refl))) st) ?_
  refine wo_call (.cons rfl (.cons rfl (.cons rfl .nil))) trivial (put_l (v := 7) (nm := 0) (u := 9) (by omega)) ?_
  rintro v' L' x' ⟨cb', rfl, rfl, rfl⟩
  repeat (first
    | refine we_seq ?_
    | (refine we_region _ rfl rfl ?_; simp only [opsOf, List.map_cons, List.map_nil, Option.map_none, Option.map_some, List.getElem?_toArray, List.getElem?_cons_zero, List.getElem?_cons_succ, Option.bind_some, Option.getD_some])
    | refine wo_nil ?_
    | (apply wo_po; apply mo_move; exact rfl; (first | exact trivial | exact rfl))
    | (apply wo_po; apply mo_assign; exact rfl; (first | exact trivial | exact rfl))
    | (apply wo_po; apply mo_fieldAddr; exact rfl; exact rfl; (first | exact Nat.zero_add _ | exact rfl); (first | exact trivial | exact rfl))
    | (apply wo_po; apply mo_extract; exact rfl; exact rfl; (first | exact trivial | exact rfl))
    | (apply wo_po; apply mo_load; exact rfl; (repeat (first | exact Rd.row0 rfl | exact Rd.row rfl rfl | exact Rd.still | apply Rd.there)); (first | exact trivial | exact rfl)))
  refine wo_call (.cons rfl (.cons rfl .nil)) trivial (bget_l (v := 9) (nm := 0 + 1)) ?_
  rintro v' L' x' ⟨rfl, rfl, rfl⟩
  repeat (first
    | (apply wo_po; apply mo_bin; exact rfl; exact rfl; apply bin_eqlT; omega; (first | exact trivial | exact rfl))
    | refine we_seq ?_
    | (refine we_region _ rfl rfl ?_; simp only [opsOf, List.map_cons, List.map_nil, Option.map_none, Option.map_some, List.getElem?_toArray, List.getElem?_cons_zero, List.getElem?_cons_succ, Option.bind_some, Option.getD_some])
    | refine wo_nil ?_
    | (apply wo_po; apply mo_move; exact rfl; (first | exact trivial | exact rfl))
    | (apply wo_po; apply mo_assign; exact rfl; (first | exact trivial | exact rfl))
    | (apply wo_po; apply mo_pickT; exact rfl; exact rfl; exact rfl; (first | exact trivial | exact rfl))
    | (apply wo_po; apply mo_extract; exact rfl; exact rfl; (first | exact trivial | exact rfl))
    | (apply wo_po; apply mo_not; exact rfl; (first | exact trivial | exact rfl))
    | refine we_ret ?_)
  (first | refine at_ret1 (ex := .ret) Try.func17 Try.results17 hQ (.inl rfl) rfl ?_ | refine at_ret1 (ex := .normal) Try.func17 Try.results17 hQ (.inr rfl) rfl ?_)
  exact ⟨rfl, rfl, fun h st => Ent.star (.drop (.drop (.drop (.drop (.drop (.drop .refl)))))) st⟩
end
end Go.Proofs.Ytkgnkloonamheaa
