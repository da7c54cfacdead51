/-
  THE BOX (package cell), in memory of one's own, over whatever gate; what is made.
-/
import Derived.Test.YtkgnkloonamheaaCell
set_option linter.unusedVariables false
set_option linter.unusedSimpArgs false
namespace Go.Proofs.Ytkgnkloonamheaa
open Go Go.PB
attribute [local irreducible] Mo Bin Eql Tr Wo Ap Wle


section
variable {B : Hand} [Lets B] {gv : Value} {A : Acc B gv} {r cb nb b c v num n u : Nat} {L F L1 : List HProp} {x : B.X}

instance : Und Try.prog 150 (.pointer 158) := ⟨by kernel_rfl⟩

theorem lies_content : liesAt Try.prog (Try.prog).depth 158 (2 / (Try.prog).cellsOf 158) 0 158 1 = true := by kernel_rfl

theorem pload_tr (hr : Rd L b c (.pointer (some ⟨cb, 0, none⟩))) (hs : ∀ h, Star L h → h.shp cb = some (158, 2)) :
    Tr Try.prog B 77 [.pointer (some ⟨b, c, none⟩)] L x fun w L' x' => w = .pointer (some ⟨cb, 0, none⟩) ∧ L' = L ∧ x' = x := by
  refine tr_of_body Try.func77 rfl Try.ntmps77 (by simp) fun um Q hQ => ?_
  simp only [argE, Nat.zero_add, Nat.reduceAdd]
  repeat (first
    | (apply wo_po; apply mo_ext (args := [_]); exact .cons rfl .nil; exact at_loadP hr; exact trivial)
    | (apply wo_po; apply mo_convUP (by decide : (2 : Nat) ≠ 0); exact rfl; exact hs; exact lies_content; exact trivial)
    | refine we_seq ?_
    | (refine we_region _ rfl rfl ?_; simp only [opsOf, List.map_cons, List.map_nil, Option.map_none, Option.map_some, List.getElem?_toArray, List.getElem?_cons_zero, List.getElem?_cons_succ, Option.bind_some, Option.getD_some])
    | refine wo_nil ?_
    | (apply wo_po; apply mo_move; exact rfl; (first | exact trivial | exact rfl))
    | (apply wo_po; apply mo_assign; exact rfl; (first | exact trivial | exact rfl))
    | (apply wo_po; apply mo_nilCheck; exact rfl; (first | exact trivial | exact rfl))
    | (apply wo_po; apply mo_fieldAddr; exact rfl; exact rfl; (first | exact Nat.zero_add _ | exact rfl); (first | exact trivial | exact rfl))
    | refine we_ret ?_)
  (first | refine at_ret1 (ex := .ret) Try.func77 Try.results77 hQ (.inl rfl) rfl ?_ | refine at_ret1 (ex := .normal) Try.func77 Try.results77 hQ (.inr rfl) rfl ?_)
  exact ⟨rfl, rfl, rfl⟩


theorem pcas_tr (hr : Rd L b c (.pointer (some ⟨cb, 0, none⟩))) (hw : Wt L b c (.pointer (some ⟨nb, 0, none⟩)) L1) (hs : ∀ h, Star L h → h.shp cb = some (158, 2)) (hs2 : ∀ h, Star L h → h.shp nb = some (158, 2)) :
    Tr Try.prog B 78 [.pointer (some ⟨b, c, none⟩), .pointer (some ⟨cb, 0, none⟩), .pointer (some ⟨nb, 0, none⟩)] L x fun w L' x' => w = .bool true ∧ L' = L1 ∧ x' = x := by
  refine tr_of_body Try.func78 rfl Try.ntmps78 (by simp) fun um Q hQ => ?_
  simp only [argE, Nat.zero_add, Nat.reduceAdd]
  repeat (first
    | (apply wo_po; apply mo_convPU (by decide : (2 : Nat) ≠ 0); exact rfl; (first | exact hs | exact hs2); exact (by decide : (2 : Nat) ≠ 0); exact trivial)
    | (apply wo_pm; apply mo_ext (args := [_, _, _]); exact .cons rfl (.cons rfl (.cons rfl .nil)); exact at_casPT hr hw; exact trivial)
    | refine we_seq ?_
    | (refine we_region _ rfl rfl ?_; simp only [opsOf, List.map_cons, List.map_nil, Option.map_none, Option.map_some, List.getElem?_toArray, List.getElem?_cons_zero, List.getElem?_cons_succ, Option.bind_some, Option.getD_some])
    | refine wo_nil ?_
    | (apply wo_po; apply mo_move; exact rfl; (first | exact trivial | exact rfl))
    | (apply wo_po; apply mo_assign; exact rfl; (first | exact trivial | exact rfl))
    | (apply wo_po; apply mo_nilCheck; exact rfl; (first | exact trivial | exact rfl))
    | (apply wo_po; apply mo_fieldAddr; exact rfl; exact rfl; (first | exact Nat.zero_add _ | exact rfl); (first | exact trivial | exact rfl))
    | refine we_ret ?_)
  (first | refine at_ret1 (ex := .ret) Try.func78 Try.results78 hQ (.inl rfl) rfl ?_ | refine at_ret1 (ex := .normal) Try.func78 Try.results78 hQ (.inr rfl) rfl ?_)
  exact ⟨rfl, rfl, rfl⟩


theorem pstore_tr (hw : Wt L b c (.pointer (some ⟨nb, 0, none⟩)) L1) (hs : ∀ h, Star L h → h.shp nb = some (158, 2)) :
    Tr Try.prog B 68 [.pointer (some ⟨b, c, none⟩), .pointer (some ⟨nb, 0, none⟩)] L x fun w L' x' => w = .tuple #[] ∧ L' = L1 ∧ x' = x := by
  refine tr_of_body Try.func68 rfl Try.ntmps68 (by simp) fun um Q hQ => ?_
  simp only [argE, Nat.zero_add, Nat.reduceAdd]
  repeat (first
    | (apply wo_po; apply mo_convPU (by decide : (2 : Nat) ≠ 0); exact rfl; exact hs; exact (by decide : (2 : Nat) ≠ 0); exact trivial)
    | (apply wo_pm; apply mo_ext (args := [_, _]); exact .cons rfl (.cons rfl .nil); exact at_storeI rfl hw; exact trivial)
    | (refine we_region _ rfl rfl ?_; simp only [opsOf, List.map_cons, List.map_nil, Option.map_none, Option.map_some, List.getElem?_toArray, List.getElem?_cons_zero, List.getElem?_cons_succ, Option.bind_some, Option.getD_some])
    | refine wo_nil ?_
    | (apply wo_po; apply mo_move; exact rfl; (first | exact trivial | exact rfl))
    | (apply wo_po; apply mo_nilCheck; exact rfl; (first | exact trivial | exact rfl))
    | (apply wo_po; apply mo_fieldAddr; exact rfl; exact rfl; (first | exact Nat.zero_add _ | exact rfl); (first | exact trivial | exact rfl)))
  (first | refine at_ret0 (ex := .ret) Try.func68 Try.results68 hQ (.inl rfl) ?_ | refine at_ret0 (ex := .normal) Try.func68 Try.results68 hQ (.inr rfl) ?_)
  exact ⟨rfl, rfl, rfl⟩


theorem bthere_tr (hr : Rd L r 0 (.pointer (some ⟨cb, 0, none⟩))) (hs : ∀ h, Star L h → h.shp cb = some (158, 2)) : Tr Try.prog B 76 [.pointer (some ⟨r, 0, none⟩)] L x fun v L' x' => v = .bool true ∧ L' = L ∧ x' = x := by
  refine tr_of_body Try.func76 rfl Try.ntmps76 (by simp) fun um Q hQ => ?_
  simp only [argE, Nat.zero_add, Nat.reduceAdd]
  repeat (first
    | refine we_seq ?_
    | (refine we_region _ rfl rfl ?_; simp only [opsOf, List.map_cons, List.map_nil, Option.map_none, Option.map_some, List.getElem?_toArray, List.getElem?_cons_zero, List.getElem?_cons_succ, Option.bind_some, Option.getD_some])
    | refine wo_nil ?_
    | (apply wo_po; apply mo_move; exact rfl; (first | exact trivial | exact rfl))
    | (apply wo_po; apply mo_assign; exact rfl; (first | exact trivial | exact rfl))
    | (apply wo_po; apply mo_nilCheck; exact rfl; (first | exact trivial | exact rfl))
    | (apply wo_po; apply mo_fieldAddr; exact rfl; exact rfl; (first | exact Nat.zero_add _ | exact rfl); (first | exact trivial | exact rfl))
    | (apply wo_po; apply mo_bin; exact rfl; exact rfl; apply bin_ne; apply eql_ptr_nil; (first | exact trivial | exact rfl)))
  refine wo_call (.cons rfl .nil) (by first | exact trivial | exact rfl) (pload_tr hr hs) ?_
  rintro v1 L1 x1 ⟨rfl, rfl, rfl⟩
  repeat (first
    | refine wo_nil ?_
    | (apply wo_po; apply mo_assign; exact rfl; (first | exact trivial | exact rfl))
    | (apply wo_po; apply mo_pickT; exact rfl; exact rfl; exact rfl; (first | exact trivial | exact rfl))
    | (apply wo_po; apply mo_bin; exact rfl; exact rfl; apply bin_ne; apply eql_ptr_nil; (first | exact trivial | exact rfl))
    | refine we_ret ?_)
  (first | refine at_ret1 (ex := .ret) Try.func76 Try.results76 hQ (.inl rfl) rfl ?_ | refine at_ret1 (ex := .normal) Try.func76 Try.results76 hQ (.inr rfl) rfl ?_)
  exact ⟨rfl, rfl, rfl⟩


theorem bget_tr {s : A.S} {Q : A.S → Prop} (hq : A.step 1 0 s Q) :
    Tr Try.prog B 50 [.pointer (some ⟨r, 0, none⟩), gv] (A.C s :: arr r 0 [.pointer (some ⟨cb, 0, none⟩)] :: arr cb 0 [.int .u32 (v : Nat), .int .u64 (num : Nat)] :: shpC cb 158 2 :: F) (A.x s) fun w L' x' => ∃ s', Q s' ∧ w = .tuple #[.int .u32 (v : Nat), .int .u64 (num : Nat), .int .i64 0] ∧ L' = A.C s' :: arr r 0 [.pointer (some ⟨cb, 0, none⟩)] :: arr cb 0 [.int .u32 (v : Nat), .int .u64 (num : Nat)] :: shpC cb 158 2 :: F ∧ x' = A.x s' := by
  refine tr_of_body Try.func50 rfl Try.ntmps50 (by simp) fun um Q hQ => ?_
  simp only [argE, Nat.zero_add, Nat.reduceAdd]
  repeat (first
    | refine we_seq ?_
    | (refine we_region _ rfl rfl ?_; simp only [opsOf, List.map_cons, List.map_nil, Option.map_none, Option.map_some, List.getElem?_toArray, List.getElem?_cons_zero, List.getElem?_cons_succ, Option.bind_some, Option.getD_some])
    | refine wo_nil ?_
    | (apply wo_po; apply mo_move; exact rfl; (first | exact trivial | exact rfl))
    | (apply wo_po; apply mo_assign; exact rfl; (first | exact trivial | exact rfl)))
  refine wo_call (.cons rfl .nil) trivial (bthere_tr (.there (.row (k := 0) rfl rfl)) (fun h st => shp_of (.there (.there (.there .here))) st)) ?_
  rintro v1 L1 x1 ⟨rfl, rfl, rfl⟩
  repeat (first
    | refine we_seq ?_
    | (refine we_region _ rfl rfl ?_; simp only [opsOf, List.map_cons, List.map_nil, Option.map_none, Option.map_some, List.getElem?_toArray, List.getElem?_cons_zero, List.getElem?_cons_succ, Option.bind_some, Option.getD_some])
    | refine wo_nil ?_
    | (apply wo_po; apply mo_move; exact rfl; (first | exact trivial | exact rfl))
    | (apply wo_po; apply mo_not; exact rfl; (first | exact trivial | exact rfl))
    | (apply we_condF; exact rfl; (first | exact rfl | (simp <;> omega) | omega))
    | refine we_skip ?_)
  refine wo_call (.cons rfl (.cons rfl .nil)) trivial (step_tr hq .here) ?_
  rintro v1 L1 x1 ⟨s1, h1, rfl, rfl, rfl⟩
  repeat (first
    | refine we_seq ?_
    | (refine we_region _ rfl rfl ?_; simp only [opsOf, List.map_cons, List.map_nil, Option.map_none, Option.map_some, List.getElem?_toArray, List.getElem?_cons_zero, List.getElem?_cons_succ, Option.bind_some, Option.getD_some])
    | refine wo_nil ?_
    | (apply wo_po; apply mo_move; exact rfl; (first | exact trivial | exact rfl))
    | (apply wo_po; apply mo_nilCheck; exact rfl; (first | exact trivial | exact rfl))
    | (apply wo_po; apply mo_fieldAddr; exact rfl; exact rfl; (first | exact Nat.zero_add _ | exact rfl); (first | exact trivial | exact rfl)))
  refine wo_call (.cons rfl .nil) trivial (pload_tr (.there (.row (k := 0) rfl rfl)) (fun h st => shp_of (.there (.there (.there .here))) st)) ?_
  rintro v1 L1 x1 ⟨rfl, rfl, rfl⟩
  have q0 : Rd (A.C s1 :: arr r 0 [.pointer (some ⟨cb, 0, none⟩)] :: arr cb 0 [.int .u32 (v : Nat), .int .u64 (num : Nat)] :: shpC cb 158 2 :: F) cb 0 (.int .u32 (v : Nat)) := .there (.there (.row (k := 0) rfl rfl))
  have q1 : Rd (A.C s1 :: arr r 0 [.pointer (some ⟨cb, 0, none⟩)] :: arr cb 0 [.int .u32 (v : Nat), .int .u64 (num : Nat)] :: shpC cb 158 2 :: F) cb 1 (.int .u64 (num : Nat)) := .there (.there (.row (k := 1) rfl rfl))
  repeat (first
    | refine we_seq ?_
    | refine wo_nil ?_
    | (apply wo_po; apply mo_assign; exact rfl; (first | exact trivial | exact rfl)))
  refine we_draw (List.range' 0 11) (by kernel_rfl) ?_
  repeat (first
    | (apply ap_read; exact rfl; exact rfl; (first | exact trivial | exact rfl); apply mo_load; exact rfl; (first | exact q0 | exact q1))
    | (apply ap_pure; exact rfl; exact rfl; (first | exact trivial | exact rfl); intro L; apply mo_move; exact rfl)
    | (apply ap_pure; exact rfl; exact rfl; (first | exact trivial | exact rfl); intro L; apply mo_assign; exact rfl)
    | (apply ap_pure; exact rfl; exact rfl; (first | exact trivial | exact rfl); intro L; apply mo_nilCheck; exact rfl)
    | (apply ap_pure; exact rfl; exact rfl; (first | exact trivial | exact rfl); intro L; apply mo_fieldAddr; exact rfl; exact rfl; (first | exact Nat.zero_add _ | exact rfl))
    | refine ap_end ?_)
  repeat (first
    | refine we_ret ?_)
  (first | refine at_ret3 (ex := .ret) Try.func50 Try.results50 hQ (.inl rfl) rfl rfl rfl ?_ | refine at_ret3 (ex := .normal) Try.func50 Try.results50 hQ (.inr rfl) rfl rfl rfl ?_)
  exact ⟨s1, h1, rfl, rfl, rfl⟩


/-- ahead of a round of Put -/
def putInv (A : Acc B gv) (s : A.S) (r cb v num u : Nat) (F : List HProp) : Inv Unit B.X where
  e := fun _ => [(0, .pointer (some ⟨r, 0, none⟩)), (1, gv), (2, .int .u32 (u : Nat))]
  L := fun _ => A.C s :: arr r 0 [.pointer (some ⟨cb, 0, none⟩)] :: arr cb 0 [.int .u32 (v : Nat), .int .u64 (num : Nat)] :: shpC cb 158 2 :: F
  x := fun _ => A.x s
  ok := fun _ => True

theorem bput_tr (hn : num + 1 < 18446744073709551616) {s : A.S} {Q : A.S → Prop} (hq : A.step 1 0 s fun s => A.step 5 0 s Q) :
    Tr Try.prog B 49 [.pointer (some ⟨r, 0, none⟩), gv, .int .u32 (u : Nat)] (A.C s :: arr r 0 [.pointer (some ⟨cb, 0, none⟩)] :: arr cb 0 [.int .u32 (v : Nat), .int .u64 (num : Nat)] :: shpC cb 158 2 :: F) (A.x s) fun w L' x' => ∃ s' nb, Q s' ∧ w = .tuple #[.int .u64 ((num + 1 : Nat) : Int), .int .i64 0] ∧ L' = A.C s' :: arr r 0 [.pointer (some ⟨nb, 0, none⟩)] :: arr nb 0 [.int .u32 (u : Nat), .int .u64 (num + 1 : Nat)] :: shpC nb 158 2 :: F ∧ x' = A.x s' := by
  refine Tr.post (R := fun w L' x' => ∃ s' nb, Q s' ∧ w = .tuple #[.int .u64 ((num + 1 : Nat) : Int), .int .i64 0] ∧ x' = A.x s' ∧ ∀ h, Star L' h → Star (A.C s' :: arr r 0 [.pointer (some ⟨nb, 0, none⟩)] :: arr nb 0 [.int .u32 (u : Nat), .int .u64 (num + 1 : Nat)] :: shpC nb 158 2 :: F) h) ?_ (by rintro v L' x' ⟨s', nb, h1, rfl, rfl, hs⟩; exact ⟨_, ⟨s', nb, h1, rfl, rfl, rfl⟩, hs⟩)
  have a1 : IntKind.u64.wrap ((num : Int) + (1 : Int)) = ((num + 1 : Nat) : Int) := (wrap_u64 (by omega) (by omega)).trans (by omega)
  refine tr_of_body Try.func49 rfl Try.ntmps49 (by simp) fun um Q hQ => ?_
  simp only [argE, Nat.zero_add, Nat.reduceAdd]
  repeat (first
    | refine we_seq ?_
    | (refine we_region _ rfl rfl ?_; simp only [opsOf, List.map_cons, List.map_nil, Option.map_none, Option.map_some, List.getElem?_toArray, List.getElem?_cons_zero, List.getElem?_cons_succ, Option.bind_some, Option.getD_some])
    | refine wo_nil ?_
    | (apply wo_po; apply mo_move; exact rfl; (first | exact trivial | exact rfl))
    | (apply wo_po; apply mo_assign; exact rfl; (first | exact trivial | exact rfl))
    | refine we_scope ?_)
  refine wo_call (.cons rfl .nil) trivial (bthere_tr (.there (.row (k := 0) rfl rfl)) (fun h st => shp_of (.there (.there (.there .here))) st)) ?_
  rintro v1 L1 x1 ⟨rfl, rfl, rfl⟩
  repeat (first
    | refine we_seq ?_
    | refine wo_nil ?_
    | (apply wo_po; apply mo_not; exact rfl; (first | exact trivial | exact rfl))
    | (apply we_condF; exact rfl; (first | exact rfl | (simp <;> omega) | omega))
    | refine we_skip ?_
    | refine we_label ?_
    | refine we_block ?_)
  refine we_loopN (putInv A s r cb v num u F) (fun _ => 0) () trivial ⟨rfl, rfl, rfl, trivial⟩ .refl rfl ?_
  intro _ _
  dsimp only [putInv]
  repeat (first
    | refine we_seq ?_
    | (refine we_region _ rfl rfl ?_; simp only [opsOf, List.map_cons, List.map_nil, Option.map_none, Option.map_some, List.getElem?_toArray, List.getElem?_cons_zero, List.getElem?_cons_succ, Option.bind_some, Option.getD_some])
    | (apply wo_po; apply mo_move; exact rfl; (first | exact trivial | exact rfl))
    | refine we_block ?_)
  refine wo_call (.cons rfl (.cons rfl .nil)) trivial (step_tr hq .here) ?_
  rintro v1 L1 x1 ⟨s1, h1, rfl, rfl, rfl⟩
  repeat (first
    | refine we_seq ?_
    | (refine we_region _ rfl rfl ?_; simp only [opsOf, List.map_cons, List.map_nil, Option.map_none, Option.map_some, List.getElem?_toArray, List.getElem?_cons_zero, List.getElem?_cons_succ, Option.bind_some, Option.getD_some])
    | refine wo_nil ?_
    | (apply wo_po; apply mo_move; exact rfl; (first | exact trivial | exact rfl))
    | (apply wo_po; apply mo_nilCheck; exact rfl; (first | exact trivial | exact rfl))
    | (apply wo_po; apply mo_fieldAddr; exact rfl; exact rfl; (first | exact Nat.zero_add _ | exact rfl); (first | exact trivial | exact rfl)))
  refine wo_call (.cons rfl .nil) trivial (pload_tr (.there (.row (k := 0) rfl rfl)) (fun h st => shp_of (.there (.there (.there .here))) st)) ?_
  rintro v1 L1 x1 ⟨rfl, rfl, rfl⟩
  have q1 : Rd (A.C s1 :: arr r 0 [.pointer (some ⟨cb, 0, none⟩)] :: arr cb 0 [.int .u32 (v : Nat), .int .u64 (num : Nat)] :: shpC cb 158 2 :: F) cb 1 (.int .u64 (num : Nat)) := .there (.there (.row (k := 1) rfl rfl))
  repeat (first
    | (apply wo_po; apply mo_load; exact rfl; exact q1; exact trivial)
    | (apply wo_po; apply mo_bin; exact rfl; exact rfl; apply bin_add; exact a1; exact trivial)
    | (apply wo_po; apply mo_build (pv := [(0, _), (1, _)]); exact rfl; exact .cons rfl (.cons rfl .nil); exact rfl; exact trivial)
    | (apply wo_mo; apply mo_boxS; exact rfl; exact trivial)
    | refine we_seq ?_
    | (refine we_region _ rfl rfl ?_; simp only [opsOf, List.map_cons, List.map_nil, Option.map_none, Option.map_some, List.getElem?_toArray, List.getElem?_cons_zero, List.getElem?_cons_succ, Option.bind_some, Option.getD_some])
    | refine wo_nil ?_
    | (apply wo_po; apply mo_move; exact rfl; (first | exact trivial | exact rfl))
    | (apply wo_po; apply mo_assign; exact rfl; (first | exact trivial | exact rfl))
    | (apply wo_po; apply mo_nilCheck; exact rfl; (first | exact trivial | exact rfl))
    | (apply wo_po; apply mo_fieldAddr; exact rfl; exact rfl; (first | exact Nat.zero_add _ | exact rfl); (first | exact trivial | exact rfl)))
  rintro v' L' ⟨nb, rfl, rfl⟩
  refine wo_star (A.C s1 :: arr nb 0 [.int .u32 (u : Nat), .int .u64 ((num + 1 : Nat) : Int)] :: shpC nb 158 2 :: arr r 0 [.pointer (some ⟨cb, 0, none⟩)] :: arr cb 0 [.int .u32 (v : Nat), .int .u64 (num : Nat)] :: shpC cb 158 2 :: F) (fun h st => Ent.star (.take (.there (.there .here)) (.take .here (.take .here .refl))) st) ?_
  repeat (first
    | refine we_seq ?_
    | (refine we_region _ rfl rfl ?_; simp only [opsOf, List.map_cons, List.map_nil, Option.map_none, Option.map_some, List.getElem?_toArray, List.getElem?_cons_zero, List.getElem?_cons_succ, Option.bind_some, Option.getD_some])
    | refine wo_nil ?_
    | (apply wo_po; apply mo_move; exact rfl; (first | exact trivial | exact rfl))
    | (apply wo_po; apply mo_assign; exact rfl; (first | exact trivial | exact rfl)))
  refine wo_call (.cons rfl (.cons rfl .nil)) trivial (step_tr h1 .here) ?_
  rintro v1 L1 x1 ⟨s2, h2, rfl, rfl, rfl⟩
  repeat (first
    | refine we_seq ?_
    | (refine we_region _ rfl rfl ?_; simp only [opsOf, List.map_cons, List.map_nil, Option.map_none, Option.map_some, List.getElem?_toArray, List.getElem?_cons_zero, List.getElem?_cons_succ, Option.bind_some, Option.getD_some])
    | refine wo_nil ?_
    | (apply wo_po; apply mo_move; exact rfl; (first | exact trivial | exact rfl))
    | (apply wo_po; apply mo_nilCheck; exact rfl; (first | exact trivial | exact rfl))
    | (apply wo_po; apply mo_fieldAddr; exact rfl; exact rfl; (first | exact Nat.zero_add _ | exact rfl); (first | exact trivial | exact rfl)))
  refine wo_call (.cons rfl (.cons rfl (.cons rfl .nil))) trivial (pcas_tr (.there (.there (.there (.row (k := 0) rfl rfl)))) (Wt.row0 (k := 0) (.there (.there (.there .here))) (by simp)) (fun h st => shp_of (.there (.there (.there (.there (.there .here))))) st) (fun h st => shp_of (.there (.there .here)) st)) ?_
  rintro v1 L1 x1 ⟨rfl, rfl, rfl⟩
  have q2 : ∀ {c1 c2 : HProp} {F : List HProp}, Rd (c1 :: c2 :: arr nb 0 [.int .u32 (u : Nat), .int .u64 ((num + 1 : Nat) : Int)] :: F) nb 1 (.int .u64 ((num + 1 : Nat) : Int)) := fun {c1 c2 F} => .there (.there (.row (k := 1) rfl rfl))
  repeat (first
    | refine we_seq ?_
    | (refine we_region _ rfl rfl ?_; simp only [opsOf, List.map_cons, List.map_nil, Option.map_none, Option.map_some, List.getElem?_toArray, List.getElem?_cons_zero, List.getElem?_cons_succ, Option.bind_some, Option.getD_some])
    | refine wo_nil ?_
    | (apply wo_po; apply mo_move; exact rfl; (first | exact trivial | exact rfl))
    | (apply wo_po; apply mo_assign; exact rfl; (first | exact trivial | exact rfl))
    | (apply wo_po; apply mo_nilCheck; exact rfl; (first | exact trivial | exact rfl))
    | (apply wo_po; apply mo_fieldAddr; exact rfl; exact rfl; (first | exact Nat.zero_add _ | exact rfl); (first | exact trivial | exact rfl))
    | (apply wo_po; apply mo_not; exact rfl; (first | exact trivial | exact rfl))
    | (apply wo_po; apply mo_load; exact rfl; (repeat (first | exact Rd.row0 rfl | exact Rd.row rfl rfl | exact Rd.still | apply Rd.there)); (first | exact trivial | exact rfl))
    | (apply we_condF; exact rfl; (first | exact rfl | (simp <;> omega) | omega))
    | refine we_ret ?_
    | refine we_skip ?_)
  (first | refine at_ret2 (ex := .ret) Try.func49 Try.results49 hQ (.inl rfl) rfl rfl ?_ | refine at_ret2 (ex := .normal) Try.func49 Try.results49 hQ (.inr rfl) rfl rfl ?_)
  exact ⟨s2, nb, h2, rfl, rfl, fun h st => Ent.star (.take .here (.take (.there (.there .here)) (.take .here (.take .here (.drop (.drop .refl)))))) st⟩


theorem btry_yes (hn : num + 1 < 18446744073709551616) {s : A.S} {Q : A.S → Prop} (hq : A.step 1 0 s fun s => A.step 5 0 s Q) :
    Tr Try.prog B 71 [.pointer (some ⟨r, 0, none⟩), gv, .int .u64 (num : Nat), .int .u32 (u : Nat)] (A.C s :: arr r 0 [.pointer (some ⟨cb, 0, none⟩)] :: arr cb 0 [.int .u32 (v : Nat), .int .u64 (num : Nat)] :: shpC cb 158 2 :: F) (A.x s) fun w L' x' => ∃ s' nb, Q s' ∧ w = .tuple #[.bool true, .int .i64 0] ∧ L' = A.C s' :: arr r 0 [.pointer (some ⟨nb, 0, none⟩)] :: arr nb 0 [.int .u32 (u : Nat), .int .u64 (num + 1 : Nat)] :: shpC nb 158 2 :: F ∧ x' = A.x s' := by
  refine Tr.post (R := fun w L' x' => ∃ s' nb, Q s' ∧ w = .tuple #[.bool true, .int .i64 0] ∧ x' = A.x s' ∧ ∀ h, Star L' h → Star (A.C s' :: arr r 0 [.pointer (some ⟨nb, 0, none⟩)] :: arr nb 0 [.int .u32 (u : Nat), .int .u64 (num + 1 : Nat)] :: shpC nb 158 2 :: F) h) ?_ (by rintro v L' x' ⟨s', nb, h1, rfl, rfl, hs⟩; exact ⟨_, ⟨s', nb, h1, rfl, rfl, rfl⟩, hs⟩)
  have a1 : IntKind.u64.wrap ((num : Int) + (1 : Int)) = ((num + 1 : Nat) : Int) := (wrap_u64 (by omega) (by omega)).trans (by omega)
  refine tr_of_body Try.func71 rfl Try.ntmps71 (by simp) fun um Q hQ => ?_
  simp only [argE, Nat.zero_add, Nat.reduceAdd]
  repeat (first
    | refine we_seq ?_
    | (refine we_region _ rfl rfl ?_; simp only [opsOf, List.map_cons, List.map_nil, Option.map_none, Option.map_some, List.getElem?_toArray, List.getElem?_cons_zero, List.getElem?_cons_succ, Option.bind_some, Option.getD_some])
    | refine wo_nil ?_
    | (apply wo_po; apply mo_move; exact rfl; (first | exact trivial | exact rfl))
    | (apply wo_po; apply mo_assign; exact rfl; (first | exact trivial | exact rfl)))
  refine wo_call (.cons rfl .nil) trivial (bthere_tr (.there (.row (k := 0) rfl rfl)) (fun h st => shp_of (.there (.there (.there .here))) st)) ?_
  rintro v1 L1 x1 ⟨rfl, rfl, rfl⟩
  repeat (first
    | refine we_seq ?_
    | (refine we_region _ rfl rfl ?_; simp only [opsOf, List.map_cons, List.map_nil, Option.map_none, Option.map_some, List.getElem?_toArray, List.getElem?_cons_zero, List.getElem?_cons_succ, Option.bind_some, Option.getD_some])
    | refine wo_nil ?_
    | (apply wo_po; apply mo_move; exact rfl; (first | exact trivial | exact rfl))
    | (apply wo_po; apply mo_not; exact rfl; (first | exact trivial | exact rfl))
    | (apply we_condF; exact rfl; (first | exact rfl | (simp <;> omega) | omega))
    | refine we_skip ?_)
  refine wo_call (.cons rfl (.cons rfl .nil)) trivial (step_tr hq .here) ?_
  rintro v1 L1 x1 ⟨s1, h1, rfl, rfl, rfl⟩
  repeat (first
    | refine we_seq ?_
    | (refine we_region _ rfl rfl ?_; simp only [opsOf, List.map_cons, List.map_nil, Option.map_none, Option.map_some, List.getElem?_toArray, List.getElem?_cons_zero, List.getElem?_cons_succ, Option.bind_some, Option.getD_some])
    | refine wo_nil ?_
    | (apply wo_po; apply mo_move; exact rfl; (first | exact trivial | exact rfl))
    | (apply wo_po; apply mo_nilCheck; exact rfl; (first | exact trivial | exact rfl))
    | (apply wo_po; apply mo_fieldAddr; exact rfl; exact rfl; (first | exact Nat.zero_add _ | exact rfl); (first | exact trivial | exact rfl)))
  refine wo_call (.cons rfl .nil) trivial (pload_tr (.there (.row (k := 0) rfl rfl)) (fun h st => shp_of (.there (.there (.there .here))) st)) ?_
  rintro v1 L1 x1 ⟨rfl, rfl, rfl⟩
  have q1 : Rd (A.C s1 :: arr r 0 [.pointer (some ⟨cb, 0, none⟩)] :: arr cb 0 [.int .u32 (v : Nat), .int .u64 (num : Nat)] :: shpC cb 158 2 :: F) cb 1 (.int .u64 (num : Nat)) := .there (.there (.row (k := 1) rfl rfl))
  repeat (first
    | (apply wo_po; apply mo_load; exact rfl; exact q1; exact trivial)
    | (apply wo_po; apply mo_bin; exact rfl; exact rfl; apply bin_neqF; omega; (first | exact trivial | exact rfl))
    | refine we_seq ?_
    | (refine we_region _ rfl rfl ?_; simp only [opsOf, List.map_cons, List.map_nil, Option.map_none, Option.map_some, List.getElem?_toArray, List.getElem?_cons_zero, List.getElem?_cons_succ, Option.bind_some, Option.getD_some])
    | refine wo_nil ?_
    | (apply wo_po; apply mo_move; exact rfl; (first | exact trivial | exact rfl))
    | (apply wo_po; apply mo_assign; exact rfl; (first | exact trivial | exact rfl))
    | (apply wo_po; apply mo_nilCheck; exact rfl; (first | exact trivial | exact rfl))
    | (apply wo_po; apply mo_fieldAddr; exact rfl; exact rfl; (first | exact Nat.zero_add _ | exact rfl); (first | exact trivial | exact rfl))
    | (apply we_condF; exact rfl; (first | exact rfl | (simp <;> omega) | omega))
    | refine we_skip ?_)
  refine wo_call (.cons rfl (.cons rfl .nil)) trivial (step_tr h1 .here) ?_
  rintro v1 L1 x1 ⟨s2, h2, rfl, rfl, rfl⟩
  repeat (first
    | (apply wo_po; apply mo_bin; exact rfl; exact rfl; apply bin_add; exact a1; exact trivial)
    | (apply wo_po; apply mo_build (pv := [(0, _), (1, _)]); exact rfl; exact .cons rfl (.cons rfl .nil); exact rfl; exact trivial)
    | (apply wo_mo; apply mo_boxS; exact rfl; exact trivial)
    | refine we_seq ?_
    | (refine we_region _ rfl rfl ?_; simp only [opsOf, List.map_cons, List.map_nil, Option.map_none, Option.map_some, List.getElem?_toArray, List.getElem?_cons_zero, List.getElem?_cons_succ, Option.bind_some, Option.getD_some])
    | refine wo_nil ?_
    | (apply wo_po; apply mo_move; exact rfl; (first | exact trivial | exact rfl))
    | (apply wo_po; apply mo_nilCheck; exact rfl; (first | exact trivial | exact rfl))
    | (apply wo_po; apply mo_fieldAddr; exact rfl; exact rfl; (first | exact Nat.zero_add _ | exact rfl); (first | exact trivial | exact rfl)))
  rintro v' L' ⟨nb, rfl, rfl⟩
  refine wo_star (A.C s2 :: arr nb 0 [.int .u32 (u : Nat), .int .u64 ((num + 1 : Nat) : Int)] :: shpC nb 158 2 :: arr r 0 [.pointer (some ⟨cb, 0, none⟩)] :: arr cb 0 [.int .u32 (v : Nat), .int .u64 (num : Nat)] :: shpC cb 158 2 :: F) (fun h st => Ent.star (.take (.there (.there .here)) (.take .here (.take .here .refl))) st) ?_
  skip
  refine wo_call (.cons rfl (.cons rfl (.cons rfl .nil))) trivial (pcas_tr (.there (.there (.there (.row (k := 0) rfl rfl)))) (Wt.row0 (k := 0) (.there (.there (.there .here))) (by simp)) (fun h st => shp_of (.there (.there (.there (.there (.there .here))))) st) (fun h st => shp_of (.there (.there .here)) st)) ?_
  rintro v1 L1 x1 ⟨rfl, rfl, rfl⟩
  repeat (first
    | refine wo_nil ?_
    | (apply wo_po; apply mo_assign; exact rfl; (first | exact trivial | exact rfl))
    | refine we_ret ?_)
  (first | refine at_ret2 (ex := .ret) Try.func71 Try.results71 hQ (.inl rfl) rfl rfl ?_ | refine at_ret2 (ex := .normal) Try.func71 Try.results71 hQ (.inr rfl) rfl rfl ?_)
  exact ⟨s2, nb, h2, rfl, rfl, fun h st => Ent.star (.take .here (.take (.there (.there .here)) (.take .here (.take .here (.drop (.drop .refl)))))) st⟩

theorem btry_no {n : Nat} (hn : ¬ num = n) {s : A.S} {Q : A.S → Prop} (hq : A.step 1 0 s Q) :
    Tr Try.prog B 71 [.pointer (some ⟨r, 0, none⟩), gv, .int .u64 (n : Nat), .int .u32 (u : Nat)] (A.C s :: arr r 0 [.pointer (some ⟨cb, 0, none⟩)] :: arr cb 0 [.int .u32 (v : Nat), .int .u64 (num : Nat)] :: shpC cb 158 2 :: F) (A.x s) fun w L' x' => ∃ s', Q s' ∧ w = .tuple #[.bool false, .int .i64 0] ∧ L' = A.C s' :: arr r 0 [.pointer (some ⟨cb, 0, none⟩)] :: arr cb 0 [.int .u32 (v : Nat), .int .u64 (num : Nat)] :: shpC cb 158 2 :: F ∧ x' = A.x s' := by
  refine tr_of_body Try.func71 rfl Try.ntmps71 (by simp) fun um Q hQ => ?_
  simp only [argE, Nat.zero_add, Nat.reduceAdd]
  repeat (first
    | refine we_seq ?_
    | (refine we_region _ rfl rfl ?_; simp only [opsOf, List.map_cons, List.map_nil, Option.map_none, Option.map_some, List.getElem?_toArray, List.getElem?_cons_zero, List.getElem?_cons_succ, Option.bind_some, Option.getD_some])
    | refine wo_nil ?_
    | (apply wo_po; apply mo_move; exact rfl; (first | exact trivial | exact rfl))
    | (apply wo_po; apply mo_assign; exact rfl; (first | exact trivial | exact rfl)))
  refine wo_call (.cons rfl .nil) trivial (bthere_tr (.there (.row (k := 0) rfl rfl)) (fun h st => shp_of (.there (.there (.there .here))) st)) ?_
  rintro v1 L1 x1 ⟨rfl, rfl, rfl⟩
  repeat (first
    | refine we_seq ?_
    | (refine we_region _ rfl rfl ?_; simp only [opsOf, List.map_cons, List.map_nil, Option.map_none, Option.map_some, List.getElem?_toArray, List.getElem?_cons_zero, List.getElem?_cons_succ, Option.bind_some, Option.getD_some])
    | refine wo_nil ?_
    | (apply wo_po; apply mo_move; exact rfl; (first | exact trivial | exact rfl))
    | (apply wo_po; apply mo_not; exact rfl; (first | exact trivial | exact rfl))
    | (apply we_condF; exact rfl; (first | exact rfl | (simp <;> omega) | omega))
    | refine we_skip ?_)
  refine wo_call (.cons rfl (.cons rfl .nil)) trivial (step_tr hq .here) ?_
  rintro v1 L1 x1 ⟨s1, h1, rfl, rfl, rfl⟩
  repeat (first
    | refine we_seq ?_
    | (refine we_region _ rfl rfl ?_; simp only [opsOf, List.map_cons, List.map_nil, Option.map_none, Option.map_some, List.getElem?_toArray, List.getElem?_cons_zero, List.getElem?_cons_succ, Option.bind_some, Option.getD_some])
    | refine wo_nil ?_
    | (apply wo_po; apply mo_move; exact rfl; (first | exact trivial | exact rfl))
    | (apply wo_po; apply mo_nilCheck; exact rfl; (first | exact trivial | exact rfl))
    | (apply wo_po; apply mo_fieldAddr; exact rfl; exact rfl; (first | exact Nat.zero_add _ | exact rfl); (first | exact trivial | exact rfl)))
  refine wo_call (.cons rfl .nil) trivial (pload_tr (.there (.row (k := 0) rfl rfl)) (fun h st => shp_of (.there (.there (.there .here))) st)) ?_
  rintro v1 L1 x1 ⟨rfl, rfl, rfl⟩
  have q1 : Rd (A.C s1 :: arr r 0 [.pointer (some ⟨cb, 0, none⟩)] :: arr cb 0 [.int .u32 (v : Nat), .int .u64 (num : Nat)] :: shpC cb 158 2 :: F) cb 1 (.int .u64 (num : Nat)) := .there (.there (.row (k := 1) rfl rfl))
  repeat (first
    | (apply wo_po; apply mo_load; exact rfl; exact q1; exact trivial)
    | (apply wo_po; apply mo_bin; exact rfl; exact rfl; apply bin_neqT; omega; (first | exact trivial | exact rfl))
    | refine we_seq ?_
    | (refine we_region _ rfl rfl ?_; simp only [opsOf, List.map_cons, List.map_nil, Option.map_none, Option.map_some, List.getElem?_toArray, List.getElem?_cons_zero, List.getElem?_cons_succ, Option.bind_some, Option.getD_some])
    | refine wo_nil ?_
    | (apply wo_po; apply mo_move; exact rfl; (first | exact trivial | exact rfl))
    | (apply wo_po; apply mo_assign; exact rfl; (first | exact trivial | exact rfl))
    | (apply wo_po; apply mo_nilCheck; exact rfl; (first | exact trivial | exact rfl))
    | (apply wo_po; apply mo_fieldAddr; exact rfl; exact rfl; (first | exact Nat.zero_add _ | exact rfl); (first | exact trivial | exact rfl))
    | (apply we_condT; exact rfl; (first | exact rfl | (simp <;> omega) | omega))
    | refine we_ret ?_)
  (first | refine at_ret2 (ex := .ret) Try.func71 Try.results71 hQ (.inl rfl) rfl rfl ?_ | refine at_ret2 (ex := .normal) Try.func71 Try.results71 hQ (.inr rfl) rfl rfl ?_)
  exact ⟨s1, h1, rfl, rfl, rfl⟩


theorem newc_tr (hv : v < 18446744073709551616) : Tr Try.prog B 31 [.int .u64 (v : Nat)] L x fun w L' x' => ∃ r, w = .pointer (some ⟨r, 0, none⟩) ∧ L' = arr r 0 [.bool true, .int .u64 (v : Nat)] :: L ∧ x' = x := by
  refine tr_of_body Try.func31 rfl Try.ntmps31 (by simp) fun um Q hQ => ?_
  simp only [argE, Nat.zero_add, Nat.reduceAdd]
  repeat (first
    | (apply wo_po; apply mo_build (pv := [(0, _)]); exact rfl; exact .cons rfl .nil; exact rfl; exact trivial)
    | (apply wo_mo; apply mo_box; exact rfl; exact trivial)
    | refine we_seq ?_
    | (refine we_region _ rfl rfl ?_; simp only [opsOf, List.map_cons, List.map_nil, Option.map_none, Option.map_some, List.getElem?_toArray, List.getElem?_cons_zero, List.getElem?_cons_succ, Option.bind_some, Option.getD_some])
    | refine wo_nil ?_
    | (apply wo_po; apply mo_assign; exact rfl; (first | exact trivial | exact rfl)))
  rintro v' L' ⟨r, rfl, rfl⟩
  refine wo_ent (arr r 0 [.bool true, .int .u64 0] :: L) .refl ?_
  repeat (first
    | refine we_seq ?_
    | (refine we_region _ rfl rfl ?_; simp only [opsOf, List.map_cons, List.map_nil, Option.map_none, Option.map_some, List.getElem?_toArray, List.getElem?_cons_zero, List.getElem?_cons_succ, Option.bind_some, Option.getD_some])
    | refine wo_nil ?_
    | (apply wo_po; apply mo_move; exact rfl; (first | exact trivial | exact rfl))
    | (apply wo_po; apply mo_assign; exact rfl; (first | exact trivial | exact rfl))
    | (apply wo_po; apply mo_nilCheck; exact rfl; (first | exact trivial | exact rfl))
    | (apply wo_po; apply mo_fieldAddr; exact rfl; exact rfl; (first | exact Nat.zero_add _ | exact rfl); (first | exact trivial | exact rfl)))
  refine wo_call (.cons rfl (.cons rfl .nil)) trivial (store_lone (Wt.row0 (k := 1) .here (by simp))) ?_
  rintro v1 L1 x1 ⟨rfl, rfl, rfl⟩
  repeat (first
    | refine we_seq ?_
    | (refine we_region _ rfl rfl ?_; simp only [opsOf, List.map_cons, List.map_nil, Option.map_none, Option.map_some, List.getElem?_toArray, List.getElem?_cons_zero, List.getElem?_cons_succ, Option.bind_some, Option.getD_some])
    | refine wo_nil ?_
    | (apply wo_po; apply mo_move; exact rfl; (first | exact trivial | exact rfl))
    | (apply wo_po; apply mo_assign; exact rfl; (first | exact trivial | exact rfl))
    | refine we_ret ?_)
  (first | refine at_ret1 (ex := .ret) Try.func31 Try.results31 hQ (.inl rfl) rfl ?_ | refine at_ret1 (ex := .normal) Try.func31 Try.results31 hQ (.inr rfl) rfl ?_)
  exact ⟨r, rfl, rfl, rfl⟩


theorem newf_tr : Tr Try.prog B 32 [] L x fun w L' x' => ∃ r, w = .pointer (some ⟨r, 0, none⟩) ∧ L' = arr r 0 [.bool true, .int .u64 0] :: L ∧ x' = x := by
  refine tr_of_body Try.func32 rfl Try.ntmps32 (by simp) fun um Q hQ => ?_
  simp only [argE, Nat.zero_add, Nat.reduceAdd]
  repeat (first
    | (apply wo_po; apply mo_build (pv := [(0, _)]); exact rfl; exact .cons rfl .nil; exact rfl; exact trivial)
    | (apply wo_mo; apply mo_box; exact rfl; exact trivial)
    | refine we_seq ?_
    | (refine we_region _ rfl rfl ?_; simp only [opsOf, List.map_cons, List.map_nil, Option.map_none, Option.map_some, List.getElem?_toArray, List.getElem?_cons_zero, List.getElem?_cons_succ, Option.bind_some, Option.getD_some])
    | refine wo_nil ?_
    | (apply wo_po; apply mo_assign; exact rfl; (first | exact trivial | exact rfl)))
  rintro v' L' ⟨r, rfl, rfl⟩
  repeat (first
    | refine wo_nil ?_
    | (apply wo_po; apply mo_assign; exact rfl; (first | exact trivial | exact rfl))
    | refine we_ret ?_)
  (first | refine at_ret1 (ex := .ret) Try.func32 Try.results32 hQ (.inl rfl) rfl ?_ | refine at_ret1 (ex := .normal) Try.func32 Try.results32 hQ (.inr rfl) rfl ?_)
  exact ⟨r, rfl, rfl, rfl⟩


theorem newb_tr : Tr Try.prog B 33 [.int .u32 (v : Nat)] L x fun w L' x' => ∃ r cb, w = .pointer (some ⟨r, 0, none⟩) ∧ L' = arr r 0 [.pointer (some ⟨cb, 0, none⟩)] :: arr cb 0 [.int .u32 (v : Nat), .int .u64 (0 : Nat)] :: shpC cb 158 2 :: L ∧ x' = x := by
  refine tr_of_body Try.func33 rfl Try.ntmps33 (by simp) fun um Q hQ => ?_
  simp only [argE, Nat.zero_add, Nat.reduceAdd]
  repeat (first
    | (apply wo_po; apply mo_build (pv := []); exact rfl; exact .nil; exact rfl; exact trivial)
    | (apply wo_mo; apply mo_box; exact rfl; exact trivial)
    | refine we_seq ?_
    | (refine we_region _ rfl rfl ?_; simp only [opsOf, List.map_cons, List.map_nil, Option.map_none, Option.map_some, List.getElem?_toArray, List.getElem?_cons_zero, List.getElem?_cons_succ, Option.bind_some, Option.getD_some])
    | refine wo_nil ?_
    | (apply wo_po; apply mo_assign; exact rfl; (first | exact trivial | exact rfl)))
  rintro v' L' ⟨r, rfl, rfl⟩
  refine wo_ent (arr r 0 [.pointer none] :: L) .refl ?_
  repeat (first
    | (apply wo_po; apply mo_build (pv := [(0, _)]); exact rfl; exact .cons rfl .nil; exact rfl; exact trivial)
    | (apply wo_mo; apply mo_boxS; exact rfl; exact trivial)
    | refine we_seq ?_
    | (refine we_region _ rfl rfl ?_; simp only [opsOf, List.map_cons, List.map_nil, Option.map_none, Option.map_some, List.getElem?_toArray, List.getElem?_cons_zero, List.getElem?_cons_succ, Option.bind_some, Option.getD_some])
    | refine wo_nil ?_
    | (apply wo_po; apply mo_move; exact rfl; (first | exact trivial | exact rfl))
    | (apply wo_po; apply mo_assign; exact rfl; (first | exact trivial | exact rfl))
    | (apply wo_po; apply mo_nilCheck; exact rfl; (first | exact trivial | exact rfl))
    | (apply wo_po; apply mo_fieldAddr; exact rfl; exact rfl; (first | exact Nat.zero_add _ | exact rfl); (first | exact trivial | exact rfl)))
  rintro v' L' ⟨cb, rfl, rfl⟩
  refine wo_star (arr r 0 [.pointer none] :: arr cb 0 [.int .u32 (v : Nat), .int .u64 (0 : Nat)] :: shpC cb 158 2 :: L) (fun h st => Ent.star (.take (.there (.there .here)) (.take .here (.take .here .refl))) st) ?_
  skip
  refine wo_call (.cons rfl (.cons rfl .nil)) trivial (pstore_tr (Wt.row0 (k := 0) .here (by simp)) (fun h st => shp_of (.there (.there .here)) st)) ?_
  rintro v1 L1 x1 ⟨rfl, rfl, rfl⟩
  repeat (first
    | refine we_seq ?_
    | (refine we_region _ rfl rfl ?_; simp only [opsOf, List.map_cons, List.map_nil, Option.map_none, Option.map_some, List.getElem?_toArray, List.getElem?_cons_zero, List.getElem?_cons_succ, Option.bind_some, Option.getD_some])
    | refine wo_nil ?_
    | (apply wo_po; apply mo_move; exact rfl; (first | exact trivial | exact rfl))
    | (apply wo_po; apply mo_assign; exact rfl; (first | exact trivial | exact rfl))
    | refine we_ret ?_)
  (first | refine at_ret1 (ex := .ret) Try.func33 Try.results33 hQ (.inl rfl) rfl ?_ | refine at_ret1 (ex := .normal) Try.func33 Try.results33 hQ (.inr rfl) rfl ?_)
  exact ⟨r, cb, rfl, rfl, rfl⟩


theorem made_tr (hv : c < 18446744073709551616) : Tr Try.prog B 7 [.int .u64 (c : Nat), .int .u32 (v : Nat)] L x fun w L' x' => ∃ cr fr r cb, w = .agg #[.pointer (some ⟨cr, 0, none⟩), .pointer (some ⟨fr, 0, none⟩), .pointer (some ⟨r, 0, none⟩)] ∧ L' = arr r 0 [.pointer (some ⟨cb, 0, none⟩)] :: arr cb 0 [.int .u32 (v : Nat), .int .u64 (0 : Nat)] :: shpC cb 158 2 :: arr fr 0 [.bool true, .int .u64 0] :: arr cr 0 [.bool true, .int .u64 (c : Nat)] :: L ∧ x' = x := by
  refine Tr.post (R := fun w L' x' => ∃ cr fr r cb, w = .agg #[.pointer (some ⟨cr, 0, none⟩), .pointer (some ⟨fr, 0, none⟩), .pointer (some ⟨r, 0, none⟩)] ∧ x' = x ∧ ∀ h, Star L' h → Star (arr r 0 [.pointer (some ⟨cb, 0, none⟩)] :: arr cb 0 [.int .u32 (v : Nat), .int .u64 (0 : Nat)] :: shpC cb 158 2 :: arr fr 0 [.bool true, .int .u64 0] :: arr cr 0 [.bool true, .int .u64 (c : Nat)] :: L) h) ?_ (by rintro w L' x' ⟨cr, fr, r, cb, rfl, rfl, hs⟩; exact ⟨_, ⟨cr, fr, r, cb, rfl, rfl, rfl⟩, hs⟩)
  refine tr_of_body Try.func7 rfl Try.ntmps7 (by simp) fun um Q hQ => ?_
  simp only [argE, Nat.zero_add, Nat.reduceAdd]
  repeat (first
    | (apply wo_mo; apply mo_alloc; exact trivial)
    | refine we_seq ?_
    | (refine we_region _ rfl rfl ?_; simp only [opsOf, List.map_cons, List.map_nil, Option.map_none, Option.map_some, List.getElem?_toArray, List.getElem?_cons_zero, List.getElem?_cons_succ, Option.bind_some, Option.getD_some]))
  rintro v' L' ⟨zb, rfl, rfl⟩
  repeat (first
    | refine we_seq ?_
    | (refine we_region _ rfl rfl ?_; simp only [opsOf, List.map_cons, List.map_nil, Option.map_none, Option.map_some, List.getElem?_toArray, List.getElem?_cons_zero, List.getElem?_cons_succ, Option.bind_some, Option.getD_some])
    | refine wo_nil ?_
    | (apply wo_po; apply mo_move; exact rfl; (first | exact trivial | exact rfl)))
  refine wo_call (.cons rfl .nil) trivial (newc_tr hv) ?_
  rintro v1 L1 x1 ⟨cr, rfl, rfl, rfl⟩
  skip
  refine wo_call .nil trivial newf_tr ?_
  rintro v1 L1 x1 ⟨fr, rfl, rfl, rfl⟩
  repeat (first
    | (apply wo_po; apply mo_move; exact rfl; (first | exact trivial | exact rfl)))
  refine wo_call (.cons rfl .nil) trivial newb_tr ?_
  rintro v1 L1 x1 ⟨r, cb, rfl, rfl, rfl⟩
  repeat (first
    | (apply wo_po; apply mo_build (pv := [(0, _), (1, _), (2, _)]); exact rfl; exact .cons rfl (.cons rfl (.cons rfl .nil)); exact rfl; exact trivial)
    | (apply wo_pm; apply mo_storeA (b := zb) (c := 0) (k := 0) (a := 0) (vs := [.pointer none, .pointer none, .pointer none]); exact rfl; exact rfl; exact rfl; (intro w hw; simp [Value.cells] at hw; rcases hw with rfl | rfl | rfl <;> rfl); exact rfl; exact Nat.le_refl 3; exact (.there (.there (.there (.there (.there .here))))); exact trivial)
    | refine wo_nil ?_
    | refine we_ret ?_)
  refine at_leaveM (rs := [.cell 4 31]) Try.func7 Try.results7 hQ (.inl rfl) (.cons (.cell (vs := [.pointer (some ⟨cr, 0, none⟩), .pointer (some ⟨fr, 0, none⟩), .pointer (some ⟨r, 0, none⟩)]) rfl rfl (Rds.all (.there (.there (.there (.there (.there .here))))))) .nil) ?_
  exact ⟨cr, fr, r, cb, rfl, rfl, fun h st => Ent.star (.take .here (.take .here (.take .here (.take .here (.take .here (.drop .refl)))))) st⟩
end
end Go.Proofs.Ytkgnkloonamheaa
