/-
  sync.WaitGroup's Add(1) AND Wait, as a starter of threads that take turns calls them.
-/
import Derived.Test.YtabbkjciifnehaaPz
import Derived.Test.YtabbkjciifnehaaFp
import Derived.Test.YtabbkjciifnehaaTy
set_option linter.unusedVariables false
set_option linter.unusedSimpArgs false
namespace Go.Proofs.Ytabbkjciifnehaa
open Go Go.PB
attribute [local irreducible] Mo Bin Eql Tr Wo Ap Wle
attribute [local instance] Pass.of_no

instance {P : Program} {t e : Nat} [p : PtT P t e] : Und P t (.pointer e) := ⟨p.ok⟩
/-- the starter's handler -/
abbrev mH (cv : Value) : Hand := mHand Try.prog cv 54 87

/-- nobody is in a bubble -/
theorem mo_noBubble {P : Program} {e : Env} {L : List HProp} {f : Nat} {tys : Array TypeId} {ty : TypeId} [x : Exn P f (fun _ => (pure (.bool false) : Sem Value))] : Mo P e (.call ⟨.value (.func f), #[], tys⟩) ty L fun v' L' => v' = .bool false ∧ L' = L :=
  mo_ext (en := fun _ => (pure (.bool false) : Sem Value)) (args := []) (vs := []) .nil fun _ _ _ _ st q => q _ _ _ ⟨rfl, rfl⟩ st

/-- a deferred race.Enable, then the end -/
theorem at_enable {cv : Value} {X : GX} {n : Nat} {e : Env} {L : List HProp} {f : FuncId} {fn : Func} {um : FrameMode} {Q : PB.End → FrameMode → Hp → MX → Prop} {R : Value → List HProp → MX → Prop} {ex : Ex} {g : Nat} [xn : Exn Try.prog g (fun _ => (do mark .enable; pure Extern.Race.none_ : Sem Value))]
    (hf : Try.prog.funcs[f]? = some fn) (hr : fn.results = #[]) (hQ : ∀ v L' x' h', R v L' x' → Star L' h' → Q (.ret v) um h' x') (hex : ex = .ret ∨ ex = .normal) (hd : X.deaf = true) (hR : R (.tuple #[]) L (.game { X with deaf := false })) :
    At n e L fun t h => leave Try.prog (mH cv) f .normal Q ex t ⟨[{ target := .fn (.func g) [].toArray, args := ([] ++ [] : List Value).toArray }], um⟩ h (.game X) := by
  intro t h a1 a2 a3
  have key : Wd Try.prog (mH cv) f .normal .returning t ⟨[{ target := .fn (.func g) [].toArray, args := ([] ++ [] : List Value).toArray }], um⟩ h (.game X) Q := by
    refine wd_late rfl fun O hO => ⟨X, rfl, hd, ?_, hO _ _ ?_⟩
    · exact says_enable
    · have := at_ret0 (kd := .normal) (n := n) (e := e) (L := L) (B := mH cv) (x := .game { X with deaf := false }) hf hr hQ (.inl rfl : Ex.ret = .ret ∨ Ex.ret = .normal) hR
      exact this t h a1 a2 a3
  rcases hex with rfl | rfl
  · exact key
  · exact key

section
variable {cv : Value} {X : GX} {L F : List HProp}

theorem uAdd_tr (p : X.wt = .play) (h1 : X.ad < 1000) (h2 : X.ad = X.seats.length) (tk : X.tok.isSome = true) (hd : X.deaf = true) :
    Tr Try.prog (mH cv) 79 [.pointer (some ⟨X.wg, 0, none⟩), .int .u64 4294967296] L (.game X) fun v L' x' => ∃ m : Nat, m ≤ X.ad ∧ v = .int .u64 ((m + 1 : Nat) * kk) ∧ L' = L ∧ x' = .game { X with ad := X.ad + 1 } := by
  refine tr_of_body Try.func79 rfl Try.ntmps79 (by simp) fun um Q _ hQ => ?_
  simp only [argE, Nat.zero_add, Nat.reduceAdd]
  repeat (first
    | refine we_seq ?_
    | (refine we_region _ rfl rfl ?_; simp only [opsOf, List.map_cons, List.map_nil, Option.map_none, Option.map_some, List.getElem?_toArray, List.getElem?_cons_zero, List.getElem?_cons_succ, Option.bind_some, Option.getD_some])
    | refine wo_nil ?_
    | (apply wo_po; apply mo_move; exact rfl; (first | exact trivial | exact rfl))
    | (apply wo_po; apply mo_assign; exact rfl; (first | exact trivial | exact rfl))
    | (apply wo_po; apply mo_nilCheck; exact rfl; (first | exact trivial | exact rfl))
    | (apply wo_po; apply mo_fieldAddr; exact rfl; exact rfl; (first | exact Nat.zero_add _ | exact rfl); (first | exact trivial | exact rfl)))
  refine wo_add rfl rfl p h1 h2 tk hd trivial (by decide) fun m hm => ?_
  repeat (first
    | refine wo_nil ?_
    | (apply wo_po; apply mo_assign; exact rfl; (first | exact trivial | exact rfl))
    | refine we_ret ?_)
  (first | refine at_ret1 (ex := .ret) Try.func79 Try.results79 hQ (.inl rfl) rfl ?_ | refine at_ret1 (ex := .normal) Try.func79 Try.results79 hQ (.inr rfl) rfl ?_)
  exact ⟨m, hm, rfl, rfl, rfl⟩

theorem uLook_tr (b : Nat) (p : X.wt = .wait b ∨ (X.wt = .play ∧ b = X.ad ∧ X.ad = X.seats.length ∧ ∀ s ∈ X.seats, s.closed)) (hd : X.deaf = true) :
    Tr Try.prog (mH cv) 66 [.pointer (some ⟨X.wg, 0, none⟩)] L (.game X) fun v L' x' => L' = L ∧ ((∃ m : Nat, 0 < m ∧ m ≤ b ∧ v = .int .u64 (m * kk) ∧ x' = .game { X with wt := .seen m }) ∨ (v = .int .u64 0 ∧ x' = .game { X with wt := .zero })) := by
  refine tr_of_body Try.func66 rfl Try.ntmps66 (by simp) fun um Q _ hQ => ?_
  simp only [argE, Nat.zero_add, Nat.reduceAdd]
  repeat (first
    | refine we_seq ?_
    | (refine we_region _ rfl rfl ?_; simp only [opsOf, List.map_cons, List.map_nil, Option.map_none, Option.map_some, List.getElem?_toArray, List.getElem?_cons_zero, List.getElem?_cons_succ, Option.bind_some, Option.getD_some])
    | refine wo_nil ?_
    | (apply wo_po; apply mo_move; exact rfl; (first | exact trivial | exact rfl))
    | (apply wo_po; apply mo_assign; exact rfl; (first | exact trivial | exact rfl))
    | (apply wo_po; apply mo_nilCheck; exact rfl; (first | exact trivial | exact rfl))
    | (apply wo_po; apply mo_fieldAddr; exact rfl; exact rfl; (first | exact Nat.zero_add _ | exact rfl); (first | exact trivial | exact rfl)))
  refine wo_look b rfl p hd trivial (by decide) (fun m h1 h2 => ?_) ?_
  · repeat (first
      | refine wo_nil ?_
      | (apply wo_po; apply mo_assign; exact rfl; (first | exact trivial | exact rfl))
      | refine we_ret ?_)
    (first | refine at_ret1 (ex := .ret) Try.func66 Try.results66 hQ (.inl rfl) rfl ?_ | refine at_ret1 (ex := .normal) Try.func66 Try.results66 hQ (.inr rfl) rfl ?_)
    exact ⟨rfl, .inl ⟨m, h1, h2, rfl, rfl⟩⟩
  · repeat (first
      | refine wo_nil ?_
      | (apply wo_po; apply mo_assign; exact rfl; (first | exact trivial | exact rfl))
      | refine we_ret ?_)
    (first | refine at_ret1 (ex := .ret) Try.func66 Try.results66 hQ (.inl rfl) rfl ?_ | refine at_ret1 (ex := .normal) Try.func66 Try.results66 hQ (.inr rfl) rfl ?_)
    exact ⟨rfl, .inr ⟨rfl, rfl⟩⟩

theorem uLast_tr (p : X.wt = .woken) (hd : X.deaf = true) :
    Tr Try.prog (mH cv) 66 [.pointer (some ⟨X.wg, 0, none⟩)] L (.game X) fun v L' x' => L' = L ∧ v = .int .u64 0 ∧ x' = .game { X with wt := .zero } := by
  refine tr_of_body Try.func66 rfl Try.ntmps66 (by simp) fun um Q _ hQ => ?_
  simp only [argE, Nat.zero_add, Nat.reduceAdd]
  repeat (first
    | refine we_seq ?_
    | (refine we_region _ rfl rfl ?_; simp only [opsOf, List.map_cons, List.map_nil, Option.map_none, Option.map_some, List.getElem?_toArray, List.getElem?_cons_zero, List.getElem?_cons_succ, Option.bind_some, Option.getD_some])
    | refine wo_nil ?_
    | (apply wo_po; apply mo_move; exact rfl; (first | exact trivial | exact rfl))
    | (apply wo_po; apply mo_assign; exact rfl; (first | exact trivial | exact rfl))
    | (apply wo_po; apply mo_nilCheck; exact rfl; (first | exact trivial | exact rfl))
    | (apply wo_po; apply mo_fieldAddr; exact rfl; exact rfl; (first | exact Nat.zero_add _ | exact rfl); (first | exact trivial | exact rfl)))
  refine wo_last rfl p hd trivial (by decide) ?_
  repeat (first
    | refine wo_nil ?_
    | (apply wo_po; apply mo_assign; exact rfl; (first | exact trivial | exact rfl))
    | refine we_ret ?_)
  (first | refine at_ret1 (ex := .ret) Try.func66 Try.results66 hQ (.inl rfl) rfl ?_ | refine at_ret1 (ex := .normal) Try.func66 Try.results66 hQ (.inr rfl) rfl ?_)
  exact ⟨rfl, rfl, rfl⟩

theorem uSwap_tr {v : Nat} (hv : 0 < v) (p : X.wt = .seen v) (hd : X.deaf = true) :
    Tr Try.prog (mH cv) 70 [.pointer (some ⟨X.wg, 0, none⟩), .int .u64 (v * kk), .int .u64 (v * kk + 1)] L (.game X) fun w L' x' => L' = L ∧ ((w = .bool true ∧ x' = .game { X with wt := .parked }) ∨ ∃ b, b < v ∧ w = .bool false ∧ x' = .game { X with wt := .wait b }) := by
  refine tr_of_body Try.func70 rfl Try.ntmps70 (by simp) fun um Q _ hQ => ?_
  simp only [argE, Nat.zero_add, Nat.reduceAdd]
  repeat (first
    | refine we_seq ?_
    | (refine we_region _ rfl rfl ?_; simp only [opsOf, List.map_cons, List.map_nil, Option.map_none, Option.map_some, List.getElem?_toArray, List.getElem?_cons_zero, List.getElem?_cons_succ, Option.bind_some, Option.getD_some])
    | refine wo_nil ?_
    | (apply wo_po; apply mo_move; exact rfl; (first | exact trivial | exact rfl))
    | (apply wo_po; apply mo_assign; exact rfl; (first | exact trivial | exact rfl))
    | (apply wo_po; apply mo_nilCheck; exact rfl; (first | exact trivial | exact rfl))
    | (apply wo_po; apply mo_fieldAddr; exact rfl; exact rfl; (first | exact Nat.zero_add _ | exact rfl); (first | exact trivial | exact rfl)))
  refine wo_swap rfl rfl rfl hv p hd trivial (by decide) ?_ fun b hb => ?_
  · repeat (first
      | refine wo_nil ?_
      | (apply wo_po; apply mo_assign; exact rfl; (first | exact trivial | exact rfl))
      | refine we_ret ?_)
    (first | refine at_ret1 (ex := .ret) Try.func70 Try.results70 hQ (.inl rfl) rfl ?_ | refine at_ret1 (ex := .normal) Try.func70 Try.results70 hQ (.inr rfl) rfl ?_)
    exact ⟨rfl, .inl ⟨rfl, rfl⟩⟩
  · repeat (first
      | refine wo_nil ?_
      | (apply wo_po; apply mo_assign; exact rfl; (first | exact trivial | exact rfl))
      | refine we_ret ?_)
    (first | refine at_ret1 (ex := .ret) Try.func70 Try.results70 hQ (.inl rfl) rfl ?_ | refine at_ret1 (ex := .normal) Try.func70 Try.results70 hQ (.inr rfl) rfl ?_)
    exact ⟨rfl, .inr ⟨b, hb, rfl, rfl⟩⟩

/-- the group's word, taken apart -/
theorem kk_bits {m : Nat} (h : m < 1002) : IntKind.u64.wrap (BitVec.ofInt IntKind.u64.bits ((m : Int) * kk) &&& BitVec.ofInt IntKind.u64.bits (2147483648 : Int)).toNat = 0 ∧
    IntKind.u64.wrap (BitVec.ofInt IntKind.u64.bits ((m : Int) * kk) &&& BitVec.ofInt IntKind.u64.bits (2147483647 : Int)).toNat = 0 ∧ ((m : Int) * kk).fdiv (2 ^ (min (32 : Int).toNat IntKind.u64.bits)) = m ∧ IntKind.i32.wrap (m : Int) = m := by
  have key : ∀ m ∈ List.range 1002, IntKind.u64.wrap (BitVec.ofInt IntKind.u64.bits ((m : Int) * kk) &&& BitVec.ofInt IntKind.u64.bits (2147483648 : Int)).toNat = 0 ∧
    IntKind.u64.wrap (BitVec.ofInt IntKind.u64.bits ((m : Int) * kk) &&& BitVec.ofInt IntKind.u64.bits (2147483647 : Int)).toNat = 0 ∧ ((m : Int) * kk).fdiv (2 ^ (min (32 : Int).toNat IntKind.u64.bits)) = m ∧ IntKind.i32.wrap (m : Int) = m := by decide +kernel
  exact key m (List.mem_range.2 h)

theorem wgAdd_tr (p : X.wt = .play) (h1 : X.ad < 1000) (h2 : X.ad = X.seats.length) (tk : X.tok.isSome = true) (hd : X.deaf = false) (hs : ∀ h, Star L h → h.shp X.wg = some (87, 2)) :
    Tr Try.prog (mH cv) 52 [.pointer (some ⟨X.wg, 0, none⟩), .int .i64 1] L (.game X) fun v L' x' => v = .tuple #[] ∧ L' = L ∧ x' = .game { X with ad := X.ad + 1 } := by
  refine tr_of_body Try.func52 rfl Try.ntmps52 (by simp) fun um Q _ hQ => ?_
  simp only [argE, Nat.zero_add, Nat.reduceAdd]
  repeat (first
    | (apply wo_po; apply mo_bin; exact rfl; exact rfl; apply bin_lssF; omega; (first | exact trivial | exact rfl))
    | refine we_seq ?_
    | (refine we_region _ rfl rfl ?_; simp only [opsOf, List.map_cons, List.map_nil, Option.map_none, Option.map_some, List.getElem?_toArray, List.getElem?_cons_zero, List.getElem?_cons_succ, Option.bind_some, Option.getD_some])
    | refine wo_nil ?_
    | (apply wo_po; apply mo_move; exact rfl; (first | exact trivial | exact rfl))
    | (apply we_condT; exact rfl; (first | exact rfl | (simp <;> omega) | omega))
    | (apply we_condF; exact rfl; (first | exact rfl | (simp <;> omega) | omega))
    | refine we_skip ?_)
  refine wo_disable trivial (by decide) hd ?_
  repeat (first
    | (refine we_region _ rfl rfl ?_; simp only [opsOf, List.map_cons, List.map_nil, Option.map_none, Option.map_some, List.getElem?_toArray, List.getElem?_cons_zero, List.getElem?_cons_succ, Option.bind_some, Option.getD_some])
    | refine wo_nil ?_)
  refine wo_defer (first := []) (cap := []) (vs := []) rfl .nil trivial ?_
  repeat (first
    | (apply wo_po; apply mo_noBubble; exact trivial)
    | refine we_seq ?_
    | (refine we_region _ rfl rfl ?_; simp only [opsOf, List.map_cons, List.map_nil, Option.map_none, Option.map_some, List.getElem?_toArray, List.getElem?_cons_zero, List.getElem?_cons_succ, Option.bind_some, Option.getD_some])
    | refine wo_nil ?_
    | (apply wo_po; apply mo_move; exact rfl; (first | exact trivial | exact rfl))
    | (apply wo_po; apply mo_assign; exact rfl; (first | exact trivial | exact rfl))
    | (apply wo_po; apply mo_nilCheck; exact rfl; (first | exact trivial | exact rfl))
    | (apply wo_po; apply mo_fieldAddr; exact rfl; exact rfl; (first | exact Nat.zero_add _ | exact rfl); (first | exact trivial | exact rfl))
    | (apply wo_po; apply mo_conv; exact rfl; (first | exact wrap_i64 (by omega) (by omega) | exact wrap_u64 (by omega) (by omega)); (first | exact trivial | exact rfl))
    | (apply we_condF; exact rfl; (first | exact rfl | (simp <;> omega) | omega))
    | refine we_skip ?_)
  have c1 : IntKind.u64.wrap (1 : Int) = 1 := by decide
  have c2 : IntKind.u64.wrap ((1 : Int) * 2 ^ (min (32 : Int).toNat IntKind.u64.bits)) = 4294967296 := by decide
  repeat (first
    | (apply wo_po; apply mo_bin; exact rfl; exact rfl; apply bin_shl; omega; exact c2; exact trivial))
  refine wo_call (.cons rfl (.cons rfl .nil)) trivial (uAdd_tr (X := { X with deaf := true }) p h1 h2 tk rfl) ?_
  rintro v1 L1 x1 ⟨m, hm, rfl, rfl, rfl⟩
  replace hm : m ≤ X.ad := hm
  obtain ⟨b1, b2, b3, b4⟩ := kk_bits (m := m + 1) (by omega)
  have b5 : IntKind.u32.wrap 0 = 0 := by decide
  have b6 : IntKind.i32.wrap 1 = 1 := by decide
  repeat (first
    | (apply wo_po; apply mo_bin; exact rfl; exact rfl; apply bin_and; (first | exact b1 | exact b2); exact trivial)
    | (apply wo_po; apply mo_bin; exact rfl; exact rfl; apply bin_shr; omega; exact b3; exact trivial)
    | (apply wo_po; apply mo_conv; exact rfl; (first | exact b4 | exact b5 | exact b6); (first | exact trivial | exact rfl))
    | (apply wo_po; apply mo_bin; exact rfl; exact rfl; apply bin_gtrT; omega; (first | exact trivial | exact rfl))
    | (apply wo_po; apply mo_bin; exact rfl; exact rfl; apply bin_neqF; omega; (first | exact trivial | exact rfl))
    | refine we_seq ?_
    | (refine we_region _ rfl rfl ?_; simp only [opsOf, List.map_cons, List.map_nil, Option.map_none, Option.map_some, List.getElem?_toArray, List.getElem?_cons_zero, List.getElem?_cons_succ, Option.bind_some, Option.getD_some])
    | refine wo_nil ?_
    | (apply wo_po; apply mo_move; exact rfl; (first | exact trivial | exact rfl))
    | (apply wo_po; apply mo_assign; exact rfl; (first | exact trivial | exact rfl))
    | (apply wo_no; exact rfl)
    | (apply wo_po; apply mo_pickT; exact rfl; exact rfl; exact rfl; (first | exact trivial | exact rfl))
    | (apply wo_po; apply mo_pickF; exact rfl; exact rfl; exact rfl; (first | exact trivial | exact rfl))
    | (apply wo_po; apply mo_bin; exact rfl; exact rfl; exact bin_eql; (first | exact trivial | exact rfl))
    | (apply we_condF; exact rfl; (first | exact rfl | (simp <;> omega) | omega))
    | refine we_skip ?_)
  by_cases hm0 : m = 0
  · repeat (first
      | (apply wo_po; apply mo_convPUo (c := 1) (m := 2) (by decide : (1 : Nat) ≠ 0); exact rfl; exact hs; omega; exact trivial)
      | (refine we_region _ rfl rfl ?_; simp only [opsOf, List.map_cons, List.map_nil, Option.map_none, Option.map_some, List.getElem?_toArray, List.getElem?_cons_zero, List.getElem?_cons_succ, Option.bind_some, Option.getD_some])
      | (apply wo_po; apply mo_move; exact rfl; (first | exact trivial | exact rfl))
      | (apply wo_po; apply mo_nilCheck; exact rfl; (first | exact trivial | exact rfl))
      | (apply wo_po; apply mo_fieldAddr; exact rfl; exact rfl; (first | exact Nat.zero_add _ | exact rfl); (first | exact trivial | exact rfl))
      | (apply we_condT; exact rfl; (first | exact rfl | (simp <;> omega) | omega)))
    apply wo_mark (X := { X with deaf := true, ad := X.ad + 1 }) (m := Mark.read)
    exact rfl
    exact .inl rfl
    exact trivial
    decide
    repeat (first
      | (apply wo_po; apply mo_bin; exact rfl; exact rfl; apply bin_lssF; omega; (first | exact trivial | exact rfl))
      | (apply wo_po; apply mo_bin; exact rfl; exact rfl; apply bin_gtrT; omega; (first | exact trivial | exact rfl))
      | (apply wo_po; apply mo_bin; exact rfl; exact rfl; apply bin_neqF; omega; (first | exact trivial | exact rfl))
      | refine we_seq ?_
      | (refine we_region _ rfl rfl ?_; simp only [opsOf, List.map_cons, List.map_nil, Option.map_none, Option.map_some, List.getElem?_toArray, List.getElem?_cons_zero, List.getElem?_cons_succ, Option.bind_some, Option.getD_some])
      | refine wo_nil ?_
      | (apply wo_po; apply mo_move; exact rfl; (first | exact trivial | exact rfl))
      | (apply wo_no; exact rfl)
      | (apply wo_po; apply mo_pickT; exact rfl; exact rfl; exact rfl; (first | exact trivial | exact rfl))
      | (apply wo_po; apply mo_pickF; exact rfl; exact rfl; exact rfl; (first | exact trivial | exact rfl))
      | (apply we_condT; exact rfl; (first | exact rfl | (simp <;> omega) | omega))
      | (apply we_condF; exact rfl; (first | exact rfl | (simp <;> omega) | omega))
      | refine we_ret ?_
      | refine we_skip ?_)
    refine at_enable (X := { X with deaf := true, ad := X.ad + 1 }) Try.func52 Try.results52 hQ (.inl rfl) rfl ?_
    exact ⟨rfl, rfl, by rw [← hd]⟩
  · repeat (first
      | (apply wo_po; apply mo_bin; exact rfl; exact rfl; apply bin_lssF; omega; (first | exact trivial | exact rfl))
      | (apply wo_po; apply mo_bin; exact rfl; exact rfl; apply bin_gtrT; omega; (first | exact trivial | exact rfl))
      | (apply wo_po; apply mo_bin; exact rfl; exact rfl; apply bin_neqF; omega; (first | exact trivial | exact rfl))
      | refine we_seq ?_
      | (refine we_region _ rfl rfl ?_; simp only [opsOf, List.map_cons, List.map_nil, Option.map_none, Option.map_some, List.getElem?_toArray, List.getElem?_cons_zero, List.getElem?_cons_succ, Option.bind_some, Option.getD_some])
      | refine wo_nil ?_
      | (apply wo_po; apply mo_move; exact rfl; (first | exact trivial | exact rfl))
      | (apply wo_no; exact rfl)
      | (apply wo_po; apply mo_pickT; exact rfl; exact rfl; exact rfl; (first | exact trivial | exact rfl))
      | (apply wo_po; apply mo_pickF; exact rfl; exact rfl; exact rfl; (first | exact trivial | exact rfl))
      | (apply we_condT; exact rfl; (first | exact rfl | (simp <;> omega) | omega))
      | (apply we_condF; exact rfl; (first | exact rfl | (simp <;> omega) | omega))
      | refine we_ret ?_
      | refine we_skip ?_)
    refine at_enable (X := { X with deaf := true, ad := X.ad + 1 }) Try.func52 Try.results52 hQ (.inl rfl) rfl ?_
    exact ⟨rfl, rfl, by rw [← hd]⟩

/-- the group, seen in the loop of Wait -/
def waitX (X : GX) : Option Nat → GX
  | none => { X with deaf := true }
  | some b => { X with deaf := true, wt := .wait b }
def WaitI (X : GX) (ptr : Value) (L : List HProp) : PB.Inv (Option Nat) MX where
  e := fun _ => [(0, ptr)]
  L := fun _ => L
  x := fun b => .game (waitX X b)
  ok := fun b => ∀ c, b = some c → c ≤ X.ad
def waitM (X : GX) : Option Nat → Nat
  | none => X.ad + 1
  | some b => b

theorem wgWait_tr (p : X.wt = .play) (h1 : X.ad < 1000) (h2 : X.ad = X.seats.length) (hc : ∀ s ∈ X.seats, s.closed) (hd : X.deaf = false) (hs : ∀ h, Star L h → h.shp X.wg = some (87, 2)) :
    Tr Try.prog (mH cv) 49 [.pointer (some ⟨X.wg, 0, none⟩)] L (.game X) fun v L' x' => v = .tuple #[] ∧ L' = all (X.seats.map Seat.fins) :: L ∧ x' = .idle := by
  have b5 : IntKind.u32.wrap 0 = 0 := by decide
  refine tr_of_body Try.func49 rfl Try.ntmps49 (by simp) fun um Q _ hQ => ?_
  simp only [argE, Nat.zero_add, Nat.reduceAdd]
  repeat (first
    | refine we_seq ?_
    | (refine we_region _ rfl rfl ?_; simp only [opsOf, List.map_cons, List.map_nil, Option.map_none, Option.map_some, List.getElem?_toArray, List.getElem?_cons_zero, List.getElem?_cons_succ, Option.bind_some, Option.getD_some])
    | (apply we_condT; exact rfl; (first | exact rfl | (simp <;> omega) | omega)))
  refine wo_disable trivial (by decide) hd ?_
  repeat (first
    | refine wo_nil ?_
    | refine we_block ?_)
  refine we_loopN (WaitI X (.pointer (some ⟨X.wg, 0, none⟩)) L) (waitM X) none (fun c h => by cases h) (by exact ⟨rfl, trivial⟩) .refl rfl ?_
  intro ob hob
  obtain ⟨b, hb, hbm⟩ : ∃ b, b ≤ X.ad ∧ (∀ c, c < b → c < waitM X ob) ∧ ((waitX X ob).wt = .wait b ∨ ((waitX X ob).wt = .play ∧ b = (waitX X ob).ad ∧ (waitX X ob).ad = (waitX X ob).seats.length ∧ ∀ s ∈ (waitX X ob).seats, s.closed)) := by
    cases ob with
    | none => exact ⟨X.ad, Nat.le_refl _, fun c h => Nat.lt_succ_of_lt h, .inr ⟨p, rfl, h2, hc⟩⟩
    | some b => exact ⟨b, hob b rfl, fun c h => h, .inl rfl⟩
  obtain ⟨hlt, hbm⟩ := hbm
  have hY : ∀ w, { waitX X ob with wt := w } = { X with deaf := true, wt := w } := fun w => by cases ob <;> rfl
  have hwg : (waitX X ob).wg = X.wg := by cases ob <;> rfl
  have hdf : (waitX X ob).deaf = true := by cases ob <;> rfl
  repeat (first
    | refine we_seq ?_
    | (refine we_region _ rfl rfl ?_; simp only [opsOf, List.map_cons, List.map_nil, Option.map_none, Option.map_some, List.getElem?_toArray, List.getElem?_cons_zero, List.getElem?_cons_succ, Option.bind_some, Option.getD_some])
    | (apply wo_po; apply mo_move; exact rfl; (first | exact trivial | exact rfl))
    | (apply wo_po; apply mo_nilCheck; exact rfl; (first | exact trivial | exact rfl))
    | (apply wo_po; apply mo_fieldAddr; exact rfl; exact rfl; (first | exact Nat.zero_add _ | exact rfl); (first | exact trivial | exact rfl))
    | refine we_block ?_)
  refine wo_call (vs := [.pointer (some ⟨(waitX X ob).wg, 0, none⟩)]) (.cons (by rw [hwg]; rfl) .nil) trivial (uLook_tr b hbm hdf) ?_
  rintro v1 L1 x1 ⟨rfl, ⟨m, hm0, hm, rfl, rfl⟩ | ⟨rfl, rfl⟩⟩
  · obtain ⟨k1, k2, k3, k4⟩ := kk_bits (m := m) (by omega)
    have k6 : IntKind.u64.wrap ((m : Int) * kk + 1) = (m : Int) * kk + 1 := wrap_u64 (by unfold kk; omega) (by unfold kk; omega)
    rw [hY]
    repeat (first
      | (apply wo_po; apply mo_bin; exact rfl; exact rfl; apply bin_and; (first | exact k1 | exact k2); exact trivial)
      | (apply wo_po; apply mo_bin; exact rfl; exact rfl; apply bin_shr; omega; exact k3; exact trivial)
      | (apply wo_po; apply mo_conv; exact rfl; (first | exact k4 | exact b5); (first | exact trivial | exact rfl))
      | (apply wo_po; apply mo_bin; exact rfl; exact rfl; apply bin_add; exact k6; exact trivial)
      | (apply wo_po; apply mo_bin; exact rfl; exact rfl; apply bin_eqlF; omega; (first | exact trivial | exact rfl))
      | refine we_seq ?_
      | (refine we_region _ rfl rfl ?_; simp only [opsOf, List.map_cons, List.map_nil, Option.map_none, Option.map_some, List.getElem?_toArray, List.getElem?_cons_zero, List.getElem?_cons_succ, Option.bind_some, Option.getD_some])
      | refine wo_nil ?_
      | (apply wo_po; apply mo_move; exact rfl; (first | exact trivial | exact rfl))
      | (apply wo_po; apply mo_assign; exact rfl; (first | exact trivial | exact rfl))
      | (apply wo_po; apply mo_nilCheck; exact rfl; (first | exact trivial | exact rfl))
      | (apply wo_po; apply mo_fieldAddr; exact rfl; exact rfl; (first | exact Nat.zero_add _ | exact rfl); (first | exact trivial | exact rfl))
      | (apply we_condF; exact rfl; (first | exact rfl | (simp <;> omega) | omega))
      | refine we_skip ?_)
    refine wo_call (.cons rfl (.cons rfl (.cons rfl .nil))) trivial (uSwap_tr (X := { X with deaf := true, wt := .seen m }) hm0 rfl rfl) ?_
    rintro v1 L2 x1 ⟨rfl, ⟨rfl, rfl⟩ | ⟨c, hcm, rfl, rfl⟩⟩
    · repeat (first
        | (apply wo_po; apply mo_convPUo (c := 1) (m := 2) (by decide : (1 : Nat) ≠ 0); exact rfl; exact hs; omega; exact trivial)
        | (apply wo_po; apply mo_bin; exact rfl; exact rfl; apply bin_eqlT; omega; (first | exact trivial | exact rfl))
        | refine we_seq ?_
        | (refine we_region _ rfl rfl ?_; simp only [opsOf, List.map_cons, List.map_nil, Option.map_none, Option.map_some, List.getElem?_toArray, List.getElem?_cons_zero, List.getElem?_cons_succ, Option.bind_some, Option.getD_some])
        | refine wo_nil ?_
        | (apply wo_po; apply mo_move; exact rfl; (first | exact trivial | exact rfl))
        | (apply wo_po; apply mo_pickT; exact rfl; exact rfl; exact rfl; (first | exact trivial | exact rfl))
        | (apply wo_po; apply mo_nilCheck; exact rfl; (first | exact trivial | exact rfl))
        | (apply wo_po; apply mo_fieldAddr; exact rfl; exact rfl; (first | exact Nat.zero_add _ | exact rfl); (first | exact trivial | exact rfl))
        | (apply we_condT; exact rfl; (first | exact rfl | (simp <;> omega) | omega)))
      apply wo_mark (X := { X with deaf := true, wt := .parked }) (m := Mark.write)
      exact rfl
      exact .inr rfl
      exact trivial
      decide
      repeat (first
        | (apply wo_po; apply mo_bin; exact rfl; exact rfl; apply bin_and; (first | exact k1 | exact k2); exact trivial)
        | (apply wo_po; apply mo_bin; exact rfl; exact rfl; apply bin_neqF; omega; (first | exact trivial | exact rfl))
        | refine we_seq ?_
        | (refine we_region _ rfl rfl ?_; simp only [opsOf, List.map_cons, List.map_nil, Option.map_none, Option.map_some, List.getElem?_toArray, List.getElem?_cons_zero, List.getElem?_cons_succ, Option.bind_some, Option.getD_some])
        | refine wo_nil ?_
        | (apply wo_po; apply mo_move; exact rfl; (first | exact trivial | exact rfl))
        | (apply wo_po; apply mo_assign; exact rfl; (first | exact trivial | exact rfl))
        | (apply wo_no; exact rfl)
        | (apply wo_po; apply mo_pickF; exact rfl; exact rfl; exact rfl; (first | exact trivial | exact rfl))
        | (apply wo_po; apply mo_nilCheck; exact rfl; (first | exact trivial | exact rfl))
        | (apply wo_po; apply mo_fieldAddr; exact rfl; exact rfl; (first | exact Nat.zero_add _ | exact rfl); (first | exact trivial | exact rfl))
        | (apply we_condF; exact rfl; (first | exact rfl | (simp <;> omega) | omega))
        | refine we_skip ?_)
      apply wo_sem (X := { X with deaf := true, wt := .parked })
      exact rfl
      exact rfl
      exact rfl
      exact rfl
      exact trivial
      decide
      repeat (first
        | refine we_seq ?_
        | (refine we_region _ rfl rfl ?_; simp only [opsOf, List.map_cons, List.map_nil, Option.map_none, Option.map_some, List.getElem?_toArray, List.getElem?_cons_zero, List.getElem?_cons_succ, Option.bind_some, Option.getD_some])
        | refine wo_nil ?_
        | (apply wo_po; apply mo_move; exact rfl; (first | exact trivial | exact rfl))
        | (apply wo_po; apply mo_nilCheck; exact rfl; (first | exact trivial | exact rfl))
        | (apply wo_po; apply mo_fieldAddr; exact rfl; exact rfl; (first | exact Nat.zero_add _ | exact rfl); (first | exact trivial | exact rfl)))
      refine wo_call (.cons rfl .nil) trivial (uLast_tr (X := { X with deaf := true, wt := .woken }) rfl rfl) ?_
      rintro v1 L3 x1 ⟨rfl, rfl, rfl⟩
      repeat (first
        | (apply wo_po; apply mo_bin; exact rfl; exact rfl; apply bin_neqF; omega; (first | exact trivial | exact rfl))
        | refine we_seq ?_
        | (refine we_region _ rfl rfl ?_; simp only [opsOf, List.map_cons, List.map_nil, Option.map_none, Option.map_some, List.getElem?_toArray, List.getElem?_cons_zero, List.getElem?_cons_succ, Option.bind_some, Option.getD_some])
        | refine wo_nil ?_
        | (apply wo_po; apply mo_assign; exact rfl; (first | exact trivial | exact rfl))
        | (apply we_condT; exact rfl; (first | exact rfl | (simp <;> omega) | omega)))
      apply wo_enable (X := { X with deaf := true, wt := .zero })
      exact trivial
      decide
      exact rfl
      repeat (first
        | (apply wo_po; apply mo_convPUo (c := 0) (m := 2) (by decide : (2 : Nat) ≠ 0); exact rfl; exact hs; omega; exact trivial)
        | (refine we_region _ rfl rfl ?_; simp only [opsOf, List.map_cons, List.map_nil, Option.map_none, Option.map_some, List.getElem?_toArray, List.getElem?_cons_zero, List.getElem?_cons_succ, Option.bind_some, Option.getD_some])
        | refine wo_nil ?_
        | (apply wo_po; apply mo_move; exact rfl; (first | exact trivial | exact rfl)))
      apply wo_acquire (X := { X with deaf := false, wt := .zero })
      exact rfl
      exact rfl
      exact rfl
      exact trivial
      decide
      repeat (first
        | refine we_seq ?_
        | (refine we_region _ rfl rfl ?_; simp only [opsOf, List.map_cons, List.map_nil, Option.map_none, Option.map_some, List.getElem?_toArray, List.getElem?_cons_zero, List.getElem?_cons_succ, Option.bind_some, Option.getD_some])
        | refine wo_nil ?_
        | (apply wo_po; apply mo_move; exact rfl; (first | exact trivial | exact rfl))
        | (apply we_condF; exact rfl; (first | exact rfl | (simp <;> omega) | omega))
        | refine we_ret ?_
        | refine we_skip ?_)
      (first | refine at_ret0 (ex := .ret) Try.func49 Try.results49 hQ (.inl rfl) ?_ | refine at_ret0 (ex := .normal) Try.func49 Try.results49 hQ (.inr rfl) ?_)
      exact ⟨rfl, rfl, rfl⟩
    · repeat (first
        | refine wo_nil ?_
        | (apply we_condF; exact rfl; (first | exact rfl | (simp <;> omega) | omega))
        | refine we_skip ?_)
      have hok : (WaitI X (.pointer (some ⟨X.wg, 0, none⟩)) L2).ok (some c) := fun c' h => by obtain rfl := Option.some.inj h; omega
      refine at_round (B := mH cv) (I := WaitI X (.pointer (some ⟨X.wg, 0, none⟩)) L2) (R := fun i' => waitM X i' < waitM X ob) (some c) (hlt c (by omega)) hok ?_ .refl rfl
      exact ⟨rfl, trivial⟩
  · rw [hY]
    obtain ⟨k1, k2, k3, k4⟩ := kk_bits (m := 0) (by omega)
    repeat (first
      | (apply wo_po; apply mo_bin; exact rfl; exact rfl; apply bin_and; (first | exact k1 | exact k2); exact trivial)
      | (apply wo_po; apply mo_bin; exact rfl; exact rfl; apply bin_shr; omega; exact k3; exact trivial)
      | (apply wo_po; apply mo_conv; exact rfl; (first | exact k4 | exact b5); (first | exact trivial | exact rfl))
      | (apply wo_po; apply mo_bin; exact rfl; exact rfl; apply bin_eqlT; omega; (first | exact trivial | exact rfl))
      | refine we_seq ?_
      | (refine we_region _ rfl rfl ?_; simp only [opsOf, List.map_cons, List.map_nil, Option.map_none, Option.map_some, List.getElem?_toArray, List.getElem?_cons_zero, List.getElem?_cons_succ, Option.bind_some, Option.getD_some])
      | refine wo_nil ?_
      | (apply wo_po; apply mo_move; exact rfl; (first | exact trivial | exact rfl))
      | (apply wo_po; apply mo_assign; exact rfl; (first | exact trivial | exact rfl))
      | (apply we_condT; exact rfl; (first | exact rfl | (simp <;> omega) | omega)))
    apply wo_enable (X := { X with deaf := true, wt := .zero })
    exact trivial
    decide
    exact rfl
    repeat (first
      | (apply wo_po; apply mo_convPUo (c := 0) (m := 2) (by decide : (2 : Nat) ≠ 0); exact rfl; exact hs; omega; exact trivial)
      | (refine we_region _ rfl rfl ?_; simp only [opsOf, List.map_cons, List.map_nil, Option.map_none, Option.map_some, List.getElem?_toArray, List.getElem?_cons_zero, List.getElem?_cons_succ, Option.bind_some, Option.getD_some])
      | refine wo_nil ?_
      | (apply wo_po; apply mo_move; exact rfl; (first | exact trivial | exact rfl)))
    apply wo_acquire (X := { X with deaf := false, wt := .zero })
    exact rfl
    exact rfl
    exact rfl
    exact trivial
    decide
    repeat (first
      | (apply wo_po; apply mo_bin; exact rfl; exact rfl; apply bin_and; (first | exact k1 | exact k2); exact rfl)
      | (apply wo_po; apply mo_bin; exact rfl; exact rfl; apply bin_eqlT; omega; (first | exact trivial | exact rfl))
      | (apply wo_po; apply mo_bin; exact rfl; exact rfl; apply bin_neqF; omega; (first | exact trivial | exact rfl))
      | refine we_seq ?_
      | (refine we_region _ rfl rfl ?_; simp only [opsOf, List.map_cons, List.map_nil, Option.map_none, Option.map_some, List.getElem?_toArray, List.getElem?_cons_zero, List.getElem?_cons_succ, Option.bind_some, Option.getD_some])
      | refine wo_nil ?_
      | (apply wo_po; apply mo_move; exact rfl; (first | exact trivial | exact rfl))
      | (apply wo_no; exact rfl)
      | (apply wo_po; apply mo_pickT; exact rfl; exact rfl; exact rfl; (first | exact trivial | exact rfl))
      | (apply wo_po; apply mo_pickF; exact rfl; exact rfl; exact rfl; (first | exact trivial | exact rfl))
      | (apply we_condF; exact rfl; (first | exact rfl | (simp <;> omega) | omega))
      | refine we_ret ?_
      | refine we_skip ?_)
    (first | refine at_ret0 (ex := .ret) Try.func49 Try.results49 hQ (.inl rfl) ?_ | refine at_ret0 (ex := .normal) Try.func49 Try.results49 hQ (.inr rfl) ?_)
    exact ⟨rfl, rfl, rfl⟩
end
end Go.Proofs.Ytabbkjciifnehaa
/-
  A THREAD's SEAT (package turn): (*seat).Step as a thread calls it; the goroutine's closure; (*seat).run as the starter calls it.
-/
set_option linter.unusedVariables false
set_option linter.unusedSimpArgs false
namespace Go.PB
open Go.Conc

/-- a row of cells in two -/
theorem star_cut {b o : Nat} {us vs : List Value} {L : List HProp} {h : Hp} (s : Star (arr b o (us ++ vs) :: L) h) : Star (arr b o us :: arr b (o + us.length) vs :: L) h := by
  obtain ⟨h1, h2, s1, ha, hL⟩ := s
  have hus : ∀ (i : Nat) v, us[i]? = some v → h1.own b (o + i) = some v := fun i v e => ha i v (by rw [List.getElem?_append_left (List.getElem?_eq_some_iff.1 e).1]; exact e)
  have hvs : ∀ (i : Nat) v, vs[i]? = some v → h1.own b (o + us.length + i) = some v := fun i v e => by
    have := ha (us.length + i) v (by rw [List.getElem?_append_right (by omega)]; simpa using e)
    rwa [← Nat.add_assoc] at this
  have dec : ∀ b' o', Decidable (b' = b ∧ o' < o + us.length) := fun _ _ => inferInstance
  refine ⟨⟨fun b' o' => if b' = b ∧ o' < o + us.length then h1.own b' o' else none, h1.ro, h1.obj, h1.shp⟩, ⟨fun b' o' => if b' = b ∧ o' < o + us.length then h2.own b' o' else h.own b' o', h2.ro, h2.obj, h2.shp⟩,
    ⟨s1.r1, s1.r2, fun b' o' v e => ?_, fun b' o' v e => ?_, fun b' o' => ?_, s1.b1, s1.b2, s1.bd, s1.s1, s1.s2⟩, fun i v e => ?_,
    ⟨fun b' o' => if b' = b ∧ o' < o + us.length then none else h1.own b' o', fun _ _ => none, fun _ => none, fun _ => none⟩, h2, ⟨fun _ _ _ e => by simp at e, fun _ _ _ e => e, fun b' o' v e => ?_, fun b' o' v e => ?_, fun b' o' => ?_, fun _ _ e => by simp at e, fun _ _ e => e, fun _ => .inl rfl, fun _ _ e => by simp at e, fun _ _ e => e⟩, fun i v e => ?_, hL⟩
  · simp only at e; split at e
    · exact s1.o1 _ _ _ e
    · cases e
  · simp only at e; split at e
    · exact s1.o2 _ _ _ e
    · exact e
  · simp only
    by_cases hc : b' = b ∧ o' < o + us.length
    · rw [if_pos hc, if_pos hc]; exact s1.od _ _
    · rw [if_neg hc]; exact .inl rfl
  · simp only
    rw [if_pos ⟨trivial, by have := (List.getElem?_eq_some_iff.1 e).1; omega⟩]
    exact hus i v e
  · simp only at e ⊢; split at e
    · cases e
    · rename_i hc; rw [if_neg hc]; exact s1.o1 _ _ _ e
  · simp only; split
    · exact e
    · exact s1.o2 _ _ _ e
  · simp only; split
    · exact .inl rfl
    · exact s1.od _ _
  · simp only
    rw [if_neg (by rintro ⟨_, h⟩; omega)]
    exact hvs i v e

theorem Has.trans {L F G : List HProp} {c d : HProp} (a : Has L c F) (b : Has F d G) : ∃ G', Has L d G' := by
  induction a generalizing G with
  | here => exact ⟨_, .there b⟩
  | there _ ih =>
    cases b with
    | here => exact ⟨_, .here⟩
    | there b => obtain ⟨G', h⟩ := ih b; exact ⟨_, .there h⟩

/-- one chunk -/
theorem star_one {c : HProp} {h : Hp} (a : c h) : Star [c] h :=
  ⟨h, Hp.empty, ⟨fun _ _ _ e => e, fun _ _ _ e => (by cases e), fun _ _ _ e => e, fun _ _ _ e => (by cases e), fun _ _ => .inr rfl, fun _ _ e => e, fun _ _ e => (by cases e), fun _ => .inr rfl, fun _ _ e => e, fun _ _ e => (by cases e)⟩, a, trivial⟩

/-- a row that is read alone is so in its parts -/
theorem star_fro_cut {b o : Nat} {us vs : List Value} {L : List HProp} {h : Hp} (s : Star (fro b o (us ++ vs) :: L) h) : Star (fro b o us :: L) h :=
  star_map s (fun h a i v e => a i v (by rw [List.getElem?_append_left (List.getElem?_eq_some_iff.1 e).1]; exact e)) (fun _ y => y)

section
variable {P : Program} {B : Hand} {kd : CallKind} {n : Nat} {ops : Array Oper} {ord R : List Nat} {Pd : List Pn} {K : Post B} {e : Env} {z : Z} {L : List HProp} {x : B.X}

/-- TALK in a drawn region, while reads are still promised: they are promised anew. -/
theorem ap_talk [MonoH B] [Lets B] {i : Nat} {o : Oper} {d : Option Nat} {Pd' : List Pn} {cases : Array CommCase} {bl : Bool} {sh : CommShape} {Q : Value → List HProp → B.X → Prop} (ho : nth ops.toList i = some o) (hd : o.dst = d) (hdom : (R.all fun j => (anc ops ops.size j).contains i) = true) (hpd' : pdKeep ops i Pd = Pd') (hg : gYes (resE (readsOf n ops i) e) (guardOf n ops o))
    (hx : ∀ t w, Agree (resE (readsOf n ops i) e) t → (execOp (evT t) (opOf o.op o.type)).runT P w #[] = (.ok (.comm cases bl sh) w, #[]))
    (ha : ∀ h (O : Value → Hp → B.X → Prop), Star L h → (∀ v L' x' h', Q v L' x' → Star L' h' → O v h' x') → B.comm cases bl sh h x O)
    (hre : ∀ v L' x', Q v L' x' → ∀ p ∈ Pd', p.st = true ∨ ∃ o, nth ops.toList p.i = some o ∧ gYes p.e (guardOf n ops o) ∧ Mo P p.e o.op o.type L' (fun v' L1 => v' = p.v ∧ L1 = L'))
    (k : ∀ v L' x', Q v L' x' → Ap P B kd n ops ord R Pd' K (setE d v e) z L' x') : Ap P B kd n ops ord (i :: R) Pd K e z L x := by
  subst hd
  subst hpd'
  have ho := nth_at ho
  refine ap_loud_gen ho hdom hg fun idx t h ht ag s hw kk => ?_
  refine wr_talk ho hw (fun w => by rw [execOp_of (op := o.op) (ty := o.type) _ rfl rfl]; exact hx t w ag) ?_
  refine ha h _ s fun v L' x' h' r s' => ?_
  exact kk v L' x' h' s' (fun p hp hk => by
    by_cases hs : p.st = true
    · exact pd_still (Pd' := [p]) (by simp [hs]) p (by simp) hk
    · rcases hre v L' x' r p hp with h | ⟨o, h1, h2, h3⟩
      · exact absurd h hs
      · exact ⟨o, nth_at h1, .inl ⟨h2, by rw [if_neg hs]; exact h3⟩⟩) (k v L' x' r)
end

section
variable {P : Program} {cv : Value} {done : FuncId} {wgT : TypeId} {kd : CallKind} {n : Nat} {ops : Array Oper} {ord R : List Nat} {Pd : List Pn} {K : Post (mHand P cv done wgT)} {e : Env} {z : Z} {L : List HProp} {X : GX}

/-- it hears what a thread says, in a drawn region -/
theorem ap_hear {ct el : TypeId} {dr : ChanDir} {zv : Value} {o : Operand} {i j : Nat} {d : Option Nat} {ty : TypeId} {pos : String} {aft : Array Edge} {gd : Option (Nat × Bool)} {Pd' : List Pn} {c : Seat X.g.σ X.g.θ} {s : X.g.σ} {q : X.g.θ} [pu : Und P ct (.chan dr el)] [zr : Zer P el zv]
    (ho : nth ops.toList i = some ⟨d, .recv ct o false, ty, pos, aft, gd⟩) (hdom : (R.all fun j => (anc ops ops.size j).contains i) = true) (hpd' : pdKeep ops i Pd = Pd') (hg : gYes (resE (readsOf n ops i) e) (guardOf n ops ⟨d, .recv ct o false, ty, pos, aft, gd⟩))
    (hx : ev (resE (readsOf n ops i) e) o = some (.chan (some c.says))) (p : X.wt = .play) (hd : X.deaf = false) (hj : X.seats[j]? = some c) (st : c.st = .run s q) (tk : X.tok = none)
    (hre : ∀ p ∈ Pd', p.st = true ∨ ∃ o, nth ops.toList p.i = some o ∧ gYes p.e (guardOf n ops o) ∧ Mo P p.e o.op o.type (X.g.U s :: L) (fun v' L1 => v' = p.v ∧ L1 = X.g.U s :: L))
    (k : Ap P (mHand P cv done wgT) kd n ops ord R Pd' K (setE d (X.g.says q) e) z (X.g.U s :: L) (.game { X with tok := some s, seats := X.seats.set j { c with st := .said q } })) :
    Ap P (mHand P cv done wgT) kd n ops ord (i :: R) Pd K e z L (.game X) :=
  ap_talk (cases := #[rcase c.says zv]) (bl := true) (sh := .recv false) (Q := fun w L' x' => w = X.g.says q ∧ L' = X.g.U s :: L ∧ x' = .game { X with tok := some s, seats := X.seats.set j { c with st := .said q } }) ho rfl hdom hpd' hg
    (fun t w ag => by
      show (Sem.bind (underlying ct) fun dd => match dd with
        | .chan _ el => Sem.bind (zeroValue el) fun zv => (pure (.comm #[{ chan := evT t o, send := none, zero := zv }] true (.recv false)) : Sem Next)
        | _ => stuck "receive: channel type expected").runT P w #[] = _
      rw [und_runT pu.ok]
      show (Sem.bind (zeroValue el) _).runT P w #[] = _
      rw [runT_zero zr.ok, ag.ev hx]; rfl)
    (fun h O st' qq => ⟨rfl, X, j, c, rfl, p, hd, hj, .inl ⟨zv, s, q, rfl, rfl, st, tk, fun r h' hr hs => qq _ _ _ h' ⟨rfl, rfl, rfl⟩ ⟨r, h, hs.swap, hr, st'⟩⟩⟩)
    (by rintro _ _ _ ⟨rfl, rfl, rfl⟩; exact hre) (by rintro _ _ _ ⟨rfl, rfl, rfl⟩; exact k)
end
end Go.PB

namespace Go.Proofs.Ytabbkjciifnehaa
open Go Go.PB
attribute [local irreducible] Mo Bin Eql Tr Wo Ap Wle

/-- what a thread panics with when it is cut off -/
abbrev cvT : Value := .iface 107 (.agg #[])
/-- a thread's handler; its starter's -/
abbrev tH : Hand := tHand cvT
abbrev mT : Hand := mH cvT
/-- a seat's channels, that nobody turns -/
abbrev seatR (sb says turn fin : Nat) : HProp := fro sb 0 [.chan (some turn), .chan (some fin), .chan (some says)]
/-- a gate -/
abbrev gateV (sb : Nat) : Value := .iface 91 (.pointer (some ⟨sb, 0, none⟩))
abbrev tx (g : Game) (says turn fin wg : Nat) (ph : Ph g.σ g.θ) : TX := ⟨g, says, turn, fin, wg, ph⟩

section
variable {g : Game} {says turn fin wg sb : Nat} {L F G : List HProp}

theorem Rd.seat {k : Nat} {v : Value} (hS : Has L (seatR sb says turn fin) G) (hk : [Value.chan (some turn), .chan (some fin), .chan (some says)][k]? = some v) : Rd L sb k v :=
  Rd.of hS (Rd.fro hk (Nat.zero_add k).symm)

/-- STEP: the next turn. -/
theorem step_tr {s : g.σ} {q : g.θ} {m : Nat} {mk : Int × Int} {f : g.σ → g.σ × g.θ} (hp : g.plan q = some (mk, f)) (hh : Has L (g.U s) F) (hS : Has F (seatR sb says turn fin) G) (hcut : ∀ h, Star F h → g.Pv q h) :
    Tr Try.prog tH 109 [.pointer (some ⟨sb, 0, none⟩), .agg #[.int .u8 mk.1, .int .i64 mk.2]] L (tx g says turn fin wg (.busy s q m)) fun v L' x' => ∃ m' s', m = m' + 1 ∧ g.ok s' ∧ v = .tuple #[] ∧ L' = g.U s' :: F ∧ x' = tx g says turn fin wg (.busy (f s').1 (f s').2 m') := by
  refine Tr.post (R := fun v L' x' => ∃ m' s', m = m' + 1 ∧ g.ok s' ∧ v = .tuple #[] ∧ x' = tx g says turn fin wg (.busy (f s').1 (f s').2 m') ∧ ∀ h, Star L' h → Star (g.U s' :: F) h) ?_
    (by rintro v L' x' ⟨m', s', h1, h0, rfl, rfl, h2⟩; exact ⟨_, ⟨m', s', h1, h0, rfl, rfl, rfl⟩, h2⟩)
  have hsays : g.says q = .agg #[.int .u8 mk.1, .int .i64 mk.2, .bool false] := by unfold Game.says; rw [hp]; rfl
  obtain ⟨L2, hS2⟩ := hh.trans hS
  have r0 := Rd.seat (k := 0) hS rfl
  have r1 := Rd.seat (k := 1) hS2 rfl
  have r1' := Rd.seat (k := 1) hS rfl
  have r2 := Rd.seat (k := 2) hS2 rfl
  refine tr_of_body Try.func109 rfl Try.ntmps109 (by simp) fun um Q _ hQ => ?_
  simp only [argE, Nat.zero_add, Nat.reduceAdd]
  repeat (first
    | (apply wo_mo; apply mo_box; exact rfl; exact trivial)
    | refine we_seq ?_
    | (refine we_region _ rfl rfl ?_; simp only [opsOf, List.map_cons, List.map_nil, Option.map_none, Option.map_some, List.getElem?_toArray, List.getElem?_cons_zero, List.getElem?_cons_succ, Option.bind_some, Option.getD_some]))
  rintro v' L' ⟨bb, rfl, rfl⟩
  refine wo_ent (arr bb 0 [.int .u8 mk.1, .int .i64 mk.2] :: L) .refl ?_
  repeat (first
    | (apply wo_po; apply mo_load; exact rfl; (first | exact .there r1 | exact .there r2); exact trivial)
    | (apply wo_po; apply mo_loadA (vs := [.int .u8 mk.1, .int .i64 mk.2]); exact rfl; exact rfl; exact Rds.all .here; exact trivial)
    | (apply wo_po; apply mo_build (pv := [(0, _)]); exact rfl; exact .cons rfl .nil; exact rfl; exact trivial)
    | refine we_seq ?_
    | (refine we_region _ rfl rfl ?_; simp only [opsOf, List.map_cons, List.map_nil, Option.map_none, Option.map_some, List.getElem?_toArray, List.getElem?_cons_zero, List.getElem?_cons_succ, Option.bind_some, Option.getD_some])
    | refine wo_nil ?_
    | (apply wo_po; apply mo_move; exact rfl; (first | exact trivial | exact rfl))
    | (apply wo_po; apply mo_nilCheck; exact rfl; (first | exact trivial | exact rfl))
    | (apply wo_po; apply mo_fieldAddr; exact rfl; exact rfl; (first | exact Nat.zero_add _ | exact rfl); (first | exact trivial | exact rfl)))
  apply wo_say (q := q) (R := arr bb 0 [.int .u8 mk.1, .int .i64 mk.2] :: F)
  exact rfl
  rw [hsays]; exact rfl
  exact rfl
  exact .there hh
  exact trivial
  rw [show g.next q m = .said q m by unfold Game.next; rw [hp]]
  repeat (first
    | (apply wo_po; apply mo_load; exact rfl; (first | exact .there r0 | exact .there r1'); exact trivial)
    | (apply wo_po; apply mo_bin; exact rfl; exact rfl; apply bin_eqlT; omega; (first | exact trivial | exact rfl))
    | (apply wo_po; apply mo_bin; exact rfl; exact rfl; apply bin_eqlF; omega; (first | exact trivial | exact rfl))
    | refine we_seq ?_
    | (refine we_region _ rfl rfl ?_; simp only [opsOf, List.map_cons, List.map_nil, Option.map_none, Option.map_some, List.getElem?_toArray, List.getElem?_cons_zero, List.getElem?_cons_succ, Option.bind_some, Option.getD_some])
    | refine wo_nil ?_
    | (apply wo_po; apply mo_move; exact rfl; (first | exact trivial | exact rfl))
    | (apply wo_po; apply mo_nilCheck; exact rfl; (first | exact trivial | exact rfl))
    | (apply wo_po; apply mo_fieldAddr; exact rfl; exact rfl; (first | exact Nat.zero_add _ | exact rfl); (first | exact trivial | exact rfl))
    | (apply wo_po; apply mo_extract; exact rfl; exact rfl; (first | exact trivial | exact rfl))
    | (apply we_condT; exact rfl; (first | exact rfl | (simp <;> omega) | omega))
    | refine we_skip ?_
    | refine we_block ?_)
  apply wo_wait
  exact rfl
  exact rfl
  exact hp
  exact trivial
  · intro m' s' hm ho
    repeat (first
      | (apply wo_po; apply mo_bin; exact rfl; exact rfl; apply bin_eqlT; omega; (first | exact trivial | exact rfl))
      | (apply wo_po; apply mo_bin; exact rfl; exact rfl; apply bin_eqlF; omega; (first | exact trivial | exact rfl))
      | refine wo_nil ?_
      | (apply wo_po; apply mo_extract; exact rfl; exact rfl; (first | exact trivial | exact rfl))
      | (apply we_condT; exact rfl; (first | exact rfl | (simp <;> omega) | omega))
      | refine we_skip ?_
      | refine we_block ?_)
    (first | refine at_ret0 (ex := .ret) Try.func109 Try.results109 hQ (.inl rfl) ?_ | refine at_ret0 (ex := .normal) Try.func109 Try.results109 hQ (.inr rfl) ?_)
    exact ⟨m', s', hm, ho, rfl, rfl, fun h st => star_map st (fun _ a => a) (fun _ => star_drop)⟩
  · repeat (first
      | (apply wo_po; apply mo_build (pv := []); exact rfl; exact .nil; exact rfl; exact trivial)
      | (apply wo_po; apply mo_makeInterface; exact rfl; exact trivial)
      | (apply wo_po; apply mo_bin; exact rfl; exact rfl; apply bin_eqlT; omega; (first | exact trivial | exact rfl))
      | (apply wo_po; apply mo_bin; exact rfl; exact rfl; apply bin_eqlF; omega; (first | exact trivial | exact rfl))
      | (refine we_region _ rfl rfl ?_; simp only [opsOf, List.map_cons, List.map_nil, Option.map_none, Option.map_some, List.getElem?_toArray, List.getElem?_cons_zero, List.getElem?_cons_succ, Option.bind_some, Option.getD_some])
      | refine wo_nil ?_
      | (apply wo_po; apply mo_extract; exact rfl; exact rfl; (first | exact trivial | exact rfl))
      | (apply we_condT; exact rfl; (first | exact rfl | (simp <;> omega) | omega))
      | (apply we_condF; exact rfl; (first | exact rfl | (simp <;> omega) | omega))
      | refine we_block ?_)
    apply wo_panic
    exact rfl
    exact trivial
    exact fun t h _ _ st => Pass.ok _ t h _ (show tH.cut _ h (tx g says turn fin wg (.cut q)) from ⟨q, rfl, rfl, star_one (hcut h (star_drop st))⟩)
end
end Go.Proofs.Ytabbkjciifnehaa
/-
  A THREAD's goroutine (the closure of (*seat).run), out of the thread's own contract ('ThrOk').
-/
set_option linter.unusedVariables false
set_option linter.unusedSimpArgs false
namespace Go.Proofs.Ytabbkjciifnehaa
open Go Go.PB
attribute [local irreducible] Mo Bin Eql Tr Wo Ap Wle

/-- A THREAD's CONTRACT: it runs up to its first step as ini says, then as it plans; M: what it brings along. -/
structure ThrOk (g : Game) (ini : g.σ → g.σ × g.θ) (fv : Value) (M : HProp) : Prop where
  run : ∃ f first cap, callee? fv = some (f, first, cap) ∧ Ent' Try.prog f ∧ ∀ sb says turn fin wg s n F, g.ok s → Tr Try.prog tH f (first ++ [gateV sb] ++ cap) (g.U s :: seatR sb says turn fin :: M :: F) (tx g says turn fin wg (.busy (ini s).1 (ini s).2 n)) fun v L' x' =>
    ∃ s' q' n', x' = tx g says turn fin wg (.busy s' q' n') ∧ g.plan q' = none ∧ ∀ h, Star L' h → Star (g.U s' :: seatR sb says turn fin :: g.Fin q' :: F) h

theorem callee_one {fv : Value} {f : FuncId} {first cap : List Value} (h : callee? fv = some (f, first, cap)) : fv.cells = #[fv] := by
  cases fv <;> first | rfl | cases h

section
variable {g : Game} {says turn fin wg sb : Nat} {L F G : List HProp}

theorem rec_ok : ∀ um h (x : TX) (L : List HProp) (Q : PB.End → FrameMode → Hp → TX → Prop), (um = .returning ∨ um = .panicking [{ v := cvT, recovered := false }]) → Star L h → (∀ v um' h', settled um' = .returning → Star L h' → Q (.ret v) um' h' x) → Wf Try.prog tH 64 .deferred #[] um h x Q := by
  intro um h x L Q hum hs hq
  refine wf_of_argE (args := []) (L := L) Try.func64 rfl Try.ntmps64 (by simp) hs ?_
  simp only [argE]
  rcases hum with rfl | rfl
  · repeat (first
      | refine we_seq ?_
      | (refine we_region _ rfl rfl ?_; simp only [opsOf, List.map_cons, List.map_nil, Option.map_none, Option.map_some, List.getElem?_toArray, List.getElem?_cons_zero, List.getElem?_cons_succ, Option.bind_some, Option.getD_some]))
    refine wo_recN trivial rfl rfl ?_
    repeat (first
      | refine we_seq ?_
      | (refine we_region _ rfl rfl ?_; simp only [opsOf, List.map_cons, List.map_nil, Option.map_none, Option.map_some, List.getElem?_toArray, List.getElem?_cons_zero, List.getElem?_cons_succ, Option.bind_some, Option.getD_some])
      | refine wo_nil ?_
      | (apply wo_po; apply mo_move; exact rfl; (first | exact trivial | exact rfl))
      | (apply wo_po; apply mo_assign; exact rfl; (first | exact trivial | exact rfl))
      | (apply wo_po; apply mo_bin; exact rfl; exact rfl; apply bin_ne; apply eql_nil_nil; (first | exact trivial | exact rfl))
      | (apply we_condF; exact rfl; (first | exact rfl | (simp <;> omega) | omega))
      | refine we_skip ?_)
    exact at_ret0 (kd := .deferred) (R := fun v L' x' => L' = L ∧ x' = x) Try.func64 Try.results64 (by rintro v L' x' h' ⟨rfl, rfl⟩ st; exact hq v _ h' rfl st) (.inr rfl : Ex.normal = .ret ∨ Ex.normal = .normal) ⟨rfl, rfl⟩
  · repeat (first
      | refine we_seq ?_
      | (refine we_region _ rfl rfl ?_; simp only [opsOf, List.map_cons, List.map_nil, Option.map_none, Option.map_some, List.getElem?_toArray, List.getElem?_cons_zero, List.getElem?_cons_succ, Option.bind_some, Option.getD_some]))
    refine wo_recP trivial rfl rfl ?_
    repeat (first
      | (apply wo_po; apply mo_assertT; exact rfl; exact trivial)
      | (apply wo_mo; apply mo_alloc; exact trivial)
      | refine we_seq ?_
      | (refine we_region _ rfl rfl ?_; simp only [opsOf, List.map_cons, List.map_nil, Option.map_none, Option.map_some, List.getElem?_toArray, List.getElem?_cons_zero, List.getElem?_cons_succ, Option.bind_some, Option.getD_some])
      | refine wo_nil ?_
      | (apply wo_po; apply mo_move; exact rfl; (first | exact trivial | exact rfl))
      | (apply wo_po; apply mo_assign; exact rfl; (first | exact trivial | exact rfl))
      | (apply wo_po; apply mo_extract; exact rfl; exact rfl; (first | exact trivial | exact rfl))
      | (apply wo_po; apply mo_bin; exact rfl; exact rfl; apply bin_ne; apply eql_iface_nil; (first | exact trivial | exact rfl))
      | (apply we_condT; exact rfl; (first | exact rfl | (simp <;> omega) | omega)))
    rintro v' L' ⟨cb, rfl, rfl⟩
    repeat (first
      | (apply wo_pm; apply mo_storeA (c := 0) (k := 0) (a := 0) (vs := []); exact rfl; exact rfl; exact rfl; (intro w hw; simp [Value.cells] at hw); exact rfl; exact Nat.le_refl 0; exact .here; exact trivial)
      | refine we_seq ?_
      | (refine we_region _ rfl rfl ?_; simp only [opsOf, List.map_cons, List.map_nil, Option.map_none, Option.map_some, List.getElem?_toArray, List.getElem?_cons_zero, List.getElem?_cons_succ, Option.bind_some, Option.getD_some])
      | refine wo_nil ?_
      | (apply wo_po; apply mo_move; exact rfl; (first | exact trivial | exact rfl))
      | (apply wo_po; apply mo_assign; exact rfl; (first | exact trivial | exact rfl))
      | (apply wo_po; apply mo_not; exact rfl; (first | exact trivial | exact rfl))
      | (apply we_condF; exact rfl; (first | exact rfl | (simp <;> omega) | omega))
      | refine we_skip ?_)
    exact at_ret0 (kd := .deferred) (R := fun v L' x' => (∀ h, Star L' h → Star L h) ∧ x' = x) Try.func64 Try.results64 (by rintro v L' x' h' ⟨hl, rfl⟩ st; exact hq v _ h' rfl (hl _ st)) (.inr rfl : Ex.normal = .ret ∨ Ex.normal = .normal) ⟨fun h st => star_drop st, rfl⟩

/-- THE GOROUTINE -/
theorem goes_tr {ini : g.σ → g.σ × g.θ} {fv : Value} {M : HProp} {s : g.σ} {n ab tb xb : Nat} (TO : ThrOk g ini fv M) (hok : g.ok s) (hfin : ∀ q h, g.Pv q h → g.Fin q h) {hc : Hp}
    (hs : Star [g.U s, seatR sb says turn fin, M, arr ab 0 [.pointer (some ⟨wg, 0, none⟩)], arr tb 0 [fv], fro xb 0 [.pointer (some ⟨sb, 0, none⟩)]] hc) :
    Nonempty (Run Try.prog tH false (tEnd Try.prog 54) (goFr Try.prog { target := .fn (.func 63) [.pointer (some ⟨ab, 0, none⟩), .pointer (some ⟨tb, 0, none⟩), .pointer (some ⟨xb, 0, none⟩)].toArray, args := #[] }) [] hc
      (tx g says turn fin wg (.busy (ini s).1 (ini s).2 n))) := by
  obtain ⟨f, first, cap, hcal, en, tr⟩ := TO.run
  have e1 : Enterable Try.prog 63 := (inferInstance : Ent' Try.prog 63).ok
  have e2 : Enterable Try.prog 64 := (inferInstance : Ent' Try.prog 64).ok
  have e3 : Enterable Try.prog 54 := (inferInstance : Ent' Try.prog 54).ok
  refine go_run (fR := 64) Try.func63 rfl Try.ntmps63 (by simp) Try.results63 e1 e2 e3 rec_ok ⟨rfl, hfin⟩ hs ?_
  simp only [argE, Nat.zero_add, Nat.reduceAdd]
  have rx : ∀ {L : List HProp}, Rd ([arr ab 0 [.pointer (some ⟨wg, 0, none⟩)], arr tb 0 [fv], fro xb 0 [.pointer (some ⟨sb, 0, none⟩)]]) xb 0 (.pointer (some ⟨sb, 0, none⟩)) := .there (.there (Rd.fro (k := 0) rfl rfl))
  repeat (first
    | refine we_seq ?_
    | (refine we_region _ rfl rfl ?_; simp only [opsOf, List.map_cons, List.map_nil, Option.map_none, Option.map_some, List.getElem?_toArray, List.getElem?_cons_zero, List.getElem?_cons_succ, Option.bind_some, Option.getD_some])
    | (apply wo_po; apply mo_load; exact rfl; (repeat (first | exact Rd.row0 rfl | exact Rd.row rfl rfl | exact Rd.still | apply Rd.there)); (first | exact trivial | exact rfl)))
  refine wo_defer (first := []) (cap := []) (args := [_]) (vs := [.pointer (some ⟨wg, 0, none⟩)]) rfl (.cons rfl .nil) trivial ?_
  repeat (first
    | refine we_seq ?_
    | (refine we_region _ rfl rfl ?_; simp only [opsOf, List.map_cons, List.map_nil, Option.map_none, Option.map_some, List.getElem?_toArray, List.getElem?_cons_zero, List.getElem?_cons_succ, Option.bind_some, Option.getD_some])
    | refine wo_nil ?_)
  refine wo_defer (first := []) (cap := []) (args := []) (vs := []) rfl .nil trivial ?_
  repeat (first
    | (apply wo_po; apply mo_load; exact rfl; exact .there (.there (.there (rx (L := [])))); exact trivial)
    | (apply wo_po; apply mo_makeInterface; exact rfl; exact trivial)
    | refine we_seq ?_
    | (refine we_region _ rfl rfl ?_; simp only [opsOf, List.map_cons, List.map_nil, Option.map_none, Option.map_some, List.getElem?_toArray, List.getElem?_cons_zero, List.getElem?_cons_succ, Option.bind_some, Option.getD_some])
    | refine wo_nil ?_
    | (apply wo_po; apply mo_load; exact rfl; (repeat (first | exact Rd.row0 rfl | exact Rd.row rfl rfl | exact Rd.still | apply Rd.there)); (first | exact trivial | exact rfl)))
  refine wo_callv (args := [_]) (pk := ⟨fun ch t h x ⟨q, a, b, c⟩ => ⟨rfl, b, q, a, c⟩⟩) rfl hcal (.cons rfl .nil) trivial (tr sb says turn fin wg s n _ hok) ?_
  rintro v L' x' ⟨s', q', n', rfl, hp, hL⟩
  refine wo_star _ hL ?_
  have r2 : ∀ {c : HProp}, Rd (g.U s' :: seatR sb says turn fin :: g.Fin q' :: [arr ab 0 [.pointer (some ⟨wg, 0, none⟩)], arr tb 0 [fv], fro xb 0 [.pointer (some ⟨sb, 0, none⟩)]]) sb 2 (.chan (some says)) := .there (Rd.fro (k := 2) rfl rfl)
  have r1 : Rd (g.U s' :: seatR sb says turn fin :: g.Fin q' :: [arr ab 0 [.pointer (some ⟨wg, 0, none⟩)], arr tb 0 [fv], fro xb 0 [.pointer (some ⟨sb, 0, none⟩)]]) sb 1 (.chan (some fin)) := .there (Rd.fro (k := 1) rfl rfl)
  have hsays : g.says q' = .agg #[.int .u8 0, .int .i64 0, .bool true] := by unfold Game.says; rw [hp]; rfl
  repeat (first
    | (apply wo_po; apply mo_load; exact rfl; exact .there (.there (.there (rx (L := [])))); exact trivial)
    | (apply wo_po; apply mo_load; exact rfl; (first | exact r2 (c := g.Fin q') | exact r1); exact trivial)
    | (apply wo_po; apply mo_build (pv := [(1, _)]); exact rfl; exact .cons rfl .nil; exact rfl; exact trivial)
    | refine we_seq ?_
    | (refine we_region _ rfl rfl ?_; simp only [opsOf, List.map_cons, List.map_nil, Option.map_none, Option.map_some, List.getElem?_toArray, List.getElem?_cons_zero, List.getElem?_cons_succ, Option.bind_some, Option.getD_some])
    | refine wo_nil ?_
    | (apply wo_po; apply mo_nilCheck; exact rfl; (first | exact trivial | exact rfl))
    | (apply wo_po; apply mo_fieldAddr; exact rfl; exact rfl; (first | exact Nat.zero_add _ | exact rfl); (first | exact trivial | exact rfl)))
  apply wo_say (q := q')
  exact rfl
  rw [hsays]; exact rfl
  exact rfl
  exact .here
  exact trivial
  rw [show g.next q' n' = .over q' by unfold Game.next; rw [hp]]
  repeat (first
    | (apply wo_po; apply mo_bin; exact rfl; exact rfl; apply bin_eqlT; omega; (first | exact trivial | exact rfl))
    | (apply wo_po; apply mo_bin; exact rfl; exact rfl; apply bin_eqlF; omega; (first | exact trivial | exact rfl))
    | refine wo_nil ?_
    | (apply wo_po; apply mo_extract; exact rfl; exact rfl; (first | exact trivial | exact rfl))
    | (apply we_condT; exact rfl; (first | exact rfl | (simp <;> omega) | omega))
    | refine we_skip ?_
    | refine we_block ?_)
  exact fun t h _ _ st => ⟨rfl, q', rfl, star_map (star_drop st) (fun _ a => a) (fun _ _ => trivial)⟩

/-- what a thread says, in cells -/
def lastC : Option (Int × Int) → List Value
  | some m => [.int .u8 m.1, .int .i64 m.2, .bool false]
  | none => [.int .u8 0, .int .i64 0, .bool true]
theorem lastC_says {q : g.θ} : (g.says q).cells.toList = lastC ((g.plan q).map (·.1)) := by
  unfold Game.says
  cases (g.plan q).map (·.1) <;> rfl
theorem lastC_len {o : Option (Int × Int)} : (lastC o).length = 3 := by cases o <;> rfl
theorem lastC_one {o : Option (Int × Int)} : ∀ w ∈ lastC o, one w = true := by
  cases o <;> intro w hw <;> simp [lastC] at hw <;> rcases hw with rfl | rfl | rfl <;> rfl

/-- the starter's state -/
abbrev gx (g : Game) (wg : Nat) (seats : List (Seat g.σ g.θ)) (tok : Option g.σ) (left : Nat) (ad : Nat) : MX := .game ⟨g, wg, seats, tok, left, ad, false, .play⟩

/-- RUN: a thread is started; it has said where it stands. -/
theorem run_tr {ini : g.σ → g.σ × g.θ} {fv : Value} {M : HProp} {s : g.σ} {seats : List (Seat g.σ g.θ)} {left : Nat} (TO : ThrOk g ini fv M) (hok : g.ok s) (hfin : ∀ q h, g.Pv q h → g.Fin q h) (hlen : seats.length < 1000) (hs : ∀ h, Star F h → h.shp wg = some (87, 2)) :
    Tr Try.prog mT 47 [.pointer (some ⟨sb, 0, none⟩), fv, .pointer (some ⟨wg, 0, none⟩)]
      (g.U s :: M :: arr sb 0 [.chan (some turn), .chan (some fin), .chan (some says), .int .u8 0, .int .i64 0, .bool false] :: ob says newChan :: ob turn newChan :: ob fin newChan :: F) (gx g wg seats (some s) left seats.length) fun v L' x' =>
      v = .tuple #[] ∧ L' = g.U (ini s).1 :: seatR sb says turn fin :: arr sb 3 (lastC ((g.plan (ini s).2).map (·.1))) :: F ∧ x' = gx g wg (seats ++ [⟨says, turn, fin, .said (ini s).2⟩]) (some (ini s).1) left (seats.length + 1) := by
  refine Tr.post (R := fun v L' x' => v = .tuple #[] ∧ x' = gx g wg (seats ++ [⟨says, turn, fin, .said (ini s).2⟩]) (some (ini s).1) left (seats.length + 1) ∧ ∀ h, Star L' h → Star (g.U (ini s).1 :: seatR sb says turn fin :: arr sb 3 (lastC ((g.plan (ini s).2).map (·.1))) :: F) h) ?_
    (by rintro v L' x' ⟨rfl, rfl, h2⟩; exact ⟨_, ⟨rfl, rfl, rfl⟩, h2⟩)
  have hfv : fv.cells = #[fv] := by obtain ⟨f, first, cap, hc, _⟩ := TO.run; exact callee_one hc
  refine tr_of_body Try.func47 rfl Try.ntmps47 (by simp) fun um Q _ hQ => ?_
  simp only [argE, Nat.zero_add, Nat.reduceAdd]
  repeat (first
    | (apply wo_mo; apply mo_box; exact rfl; exact trivial)
    | refine we_seq ?_
    | (refine we_region _ rfl rfl ?_; simp only [opsOf, List.map_cons, List.map_nil, Option.map_none, Option.map_some, List.getElem?_toArray, List.getElem?_cons_zero, List.getElem?_cons_succ, Option.bind_some, Option.getD_some]))
  rintro v' L' ⟨xb, rfl, rfl⟩
  repeat (first
    | (apply wo_mo; apply mo_box; exact rfl; exact trivial))
  rintro v' L' ⟨tb, rfl, rfl⟩
  repeat (first
    | (apply wo_mo; apply mo_box; exact rfl; exact trivial))
  rintro v' L' ⟨ab, rfl, rfl⟩
  rw [hfv]
  let L0 : List HProp := arr ab 0 [.pointer (some ⟨wg, 0, none⟩)] :: arr tb 0 [fv] :: arr xb 0 [.pointer (some ⟨sb, 0, none⟩)] :: g.U s :: M :: arr sb 0 [.chan (some turn), .chan (some fin), .chan (some says), .int .u8 0, .int .i64 0, .bool false] :: ob says newChan :: ob turn newChan :: ob fin newChan :: F
  refine wo_ent L0 .refl ?_
  repeat (first
    | refine we_seq ?_
    | (refine we_region _ rfl rfl ?_; simp only [opsOf, List.map_cons, List.map_nil, Option.map_none, Option.map_some, List.getElem?_toArray, List.getElem?_cons_zero, List.getElem?_cons_succ, Option.bind_some, Option.getD_some])
    | refine wo_nil ?_
    | (apply wo_po; apply mo_load; exact rfl; (repeat (first | exact Rd.row0 rfl | exact Rd.row rfl rfl | exact Rd.still | apply Rd.there)); (first | exact trivial | exact rfl)))
  refine wo_call (.cons rfl (.cons rfl .nil)) trivial (wgAdd_tr (X := ⟨g, wg, seats, some s, left, seats.length, false, .play⟩) rfl hlen rfl rfl rfl (fun h st => hs h (star_drop (star_drop (star_drop (star_drop (star_drop (star_drop (star_drop (star_drop (star_drop st))))))))))) ?_
  rintro v1 L1 x1 ⟨rfl, rfl, rfl⟩
  repeat (first
    | (apply wo_po; apply mo_makeFunc (first := []) (cap := [_, _, _]) (vf := []); exact .nil; exact .cons rfl (.cons rfl (.cons rfl .nil)); exact trivial)
    | refine we_seq ?_
    | (refine we_region _ rfl rfl ?_; simp only [opsOf, List.map_cons, List.map_nil, Option.map_none, Option.map_some, List.getElem?_toArray, List.getElem?_cons_zero, List.getElem?_cons_succ, Option.bind_some, Option.getD_some])
    | refine wo_nil ?_)
  refine wo_star (arr sb 0 [.chan (some turn), .chan (some fin), .chan (some says)] :: arr sb 3 [.int .u8 0, .int .i64 0, .bool false] :: arr ab 0 [.pointer (some ⟨wg, 0, none⟩)] :: arr tb 0 [fv] :: arr xb 0 [.pointer (some ⟨sb, 0, none⟩)] :: g.U s :: M :: ob says newChan :: ob turn newChan :: ob fin newChan :: F)
    (fun h st => star_cut (us := [.chan (some turn), .chan (some fin), .chan (some says)]) (vs := [.int .u8 0, .int .i64 0, .bool false]) (((.there (.there (.there (.there (.there .here))))) : Has L0 _ _).star st)) ?_
  refine wo_frz (b := sb) (o := 0) .here ?_
  refine wo_frz (b := xb) (o := 0) (.there (.there (.there (.there .here)))) ?_
  refine wo_star _ (fun h st => fro_two (((.there (.there .here)) : Has _ (seatR sb says turn fin) _).star (fro_two st))) ?_
  refine wo_start (s' := (ini s).1) (q' := (ini s).2) (M := [g.U s, seatR sb says turn fin, M, arr ab 0 [.pointer (some ⟨wg, 0, none⟩)], arr tb 0 [fv], fro xb 0 [.pointer (some ⟨sb, 0, none⟩)]]) (cap := [_, _, _]) rfl trivial rfl rfl rfl rfl
    (fun h st => star_map (Ent.star (.take (.there (.there (.there (.there (.there (.there (.there (.there (.there .here))))))))) (.take (.there (.there (.there (.there (.there (.there (.there (.there (.there .here))))))))) (.take (.there (.there (.there (.there (.there (.there (.there (.there (.there .here))))))))) (.take (.there (.there (.there (.there (.there (.there (.there .here))))))) (.take .here (.take (.there (.there (.there (.there (.there (.there .here)))))) (.take (.there (.there (.there (.there .here)))) (.take (.there (.there (.there (.there .here)))) (.take (.there .here) .refl))))))))) st) (fun _ a => a) (fun _ s1 => star_map s1 (fun _ a => a) fun _ s2 => star_map s2 (fun _ a => a) fun _ s3 => star_shut (M := [_, _, _, _, _, _]) s3))
    (fun hc st => goes_tr TO hok hfin st) ?_
  have rx : ∀ {c : HProp}, Rd (c :: fro xb 0 [.pointer (some ⟨sb, 0, none⟩)] :: arr sb 3 [.int .u8 0, .int .i64 0, .bool false] :: F) xb 0 (.pointer (some ⟨sb, 0, none⟩)) := .there (Rd.fro (k := 0) rfl rfl)
  have r2 : Rd (seatR sb says turn fin :: fro xb 0 [.pointer (some ⟨sb, 0, none⟩)] :: arr sb 3 [.int .u8 0, .int .i64 0, .bool false] :: F) sb 2 (.chan (some says)) := Rd.fro (k := 2) rfl rfl
  repeat (first
    | refine wo_nil ?_)
  refine we_draw (List.range' 0 9) (by kernel_rfl) ?_
  repeat (first
    | (apply ap_read; exact rfl; exact rfl; exact trivial; apply mo_load; exact rfl; (first | exact rx | exact r2))
    | (apply ap_pure; exact rfl; exact rfl; (first | exact trivial | exact rfl); intro L; apply mo_nilCheck; exact rfl)
    | (apply ap_pure; exact rfl; exact rfl; (first | exact trivial | exact rfl); intro L; apply mo_fieldAddr; exact rfl; exact rfl; (first | exact Nat.zero_add _ | exact rfl)))
  refine ap_hear (j := seats.length) (c := ⟨says, turn, fin, .run (ini s).1 (ini s).2⟩) (s := (ini s).1) (q := (ini s).2) rfl rfl rfl trivial rfl rfl rfl (by simp) rfl rfl ?_ ?_
  · intro p hp
    replace hp := (List.mem_filter.1 hp).1
    simp only [List.mem_cons, List.not_mem_nil, or_false] at hp
    rcases hp with rfl | rfl | rfl | rfl | rfl <;> first | exact .inl rfl | exact .inr ⟨_, rfl, trivial, mo_load rfl (.there (by first | exact rx | exact r2))⟩
  have hset : (seats ++ [(⟨says, turn, fin, .run (ini s).1 (ini s).2⟩ : Seat g.σ g.θ)]).set seats.length ⟨says, turn, fin, .said (ini s).2⟩ = seats ++ [⟨says, turn, fin, .said (ini s).2⟩] := by simp
  have hc := lastC_says (g := g) (q := (ini s).2)
  have hov : over [.int .u8 0, .int .i64 0, .bool false] 0 (g.says (ini s).2).cells.toList = lastC ((g.plan (ini s).2).map (·.1)) := by
    rw [hc]; unfold over; simp [lastC_len]
  show Ap _ mT _ _ _ _ _ _ _ _ _ (g.U (ini s).1 :: seatR sb says turn fin :: fro xb 0 [.pointer (some ⟨sb, 0, none⟩)] :: arr sb 3 [.int .u8 0, .int .i64 0, .bool false] :: F) (gx g wg ((seats ++ [(⟨says, turn, fin, .run (ini s).1 (ini s).2⟩ : Seat g.σ g.θ)]).set seats.length ⟨says, turn, fin, .said (ini s).2⟩) (some (ini s).1) left (seats.length + 1))
  rw [hset]
  repeat (first
    | (apply ap_pure; exact rfl; exact rfl; (first | exact trivial | exact rfl); intro L; apply mo_nilCheck; exact rfl)
    | (apply ap_pure; exact rfl; exact rfl; (first | exact trivial | exact rfl); intro L; apply mo_fieldAddr; exact rfl; exact rfl; (first | exact Nat.zero_add _ | exact rfl)))
  refine ap_loud rfl rfl rfl rfl rfl trivial (mo_storeA (n := 3) (c := 3) (k := 0) (a := 3) (vs := [.int .u8 0, .int .i64 0, .bool false]) rfl rfl (by rw [← Array.length_toList, hc]; exact lastC_len) (by rw [hc]; exact lastC_one) rfl (Nat.le_refl 3) (.there (.there (.there .here)))) ?_
  rintro v' L' ⟨rfl, rfl⟩
  rw [hov]
  refine ap_end ?_
  (first | refine at_ret0 (ex := .ret) Try.func47 Try.results47 hQ (.inl rfl) ?_ | refine at_ret0 (ex := .normal) Try.func47 Try.results47 hQ (.inr rfl) ?_)
  exact ⟨rfl, rfl, fun h st => Ent.star (.take .here (.take .here (.take (.there .here) (.drop .refl)))) st⟩
end
end Go.Proofs.Ytabbkjciifnehaa
