/-
  Part 4 of 7.
-/
import Derived.Test.YtodgemainhokjaaWh3
import Derived.Test.YtodgemainhokjaaWh2
set_option linter.unusedVariables false
set_option linter.unusedSimpArgs false
namespace Go.Proofs.Ytodgemainhokjaa
open Go Go.PB
attribute [local irreducible] Mo Bin Eql Tr Wo Ap Wle
attribute [local instance] Pass.of_no
instance {P : Program} {t e : Nat} [p : PtT P t e] : Und P t (.pointer e) := ⟨p.ok⟩
abbrev mH (cv : Value) : Hand := mHand Try.prog cv 62 119
theorem mo_noBubble {P : Program} {e : Env} {L : List HProp} {f : Nat} {tys : Array TypeId} {ty : TypeId} [x : Exn P f (fun _ => (pure (.bool false) : Sem Value))] : Mo P e (.call ⟨.value (.func f), #[], tys⟩) ty L fun v' L' => v' = .bool false ∧ L' = L :=
 mo_ext (en := fun _ => (pure (.bool false) : Sem Value)) (args := []) (vs := []) .nil fun _ _ _ _ st q => q _ _ _ ⟨rfl, rfl⟩ st
theorem at_enable {cv : Value} {X : GX} {n : Nat} {e : Env} {L : List HProp} {f : FuncId} {fn : Func} {um : FrameMode} {Q : PB.End → FrameMode → Hp → MX → Prop} {R : Value → List HProp → MX → Prop} {ex : Ex} {g : Nat} [xn : Exn Try.prog g (fun _ => (do mark .enable; pure Extern.Race.none_ : Sem Value))]
  (hf : Try.prog.funcs[f]? = some fn) (hr : fn.results = #[]) (hQ : ∀ v L' x' h', R v L' x' → Star L' h' → Q (.ret v) um h' x') (hex : ex = .ret ∨ ex = .normal) (hd : X.deaf = true) (hR : R (.tuple #[]) L (.game { X with deaf := false })) :
  At n e L fun t h => leave Try.prog (mH cv) f .normal Q ex t ⟨[{ target := .fn (.func g) [].toArray, args := ([] ++ [] : List Value).toArray }], um⟩ h (.game X) := by
 intro t h a1 a2 a3
 have key : Wd Try.prog (mH cv) f .normal .returning t ⟨[{ target := .fn (.func g) [].toArray, args := ([] ++ [] : List Value).toArray }], um⟩ h (.game X) Q := by
  refine wd_late rfl fun O hO => ⟨X, rfl, hd, ?_, hO _ _ ?_⟩
  ·exact says_enable
  ·have := at_ret0 (kd := .normal) (n := n) (e := e) (L := L) (B := mH cv) (x := .game { X with deaf := false }) hf hr hQ (.inl rfl : Ex.ret = .ret ∨ Ex.ret = .normal) hR
   exact this t h a1 a2 a3
 rcases hex with rfl | rfl
 ·exact key
 ·exact key
section
variable {cv : Value} {X : GX} {L F : List HProp}
theorem uAdd_tr (p : X.wt = .play) (h1 : X.ad < 1000) (h2 : X.ad = X.seats.length) (tk : X.tok.isSome = true) (hd : X.deaf = true) :
  Tr Try.prog (mH cv) 86 [.pointer (some ⟨X.wg, 0, none⟩), .int .u64 4294967296] L (.game X) fun v L' x' => ∃ m : Nat, m ≤ X.ad ∧ v = .int .u64 ((m + 1 : Nat) * kk) ∧ L' = L ∧ x' = .game { X with ad := X.ad + 1 } := by
 refine tr_of_body Try.func86 rfl Try.ntmps86 (by simp) fun um Q _ hQ => ?_
 simp only [argE, Nat.zero_add, Nat.reduceAdd]
 repeat (first | refine we_seq ?_ | (refine wR ?_; try simp only [oS]) | refine wo_nil ?_ | refine wM ?_ | refine wA ?_ | refine wN ?_ | refine wD ?_)
 refine wo_add rfl rfl p h1 h2 tk hd trivial (by decide) fun m hm => ?_
 repeat (first | refine wo_nil ?_ | refine wA ?_ | refine we_ret ?_)
 (first | refine or1 Try.func86 Try.results86 hQ rfl ?_ | refine on1 Try.func86 Try.results86 hQ rfl ?_)
 exact ⟨m, hm, rfl, rfl, rfl⟩
theorem uLook_tr (b : Nat) (p : X.wt = .wait b ∨ (X.wt = .play ∧ b = X.ad ∧ X.ad = X.seats.length ∧ ∀ s ∈ X.seats, s.closed)) (hd : X.deaf = true) :
  Tr Try.prog (mH cv) 47 [.pointer (some ⟨X.wg, 0, none⟩)] L (.game X) fun v L' x' => L' = L ∧ ((∃ m : Nat, 0 < m ∧ m ≤ b ∧ v = .int .u64 (m * kk) ∧ x' = .game { X with wt := .seen m }) ∨ (v = .int .u64 0 ∧ x' = .game { X with wt := .zero })) := by
 refine tr_of_body Try.func47 rfl Try.ntmps47 (by simp) fun um Q _ hQ => ?_
 simp only [argE, Nat.zero_add, Nat.reduceAdd]
 repeat (first | refine we_seq ?_ | (refine wR ?_; try simp only [oS]) | refine wo_nil ?_ | refine wM ?_ | refine wA ?_ | refine wN ?_ | refine wD ?_)
 refine wo_look b rfl p hd trivial (by decide) (fun m h1 h2 => ?_) ?_
 ·repeat (first | refine wo_nil ?_ | refine wA ?_ | refine we_ret ?_)
  (first | refine or1 Try.func47 Try.results47 hQ rfl ?_ | refine on1 Try.func47 Try.results47 hQ rfl ?_)
  exact ⟨rfl, .inl ⟨m, h1, h2, rfl, rfl⟩⟩
 ·repeat (first | refine wo_nil ?_ | refine wA ?_ | refine we_ret ?_)
  (first | refine or1 Try.func47 Try.results47 hQ rfl ?_ | refine on1 Try.func47 Try.results47 hQ rfl ?_)
  exact ⟨rfl, .inr ⟨rfl, rfl⟩⟩
theorem uLast_tr (p : X.wt = .woken) (hd : X.deaf = true) :
  Tr Try.prog (mH cv) 47 [.pointer (some ⟨X.wg, 0, none⟩)] L (.game X) fun v L' x' => L' = L ∧ v = .int .u64 0 ∧ x' = .game { X with wt := .zero } := by
 refine tr_of_body Try.func47 rfl Try.ntmps47 (by simp) fun um Q _ hQ => ?_
 simp only [argE, Nat.zero_add, Nat.reduceAdd]
 repeat (first | refine we_seq ?_ | (refine wR ?_; try simp only [oS]) | refine wo_nil ?_ | refine wM ?_ | refine wA ?_ | refine wN ?_ | refine wD ?_)
 refine wo_last rfl p hd trivial (by decide) ?_
 repeat (first | refine wo_nil ?_ | refine wA ?_ | refine we_ret ?_)
 (first | refine or1 Try.func47 Try.results47 hQ rfl ?_ | refine on1 Try.func47 Try.results47 hQ rfl ?_)
 exact ⟨rfl, rfl, rfl⟩
theorem uSwap_tr {v : Nat} (hv : 0 < v) (p : X.wt = .seen v) (hd : X.deaf = true) :
  Tr Try.prog (mH cv) 48 [.pointer (some ⟨X.wg, 0, none⟩), .int .u64 (v * kk), .int .u64 (v * kk + 1)] L (.game X) fun w L' x' => L' = L ∧ ((w = .bool true ∧ x' = .game { X with wt := .parked }) ∨ ∃ b, b < v ∧ w = .bool false ∧ x' = .game { X with wt := .wait b }) := by
 refine tr_of_body Try.func48 rfl Try.ntmps48 (by simp) fun um Q _ hQ => ?_
 simp only [argE, Nat.zero_add, Nat.reduceAdd]
 repeat (first | refine we_seq ?_ | (refine wR ?_; try simp only [oS]) | refine wo_nil ?_ | refine wM ?_ | refine wA ?_ | refine wN ?_ | refine wD ?_)
 refine wo_swap rfl rfl rfl hv p hd trivial (by decide) ?_ fun b hb => ?_
 ·repeat (first | refine wo_nil ?_ | refine wA ?_ | refine we_ret ?_)
  (first | refine or1 Try.func48 Try.results48 hQ rfl ?_ | refine on1 Try.func48 Try.results48 hQ rfl ?_)
  exact ⟨rfl, .inl ⟨rfl, rfl⟩⟩
 ·repeat (first | refine wo_nil ?_ | refine wA ?_ | refine we_ret ?_)
  (first | refine or1 Try.func48 Try.results48 hQ rfl ?_ | refine on1 Try.func48 Try.results48 hQ rfl ?_)
  exact ⟨rfl, .inr ⟨b, hb, rfl, rfl⟩⟩
theorem kk_bits {m : Nat} (h : m < 1002) : IntKind.u64.wrap (BitVec.ofInt IntKind.u64.bits ((m : Int) * kk) &&& BitVec.ofInt IntKind.u64.bits (2147483648 : Int)).toNat = 0 ∧
  IntKind.u64.wrap (BitVec.ofInt IntKind.u64.bits ((m : Int) * kk) &&& BitVec.ofInt IntKind.u64.bits (2147483647 : Int)).toNat = 0 ∧ ((m : Int) * kk).fdiv (2 ^ (min (32 : Int).toNat IntKind.u64.bits)) = m ∧ IntKind.i32.wrap (m : Int) = m := by
 have key : ∀ m ∈ List.range 1002, IntKind.u64.wrap (BitVec.ofInt IntKind.u64.bits ((m : Int) * kk) &&& BitVec.ofInt IntKind.u64.bits (2147483648 : Int)).toNat = 0 ∧
  IntKind.u64.wrap (BitVec.ofInt IntKind.u64.bits ((m : Int) * kk) &&& BitVec.ofInt IntKind.u64.bits (2147483647 : Int)).toNat = 0 ∧ ((m : Int) * kk).fdiv (2 ^ (min (32 : Int).toNat IntKind.u64.bits)) = m ∧ IntKind.i32.wrap (m : Int) = m := by decide +kernel
 exact key m (List.mem_range.2 h)
theorem wgAdd_tr (p : X.wt = .play) (h1 : X.ad < 1000) (h2 : X.ad = X.seats.length) (tk : X.tok.isSome = true) (hd : X.deaf = false) (hs : ∀ h, Star L h → h.shp X.wg = some (119, 2)) :
  Tr Try.prog (mH cv) 60 [.pointer (some ⟨X.wg, 0, none⟩), .int .i64 1] L (.game X) fun v L' x' => v = .tuple #[] ∧ L' = L ∧ x' = .game { X with ad := X.ad + 1 } := by
 refine tr_of_body Try.func60 rfl Try.ntmps60 (by simp) fun um Q _ hQ => ?_
 simp only [argE, Nat.zero_add, Nat.reduceAdd]
 repeat (first | refine wlssF ?_ | refine we_seq ?_ | (refine wR ?_; try simp only [oS]) | refine wo_nil ?_ | refine wM ?_ | refine wT ?_ | refine wF ?_ | refine we_skip ?_)
 refine wo_disable trivial (by decide) hd ?_
 repeat (first | (refine wR ?_; try simp only [oS]) | refine wo_nil ?_)
 refine wo_defer (first := []) (cap := []) (vs := []) rfl .nil trivial ?_
 repeat (first | (apply wo_po; apply mo_noBubble; exact trivial) | refine we_seq ?_ | (refine wR ?_; try simp only [oS]) | refine wo_nil ?_ | refine wM ?_ | refine wA ?_ | refine wN ?_ | refine wD ?_ | (apply wo_po; apply mo_conv; exact rfl; (first | exact wrap_i64 (by omega) (by omega) | exact wrap_u64 (by omega) (by omega)); exact gY) | refine wF ?_ | refine we_skip ?_)
 have c1 : IntKind.u64.wrap (1 : Int) = 1 := by decide
 have c2 : IntKind.u64.wrap ((1 : Int) * 2 ^ (min (32 : Int).toNat IntKind.u64.bits)) = 4294967296 := by decide
 repeat (first | (apply wo_po; apply mo_bin; exact rfl; exact rfl; apply bin_shl; omega; exact c2; exact trivial))
 refine wo_call (.cons rfl (.cons rfl .nil)) trivial (uAdd_tr (X := { X with deaf := true }) p h1 h2 tk rfl) ?_
 rintro v1 L1 x1 ⟨m, hm, rfl, rfl, rfl⟩
 replace hm : m ≤ X.ad := hm
 obtain ⟨b1, b2, b3, b4⟩ := kk_bits (m := m + 1) (by omega)
 have b5 : IntKind.u32.wrap 0 = 0 := by decide
 have b6 : IntKind.i32.wrap 1 = 1 := by decide
 repeat (first | (apply wo_po; apply mo_bin; exact rfl; exact rfl; apply bin_and; (first | exact b1 | exact b2); exact trivial) | (apply wo_po; apply mo_bin; exact rfl; exact rfl; apply bin_shr; omega; exact b3; exact trivial) | (apply wo_po; apply mo_conv; exact rfl; (first | exact b4 | exact b5 | exact b6); exact gY) | refine wgtrT ?_ | refine wneqF ?_ | refine we_seq ?_ | (refine wR ?_; try simp only [oS]) | refine wo_nil ?_ | refine wM ?_ | refine wA ?_ | (apply wo_no; exact rfl) | refine wK ?_ | refine wJ ?_ | (apply wo_po; apply mo_bin; exact rfl; exact rfl; exact bin_eql; exact gY) | refine wF ?_ | refine we_skip ?_)
 by_cases hm0 : m = 0
 ·repeat (first | (apply wo_po; apply mo_convPUo (c := 1) (m := 2) (by decide : (1 : Nat) ≠ 0); exact rfl; exact hs; omega; exact trivial) | (refine wR ?_; try simp only [oS]) | refine wM ?_ | refine wN ?_ | refine wD ?_ | refine wT ?_)
  apply wo_mark (X := { X with deaf := true, ad := X.ad + 1 }) (m := Mark.read)
  exact rfl
  exact .inl rfl
  exact trivial
  decide
  repeat (first | refine wlssF ?_ | refine wgtrT ?_ | refine wneqF ?_ | refine we_seq ?_ | (refine wR ?_; try simp only [oS]) | refine wo_nil ?_ | refine wM ?_ | (apply wo_no; exact rfl) | refine wK ?_ | refine wJ ?_ | refine wT ?_ | refine wF ?_ | refine we_ret ?_ | refine we_skip ?_)
  refine at_enable (X := { X with deaf := true, ad := X.ad + 1 }) Try.func60 Try.results60 hQ (.inl rfl) rfl ?_
  exact ⟨rfl, rfl, by rw [← hd]⟩
 ·repeat (first | refine wlssF ?_ | refine wgtrT ?_ | refine wneqF ?_ | refine we_seq ?_ | (refine wR ?_; try simp only [oS]) | refine wo_nil ?_ | refine wM ?_ | (apply wo_no; exact rfl) | refine wK ?_ | refine wJ ?_ | refine wT ?_ | refine wF ?_ | refine we_ret ?_ | refine we_skip ?_)
  refine at_enable (X := { X with deaf := true, ad := X.ad + 1 }) Try.func60 Try.results60 hQ (.inl rfl) rfl ?_
  exact ⟨rfl, rfl, by rw [← hd]⟩
def waitX (X : GX) : Option Nat → GX
 | none => { X with deaf := true }
 | some b => { X with deaf := true, wt := .wait b }
def WaitI (X : GX) (ptr : Value) (L : List HProp) : PB.Inv (Option Nat) MX where
 e := fun _ => [(0, ptr)]
 L := fun _ => L
 x := fun b => .game (waitX X b)
 ok := fun b => ∀ c, b = some c → c ≤ X.ad
def waitM (X : GX) : Option Nat → Nat
 | none => X.ad + 1
 | some b => b
theorem wgWait_tr (p : X.wt = .play) (h1 : X.ad < 1000) (h2 : X.ad = X.seats.length) (hc : ∀ s ∈ X.seats, s.closed) (hd : X.deaf = false) (hs : ∀ h, Star L h → h.shp X.wg = some (119, 2)) :
  Tr Try.prog (mH cv) 53 [.pointer (some ⟨X.wg, 0, none⟩)] L (.game X) fun v L' x' => v = .tuple #[] ∧ L' = all (X.seats.map Seat.fins) :: L ∧ x' = .idle := by
 have b5 : IntKind.u32.wrap 0 = 0 := by decide
 refine tr_of_body Try.func53 rfl Try.ntmps53 (by simp) fun um Q _ hQ => ?_
 simp only [argE, Nat.zero_add, Nat.reduceAdd]
 repeat (first | refine we_seq ?_ | (refine wR ?_; try simp only [oS]) | refine wT ?_)
 refine wo_disable trivial (by decide) hd ?_
 repeat (first | refine wo_nil ?_ | refine we_block ?_)
 refine we_loopN (WaitI X (.pointer (some ⟨X.wg, 0, none⟩)) L) (waitM X) none (fun c h => by cases h) (by exact ⟨rfl, trivial⟩) .refl rfl ?_
 intro ob hob
 obtain ⟨b, hb, hbm⟩ : ∃ b, b ≤ X.ad ∧ (∀ c, c < b → c < waitM X ob) ∧ ((waitX X ob).wt = .wait b ∨ ((waitX X ob).wt = .play ∧ b = (waitX X ob).ad ∧ (waitX X ob).ad = (waitX X ob).seats.length ∧ ∀ s ∈ (waitX X ob).seats, s.closed)) := by
  cases ob with
  | none => exact ⟨X.ad, Nat.le_refl _, fun c h => Nat.lt_succ_of_lt h, .inr ⟨p, rfl, h2, hc⟩⟩
  | some b => exact ⟨b, hob b rfl, fun c h => h, .inl rfl⟩
 obtain ⟨hlt, hbm⟩ := hbm
 have hY : ∀ w, { waitX X ob with wt := w } = { X with deaf := true, wt := w } := fun w => by cases ob <;> rfl
 have hwg : (waitX X ob).wg = X.wg := by cases ob <;> rfl
 have hdf : (waitX X ob).deaf = true := by cases ob <;> rfl
 repeat (first | refine we_seq ?_ | (refine wR ?_; try simp only [oS]) | refine wM ?_ | refine wN ?_ | refine wD ?_ | refine we_block ?_)
 refine wo_call (vs := [.pointer (some ⟨(waitX X ob).wg, 0, none⟩)]) (.cons (by rw [hwg]; rfl) .nil) trivial (uLook_tr b hbm hdf) ?_
 rintro v1 L1 x1 ⟨rfl, ⟨m, hm0, hm, rfl, rfl⟩ | ⟨rfl, rfl⟩⟩
 ·obtain ⟨k1, k2, k3, k4⟩ := kk_bits (m := m) (by omega)
  have k6 : IntKind.u64.wrap ((m : Int) * kk + 1) = (m : Int) * kk + 1 := wrap_u64 (by unfold kk; omega) (by unfold kk; omega)
  rw [hY]
  repeat (first | (apply wo_po; apply mo_bin; exact rfl; exact rfl; apply bin_and; (first | exact k1 | exact k2); exact trivial) | (apply wo_po; apply mo_bin; exact rfl; exact rfl; apply bin_shr; omega; exact k3; exact trivial) | (apply wo_po; apply mo_conv; exact rfl; (first | exact k4 | exact b5); exact gY) | (apply wo_po; apply mo_bin; exact rfl; exact rfl; apply bin_add; exact k6; exact trivial) | refine weqlF ?_ | refine we_seq ?_ | (refine wR ?_; try simp only [oS]) | refine wo_nil ?_ | refine wM ?_ | refine wA ?_ | refine wN ?_ | refine wD ?_ | refine wF ?_ | refine we_skip ?_)
  refine wo_call (.cons rfl (.cons rfl (.cons rfl .nil))) trivial (uSwap_tr (X := { X with deaf := true, wt := .seen m }) hm0 rfl rfl) ?_
  rintro v1 L2 x1 ⟨rfl, ⟨rfl, rfl⟩ | ⟨c, hcm, rfl, rfl⟩⟩
  ·repeat (first | (apply wo_po; apply mo_convPUo (c := 1) (m := 2) (by decide : (1 : Nat) ≠ 0); exact rfl; exact hs; omega; exact trivial) | refine weqlT ?_ | refine we_seq ?_ | (refine wR ?_; try simp only [oS]) | refine wo_nil ?_ | refine wM ?_ | refine wK ?_ | refine wN ?_ | refine wD ?_ | refine wT ?_)
   apply wo_mark (X := { X with deaf := true, wt := .parked }) (m := Mark.write)
   exact rfl
   exact .inr rfl
   exact trivial
   decide
   repeat (first | (apply wo_po; apply mo_bin; exact rfl; exact rfl; apply bin_and; (first | exact k1 | exact k2); exact trivial) | refine wneqF ?_ | refine we_seq ?_ | (refine wR ?_; try simp only [oS]) | refine wo_nil ?_ | refine wM ?_ | refine wA ?_ | (apply wo_no; exact rfl) | refine wJ ?_ | refine wN ?_ | refine wD ?_ | refine wF ?_ | refine we_skip ?_)
   apply wo_sem (X := { X with deaf := true, wt := .parked })
   exact rfl
   exact rfl
   exact rfl
   exact rfl
   exact trivial
   decide
   repeat (first | refine we_seq ?_ | (refine wR ?_; try simp only [oS]) | refine wo_nil ?_ | refine wM ?_ | refine wN ?_ | refine wD ?_)
   refine wo_call (.cons rfl .nil) trivial (uLast_tr (X := { X with deaf := true, wt := .woken }) rfl rfl) ?_
   rintro v1 L3 x1 ⟨rfl, rfl, rfl⟩
   repeat (first | refine wneqF ?_ | refine we_seq ?_ | (refine wR ?_; try simp only [oS]) | refine wo_nil ?_ | refine wA ?_ | refine wT ?_)
   apply wo_enable (X := { X with deaf := true, wt := .zero })
   exact trivial
   decide
   exact rfl
   repeat (first | (apply wo_po; apply mo_convPUo (c := 0) (m := 2) (by decide : (2 : Nat) ≠ 0); exact rfl; exact hs; omega; exact trivial) | (refine wR ?_; try simp only [oS]) | refine wo_nil ?_ | refine wM ?_)
   apply wo_acquire (X := { X with deaf := false, wt := .zero })
   exact rfl
   exact rfl
   exact rfl
   exact trivial
   decide
   repeat (first | refine we_seq ?_ | (refine wR ?_; try simp only [oS]) | refine wo_nil ?_ | refine wM ?_ | refine wF ?_ | refine we_ret ?_ | refine we_skip ?_)
   (first | refine or0 Try.func53 Try.results53 hQ ?_ | refine on0 Try.func53 Try.results53 hQ ?_)
   exact ⟨rfl, rfl, rfl⟩
  ·repeat (first | refine wo_nil ?_ | refine wF ?_ | refine we_skip ?_)
   have hok : (WaitI X (.pointer (some ⟨X.wg, 0, none⟩)) L2).ok (some c) := fun c' h => by obtain rfl := Option.some.inj h; omega
   refine at_round (B := mH cv) (I := WaitI X (.pointer (some ⟨X.wg, 0, none⟩)) L2) (R := fun i' => waitM X i' < waitM X ob) (some c) (hlt c (by omega)) hok ?_ .refl rfl
   exact ⟨rfl, trivial⟩
 ·rw [hY]
  obtain ⟨k1, k2, k3, k4⟩ := kk_bits (m := 0) (by omega)
  repeat (first | (apply wo_po; apply mo_bin; exact rfl; exact rfl; apply bin_and; (first | exact k1 | exact k2); exact trivial) | (apply wo_po; apply mo_bin; exact rfl; exact rfl; apply bin_shr; omega; exact k3; exact trivial) | (apply wo_po; apply mo_conv; exact rfl; (first | exact k4 | exact b5); exact gY) | refine weqlT ?_ | refine we_seq ?_ | (refine wR ?_; try simp only [oS]) | refine wo_nil ?_ | refine wM ?_ | refine wA ?_ | refine wT ?_)
  apply wo_enable (X := { X with deaf := true, wt := .zero })
  exact trivial
  decide
  exact rfl
  repeat (first | (apply wo_po; apply mo_convPUo (c := 0) (m := 2) (by decide : (2 : Nat) ≠ 0); exact rfl; exact hs; omega; exact trivial) | (refine wR ?_; try simp only [oS]) | refine wo_nil ?_ | refine wM ?_)
  apply wo_acquire (X := { X with deaf := false, wt := .zero })
  exact rfl
  exact rfl
  exact rfl
  exact trivial
  decide
  repeat (first | (apply wo_po; apply mo_bin; exact rfl; exact rfl; apply bin_and; (first | exact k1 | exact k2); exact rfl) | refine weqlT ?_ | refine wneqF ?_ | refine we_seq ?_ | (refine wR ?_; try simp only [oS]) | refine wo_nil ?_ | refine wM ?_ | (apply wo_no; exact rfl) | refine wK ?_ | refine wJ ?_ | refine wF ?_ | refine we_ret ?_ | refine we_skip ?_)
  (first | refine or0 Try.func53 Try.results53 hQ ?_ | refine on0 Try.func53 Try.results53 hQ ?_)
  exact ⟨rfl, rfl, rfl⟩
end
end Go.Proofs.Ytodgemainhokjaa
namespace Go.PB
open Go.Conc
theorem star_cut {b o : Nat} {us vs : List Value} {L : List HProp} {h : Hp} (s : Star (arr b o (us ++ vs) :: L) h) : Star (arr b o us :: arr b (o + us.length) vs :: L) h := by
 obtain ⟨h1, h2, s1, ha, hL⟩ := s
 have hus : ∀ (i : Nat) v, us[i]? = some v → h1.own b (o + i) = some v := fun i v e => ha i v (by rw [List.getElem?_append_left (List.getElem?_eq_some_iff.1 e).1]; exact e)
 have hvs : ∀ (i : Nat) v, vs[i]? = some v → h1.own b (o + us.length + i) = some v := fun i v e => by
  have := ha (us.length + i) v (by rw [List.getElem?_append_right (by omega)]; simpa using e)
  rwa [← Nat.add_assoc] at this
 have dec : ∀ b' o', Decidable (b' = b ∧ o' < o + us.length) := fun _ _ => inferInstance
 refine ⟨⟨fun b' o' => if b' = b ∧ o' < o + us.length then h1.own b' o' else none, h1.ro, h1.obj, h1.shp⟩, ⟨fun b' o' => if b' = b ∧ o' < o + us.length then h2.own b' o' else h.own b' o', h2.ro, h2.obj, h2.shp⟩,
  ⟨s1.r1, s1.r2, fun b' o' v e => ?_, fun b' o' v e => ?_, fun b' o' => ?_, s1.b1, s1.b2, s1.bd, s1.s1, s1.s2⟩, fun i v e => ?_,
  ⟨fun b' o' => if b' = b ∧ o' < o + us.length then none else h1.own b' o', fun _ _ => none, fun _ => none, fun _ => none⟩, h2, ⟨fun _ _ _ e => by simp at e, fun _ _ _ e => e, fun b' o' v e => ?_, fun b' o' v e => ?_, fun b' o' => ?_, fun _ _ e => by simp at e, fun _ _ e => e, fun _ => .inl rfl, fun _ _ e => by simp at e, fun _ _ e => e⟩, fun i v e => ?_, hL⟩
 ·simp only at e; split at e
  ·exact s1.o1 _ _ _ e
  ·cases e
 ·simp only at e; split at e
  ·exact s1.o2 _ _ _ e
  ·exact e
 ·simp only
  by_cases hc : b' = b ∧ o' < o + us.length
  ·rw [if_pos hc, if_pos hc]; exact s1.od _ _
  ·rw [if_neg hc]; exact .inl rfl
 ·simp only
  rw [if_pos ⟨trivial, by have := (List.getElem?_eq_some_iff.1 e).1; omega⟩]
  exact hus i v e
 ·simp only at e ⊢; split at e
  ·cases e
  ·rename_i hc; rw [if_neg hc]; exact s1.o1 _ _ _ e
 ·simp only; split
  ·exact e
  ·exact s1.o2 _ _ _ e
 ·simp only; split
  ·exact .inl rfl
  ·exact s1.od _ _
 ·simp only
  rw [if_neg (by rintro ⟨_, h⟩; omega)]
  exact hvs i v e
theorem Has.trans {L F G : List HProp} {c d : HProp} (a : Has L c F) (b : Has F d G) : ∃ G', Has L d G' := by
 induction a generalizing G with
 | here => exact ⟨_, .there b⟩
 | there _ ih =>
  cases b with
  | here => exact ⟨_, .here⟩
  | there b => obtain ⟨G', h⟩ := ih b; exact ⟨_, .there h⟩
theorem star_one {c : HProp} {h : Hp} (a : c h) : Star [c] h :=
 ⟨h, Hp.empty, ⟨fun _ _ _ e => e, fun _ _ _ e => (by cases e), fun _ _ _ e => e, fun _ _ _ e => (by cases e), fun _ _ => .inr rfl, fun _ _ e => e, fun _ _ e => (by cases e), fun _ => .inr rfl, fun _ _ e => e, fun _ _ e => (by cases e)⟩, a, trivial⟩
section
variable {P : Program} {B : Hand} {kd : CallKind} {n : Nat} {ops : Array Oper} {ord R : List Nat} {Pd : List Pn} {K : Post B} {e : Env} {z : Z} {L : List HProp} {x : B.X}
theorem ap_talk [MonoH B] [Lets B] {i : Nat} {o : Oper} {d : Option Nat} {Pd' : List Pn} {cases : Array CommCase} {bl : Bool} {sh : CommShape} {Q : Value → List HProp → B.X → Prop} (ho : nth ops.toList i = some o) (hd : o.dst = d) (hdom : (R.all fun j => (anc ops ops.size j).contains i) = true) (hpd' : pdKeep ops i Pd = Pd') (hg : gYes (resE (readsOf n ops i) e) (guardOf n ops o))
  (hx : ∀ t w, Agree (resE (readsOf n ops i) e) t → (execOp (evT t) (opOf o.op o.type)).runT P w #[] = (.ok (.comm cases bl sh) w, #[]))
  (ha : ∀ h (O : Value → Hp → B.X → Prop), Star L h → (∀ v L' x' h', Q v L' x' → Star L' h' → O v h' x') → B.comm cases bl sh h x O)
  (hre : ∀ v L' x', Q v L' x' → ∀ p ∈ Pd', p.st = true ∨ ∃ o, nth ops.toList p.i = some o ∧ gYes p.e (guardOf n ops o) ∧ Mo P p.e o.op o.type L' (fun v' L1 => v' = p.v ∧ L1 = L'))
  (k : ∀ v L' x', Q v L' x' → Ap P B kd n ops ord R Pd' K (setE d v e) z L' x') : Ap P B kd n ops ord (i :: R) Pd K e z L x := by
 subst hd
 subst hpd'
 have ho := nth_at ho
 refine ap_loud_gen ho hdom hg fun idx t h ht ag s hw kk => ?_
 refine wr_talk ho hw (fun w => by rw [execOp_of (op := o.op) (ty := o.type) _ rfl rfl]; exact hx t w ag) ?_
 refine ha h _ s fun v L' x' h' r s' => ?_
 exact kk v L' x' h' s' (fun p hp hk => by
  by_cases hs : p.st = true
  ·exact pd_still (Pd' := [p]) (by simp [hs]) p (by simp) hk
  ·rcases hre v L' x' r p hp with h | ⟨o, h1, h2, h3⟩
   ·exact absurd h hs
   ·exact ⟨o, nth_at h1, .inl ⟨h2, by rw [if_neg hs]; exact h3⟩⟩) (k v L' x' r)
end
section
variable {P : Program} {cv : Value} {done : FuncId} {wgT : TypeId} {kd : CallKind} {n : Nat} {ops : Array Oper} {ord R : List Nat} {Pd : List Pn} {K : Post (mHand P cv done wgT)} {e : Env} {z : Z} {L : List HProp} {X : GX}
theorem ap_hear {ct el : TypeId} {dr : ChanDir} {zv : Value} {o : Operand} {i j : Nat} {d : Option Nat} {ty : TypeId} {pos : String} {aft : Array Edge} {gd : Option (Nat × Bool)} {Pd' : List Pn} {c : Seat X.g.σ X.g.θ} {s : X.g.σ} {q : X.g.θ} [pu : Und P ct (.chan dr el)] [zr : Zer P el zv]
  (ho : nth ops.toList i = some ⟨d, .recv ct o false, ty, pos, aft, gd⟩) (hdom : (R.all fun j => (anc ops ops.size j).contains i) = true) (hpd' : pdKeep ops i Pd = Pd') (hg : gYes (resE (readsOf n ops i) e) (guardOf n ops ⟨d, .recv ct o false, ty, pos, aft, gd⟩))
  (hx : ev (resE (readsOf n ops i) e) o = some (.chan (some c.says))) (p : X.wt = .play) (hd : X.deaf = false) (hj : X.seats[j]? = some c) (st : c.st = .run s q) (tk : X.tok = none)
  (hre : ∀ p ∈ Pd', p.st = true ∨ ∃ o, nth ops.toList p.i = some o ∧ gYes p.e (guardOf n ops o) ∧ Mo P p.e o.op o.type (X.g.U s :: L) (fun v' L1 => v' = p.v ∧ L1 = X.g.U s :: L))
  (k : Ap P (mHand P cv done wgT) kd n ops ord R Pd' K (setE d (X.g.says q) e) z (X.g.U s :: L) (.game { X with tok := some s, seats := X.seats.set j { c with st := .said q } })) :
  Ap P (mHand P cv done wgT) kd n ops ord (i :: R) Pd K e z L (.game X) :=
 ap_talk (cases := #[rcase c.says zv]) (bl := true) (sh := .recv false) (Q := fun w L' x' => w = X.g.says q ∧ L' = X.g.U s :: L ∧ x' = .game { X with tok := some s, seats := X.seats.set j { c with st := .said q } }) ho rfl hdom hpd' hg
  (fun t w ag => by
   show (Sem.bind (underlying ct) fun dd => match dd with
    | .chan _ el => Sem.bind (zeroValue el) fun zv => (pure (.comm #[{ chan := evT t o, send := none, zero := zv }] true (.recv false)) : Sem Next)
    | _ => stuck "receive: channel type expected").runT P w #[] = _
   rw [und_runT pu.ok]
   show (Sem.bind (zeroValue el) _).runT P w #[] = _
   rw [runT_zero zr.ok, ag.ev hx]; rfl)
  (fun h O st' qq => ⟨rfl, X, j, c, rfl, p, hd, hj, .inl ⟨zv, s, q, rfl, rfl, st, tk, fun r h' hr hs => qq _ _ _ h' ⟨rfl, rfl, rfl⟩ ⟨r, h, hs.swap, hr, st'⟩⟩⟩)
  (by rintro _ _ _ ⟨rfl, rfl, rfl⟩; exact hre) (by rintro _ _ _ ⟨rfl, rfl, rfl⟩; exact k)
end
end Go.PB
namespace Go.Proofs.Ytodgemainhokjaa
open Go Go.PB
attribute [local irreducible] Mo Bin Eql Tr Wo Ap Wle
abbrev cvT : Value := .iface 165 (.agg #[])
abbrev tH : Hand := tHand cvT
abbrev mT : Hand := mH cvT
abbrev seatR (sb says turn fin : Nat) : HProp := fro sb 0 [.chan (some turn), .chan (some fin), .chan (some says)]
abbrev gateV (sb : Nat) : Value := .iface 123 (.pointer (some ⟨sb, 0, none⟩))
abbrev tx (g : Game) (says turn fin wg : Nat) (ph : Ph g.σ g.θ) : TX := ⟨g, says, turn, fin, wg, ph⟩
section
variable {g : Game} {says turn fin wg sb : Nat} {L F G : List HProp}
theorem Rd.seat {k : Nat} {v : Value} (hS : Has L (seatR sb says turn fin) G) (hk : [Value.chan (some turn), .chan (some fin), .chan (some says)][k]? = some v) : Rd L sb k v :=
 Rd.of hS (Rd.fro hk (Nat.zero_add k).symm)
theorem seat_tr {s : g.σ} {q : g.θ} {m : Nat} {mk : Int × Int} {f : g.σ → g.σ × g.θ} (hp : g.plan q = some (mk, f)) (hh : Has L (g.U s) F) (hS : Has F (seatR sb says turn fin) G) (hcut : ∀ h, Star F h → g.Pv q h) :
  Tr Try.prog tH 111 [.pointer (some ⟨sb, 0, none⟩), .agg #[.int .u8 mk.1, .int .i64 mk.2]] L (tx g says turn fin wg (.busy s q m)) fun v L' x' => ∃ m' s', m = m' + 1 ∧ g.ok s' ∧ v = .tuple #[] ∧ L' = g.U s' :: F ∧ x' = tx g says turn fin wg (.busy (f s').1 (f s').2 m') := by
 refine Tr.post (R := fun v L' x' => ∃ m' s', m = m' + 1 ∧ g.ok s' ∧ v = .tuple #[] ∧ x' = tx g says turn fin wg (.busy (f s').1 (f s').2 m') ∧ ∀ h, Star L' h → Star (g.U s' :: F) h) ?_
  (by rintro v L' x' ⟨m', s', h1, h0, rfl, rfl, h2⟩; exact ⟨_, ⟨m', s', h1, h0, rfl, rfl, rfl⟩, h2⟩)
 have hsays : g.says q = .agg #[.int .u8 mk.1, .int .i64 mk.2, .bool false] := by unfold Game.says; rw [hp]; rfl
 obtain ⟨L2, hS2⟩ := hh.trans hS
 have r0 := Rd.seat (k := 0) hS rfl
 have r1 := Rd.seat (k := 1) hS2 rfl
 have r1' := Rd.seat (k := 1) hS rfl
 have r2 := Rd.seat (k := 2) hS2 rfl
 refine tr_of_body Try.func111 rfl Try.ntmps111 (by simp) fun um Q _ hQ => ?_
 simp only [argE, Nat.zero_add, Nat.reduceAdd]
 repeat (first | (apply wo_mo; apply mo_box; exact rfl; exact trivial) | refine we_seq ?_ | (refine wR ?_; try simp only [oS]))
 rintro v' L' ⟨bb, rfl, rfl⟩
 refine wo_ent (arr bb 0 [.int .u8 mk.1, .int .i64 mk.2] :: L) .refl ?_
 repeat (first | (apply wo_po; apply mo_load; exact rfl; (first | exact .there r1 | exact .there r2); exact trivial) | (apply wo_po; apply mo_loadA (vs := [.int .u8 mk.1, .int .i64 mk.2]); exact rfl; exact rfl; exact Rds.all .here; exact trivial) | (apply wo_po; apply mo_build (pv := [(0, _)]); exact rfl; exact .cons rfl .nil; exact rfl; exact trivial) | refine we_seq ?_ | (refine wR ?_; try simp only [oS]) | refine wo_nil ?_ | refine wM ?_ | refine wN ?_ | refine wD ?_)
 apply wo_say (q := q) (R := arr bb 0 [.int .u8 mk.1, .int .i64 mk.2] :: F)
 exact rfl
 rw [hsays]; exact rfl
 exact rfl
 exact .there hh
 exact trivial
 rw [show g.next q m = .said q m by unfold Game.next; rw [hp]]
 repeat (first | (apply wo_po; apply mo_load; exact rfl; (first | exact .there r0 | exact .there r1'); exact trivial) | refine weqlT ?_ | refine weqlF ?_ | refine we_seq ?_ | (refine wR ?_; try simp only [oS]) | refine wo_nil ?_ | refine wM ?_ | refine wN ?_ | refine wD ?_ | (apply wo_po; apply mo_extract; exact rfl; exact rfl; exact gY) | refine wT ?_ | refine we_skip ?_ | refine we_block ?_)
 apply wo_wait
 exact rfl
 exact rfl
 exact hp
 exact trivial
 ·intro m' s' hm ho
  repeat (first | refine weqlT ?_ | refine weqlF ?_ | refine wo_nil ?_ | (apply wo_po; apply mo_extract; exact rfl; exact rfl; exact gY) | refine wT ?_ | refine we_skip ?_ | refine we_block ?_)
  (first | refine or0 Try.func111 Try.results111 hQ ?_ | refine on0 Try.func111 Try.results111 hQ ?_)
  exact ⟨m', s', hm, ho, rfl, rfl, fun h st => star_map st (fun _ a => a) (fun _ => star_drop)⟩
 ·repeat (first | (apply wo_po; apply mo_build (pv := []); exact rfl; exact .nil; exact rfl; exact trivial) | (apply wo_po; apply mo_makeInterface; exact rfl; exact trivial) | refine weqlT ?_ | refine weqlF ?_ | (refine wR ?_; try simp only [oS]) | refine wo_nil ?_ | (apply wo_po; apply mo_extract; exact rfl; exact rfl; exact gY) | refine wT ?_ | refine wF ?_ | refine we_block ?_)
  apply wo_panic
  exact rfl
  exact trivial
  exact fun t h _ _ st => Pass.ok _ t h _ (show tH.cut _ h (tx g says turn fin wg (.cut q)) from ⟨q, rfl, rfl, star_one (hcut h (star_drop st))⟩)
end
end Go.Proofs.Ytodgemainhokjaa
namespace Go.Proofs.Ytodgemainhokjaa
open Go Go.PB
attribute [local irreducible] Mo Bin Eql Tr Wo Ap Wle
structure ThrOk (g : Game) (ini : g.σ → g.σ × g.θ) (fv : Value) (M : HProp) : Prop where
 run : ∃ f first cap, callee? fv = some (f, first, cap) ∧ Ent' Try.prog f ∧ ∀ sb says turn fin wg s n F, g.ok s → Tr Try.prog tH f (first ++ [gateV sb] ++ cap) (g.U s :: seatR sb says turn fin :: M :: F) (tx g says turn fin wg (.busy (ini s).1 (ini s).2 n)) fun v L' x' =>
  ∃ s' q' n', x' = tx g says turn fin wg (.busy s' q' n') ∧ g.plan q' = none ∧ ∀ h, Star L' h → Star (g.U s' :: seatR sb says turn fin :: g.Fin q' :: F) h
theorem callee_one {fv : Value} {f : FuncId} {first cap : List Value} (h : callee? fv = some (f, first, cap)) : fv.cells = #[fv] := by
 cases fv <;> first | rfl | cases h
section
variable {g : Game} {says turn fin wg sb : Nat} {L F G : List HProp}
theorem rec_ok : ∀ um h (x : TX) (L : List HProp) (Q : PB.End → FrameMode → Hp → TX → Prop), (um = .returning ∨ um = .panicking [{ v := cvT, recovered := false }]) → Star L h → (∀ v um' h', settled um' = .returning → Star L h' → Q (.ret v) um' h' x) → Wf Try.prog tH 69 .deferred #[] um h x Q := by
 intro um h x L Q hum hs hq
 refine wf_of_argE (args := []) (L := L) Try.func69 rfl Try.ntmps69 (by simp) hs ?_
 simp only [argE]
 rcases hum with rfl | rfl
 ·repeat (first | refine we_seq ?_ | (refine wR ?_; try simp only [oS]))
  refine wo_recN trivial rfl rfl ?_
  repeat (first | refine we_seq ?_ | (refine wR ?_; try simp only [oS]) | refine wo_nil ?_ | refine wM ?_ | refine wA ?_ | (apply wo_po; apply mo_bin; exact rfl; exact rfl; apply bin_ne; apply eql_nil_nil; exact gY) | refine wF ?_ | refine we_skip ?_)
  exact at_ret0 (kd := .deferred) (R := fun v L' x' => L' = L ∧ x' = x) Try.func69 Try.results69 (by rintro v L' x' h' ⟨rfl, rfl⟩ st; exact hq v _ h' rfl st) (.inr rfl : Ex.normal = .ret ∨ Ex.normal = .normal) ⟨rfl, rfl⟩
 ·repeat (first | refine we_seq ?_ | (refine wR ?_; try simp only [oS]))
  refine wo_recP trivial rfl rfl ?_
  repeat (first | (apply wo_po; apply mo_assertT; exact rfl; exact trivial) | (apply wo_mo; apply mo_alloc; exact trivial) | refine we_seq ?_ | (refine wR ?_; try simp only [oS]) | refine wo_nil ?_ | refine wM ?_ | refine wA ?_ | (apply wo_po; apply mo_extract; exact rfl; exact rfl; exact gY) | (apply wo_po; apply mo_bin; exact rfl; exact rfl; apply bin_ne; apply eql_iface_nil; exact gY) | refine wT ?_)
  rintro v' L' ⟨cb, rfl, rfl⟩
  repeat (first | (apply wo_pm; apply mo_storeA (c := 0) (k := 0) (a := 0) (vs := []); exact rfl; exact rfl; exact rfl; (intro w hw; simp [Value.cells] at hw); exact rfl; exact Nat.le_refl 0; exact .here; exact trivial) | refine we_seq ?_ | (refine wR ?_; try simp only [oS]) | refine wo_nil ?_ | refine wM ?_ | refine wA ?_ | (apply wo_po; apply mo_not; exact rfl; exact gY) | refine wF ?_ | refine we_skip ?_)
  exact at_ret0 (kd := .deferred) (R := fun v L' x' => (∀ h, Star L' h → Star L h) ∧ x' = x) Try.func69 Try.results69 (by rintro v L' x' h' ⟨hl, rfl⟩ st; exact hq v _ h' rfl (hl _ st)) (.inr rfl : Ex.normal = .ret ∨ Ex.normal = .normal) ⟨fun h st => star_drop st, rfl⟩
theorem goes_tr {ini : g.σ → g.σ × g.θ} {fv : Value} {M : HProp} {s : g.σ} {n ab tb xb : Nat} (TO : ThrOk g ini fv M) (hok : g.ok s) (hfin : ∀ q h, g.Pv q h → g.Fin q h) {hc : Hp}
  (hs : Star [g.U s, seatR sb says turn fin, M, arr ab 0 [.pointer (some ⟨wg, 0, none⟩)], arr tb 0 [fv], fro xb 0 [.pointer (some ⟨sb, 0, none⟩)]] hc) :
  Nonempty (Run Try.prog tH false (tEnd Try.prog 62) (goFr Try.prog { target := .fn (.func 68) [.pointer (some ⟨ab, 0, none⟩), .pointer (some ⟨tb, 0, none⟩), .pointer (some ⟨xb, 0, none⟩)].toArray, args := #[] }) [] hc
   (tx g says turn fin wg (.busy (ini s).1 (ini s).2 n))) := by
 obtain ⟨f, first, cap, hcal, en, tr⟩ := TO.run
 have e1 : Enterable Try.prog 68 := (inferInstance : Ent' Try.prog 68).ok
 have e2 : Enterable Try.prog 69 := (inferInstance : Ent' Try.prog 69).ok
 have e3 : Enterable Try.prog 62 := (inferInstance : Ent' Try.prog 62).ok
 refine go_run (fR := 69) Try.func68 rfl Try.ntmps68 (by simp) Try.results68 e1 e2 e3 rec_ok ⟨rfl, hfin⟩ hs ?_
 simp only [argE, Nat.zero_add, Nat.reduceAdd]
 have rx : ∀ {L : List HProp}, Rd ([arr ab 0 [.pointer (some ⟨wg, 0, none⟩)], arr tb 0 [fv], fro xb 0 [.pointer (some ⟨sb, 0, none⟩)]]) xb 0 (.pointer (some ⟨sb, 0, none⟩)) := .there (.there (Rd.fro (k := 0) rfl rfl))
 repeat (first | refine we_seq ?_ | (refine wR ?_; try simp only [oS]) | refine wL ?_)
 refine wo_defer (first := []) (cap := []) (args := [_]) (vs := [.pointer (some ⟨wg, 0, none⟩)]) rfl (.cons rfl .nil) trivial ?_
 repeat (first | refine we_seq ?_ | (refine wR ?_; try simp only [oS]) | refine wo_nil ?_)
 refine wo_defer (first := []) (cap := []) (args := []) (vs := []) rfl .nil trivial ?_
 repeat (first | (apply wo_po; apply mo_load; exact rfl; exact .there (.there (.there (rx (L := [])))); exact trivial) | (apply wo_po; apply mo_makeInterface; exact rfl; exact trivial) | refine we_seq ?_ | (refine wR ?_; try simp only [oS]) | refine wo_nil ?_ | refine wL ?_)
 refine wo_callv (args := [_]) (pk := ⟨fun ch t h x ⟨q, a, b, c⟩ => ⟨rfl, b, q, a, c⟩⟩) rfl hcal (.cons rfl .nil) trivial (tr sb says turn fin wg s n _ hok) ?_
 rintro v L' x' ⟨s', q', n', rfl, hp, hL⟩
 refine wo_star _ hL ?_
 have r2 : ∀ {c : HProp}, Rd (g.U s' :: seatR sb says turn fin :: g.Fin q' :: [arr ab 0 [.pointer (some ⟨wg, 0, none⟩)], arr tb 0 [fv], fro xb 0 [.pointer (some ⟨sb, 0, none⟩)]]) sb 2 (.chan (some says)) := .there (Rd.fro (k := 2) rfl rfl)
 have r1 : Rd (g.U s' :: seatR sb says turn fin :: g.Fin q' :: [arr ab 0 [.pointer (some ⟨wg, 0, none⟩)], arr tb 0 [fv], fro xb 0 [.pointer (some ⟨sb, 0, none⟩)]]) sb 1 (.chan (some fin)) := .there (Rd.fro (k := 1) rfl rfl)
 have hsays : g.says q' = .agg #[.int .u8 0, .int .i64 0, .bool true] := by unfold Game.says; rw [hp]; rfl
 repeat (first | (apply wo_po; apply mo_load; exact rfl; exact .there (.there (.there (rx (L := [])))); exact trivial) | (apply wo_po; apply mo_load; exact rfl; (first | exact r2 (c := g.Fin q') | exact r1); exact trivial) | (apply wo_po; apply mo_build (pv := [(1, _)]); exact rfl; exact .cons rfl .nil; exact rfl; exact trivial) | refine we_seq ?_ | (refine wR ?_; try simp only [oS]) | refine wo_nil ?_ | refine wN ?_ | refine wD ?_)
 apply wo_say (q := q')
 exact rfl
 rw [hsays]; exact rfl
 exact rfl
 exact .here
 exact trivial
 rw [show g.next q' n' = .over q' by unfold Game.next; rw [hp]]
 repeat (first | refine weqlT ?_ | refine weqlF ?_ | refine wo_nil ?_ | (apply wo_po; apply mo_extract; exact rfl; exact rfl; exact gY) | refine wT ?_ | refine we_skip ?_ | refine we_block ?_)
 exact fun t h _ _ st => ⟨rfl, q', rfl, star_map (star_drop st) (fun _ a => a) (fun _ _ => trivial)⟩
def lastC : Option (Int × Int) → List Value
 | some m => [.int .u8 m.1, .int .i64 m.2, .bool false]
 | none => [.int .u8 0, .int .i64 0, .bool true]
theorem lastC_says {q : g.θ} : (g.says q).cells.toList = lastC ((g.plan q).map (·.1)) := by
 unfold Game.says
 cases (g.plan q).map (·.1) <;> rfl
theorem lastC_len {o : Option (Int × Int)} : (lastC o).length = 3 := by cases o <;> rfl
theorem lastC_one {o : Option (Int × Int)} : ∀ w ∈ lastC o, one w = true := by
 cases o <;> intro w hw <;> simp [lastC] at hw <;> rcases hw with rfl | rfl | rfl <;> rfl
abbrev gx (g : Game) (wg : Nat) (seats : List (Seat g.σ g.θ)) (tok : Option g.σ) (left : Nat) (ad : Nat) : MX := .game ⟨g, wg, seats, tok, left, ad, false, .play⟩
theorem run_tr {ini : g.σ → g.σ × g.θ} {fv : Value} {M : HProp} {s : g.σ} {seats : List (Seat g.σ g.θ)} {left : Nat} (TO : ThrOk g ini fv M) (hok : g.ok s) (hfin : ∀ q h, g.Pv q h → g.Fin q h) (hlen : seats.length < 1000) (hs : ∀ h, Star F h → h.shp wg = some (119, 2)) :
  Tr Try.prog mT 51 [.pointer (some ⟨sb, 0, none⟩), fv, .pointer (some ⟨wg, 0, none⟩)]
   (g.U s :: M :: arr sb 0 [.chan (some turn), .chan (some fin), .chan (some says), .int .u8 0, .int .i64 0, .bool false] :: ob says newChan :: ob turn newChan :: ob fin newChan :: F) (gx g wg seats (some s) left seats.length) fun v L' x' =>
   v = .tuple #[] ∧ L' = g.U (ini s).1 :: seatR sb says turn fin :: arr sb 3 (lastC ((g.plan (ini s).2).map (·.1))) :: F ∧ x' = gx g wg (seats ++ [⟨says, turn, fin, .said (ini s).2⟩]) (some (ini s).1) left (seats.length + 1) := by
 refine Tr.post (R := fun v L' x' => v = .tuple #[] ∧ x' = gx g wg (seats ++ [⟨says, turn, fin, .said (ini s).2⟩]) (some (ini s).1) left (seats.length + 1) ∧ ∀ h, Star L' h → Star (g.U (ini s).1 :: seatR sb says turn fin :: arr sb 3 (lastC ((g.plan (ini s).2).map (·.1))) :: F) h) ?_
  (by rintro v L' x' ⟨rfl, rfl, h2⟩; exact ⟨_, ⟨rfl, rfl, rfl⟩, h2⟩)
 have hfv : fv.cells = #[fv] := by obtain ⟨f, first, cap, hc, _⟩ := TO.run; exact callee_one hc
 refine tr_of_body Try.func51 rfl Try.ntmps51 (by simp) fun um Q _ hQ => ?_
 simp only [argE, Nat.zero_add, Nat.reduceAdd]
 repeat (first | (apply wo_mo; apply mo_box; exact rfl; exact trivial) | refine we_seq ?_ | (refine wR ?_; try simp only [oS]))
 rintro v' L' ⟨xb, rfl, rfl⟩
 repeat (first | (apply wo_mo; apply mo_box; exact rfl; exact trivial))
 rintro v' L' ⟨tb, rfl, rfl⟩
 repeat (first | (apply wo_mo; apply mo_box; exact rfl; exact trivial))
 rintro v' L' ⟨ab, rfl, rfl⟩
 rw [hfv]
 let L0 : List HProp := arr ab 0 [.pointer (some ⟨wg, 0, none⟩)] :: arr tb 0 [fv] :: arr xb 0 [.pointer (some ⟨sb, 0, none⟩)] :: g.U s :: M :: arr sb 0 [.chan (some turn), .chan (some fin), .chan (some says), .int .u8 0, .int .i64 0, .bool false] :: ob says newChan :: ob turn newChan :: ob fin newChan :: F
 refine wo_ent L0 .refl ?_
 repeat (first | refine we_seq ?_ | (refine wR ?_; try simp only [oS]) | refine wo_nil ?_ | refine wL ?_)
 refine wo_call (.cons rfl (.cons rfl .nil)) trivial (wgAdd_tr (X := ⟨g, wg, seats, some s, left, seats.length, false, .play⟩) rfl hlen rfl rfl rfl (fun h st => hs h (star_drop (star_drop (star_drop (star_drop (star_drop (star_drop (star_drop (star_drop (star_drop st))))))))))) ?_
 rintro v1 L1 x1 ⟨rfl, rfl, rfl⟩
 repeat (first | (apply wo_po; apply mo_makeFunc (first := []) (cap := [_, _, _]) (vf := []); exact .nil; exact .cons rfl (.cons rfl (.cons rfl .nil)); exact trivial) | refine we_seq ?_ | (refine wR ?_; try simp only [oS]) | refine wo_nil ?_)
 refine wo_star (arr sb 0 [.chan (some turn), .chan (some fin), .chan (some says)] :: arr sb 3 [.int .u8 0, .int .i64 0, .bool false] :: arr ab 0 [.pointer (some ⟨wg, 0, none⟩)] :: arr tb 0 [fv] :: arr xb 0 [.pointer (some ⟨sb, 0, none⟩)] :: g.U s :: M :: ob says newChan :: ob turn newChan :: ob fin newChan :: F)
  (fun h st => star_cut (us := [.chan (some turn), .chan (some fin), .chan (some says)]) (vs := [.int .u8 0, .int .i64 0, .bool false]) (((.there (.there (.there (.there (.there .here))))) : Has L0 _ _).star st)) ?_
 refine wo_frz (b := sb) (o := 0) .here ?_
 refine wo_frz (b := xb) (o := 0) (.there (.there (.there (.there .here)))) ?_
 refine wo_star _ (fun h st => fro_two (((.there (.there .here)) : Has _ (seatR sb says turn fin) _).star (fro_two st))) ?_
 refine wo_start (s' := (ini s).1) (q' := (ini s).2) (M := [g.U s, seatR sb says turn fin, M, arr ab 0 [.pointer (some ⟨wg, 0, none⟩)], arr tb 0 [fv], fro xb 0 [.pointer (some ⟨sb, 0, none⟩)]]) (cap := [_, _, _]) rfl trivial rfl rfl rfl rfl
  (fun h st => star_map (Ent.star (.take (.there (.there (.there (.there (.there (.there (.there (.there (.there .here))))))))) (.take (.there (.there (.there (.there (.there (.there (.there (.there (.there .here))))))))) (.take (.there (.there (.there (.there (.there (.there (.there (.there (.there .here))))))))) (.take (.there (.there (.there (.there (.there (.there (.there .here))))))) (.take .here (.take (.there (.there (.there (.there (.there (.there .here)))))) (.take (.there (.there (.there (.there .here)))) (.take (.there (.there (.there (.there .here)))) (.take (.there .here) .refl))))))))) st) (fun _ a => a) (fun _ s1 => star_map s1 (fun _ a => a) fun _ s2 => star_map s2 (fun _ a => a) fun _ s3 => star_shut (M := [_, _, _, _, _, _]) s3))
  (fun hc st => goes_tr TO hok hfin st) ?_
 have rx : ∀ {c : HProp}, Rd (c :: fro xb 0 [.pointer (some ⟨sb, 0, none⟩)] :: arr sb 3 [.int .u8 0, .int .i64 0, .bool false] :: F) xb 0 (.pointer (some ⟨sb, 0, none⟩)) := .there (Rd.fro (k := 0) rfl rfl)
 have r2 : Rd (seatR sb says turn fin :: fro xb 0 [.pointer (some ⟨sb, 0, none⟩)] :: arr sb 3 [.int .u8 0, .int .i64 0, .bool false] :: F) sb 2 (.chan (some says)) := Rd.fro (k := 2) rfl rfl
 repeat (first | refine wo_nil ?_)
 refine we_draw (List.range' 0 9) (by kernel_rfl) ?_
 repeat (first | (apply ap_read; exact rfl; exact rfl; exact trivial; apply mo_load; exact rfl; (first | exact rx | exact r2)) | refine aN ?_ | refine aD ?_)
 refine ap_hear (j := seats.length) (c := ⟨says, turn, fin, .run (ini s).1 (ini s).2⟩) (s := (ini s).1) (q := (ini s).2) rfl rfl rfl trivial rfl rfl rfl (by simp) rfl rfl ?_ ?_
 ·intro p hp
  replace hp := (List.mem_filter.1 hp).1
  simp only [List.mem_cons, List.not_mem_nil, or_false] at hp
  rcases hp with rfl | rfl | rfl | rfl | rfl <;> first | exact .inl rfl | exact .inr ⟨_, rfl, trivial, mo_load rfl (.there (by first | exact rx | exact r2))⟩
 have hset : (seats ++ [(⟨says, turn, fin, .run (ini s).1 (ini s).2⟩ : Seat g.σ g.θ)]).set seats.length ⟨says, turn, fin, .said (ini s).2⟩ = seats ++ [⟨says, turn, fin, .said (ini s).2⟩] := by simp
 have hc := lastC_says (g := g) (q := (ini s).2)
 have hov : over [.int .u8 0, .int .i64 0, .bool false] 0 (g.says (ini s).2).cells.toList = lastC ((g.plan (ini s).2).map (·.1)) := by
  rw [hc]; unfold over; simp [lastC_len]
 show Ap _ mT _ _ _ _ _ _ _ _ _ (g.U (ini s).1 :: seatR sb says turn fin :: fro xb 0 [.pointer (some ⟨sb, 0, none⟩)] :: arr sb 3 [.int .u8 0, .int .i64 0, .bool false] :: F) (gx g wg ((seats ++ [(⟨says, turn, fin, .run (ini s).1 (ini s).2⟩ : Seat g.σ g.θ)]).set seats.length ⟨says, turn, fin, .said (ini s).2⟩) (some (ini s).1) left (seats.length + 1))
 rw [hset]
 repeat (first | refine aN ?_ | refine aD ?_)
 refine ap_loud rfl rfl rfl rfl rfl trivial (mo_storeA (n := 3) (c := 3) (k := 0) (a := 3) (vs := [.int .u8 0, .int .i64 0, .bool false]) rfl rfl (by rw [← Array.length_toList, hc]; exact lastC_len) (by rw [hc]; exact lastC_one) rfl (Nat.le_refl 3) (.there (.there (.there .here)))) ?_
 rintro v' L' ⟨rfl, rfl⟩
 rw [hov]
 refine ap_end ?_
 (first | refine or0 Try.func51 Try.results51 hQ ?_ | refine on0 Try.func51 Try.results51 hQ ?_)
 exact ⟨rfl, rfl, fun h st => Ent.star (.take .here (.take .here (.take (.there .here) (.drop .refl)))) st⟩
end
end Go.Proofs.Ytodgemainhokjaa
namespace Go.PB
theorem zip_set {α β γ : Type} {f : α → β → γ} {b : β} : ∀ {k : Nat} {xs : List α} {ys : List β} {a : α}, xs[k]? = some a → List.zipWith f xs (ys.set k b) = (List.zipWith f xs ys).set k (f a b)
 | _, [], _, _, h => by simp at h
 | _, x :: xs, [], _, _ => rfl
 | 0, x :: xs, y :: ys, a, h => by simp at h; subst h; rfl
 | k + 1, x :: xs, y :: ys, a, h => by simp only [List.set_cons_succ, List.zipWith_cons_cons]; rw [zip_set (by simpa using h)]
theorem set_same {α : Type} {l : List α} {k : Nat} {a : α} (h : l[k]? = some a) : l.set k a = l := by
 obtain ⟨h1, h2⟩ := List.getElem?_eq_some_iff.1 h
 subst h2
 exact List.set_getElem_self h1
end Go.PB
namespace Go.Proofs.Ytodgemainhokjaa
open Go Go.PB
attribute [local irreducible] Mo Bin Eql Tr Wo Ap Wle
structure PS (g : Game) where
 s : g.σ
 qs : List g.θ
 tr : List (Nat × (Int × Int))
def takeF {g : Game} (p : PS g) (k : Int) : PS g × Bool :=
 if k < 0 then (p, false) else
 match p.qs[k.toNat]? with
 | none => (p, false)
 | some q => match g.plan q with
  | none => (p, false)
  | some (m, f) => if p.tr.length = 16384 then (p, false) else (⟨(f p.s).1, p.qs.set k.toNat (f p.s).2, p.tr ++ [(k.toNat, m)]⟩, true)
structure SId where
 sb : Nat
 says : Nat
 turn : Nat
 fin : Nat
def trCP (tr : List (Nat × (Int × Int))) : List Value := (tr.map fun t => [.int .i64 (t.1 : Nat), .int .u8 t.2.1, .int .i64 t.2.2]).flatten
theorem trCP_len {tr : List (Nat × (Int × Int))} : (trCP tr).length = tr.length * 3 := flat_len (f := fun t : Nat × (Int × Int) => [Value.int .i64 (t.1 : Nat), .int .u8 t.2.1, .int .i64 t.2.2]) (k := 3) (fun _ => rfl) tr
theorem trCP_app {tr : List (Nat × (Int × Int))} {k : Nat} {m : Int × Int} : trCP (tr ++ [(k, m)]) = trCP tr ++ [.int .i64 (k : Nat), .int .u8 m.1, .int .i64 m.2] := by simp [trCP]
def ptrs (ids : List SId) : List Value := ids.map fun i => .pointer (some ⟨i.sb, 0, none⟩)
abbrev lastQ (g : Game) (q : g.θ) : List Value := lastC ((g.plan q).map (·.1))
def seatC (g : Game) (i : SId) (q : g.θ) : HProp := all [seatR i.sb i.says i.turn i.fin, arr i.sb 3 (lastQ g q)]
def seatCs (g : Game) (ids : List SId) (qs : List g.θ) : List HProp := List.zipWith (seatC g) ids qs
def seatS {g : Game} (i : SId) (q : g.θ) : Seat g.σ g.θ := ⟨i.says, i.turn, i.fin, .said q⟩
def seatSs {g : Game} (ids : List SId) (qs : List g.θ) : List (Seat g.σ g.θ) := List.zipWith seatS ids qs
section
variable {g : Game} {wg pb : Nat} {ss ts cs : Value} {ids : List SId} {p : PS g} {F : List HProp}
abbrev playL (g : Game) (pb : Nat) (ss ts cs : Value) (ids : List SId) (p : PS g) (F : List HProp) : List HProp :=
 g.U p.s :: arr pb 0 [ss, ts, cs] :: vec 1 ss (ptrs ids) :: vec 3 ts (trCP p.tr) :: all (seatCs g ids p.qs) :: F
abbrev playX (g : Game) (wg : Nat) (ids : List SId) (p : PS g) : MX := gx g wg (seatSs ids p.qs) (some p.s) (16384 - p.tr.length) ids.length
theorem takeF_len (k : Int) : (takeF p k).1.qs.length = p.qs.length := by
 unfold takeF
 split
 ·rfl
 split
 ·rfl
 split
 ·rfl
 split
 ·rfl
 ·simp
theorem takeF_le (h : p.tr.length ≤ 16384) (k : Int) : (takeF p k).1.tr.length ≤ 16384 := by
 unfold takeF
 split
 ·exact h
 split
 ·exact h
 split
 ·exact h
 split
 ·exact h
 ·simp; omega
theorem take_out {k : Int} (hl : ids.length = p.qs.length) (hk : k < 0 ∨ (ids.length : Int) ≤ k) :
  Tr Try.prog mT 52 [.pointer (some ⟨pb, 0, none⟩), .int .i64 k] (playL g pb ss ts cs ids p F) (playX g wg ids p) fun v L' x' => v = .bool false ∧ L' = playL g pb ss ts cs ids p F ∧ x' = playX g wg ids p := by
 refine tr_pure (of_has (.there (.there .here)) (vec_shape (by omega))) ?_
 rintro ⟨a, n, c, rfl, hn, _⟩
 have hn : n = ids.length := by simp [ptrs] at hn; omega
 subst hn
 by_cases h0 : k < 0
 ·refine tr_of_body Try.func52 rfl Try.ntmps52 (by simp) fun um Q _ hQ => ?_
  simp only [argE, Nat.zero_add, Nat.reduceAdd]
  repeat (first | refine wlssT ?_ | refine we_seq ?_ | (refine wR ?_; try simp only [oS]) | refine wo_nil ?_ | refine wM ?_ | refine wA ?_ | (apply wo_no; exact rfl) | refine wK ?_ | refine wT ?_ | refine we_ret ?_)
  (first | refine or1 Try.func52 Try.results52 hQ rfl ?_ | refine on1 Try.func52 Try.results52 hQ rfl ?_)
  exact ⟨rfl, rfl, rfl⟩
 ·refine tr_of_body Try.func52 rfl Try.ntmps52 (by simp) fun um Q _ hQ => ?_
  simp only [argE, Nat.zero_add, Nat.reduceAdd]
  repeat (first | refine wlssF ?_ | refine wgeqT ?_ | refine we_seq ?_ | (refine wR ?_; try simp only [oS]) | refine wo_nil ?_ | refine wM ?_ | refine wA ?_ | (apply wo_no; exact rfl) | refine wK ?_ | refine wJ ?_ | refine wN ?_ | refine wD ?_ | refine wL ?_ | refine wE ?_ | refine wT ?_ | refine we_ret ?_)
  (first | refine or1 Try.func52 Try.results52 hQ rfl ?_ | refine on1 Try.func52 Try.results52 hQ rfl ?_)
  exact ⟨rfl, rfl, rfl⟩
theorem seat_pick {k : Nat} {i : SId} {q : g.θ} {L : List HProp} {h : Hp} (hi : ids[k]? = some i) (hq : p.qs[k]? = some q) (st : Star (all (seatCs g ids p.qs) :: L) h) :
  Star (seatR i.sb i.says i.turn i.fin :: arr i.sb 3 (lastQ g q) :: all ((seatCs g ids p.qs).eraseIdx k) :: L) h := by
 have e : (seatCs g ids p.qs)[k]? = some (seatC g i q) := by simp [seatCs, List.getElem?_zipWith, hi, hq]
 exact star_open (M := [_, _]) (star_pick e st)
theorem seat_put {k : Nat} {i : SId} {q q' : g.θ} {L : List HProp} {h : Hp} (hi : ids[k]? = some i) (hq : p.qs[k]? = some q) (st : Star (seatR i.sb i.says i.turn i.fin :: arr i.sb 3 (lastQ g q') :: all ((seatCs g ids p.qs).eraseIdx k) :: L) h) :
  Star (all (seatCs g ids (p.qs.set k q')) :: L) h := by
 have hlt : k < (seatCs g ids p.qs).length := by
  have h1 := (List.getElem?_eq_some_iff.1 hi).1
  have h2 := (List.getElem?_eq_some_iff.1 hq).1
  simp [seatCs]; omega
 have e : seatCs g ids (p.qs.set k q') = (seatCs g ids p.qs).set k (seatC g i q') := zip_set hi
 rw [e]
 exact star_put hlt (star_shut (M := [_, _]) st)
theorem take_no {k : Nat} {i : SId} {q : g.θ} (hi : ids[k]? = some i) (hq : p.qs[k]? = some q) (hno : g.plan q = none ∨ p.tr.length = 16384) :
  Tr Try.prog mT 52 [.pointer (some ⟨pb, 0, none⟩), .int .i64 (k : Nat)] (playL g pb ss ts cs ids p F) (playX g wg ids p) fun v L' x' => v = .bool false ∧ L' = playL g pb ss ts cs ids p F ∧ x' = playX g wg ids p := by
 have hk := (List.getElem?_eq_some_iff.1 hi).1
 refine tr_pure (of_has (.there (.there .here)) (vec_shape (by omega))) ?_
 rintro ⟨a, n, c, rfl, hn, _, hnz, hy⟩
 have hn : n = ids.length := by simp [ptrs] at hn; omega
 subst hn
 refine tr_pure (of_has (.there (.there (.there .here))) (vec_shape (by omega))) ?_
 rintro ⟨ta, tn, tc, rfl, htn, _⟩
 have htn : tn = p.tr.length := by rw [trCP_len] at htn; omega
 subst htn
 cases a with
 | none => have := hnz rfl; omega
 | some ad =>
 obtain ⟨b, o, sp⟩ := ad
 have := hy _ rfl
 simp only [Addr.mk.injEq, true_and] at this
 subst this
 refine Tr.post (R := fun v L' x' => v = .bool false ∧ x' = playX g wg ids p ∧ ∀ h, Star L' h → Star (playL g pb (.slice (some ⟨b, o, none⟩) ids.length c) (.slice ta p.tr.length tc) cs ids p F) h) ?_
  (by rintro v L' x' ⟨rfl, rfl, h2⟩; exact ⟨_, ⟨rfl, rfl, rfl⟩, h2⟩)
 let L1 : List HProp := seatR i.sb i.says i.turn i.fin :: arr i.sb 3 (lastQ g q) :: all ((seatCs g ids p.qs).eraseIdx k) :: g.U p.s :: arr pb 0 [.slice (some ⟨b, o, none⟩) ids.length c, .slice ta p.tr.length tc, cs] :: vec 1 (.slice (some ⟨b, o, none⟩) ids.length c) (ptrs ids) :: vec 3 (.slice ta p.tr.length tc) (trCP p.tr) :: F
 refine tr_star L1 (fun h st => seat_pick hi hq (((.there (.there (.there (.there .here)))) : Has (playL g pb _ _ cs ids p F) _ _).star st)) ?_
 have hback : ∀ h, Star L1 h → Star (playL g pb (.slice (some ⟨b, o, none⟩) ids.length c) (.slice ta p.tr.length tc) cs ids p F) h := fun h st => by
  have s1 := seat_put (q' := q) hi hq st
  have e : p.qs.set k q = p.qs := set_same hq
  rw [e] at s1
  exact Ent.star (.take (.there .here) (.take (.there .here) (.take (.there .here) (.take (.there .here) (.take .here .refl))))) s1
 have rs : Rd L1 b (o + k) (.pointer (some ⟨i.sb, 0, none⟩)) := rd_vec (cs := ptrs ids) (.there (.there (.there (.there (.there .here))))) (by simp [ptrs, hi])
 have hlast : ∃ m1 m2 q3, lastQ g q = [.int .u8 m1, .int .i64 m2, .bool q3] ∧ (q3 = true ∨ (q3 = false ∧ p.tr.length = 16384)) := by
  unfold lastQ
  cases hp : g.plan q with
  | none => exact ⟨_, _, _, rfl, .inl rfl⟩
  | some mf =>
   refine ⟨_, _, _, rfl, .inr ⟨rfl, hno.resolve_left (by rw [hp]; simp)⟩⟩
 obtain ⟨m1, m2, q3, hl, hq3⟩ := hlast
 have rl : Rd L1 i.sb 5 (.bool q3) := Rd.of (.there .here) (by rw [hl]; exact Rd.row (k := 2) rfl rfl)
 rcases hq3 with rfl | ⟨rfl, htr⟩
 ·refine tr_of_body Try.func52 rfl Try.ntmps52 (by simp) fun um Q _ hQ => ?_
  simp only [argE, Nat.zero_add, Nat.reduceAdd]
  repeat (first | (apply wo_po; apply mo_index1; exact rfl; exact rfl; omega; exact gY) | (apply wo_po; apply mo_load; exact rfl; (first | exact rs | exact rl | exact Rd.of (.there (.there (.there (.there .here)))) (Rd.row0 rfl)); exact gY) | refine wlssF ?_ | refine wgeqF ?_ | refine we_seq ?_ | (refine wR ?_; try simp only [oS]) | refine wo_nil ?_ | refine wM ?_ | refine wA ?_ | (apply wo_no; exact rfl) | refine wK ?_ | refine wJ ?_ | refine wN ?_ | refine wD ?_ | refine wE ?_ | refine wT ?_ | refine we_ret ?_)
  (first | refine or1 Try.func52 Try.results52 hQ rfl ?_ | refine on1 Try.func52 Try.results52 hQ rfl ?_)
  exact ⟨rfl, rfl, hback⟩
 ·refine tr_of_body Try.func52 rfl Try.ntmps52 (by simp) fun um Q _ hQ => ?_
  simp only [argE, Nat.zero_add, Nat.reduceAdd]
  repeat (first | (apply wo_po; apply mo_index1; exact rfl; exact rfl; omega; exact gY) | (apply wo_po; apply mo_load; exact rfl; (first | exact rs | exact rl | exact Rd.of (.there (.there (.there (.there .here)))) (Rd.row0 rfl)); exact gY) | refine wlssF ?_ | refine wgeqF ?_ | refine weqlT ?_ | refine we_seq ?_ | (refine wR ?_; try simp only [oS]) | refine wo_nil ?_ | refine wM ?_ | refine wA ?_ | refine wJ ?_ | refine wN ?_ | refine wD ?_ | refine wE ?_ | refine wT ?_ | refine we_ret ?_)
  (first | refine or1 Try.func52 Try.results52 hQ rfl ?_ | refine on1 Try.func52 Try.results52 hQ rfl ?_)
  exact ⟨rfl, rfl, hback⟩
theorem take_yes {k : Nat} {i : SId} {q : g.θ} {m : Int × Int} {f : g.σ → g.σ × g.θ} (hl : ids.length = p.qs.length) (hi : ids[k]? = some i) (hq : p.qs[k]? = some q) (hpl : g.plan q = some (m, f)) (htr : p.tr.length < 16384) (hok : g.ok p.s) :
  Tr Try.prog mT 52 [.pointer (some ⟨pb, 0, none⟩), .int .i64 (k : Nat)] (playL g pb ss ts cs ids p F) (playX g wg ids p) fun v L' x' => ∃ ts', v = .bool true ∧ L' = playL g pb ss ts' cs ids ⟨(f p.s).1, p.qs.set k (f p.s).2, p.tr ++ [(k, m)]⟩ F ∧ x' = playX g wg ids ⟨(f p.s).1, p.qs.set k (f p.s).2, p.tr ++ [(k, m)]⟩ := by
 have hk := (List.getElem?_eq_some_iff.1 hi).1
 refine tr_pure (of_has (.there (.there .here)) (vec_shape (by omega))) ?_
 rintro ⟨a, n, c, rfl, hn, _, hnz, hy⟩
 have hn : n = ids.length := by simp [ptrs] at hn; omega
 subst hn
 refine tr_pure (of_has (.there (.there (.there .here))) (vec_shape (by omega))) ?_
 rintro ⟨ta, tn, tc, rfl, htn, _⟩
 have htn : tn = p.tr.length := by rw [trCP_len] at htn; omega
 subst htn
 cases a with
 | none => have := hnz rfl; omega
 | some ad =>
 obtain ⟨b, o, sp⟩ := ad
 have := hy _ rfl
 simp only [Addr.mk.injEq, true_and] at this
 subst this
 refine Tr.post (R := fun v L' x' => ∃ ts', v = .bool true ∧ x' = playX g wg ids ⟨(f p.s).1, p.qs.set k (f p.s).2, p.tr ++ [(k, m)]⟩ ∧ ∀ h, Star L' h → Star (playL g pb (.slice (some ⟨b, o, none⟩) ids.length c) ts' cs ids ⟨(f p.s).1, p.qs.set k (f p.s).2, p.tr ++ [(k, m)]⟩ F) h) ?_
  (by rintro v L' x' ⟨ts', rfl, rfl, h2⟩; exact ⟨_, ⟨ts', rfl, rfl, rfl⟩, h2⟩)
 have hlq : lastQ g q = [.int .u8 m.1, .int .i64 m.2, .bool false] := by unfold lastQ; rw [hpl]; rfl
 let er := all ((seatCs g ids p.qs).eraseIdx k)
 let L1 : List HProp := seatR i.sb i.says i.turn i.fin :: arr i.sb 3 [.int .u8 m.1, .int .i64 m.2, .bool false] :: arr pb 0 [.slice (some ⟨b, o, none⟩) ids.length c, .slice ta p.tr.length tc, cs] :: vec 3 (.slice ta p.tr.length tc) (trCP p.tr) :: vec 1 (.slice (some ⟨b, o, none⟩) ids.length c) (ptrs ids) :: g.U p.s :: er :: F
 refine tr_star L1 (fun h st => by have := seat_pick hi hq (((.there (.there (.there (.there .here)))) : Has (playL g pb _ _ cs ids p F) _ _).star st); rw [hlq] at this; exact Ent.star (.take .here (.take .here (.take (.there (.there .here)) (.take (.there (.there (.there .here))) (.take (.there (.there .here)) (.take (.there .here) (.take .here .refl))))))) this) ?_
 have rs : Rd L1 b (o + k) (.pointer (some ⟨i.sb, 0, none⟩)) := rd_vec (cs := ptrs ids) (.there (.there (.there (.there .here)))) (by simp [ptrs, hi])
 have rl : Rd L1 i.sb 5 (.bool false) := .there (Rd.row (k := 2) rfl rfl)
 have rt : Rd L1 i.sb 0 (.chan (some i.turn)) := Rd.fro (k := 0) rfl rfl
 have hsz : (seatSs ids p.qs).length = ids.length := by simp [seatSs]; omega
 have hsk : (seatSs ids p.qs)[k]? = some (⟨i.says, i.turn, i.fin, .said q⟩ : Seat g.σ g.θ) := by simp [seatSs, List.getElem?_zipWith, hi, hq, seatS]
 refine tr_of_body Try.func52 rfl Try.ntmps52 (by simp) fun um Q _ hQ => ?_
 simp only [argE, Nat.zero_add, Nat.reduceAdd]
 repeat (first | (apply wo_po; apply mo_index1; exact rfl; exact rfl; omega; exact gY) | (apply wo_po; apply mo_load; exact rfl; (first | exact rs | exact rl | exact Rd.of (.there (.there .here)) (Rd.row0 rfl)); exact gY) | refine wlssF ?_ | refine wgeqF ?_ | refine weqlF ?_ | refine we_seq ?_ | (refine wR ?_; try simp only [oS]) | refine wo_nil ?_ | refine wM ?_ | refine wA ?_ | refine wJ ?_ | refine wN ?_ | refine wD ?_ | refine wE ?_ | refine wF ?_ | refine we_skip ?_)
 refine we_draw (List.range' 0 19) (by kernel_rfl) ?_
 repeat (first | (apply ap_read; exact rfl; exact rfl; exact trivial; apply mo_load; exact rfl; exact Rd.of (.there (.there .here)) (Rd.row0 rfl)) | (apply ap_read; exact rfl; exact rfl; exact trivial; apply mo_loadA (vs := [.int .u8 m.1, .int .i64 m.2]); exact rfl; exact rfl; exact Rds.row (k := 0) (.there .here) (by intro i v hv; match i, hv with | 0, hv => exact hv | 1, hv => exact hv)) | (apply ap_pure; exact rfl; exact rfl; exact trivial; intro L; apply mo_build (pv := [(0, _), (1, _)]); exact rfl; exact .cons rfl (.cons rfl .nil); exact rfl) | refine aM ?_ | refine aN ?_ | refine aD ?_)
 have hone : ∀ v ∈ [Value.int .i64 (k : Nat), .int .u8 m.1, .int .i64 m.2], one v = true := by intro v hv; simp at hv; rcases hv with rfl | rfl | rfl <;> rfl
 refine ap_loudR rfl rfl rfl rfl trivial (mo_buildSlice (sz := 3) (vs := [.agg #[.int .i64 (k : Nat), .int .u8 m.1, .int .i64 m.2]]) rfl (.cons rfl .nil) rfl (by intro v hv; cases (List.mem_singleton.1 hv); exact rfl) (by omega)) ?_ ?_
 ·rintro v L ⟨nb, rfl, rfl⟩ p hp
  replace hp := (List.mem_filter.1 hp).1
  simp only [List.mem_cons, List.not_mem_nil, or_false] at hp
  rcases hp with rfl | rfl | rfl | rfl | rfl | rfl | rfl | rfl | rfl | rfl | rfl | rfl | rfl <;> first | exact .inl rfl | exact .inr ⟨_, rfl, trivial, mo_load rfl (Rd.of (.there (.there (.there .here))) (Rd.row0 rfl))⟩ | exact .inr ⟨_, rfl, trivial, mo_loadA rfl rfl (Rds.row (k := 0) (.there (.there .here)) (by intro i v hv; match i, hv with | 0, hv => exact hv | 1, hv => exact hv))⟩
 rintro v' L' ⟨nb, rfl, rfl⟩
 refine ap_loud rfl rfl rfl rfl rfl trivial (mo_append (sz := 3) (new := [.int .i64 (k : Nat), .int .u8 m.1, .int .i64 m.2]) rfl rfl rfl rfl (.there (.there (.there (.there .here)))) rfl (.inr ⟨_, _, rfl, Rds.all .here⟩) hone (by simp only [sliceLen]; omega)) ?_
 rintro v' L' rfl
 refine ap_know (of_has .here (vec_shape (by omega))) ?_
 rintro ⟨ua, un, uc, rfl, _⟩
 repeat (first | refine aN ?_ | refine aD ?_)
 refine ap_loud rfl rfl rfl rfl rfl trivial (mo_store rfl rfl rfl (Wt.row0 (k := 1) (.there (.there (.there (.there .here)))) (Nat.lt_of_sub_eq_succ rfl))) ?_
 rintro v' L' ⟨rfl, rfl⟩
 refine ap_end ?_
 have rt2 : ∀ {A C D : HProp} {M : List HProp}, Rd (A :: C :: seatR i.sb i.says i.turn i.fin :: D :: M) i.sb 0 (.chan (some i.turn)) := .there (.there (Rd.fro (k := 0) rfl rfl))
 repeat (first | (apply wo_po; apply mo_load; exact rfl; exact rt2; exact gY) | (apply wo_po; apply mo_build (pv := []); exact rfl; exact .nil; exact rfl; exact trivial) | refine we_seq ?_ | (refine wR ?_; try simp only [oS]) | refine wM ?_ | refine wN ?_ | refine wD ?_)
 refine wo_turn (X := ⟨g, wg, seatSs ids p.qs, some p.s, 16384 - p.tr.length, ids.length, false, .play⟩) (j := k) (lf := 16384 - (p.tr.length + 1)) (c := ⟨i.says, i.turn, i.fin, .said q⟩) (s := p.s) (q := q) rfl rfl rfl rfl hsk rfl hpl rfl (by show 16384 - p.tr.length = _; omega) (by show ids.length = _; rw [hsz]) hok (.there (.there (.there (.there (.there (.there .here)))))) trivial ?_
 have rs2 : ∀ {A C D : HProp} {M : List HProp}, Rd (A :: C :: seatR i.sb i.says i.turn i.fin :: D :: M) i.sb 2 (.chan (some i.says)) := .there (.there (Rd.fro (k := 2) rfl rfl))
 repeat (first | (apply wo_po; apply mo_load; exact rfl; exact rs2; exact gY) | refine we_seq ?_ | (refine wR ?_; try simp only [oS]) | refine wo_nil ?_ | refine wM ?_ | refine wN ?_ | refine wD ?_)
 refine wo_hear (X := ⟨g, wg, (seatSs ids p.qs).set k ⟨i.says, i.turn, i.fin, .run (f p.s).1 (f p.s).2⟩, none, 16384 - (p.tr.length + 1), ids.length, false, .play⟩) (j := k) (c := ⟨i.says, i.turn, i.fin, .run (f p.s).1 (f p.s).2⟩) (s := (f p.s).1) (q := (f p.s).2) rfl rfl rfl (List.getElem?_set_self (by rw [hsz]; exact hk)) rfl rfl trivial ?_
 have hc := lastC_says (g := g) (q := (f p.s).2)
 have hov : over [.int .u8 m.1, .int .i64 m.2, .bool false] 0 (g.says (f p.s).2).cells.toList = lastQ g (f p.s).2 := by
  rw [hc]; unfold over; simp [lastC_len]
 repeat (first | refine wN ?_ | refine wD ?_)
 apply wo_pm
 exact mo_storeA (n := 3) (c := 3) (k := 0) (a := 3) (vs := [.int .u8 m.1, .int .i64 m.2, .bool false]) rfl rfl (by rw [← Array.length_toList, hc]; exact lastC_len) (by rw [hc]; exact lastC_one) rfl (Nat.le_refl 3) (.there (.there (.there (.there .here))))
 exact trivial
 rw [hov]
 have hset : ((seatSs ids p.qs).set k ⟨i.says, i.turn, i.fin, .run (f p.s).1 (f p.s).2⟩).set k ⟨i.says, i.turn, i.fin, .said (f p.s).2⟩ = seatSs ids (p.qs.set k (f p.s).2) := by
  rw [List.set_set]; exact (zip_set (f := seatS) hi).symm
 repeat (first | refine we_seq ?_ | (refine wR ?_; try simp only [oS]) | refine wo_nil ?_ | refine wA ?_ | refine we_ret ?_)
 (first | refine or1 Try.func52 Try.results52 hQ rfl ?_ | refine on1 Try.func52 Try.results52 hQ rfl ?_)
 refine ⟨.slice ua un uc, rfl, ?_, fun h st => ?_⟩
 ·show gx g wg (((seatSs ids p.qs).set k ⟨i.says, i.turn, i.fin, .run (f p.s).1 (f p.s).2⟩).set k ⟨i.says, i.turn, i.fin, .said (f p.s).2⟩) _ _ _ = gx g wg _ _ _ _
  rw [hset]
  simp
 ·have st1 : Star (seatR i.sb i.says i.turn i.fin :: arr i.sb 3 (lastQ g (f p.s).2) :: er :: g.U (f p.s).1 :: arr pb 0 [.slice (some ⟨b, o, none⟩) ids.length c, .slice ua un uc, cs] :: vec 1 (.slice (some ⟨b, o, none⟩) ids.length c) (ptrs ids) :: vec 3 (.slice ua un uc) (trCP p.tr ++ [.int .i64 (k : Nat), .int .u8 m.1, .int .i64 m.2]) :: F) h := Ent.star (.take (.there (.there (.there .here))) (.take (.there (.there (.there .here))) (.take (.there (.there (.there (.there (.there .here))))) (.take .here (.take (.there (.there .here)) (.take (.there (.there .here)) (.take .here (.drop .refl)))))))) st
  rw [← trCP_app] at st1
  have s1 := seat_put hi hq st1
  exact Ent.star (.take (.there .here) (.take (.there .here) (.take (.there .here) (.take (.there .here) (.take .here .refl))))) s1
theorem takes_tr {k : Int} (hl : ids.length = p.qs.length) (hle : p.tr.length ≤ 16384) (hok : p.tr.length < 16384 → g.ok p.s) :
  Tr Try.prog mT 52 [.pointer (some ⟨pb, 0, none⟩), .int .i64 k] (playL g pb ss ts cs ids p F) (playX g wg ids p) fun v L' x' => ∃ ts', v = .bool (takeF p k).2 ∧ L' = playL g pb ss ts' cs ids (takeF p k).1 F ∧ x' = playX g wg ids (takeF p k).1 := by
 by_cases h0 : k < 0
 ·rw [show takeF p k = (p, false) by unfold takeF; rw [if_pos h0]]
  exact (take_out hl (.inl h0)).mono fun v L' x' h => ⟨ts, h⟩
 obtain ⟨n, rfl⟩ : ∃ n : Nat, k = n := ⟨k.toNat, by omega⟩
 cases hq : p.qs[n]? with
 | none =>
  have := List.getElem?_eq_none_iff.1 hq
  rw [show takeF p (n : Int) = (p, false) by unfold takeF; rw [if_neg h0, Int.toNat_natCast, hq]]
  exact (take_out hl (.inr (by omega))).mono fun v L' x' h => ⟨ts, h⟩
 | some q =>
  have hn := (List.getElem?_eq_some_iff.1 hq).1
  have hi : ids[n]? = some (ids[n]'(by omega)) := List.getElem?_eq_getElem _
  cases hpl : g.plan q with
  | none =>
   rw [show takeF p (n : Int) = (p, false) by unfold takeF; rw [if_neg h0, Int.toNat_natCast, hq]; simp only [hpl]]
   exact (take_no hi hq (.inl hpl)).mono fun v L' x' h => ⟨ts, h⟩
  | some mf =>
   obtain ⟨m, f⟩ := mf
   by_cases htr : p.tr.length = 16384
   ·rw [show takeF p (n : Int) = (p, false) by unfold takeF; rw [if_neg h0, Int.toNat_natCast, hq]; simp only [hpl, if_pos htr]]
    exact (take_no hi hq (.inr htr)).mono fun v L' x' h => ⟨ts, h⟩
   ·rw [show takeF p (n : Int) = (⟨(f p.s).1, p.qs.set n (f p.s).2, p.tr ++ [(n, m)]⟩, true) by unfold takeF; rw [if_neg h0, Int.toNat_natCast, hq]; simp only [hpl, if_neg htr]]
    exact (take_yes hl hi hq hpl (by omega) (hok (by omega))).mono fun v L' x' h => h
end
end Go.Proofs.Ytodgemainhokjaa
namespace Go.PB
section
variable {P : Program} {B : Hand} {kd : CallKind} {n : Nat} {ops : Array Oper} {ord R : List Nat} {Pd : List Pn} {K : Post B} {e : Env} {z : Z} {L : List HProp} {x : B.X}
theorem ap1_swap {i f : Nat} {ord' R' pre idx : List Nat} {t : Array Value} {h : Hp} (hf : R.contains f = true) (hR : R.erase f = R') (hord : ord' = (ord.takeWhile fun q => !(q == i)) ++ f :: i :: R') (hok : okOrd n ops ord' = true)
  (b : Ap1 P B kd n ops ord' f (i :: R') Pd K e z L x) (hpre : ord = pre ++ i :: R) (hin : ∀ p ∈ Pd, p.i ∈ pre) (ok : OkO n ops ord) (hpd : ∀ p ∈ Pd, PdOk P n ops L p) (I : InvA n ops (i :: R) Pd e (f :: idx) t) (s : Star L h) : Wr P B kd ops (f :: idx) K t z h x := by
 subst hR
 have hfR : f ∈ R := by simpa using hf
 have hnd : (pre ++ i :: R).Nodup := hpre ▸ ok.nd
 have htw : ord.takeWhile (fun q => !(q == i)) = pre := by rw [hpre]; exact takeWhile_pre hnd
 have hnd2 := List.nodup_cons.1 (List.nodup_append.1 hnd).2.1
 have hmem : ∀ y, (y ∈ f :: i :: R.erase f) ↔ y ∈ i :: R := by
  intro y
  simp only [List.mem_cons, hnd2.2.mem_erase_iff]
  constructor
  ·rintro (rfl | rfl | ⟨_, h⟩)
   ·exact .inr hfR
   ·exact .inl rfl
   ·exact .inr h
  ·rintro (rfl | h)
   ·exact .inr (.inl rfl)
   ·by_cases e : y = f
    ·exact .inl e
    ·exact .inr (.inr ⟨e, h⟩)
 refine b ⟨pre, by rw [hord, htw], hin⟩ (okOrd_ok hok) hpd idx t h ⟨I.sz, I.nd, I.lt, fun q hq => ?_, fun q hq => I.all q ((hmem q).1 hq), fun p hp hh => I.dj p hp ((hmem _).1 hh), I.pu, I.resp, I.dn, I.envok, I.pok⟩ s
 rcases I.sub q hq with h1 | h1
 ·exact .inl ((hmem q).2 h1)
 ·exact .inr h1
theorem ap_fork3 [Lets B] {i f g : Nat} {ordf ordg Rf Rg : List Nat} (hdom : (R.all fun j => j == f || j == g || (anc ops ops.size j).contains i) = true) (hf : R.contains f = true) (hRf : R.erase f = Rf) (hordf : ordf = (ord.takeWhile fun q => !(q == i)) ++ f :: i :: Rf) (hokf : okOrd n ops ordf = true)
  (hg : R.contains g = true) (hRg : R.erase g = Rg) (hordg : ordg = (ord.takeWhile fun q => !(q == i)) ++ g :: i :: Rg) (hokg : okOrd n ops ordg = true)
  (a : Ap1 P B kd n ops ord i R Pd K e z L x) (b : Ap1 P B kd n ops ordf f (i :: Rf) Pd K e z L x) (c : Ap1 P B kd n ops ordg g (i :: Rg) Pd K e z L x) : Ap P B kd n ops ord (i :: R) Pd K e z L x := by
 rintro ⟨pre, hpre, hin⟩ ok hpd
 refine ap_run ok hpd (fun t h I s => ?_) (fun j idx t h hj I s => ?_)
 ·have := I.all i (by simp); simp at this
 ·by_cases hji : j = i
  ·subst hji
   exact a ⟨pre, hpre, hin⟩ ok hpd idx t h I s
  ·have hjf : j = f ∨ j = g := by
    rcases List.mem_cons.1 hj with h1 | h1
    ·exact absurd h1 hji
    ·have := (List.all_eq_true.1 hdom) j h1
     simp only [Bool.or_eq_true, beq_iff_eq, List.contains_eq_mem, decide_eq_true_eq] at this
     rcases this with h2 | h2
     ·exact h2
     ·exact absurd (I.all i (by simp)) (I.first ok h2)
   rcases hjf with rfl | rfl
   ·exact ap1_swap hf hRf hordf hokf b hpre hin ok hpd I s
   ·exact ap1_swap hg hRg hordg hokg c hpre hin ok hpd I s
theorem ap_fork2 [Lets B] {i f : Nat} {ordf Rf : List Nat} (hdom : (R.all fun j => j == f || (anc ops ops.size j).contains i) = true) (hf : R.contains f = true) (hRf : R.erase f = Rf) (hordf : ordf = (ord.takeWhile fun q => !(q == i)) ++ f :: i :: Rf) (hokf : okOrd n ops ordf = true)
  (a : Ap1 P B kd n ops ord i R Pd K e z L x) (b : Ap1 P B kd n ops ordf f (i :: Rf) Pd K e z L x) : Ap P B kd n ops ord (i :: R) Pd K e z L x := by
 subst hRf; exact ap_fork hdom hf hordf hokf a b
end
end Go.PB
namespace Go.Proofs.Ytodgemainhokjaa
open Go Go.PB
attribute [local irreducible] Mo Bin Eql Tr Wo Ap Wle
section
variable {B : Hand} [Lets B] {L : List HProp} {x : B.X}
def isFn (v : Value) : Prop := ∃ f u w, v = .func f u w
theorem wrong1_nil : Tr Try.prog B 67 [.nilFunc] L x fun v L' x' => v = .bool true ∧ L' = L ∧ x' = x := by
 refine tr_of_body Try.func67 rfl Try.ntmps67 (by simp) fun um Q _ hQ => ?_
 simp only [argE, Nat.zero_add, Nat.reduceAdd]
 repeat (first | (apply wo_po; apply mo_bin; exact rfl; exact rfl; apply bin_eq; apply eql_nilfunc_nil; exact trivial) | refine we_seq ?_ | (refine wR ?_; try simp only [oS]) | refine wo_nil ?_ | refine wM ?_ | refine wA ?_ | refine we_ret ?_)
 (first | refine or1 Try.func67 Try.results67 hQ rfl ?_ | refine on1 Try.func67 Try.results67 hQ rfl ?_)
 exact ⟨rfl, rfl, rfl⟩
theorem wrong1_fn {v : Value} (hv : isFn v) : Tr Try.prog B 67 [v] L x fun v L' x' => v = .bool false ∧ L' = L ∧ x' = x := by
 obtain ⟨f, u, w, rfl⟩ := hv
 refine tr_of_body Try.func67 rfl Try.ntmps67 (by simp) fun um Q _ hQ => ?_
 simp only [argE, Nat.zero_add, Nat.reduceAdd]
 repeat (first | (apply wo_po; apply mo_bin; exact rfl; exact rfl; apply bin_eq; apply eql_func_nil; exact trivial) | refine we_seq ?_ | (refine wR ?_; try simp only [oS]) | refine wo_nil ?_ | refine wM ?_ | refine wA ?_ | refine we_ret ?_)
 (first | refine or1 Try.func67 Try.results67 hQ rfl ?_ | refine on1 Try.func67 Try.results67 hQ rfl ?_)
 exact ⟨rfl, rfl, rfl⟩
def RdsO (L : List HProp) (a : Option Addr) (n : Nat) (vs : List Value) : Prop := n = vs.length ∧ (n = 0 ∨ ∃ b o, a = some ⟨b, o, none⟩ ∧ Rds L b o vs)
theorem RdsO.there {L : List HProp} {c : HProp} {a : Option Addr} {n : Nat} {vs : List Value} (h : RdsO L a n vs) : RdsO (c :: L) a n vs :=
 ⟨h.1, h.2.imp id fun ⟨b, o, e, r⟩ => ⟨b, o, e, fun i v hi => .there (r i v hi)⟩⟩
theorem RdsO.rds {L : List HProp} {a : Option Addr} {n : Nat} {vs : List Value} (h : RdsO L a n vs) (hn : 0 < n) : ∃ b o, a = some ⟨b, o, none⟩ ∧ Rds L b o vs := by
 rcases h.2 with h0 | h
 ·omega
 ·exact h
def idxInv (tv fv : Value) (vs : List Value) (L : List HProp) (x : B.X) : PB.Inv Nat B.X where
 e := fun i => [(0, tv), (1, fv), (7, .int .i64 (vs.length : Nat)), (8, .int .i64 (i : Nat))]
 L := fun _ => L
 x := fun _ => x
 ok := fun i => i ≤ vs.length ∧ ∀ k v, k < i → vs[k]? = some v → isFn v
theorem index_tr {a : Option Addr} {n c : Nat} {vs : List Value} (hvs : ∀ v ∈ vs, v = .nilFunc ∨ isFn v) (hr : RdsO L a n vs) (hb : n < 1000000) :
  Tr Try.prog B 89 [.slice a n c, .func (.func 67) #[] #[]] L x fun v L' x' => (∃ j : Int, v = .int .i64 j ∧ ((j < 0 ∧ ∀ v ∈ vs, isFn v) ∨ (0 ≤ j ∧ .nilFunc ∈ vs))) ∧ L' = L ∧ x' = x := by
 obtain ⟨rfl, hr⟩ := hr
 refine tr_of_body Try.func89 rfl Try.ntmps89 (by simp) fun um Q _ hQ => ?_
 simp only [argE, Nat.zero_add, Nat.reduceAdd]
 repeat (first | refine we_seq ?_ | (refine wR ?_; try simp only [oS]) | refine wo_nil ?_ | refine wM ?_ | refine wA ?_ | refine wE ?_ | refine we_block ?_)
 refine we_loopN (idxInv (.slice a vs.length c) (.func (.func 67) #[] #[]) vs L x) (fun i => vs.length - i) 0 ⟨by omega, fun k v h => by omega⟩ ⟨rfl, rfl, rfl, rfl, trivial⟩ .refl rfl ?_
 rintro i ⟨hi, hbe⟩
 simp only [idxInv]
 by_cases hlt : i < vs.length
 ·obtain ⟨b, o, rfl, hrd⟩ : ∃ b o, a = some ⟨b, o, none⟩ ∧ Rds L b o vs := by
   rcases hr with h | h
   ·omega
   ·exact h
  have hri := hrd i vs[i] (List.getElem?_eq_getElem hlt)
  repeat (first | (apply wo_po; apply mo_index1; exact rfl; exact rfl; omega; exact gY) | (apply wo_po; apply mo_load; exact rfl; exact hri; exact trivial) | refine wlssT ?_ | refine we_seq ?_ | (refine wR ?_; try simp only [oS]) | refine wo_nil ?_ | refine wM ?_ | refine wA ?_ | refine wT ?_ | refine we_skip ?_ | refine we_block ?_)
  rcases hvs vs[i] (List.getElem_mem hlt) with hv | hv
  ·rw [hv]
   refine wo_callv (args := [_]) (first := []) (cap := []) rfl rfl (.cons rfl .nil) trivial (R := fun v L' x' => v = .bool true ∧ L' = L ∧ x' = x) wrong1_nil ?_
   rintro v L' x' ⟨rfl, rfl, rfl⟩
   repeat (first | refine we_seq ?_ | (refine wR ?_; try simp only [oS]) | refine wo_nil ?_ | refine wM ?_ | refine wA ?_ | refine wT ?_ | refine we_ret ?_)
   (first | refine or1 Try.func89 Try.results89 hQ rfl ?_ | refine on1 Try.func89 Try.results89 hQ rfl ?_)
   exact ⟨⟨_, rfl, .inr ⟨by omega, by rw [← hv]; exact List.getElem_mem hlt⟩⟩, rfl, rfl⟩
  ·refine wo_callv (args := [_]) (first := []) (cap := []) rfl rfl (.cons rfl .nil) trivial (R := fun v L' x' => v = .bool false ∧ L' = L ∧ x' = x) (wrong1_fn hv) ?_
   rintro v L' x' ⟨rfl, rfl, rfl⟩
   repeat (first | (refine wR ?_; try simp only [oS]) | refine wo_nil ?_ | refine wM ?_ | refine wadd ?_ | refine wF ?_ | refine we_skip ?_)
   refine at_round (I := idxInv (.slice (some ⟨b, o, none⟩) vs.length c) (.func (.func 67) #[] #[]) vs _ x') (R := fun j => vs.length - j < vs.length - i) (i + 1) (by omega) ⟨by omega, fun k v hk hv' => ?_⟩ ⟨rfl, rfl, rfl, rfl, trivial⟩ .refl rfl
   by_cases e : k = i
   ·subst e; rw [List.getElem?_eq_getElem hlt] at hv'; cases hv'; exact hv
   ·exact hbe k v (by omega) hv'
 ·repeat (first | refine wlssF ?_ | refine we_seq ?_ | (refine wR ?_; try simp only [oS]) | refine wo_nil ?_ | refine wA ?_ | refine wF ?_ | refine we_ret ?_ | refine we_exit ?_)
  (first | refine or1 Try.func89 Try.results89 hQ rfl ?_ | refine on1 Try.func89 Try.results89 hQ rfl ?_)
  refine ⟨⟨_, rfl, .inl ⟨by omega, fun v hv => ?_⟩⟩, rfl, rfl⟩
  obtain ⟨k, hk⟩ := List.mem_iff_getElem?.1 hv
  exact hbe k v (by have := (List.getElem?_eq_some_iff.1 hk).1; omega) hk
theorem contains_tr {a : Option Addr} {n c : Nat} {vs : List Value} (hvs : ∀ v ∈ vs, v = .nilFunc ∨ isFn v) (hr : RdsO L a n vs) (hb : n < 1000000) :
  Tr Try.prog B 66 [.slice a n c, .func (.func 67) #[] #[]] L x fun v L' x' => (∃ q, v = .bool q ∧ (if q = true then .nilFunc ∈ vs else ∀ v ∈ vs, isFn v)) ∧ L' = L ∧ x' = x := by
 refine tr_of_body Try.func66 rfl Try.ntmps66 (by simp) fun um Q _ hQ => ?_
 simp only [argE, Nat.zero_add, Nat.reduceAdd]
 repeat (first | refine we_seq ?_ | (refine wR ?_; try simp only [oS]) | refine wo_nil ?_ | refine wM ?_ | refine wA ?_)
 refine wo_call (.cons rfl (.cons rfl .nil)) trivial (index_tr hvs hr hb) ?_
 rintro v L' x' ⟨⟨j, rfl, hj⟩, rfl, rfl⟩
 rcases hj with ⟨h1, h2⟩ | ⟨h1, h2⟩
 ·repeat (first | refine wgeqF ?_ | refine wo_nil ?_ | refine wA ?_ | refine we_ret ?_)
  (first | refine or1 Try.func66 Try.results66 hQ rfl ?_ | refine on1 Try.func66 Try.results66 hQ rfl ?_)
  exact ⟨⟨false, rfl, h2⟩, rfl, rfl⟩
 ·repeat (first | refine wgeqT ?_ | refine wo_nil ?_ | refine wA ?_ | refine we_ret ?_)
  (first | refine or1 Try.func66 Try.results66 hQ rfl ?_ | refine on1 Try.func66 Try.results66 hQ rfl ?_)
  exact ⟨⟨true, rfl, h2⟩, rfl, rfl⟩
theorem wrong_tr {a : Option Addr} {n c : Nat} {vs : List Value} (hvs : ∀ v ∈ vs, v = .nilFunc ∨ isFn v) (hr : RdsO L a n vs) (hb : n < 1000000) :
  Tr Try.prog B 50 [.slice a n c] L x fun v L' x' => (∃ k : Int, v = .int .i64 k ∧ (((k = 1 ∧ .nilFunc ∈ vs) ∨ ((∀ v ∈ vs, isFn v) ∧ k = if vs.length = 0 then 2 else if 16 < vs.length then 4 else 0)))) ∧ L' = L ∧ x' = x := by
 have hn := hr.1
 refine tr_of_body Try.func50 rfl Try.ntmps50 (by simp) fun um Q _ hQ => ?_
 simp only [argE, Nat.zero_add, Nat.reduceAdd]
 repeat (first | refine we_seq ?_ | (refine wR ?_; try simp only [oS]) | refine wo_nil ?_ | refine wM ?_ | refine wA ?_ | refine we_block ?_)
 refine wo_call (.cons rfl (.cons rfl .nil)) trivial (contains_tr hvs hr hb) ?_
 rintro v L' x' ⟨⟨q, rfl, hq⟩, rfl, rfl⟩
 cases q with
 | true =>
  repeat (first | refine we_seq ?_ | (refine wR ?_; try simp only [oS]) | refine wo_nil ?_ | refine wA ?_ | refine wT ?_ | refine we_ret ?_)
  (first | refine or1 Try.func50 Try.results50 hQ rfl ?_ | refine on1 Try.func50 Try.results50 hQ rfl ?_)
  exact ⟨⟨_, rfl, .inl ⟨rfl, hq⟩⟩, rfl, rfl⟩
 | false =>
  by_cases h0 : n = 0
  ·repeat (first | refine weqlT ?_ | refine we_seq ?_ | (refine wR ?_; try simp only [oS]) | refine wo_nil ?_ | refine wM ?_ | refine wA ?_ | refine wE ?_ | refine wT ?_ | refine wF ?_ | refine we_ret ?_)
   (first | refine or1 Try.func50 Try.results50 hQ rfl ?_ | refine on1 Try.func50 Try.results50 hQ rfl ?_)
   exact ⟨⟨_, rfl, .inr ⟨hq, by rw [if_pos (by omega)]⟩⟩, rfl, rfl⟩
  by_cases h1 : 16 < n
  ·repeat (first | refine wgtrT ?_ | refine weqlF ?_ | refine we_seq ?_ | (refine wR ?_; try simp only [oS]) | refine wo_nil ?_ | refine wM ?_ | refine wA ?_ | refine wE ?_ | refine wT ?_ | refine wF ?_ | refine we_ret ?_)
   (first | refine or1 Try.func50 Try.results50 hQ rfl ?_ | refine on1 Try.func50 Try.results50 hQ rfl ?_)
   exact ⟨⟨_, rfl, .inr ⟨hq, by rw [if_neg (by omega), if_pos (by omega)]⟩⟩, rfl, rfl⟩
  ·repeat (first | refine wgtrF ?_ | refine weqlF ?_ | refine we_seq ?_ | (refine wR ?_; try simp only [oS]) | refine wo_nil ?_ | refine wM ?_ | refine wA ?_ | refine wE ?_ | refine wF ?_ | refine we_ret ?_ | refine we_skip ?_)
   (first | refine or1 Try.func50 Try.results50 hQ rfl ?_ | refine on1 Try.func50 Try.results50 hQ rfl ?_)
   exact ⟨⟨_, rfl, .inr ⟨hq, by rw [if_neg (by omega), if_neg (by omega)]⟩⟩, rfl, rfl⟩
end
end Go.Proofs.Ytodgemainhokjaa
namespace Go.Proofs.Ytodgemainhokjaa
open Go Go.PB
attribute [local irreducible] Mo Bin Eql Tr Wo Ap Wle
section
structure SeqAt {B : Hand} {gv : Value} (A : Acc B gv) (r n : Nat) : Prop where
 lo : 1 ≤ n
 hi : n ≤ 16
 hdr : ∀ s, Rd [A.C s] r 1 (.int .i64 (n : Nat))
 a0 : A.addr 0 = (r, 0)
 a : ∀ i, i < n → A.addr (1 + i) = (r, 2 + i)
section
variable {B : Hand} [Lets B] {gv : Value} {A : Acc B gv} {r n : Nat} {L F : List HProp}
theorem snone_no {x : B.X} (hr : Rd L r 1 (.int .i64 (n : Nat))) (hn : 1 ≤ n) :
  Tr Try.prog B 45 [.pointer (some ⟨r, 0, none⟩)] L x fun v L' x' => v = .bool false ∧ L' = L ∧ x' = x := by
 refine tr_of_body Try.func45 rfl Try.ntmps45 (by simp) fun um Q _ hQ => ?_
 simp only [argE, Nat.zero_add, Nat.reduceAdd]
 repeat (first | (apply wo_po; apply mo_load; exact rfl; exact hr; exact rfl) | refine weqlF ?_ | refine we_seq ?_ | (refine wR ?_; try simp only [oS]) | refine wo_nil ?_ | refine wM ?_ | refine wA ?_ | refine wJ ?_ | refine wN ?_ | refine wD ?_ | (apply wo_po; apply mo_bin; exact rfl; exact rfl; apply bin_eq; apply eql_ptr_nil; exact gY) | refine we_ret ?_)
 (first | refine or1 Try.func45 Try.results45 hQ rfl ?_ | refine on1 Try.func45 Try.results45 hQ rfl ?_)
 exact ⟨rfl, rfl, rfl⟩
theorem step_tr {op : Int} {w : Nat} {s : A.S} {T : A.S → Prop} (hs : A.step op w s T) (hh : Has L (A.C s) F) :
  Tr Try.prog B 46 [gv, .int .u8 op, .int .i64 w] L (A.x s) fun v L' x' => ∃ s', T s' ∧ v = .tuple #[] ∧ L' = A.C s' :: F ∧ x' = A.x s' := by
 rcases A.gate with ⟨rfl, hg⟩ | ⟨t, p, f, rfl, hm, he, hg⟩
 ·refine tr_of_body Try.func46 rfl Try.ntmps46 (by simp) fun um Q _ hQ => ?_
  simp only [argE, Nat.zero_add, Nat.reduceAdd]
  repeat (first | refine we_seq ?_ | (refine wR ?_; try simp only [oS]) | refine wo_nil ?_ | refine wM ?_ | (apply wo_po; apply mo_bin; exact rfl; exact rfl; apply bin_ne; apply eql_nil_nil; exact gY) | refine wF ?_ | refine we_skip ?_)
  refine at_ent _ (Ent.take hh .refl) ?_
  (first | refine or0 Try.func46 Try.results46 hQ ?_ | refine on0 Try.func46 Try.results46 hQ ?_)
  exact ⟨s, hg _ _ _ _ hs, rfl, rfl, rfl⟩
 ·refine tr_of_body Try.func46 rfl Try.ntmps46 (by simp) fun um Q _ hQ => ?_
  simp only [argE, Nat.zero_add, Nat.reduceAdd]
  repeat (first | (apply wo_po; apply mo_build (pv := [(0, _), (1, _)]); exact rfl; exact .cons rfl (.cons rfl .nil); exact rfl; exact trivial) | refine we_seq ?_ | (refine wR ?_; try simp only [oS]) | refine wo_nil ?_ | refine wM ?_ | (apply wo_po; apply mo_bin; exact rfl; exact rfl; apply bin_ne; apply eql_iface_nil; exact gY) | refine wT ?_)
  refine wo_invoke (args := [_]) rfl (.cons rfl .nil) trivial (hg op w s T L F hs hh) ?_
  rintro v L' x' ⟨s', h1, rfl, rfl, rfl⟩
  repeat (first | refine wo_nil ?_)
  (first | refine or0 Try.func46 Try.results46 hQ ?_ | refine on0 Try.func46 Try.results46 hQ ?_)
  exact ⟨s', h1, rfl, rfl, rfl⟩
def WLoop (A : Acc B gv) (K : A.S → Prop) : List Nat → Nat → A.S → Prop
 | [], _, s => K s
 | w :: l, i, s => A.step 2 (1 + i) s fun s => A.store (1 + i) w s (WLoop A K l (i + 1))
def WriteT (A : Acc B gv) (ws : List Nat) (s : A.S) (Q : Option Nat → A.S → Prop) : Prop :=
 A.step 1 0 s fun s => A.load 0 s fun v s => if v % 2 = 0 then
  A.step 5 0 s fun s => A.cas 0 v ((v + 1) % 18446744073709551616) s fun c s => if c = true then
   WLoop A (fun s => A.step 2 0 s fun s => A.store 0 ((v + 2) % 18446744073709551616) s (Q (some ((v + 2) % 18446744073709551616)))) ws 0 s
   else Q none s
  else Q none s
def wrInv (A : Acc B gv) (r n v : Nat) (ws : List Nat) (wv : Value) (F : List HProp) (K : A.S → Prop) : PB.Inv (Nat × A.S) B.X where
 e := fun i => [(0, .pointer (some ⟨r, 0, none⟩)), (1, gv), (8, .int .u64 (v : Nat)), (41, wv), (42, .int .i64 (n : Nat)), (43, .int .i64 (i.1 : Nat))]
 L := fun i => A.C i.2 :: F
 x := fun i => A.x i.2
 ok := fun i => i.1 ≤ n ∧ WLoop A K (ws.drop i.1) i.1 i.2
theorem write_tr (R : SeqAt A r n) {ws : List Nat} {wa : Option Addr} {wc : Nat} (hlen : ws.length = n) (hb : ∀ w ∈ ws, w < 18446744073709551616) {s : A.S} {Q : Option Nat → A.S → Prop} (hs : WriteT A ws s Q) (hh : Has L (A.C s) F) (hw : RdsO F wa n (ws.map num)) :
  Tr Try.prog B 14 [.pointer (some ⟨r, 0, none⟩), gv, .slice wa n wc] L (A.x s) fun v' L' x' => ∃ q s', Q q s' ∧ v' = .tuple #[.int .u64 (q.getD 0 : Nat), .int .i64 (if q.isSome = true then 0 else 50)] ∧ L' = A.C s' :: F ∧ x' = A.x s' := by
 have hlo := R.lo
 have hhi := R.hi
 unfold WriteT at hs
 have hr0 := Rd.of hh (R.hdr s)
 obtain ⟨wb, wo, rfl, hrds⟩ := hw.rds (by omega)
 refine tr_of_body Try.func14 rfl Try.ntmps14 (by simp) fun um Q _ hQ => ?_
 simp only [argE, Nat.zero_add, Nat.reduceAdd]
 repeat (first | refine we_seq ?_ | (refine wR ?_; try simp only [oS]) | refine wo_nil ?_ | refine wM ?_ | refine wA ?_ | refine we_block ?_)
 refine wo_call (.cons rfl .nil) trivial (snone_no hr0 hlo) ?_
 rintro v1 L1 x1 ⟨rfl, rfl, rfl⟩
 repeat (first | (apply wo_po; apply mo_load; exact rfl; exact hr0; exact trivial) | refine wneqF ?_ | refine we_seq ?_ | (refine wR ?_; try simp only [oS]) | refine wo_nil ?_ | refine wM ?_ | refine wA ?_ | refine wN ?_ | refine wD ?_ | refine wE ?_ | refine wF ?_ | refine we_skip ?_)
 refine wo_call (.cons rfl (.cons rfl (.cons rfl .nil))) trivial (step_tr hs hh) ?_
 rintro v1 L1 x1 ⟨s1, h1, rfl, rfl, rfl⟩
 repeat (first | refine we_seq ?_ | (refine wR ?_; try simp only [oS]) | refine wo_nil ?_ | refine wM ?_ | refine wN ?_ | refine wD ?_)
 refine wo_call (.cons rfl .nil) trivial (A.load_ok _ _ _ _ _ _ _ R.a0 h1 .here) ?_
 rintro v1 L1 x1 ⟨v, s2, hv, h2, rfl, rfl, rfl⟩
 have hm : (v : Int).tmod 2 = ((v % 2 : Nat) : Int) := by rw [Int.tmod_eq_emod_of_nonneg (by omega)]; omega
 by_cases c1 : v % 2 = 0
 ·rw [if_pos c1] at h2
  repeat (first | (apply wo_po; apply mo_bin; exact rfl; exact rfl; apply bin_rem; omega; exact hm; exact trivial) | refine wneqF ?_ | refine we_seq ?_ | (refine wR ?_; try simp only [oS]) | refine wo_nil ?_ | refine wM ?_ | refine wA ?_ | refine wF ?_ | refine we_skip ?_)
  refine wo_call (.cons rfl (.cons rfl (.cons rfl .nil))) trivial (step_tr h2 .here) ?_
  rintro v1 L1 x1 ⟨s3, h3, rfl, rfl, rfl⟩
  have hadd : IntKind.u64.wrap ((v : Int) + 1) = (((v + 1) % 18446744073709551616 : Nat) : Int) := by rw [wrap_u64_mod]; omega
  have hadd2 : IntKind.u64.wrap ((v : Int) + 2) = (((v + 2) % 18446744073709551616 : Nat) : Int) := by rw [wrap_u64_mod]; omega
  repeat (first | (apply wo_po; apply mo_bin; exact rfl; exact rfl; apply bin_add; exact hadd; exact trivial) | refine we_seq ?_ | (refine wR ?_; try simp only [oS]) | refine wo_nil ?_ | refine wM ?_ | refine wN ?_ | refine wD ?_)
  refine wo_call (.cons rfl (.cons rfl (.cons rfl .nil))) trivial (A.cas_ok _ _ _ _ _ _ _ _ _ R.a0 (Nat.mod_lt _ (by decide)) h3 .here) ?_
  rintro v1 L1 x1 ⟨q, s4, h4, rfl, rfl, rfl⟩
  cases q
  ·rw [if_neg (by decide)] at h4
   repeat (first | refine we_seq ?_ | (refine wR ?_; try simp only [oS]) | refine wo_nil ?_ | refine wA ?_ | (apply wo_po; apply mo_not; exact rfl; exact gY) | refine wT ?_ | refine we_ret ?_)
   (first | refine or2 Try.func14 Try.results14 hQ rfl rfl ?_ | refine on2 Try.func14 Try.results14 hQ rfl rfl ?_)
   exact ⟨none, s4, h4, rfl, rfl, rfl⟩
  ·rw [if_pos rfl] at h4
   repeat (first | refine we_seq ?_ | (refine wR ?_; try simp only [oS]) | refine wo_nil ?_ | refine wM ?_ | (apply wo_po; apply mo_not; exact rfl; exact gY) | refine wE ?_ | refine wF ?_ | refine we_skip ?_ | refine we_block ?_)
   refine we_loopN (wrInv A r n v ws (.slice (some ⟨wb, wo, none⟩) n wc) F _) (fun i => n - i.1) (0, s4) ⟨Nat.zero_le _, h4⟩ ⟨rfl, rfl, rfl, rfl, rfl, rfl, trivial⟩ .refl rfl ?_
   clear h4 h3 h2 h1 hs hr0
   rintro ⟨i, s5⟩ ⟨hi, h5⟩
   dsimp only [wrInv] at hi h5 ⊢
   by_cases c2 : i < n
   ·have hiw : i < ws.length := by omega
    rw [List.drop_eq_getElem_cons hiw] at h5
    obtain ⟨w, hwv⟩ : ∃ w, ws[i] = w := ⟨_, rfl⟩
    have hwb : w < 18446744073709551616 := hb w (hwv ▸ List.getElem_mem hiw)
    have hrd : Rd (A.C s5 :: F) wb (wo + i) (.int .u64 (w : Nat)) := .there (hrds i _ (by rw [List.getElem?_map, List.getElem?_eq_getElem hiw, hwv]; rfl))
    rw [hwv] at h5
    have h1i : IntKind.i64.wrap (1 + (i : Int)) = ((1 + i : Nat) : Int) := (wrap_i64 (by omega) (by omega)).trans (by omega)
    repeat (first | (apply wo_po; apply mo_indexAddr (r := wo + i); exact rfl; exact rfl; omega; omega; omega; exact trivial) | (apply wo_po; apply mo_load; exact rfl; exact hrd; exact trivial) | (apply wo_po; apply mo_bin; exact rfl; exact rfl; apply bin_add; exact h1i; exact trivial) | refine wlssT ?_ | refine we_seq ?_ | (refine wR ?_; try simp only [oS]) | refine wo_nil ?_ | refine wM ?_ | refine wA ?_ | refine wT ?_ | refine we_skip ?_ | refine we_block ?_)
    refine wo_call (.cons rfl (.cons rfl (.cons rfl .nil))) trivial (step_tr (w := 1 + i) h5 .here) ?_
    rintro v1 L1 x1 ⟨s6, h6, rfl, rfl, rfl⟩
    repeat (first | (apply wo_po; apply mo_indexArr1 (j := i); exact rfl; exact rfl; omega; exact trivial) | (refine wR ?_; try simp only [oS]) | refine wo_nil ?_ | refine wM ?_ | refine wN ?_ | refine wD ?_)
    refine wo_call (.cons rfl (.cons rfl .nil)) trivial (A.store_ok _ _ _ _ _ _ _ _ (R.a i c2) hwb h6 .here) ?_
    rintro v1 L1 x1 ⟨s7, h7, rfl, rfl, rfl⟩
    repeat (first | (refine wR ?_; try simp only [oS]) | refine wo_nil ?_ | refine wM ?_ | refine wadd ?_)
    refine at_round (I := wrInv A r n v ws (.slice (some ⟨wb, wo, none⟩) n wc) F _) (R := fun j => n - j.1 < n - i) (i + 1, s7) (by show n - (i + 1) < n - i; omega) ⟨by show i + 1 ≤ n; omega, h7⟩ ⟨rfl, rfl, rfl, rfl, rfl, rfl, trivial⟩ .refl rfl
   ·obtain rfl : i = n := by omega
    rw [List.drop_of_length_le (by omega)] at h5
    repeat (first | refine wlssF ?_ | refine we_seq ?_ | (refine wR ?_; try simp only [oS]) | refine wo_nil ?_ | refine wM ?_ | refine wF ?_ | refine we_exit ?_)
    refine wo_call (.cons rfl (.cons rfl (.cons rfl .nil))) trivial (step_tr h5 .here) ?_
    rintro v1 L1 x1 ⟨s6, h6, rfl, rfl, rfl⟩
    repeat (first | (apply wo_po; apply mo_bin; exact rfl; exact rfl; apply bin_add; exact hadd2; exact trivial) | refine we_seq ?_ | (refine wR ?_; try simp only [oS]) | refine wo_nil ?_ | refine wM ?_ | refine wN ?_ | refine wD ?_)
    refine wo_call (.cons rfl (.cons rfl .nil)) trivial (A.store_ok _ _ _ _ _ _ _ _ R.a0 (Nat.mod_lt _ (by decide)) h6 .here) ?_
    rintro v1 L1 x1 ⟨s7, h7, rfl, rfl, rfl⟩
    repeat (first | (apply wo_po; apply mo_bin; exact rfl; exact rfl; apply bin_add; exact hadd2; exact trivial) | refine we_seq ?_ | (refine wR ?_; try simp only [oS]) | refine wo_nil ?_ | refine wM ?_ | refine wA ?_ | refine we_ret ?_)
    (first | refine or2 Try.func14 Try.results14 hQ rfl rfl ?_ | refine on2 Try.func14 Try.results14 hQ rfl rfl ?_)
    exact ⟨some _, s7, h7, rfl, rfl, rfl⟩
 ·rw [if_neg c1] at h2
  repeat (first | (apply wo_po; apply mo_bin; exact rfl; exact rfl; apply bin_rem; omega; exact hm; exact trivial) | refine wneqT ?_ | refine we_seq ?_ | (refine wR ?_; try simp only [oS]) | refine wo_nil ?_ | refine wM ?_ | refine wA ?_ | refine wT ?_ | refine we_ret ?_)
  (first | refine or2 Try.func14 Try.results14 hQ rfl rfl ?_ | refine on2 Try.func14 Try.results14 hQ rfl rfl ?_)
  exact ⟨none, s2, h2, rfl, rfl, rfl⟩
def RLoop (A : Acc B gv) (K : List Nat → A.S → Prop) : Nat → List Nat → A.S → Prop
 | 0, acc, s => K acc s
 | k + 1, acc, s => A.step 1 (1 + acc.length) s fun s => A.load (1 + acc.length) s fun w s => RLoop A K k (acc ++ [w]) s
def ReadT (A : Acc B gv) (n : Nat) (s : A.S) (Q : Option (List Nat × Nat) → A.S → Prop) : Prop :=
 A.step 1 0 s fun s => A.load 0 s fun v s => if v % 2 = 0 then
  RLoop A (fun ws s => A.step 1 0 s fun s => A.load 0 s fun u s => if u = v then Q (some (ws, v)) s else Q none s) n [] s
  else Q none s
def rdW (o : Option (List Nat × Nat)) : List Nat := (o.map (·.1)).getD []
def rdV (o : Option (List Nat × Nat)) : Nat := (o.map (·.2)).getD 0
def GoodR (n : Nat) (o : Option (List Nat × Nat)) : Prop := ∀ y, o = some y → y.1.length = n ∧ (∀ w ∈ y.1, w < 18446744073709551616) ∧ y.2 < 18446744073709551616
def rdInv (A : Acc B gv) (r n v : Nat) (F : List HProp) (K : List Nat → A.S → Prop) : PB.Inv (Nat × Value × List Nat × A.S) B.X where
 e := fun i => [(0, .pointer (some ⟨r, 0, none⟩)), (1, gv), (7, .int .u64 (v : Nat)), (8, i.2.1), (9, .pointer (some ⟨r, 2, none⟩)), (25, .int .i64 (i.1 : Nat))]
 L := fun i => A.C i.2.2.2 :: vec 1 i.2.1 (i.2.2.1.map num) :: F
 x := fun i => A.x i.2.2.2
 ok := fun i => i.1 ≤ n ∧ i.2.2.1.length = i.1 ∧ (∀ w ∈ i.2.2.1, w < 18446744073709551616) ∧ RLoop A K (n - i.1) i.2.2.1 i.2.2.2
theorem read_tr (R : SeqAt A r n) {s : A.S} {Q : Option (List Nat × Nat) → A.S → Prop} (hs : ReadT A n s Q) (hh : Has L (A.C s) F) :
  Tr Try.prog B 16 [.pointer (some ⟨r, 0, none⟩), gv] L (A.x s) fun v' L' x' => ∃ q s' rv, Q q s' ∧ GoodR n q ∧ v' = .tuple #[rv, .int .u64 (rdV q : Nat), .int .i64 (if q.isSome = true then 0 else 51)] ∧ L' = A.C s' :: vec 1 rv ((rdW q).map num) :: F ∧ x' = A.x s' := by
 refine Tr.post (R := fun v' L' x' => ∃ q s' rv, Q q s' ∧ GoodR n q ∧ v' = .tuple #[rv, .int .u64 (rdV q : Nat), .int .i64 (if q.isSome = true then 0 else 51)] ∧ x' = A.x s' ∧ ∀ h, Star L' h → Star (A.C s' :: vec 1 rv ((rdW q).map num) :: F) h) ?_ (by rintro v L' x' ⟨q, s', rv, h1, h2, rfl, rfl, hs⟩; exact ⟨_, ⟨q, s', rv, h1, h2, rfl, rfl, rfl⟩, hs⟩)
 have hlo := R.lo
 have hhi := R.hi
 unfold ReadT at hs
 have hr0 := Rd.of hh (R.hdr s)
 refine tr_of_body Try.func16 rfl Try.ntmps16 (by simp) fun um Q _ hQ => ?_
 simp only [argE, Nat.zero_add, Nat.reduceAdd]
 repeat (first | refine we_seq ?_ | (refine wR ?_; try simp only [oS]) | refine wo_nil ?_ | refine wM ?_ | refine wA ?_)
 refine wo_call (.cons rfl .nil) trivial (snone_no hr0 hlo) ?_
 rintro v1 L1 x1 ⟨rfl, rfl, rfl⟩
 repeat (first | refine we_seq ?_ | (refine wR ?_; try simp only [oS]) | refine wo_nil ?_ | refine wM ?_ | refine wF ?_ | refine we_skip ?_)
 refine wo_call (.cons rfl (.cons rfl (.cons rfl .nil))) trivial (step_tr hs hh) ?_
 rintro v1 L1 x1 ⟨s1, h1, rfl, rfl, rfl⟩
 repeat (first | refine we_seq ?_ | (refine wR ?_; try simp only [oS]) | refine wo_nil ?_ | refine wM ?_ | refine wN ?_ | refine wD ?_)
 refine wo_call (.cons rfl .nil) trivial (A.load_ok _ _ _ _ _ _ _ R.a0 h1 .here) ?_
 rintro v1 L1 x1 ⟨v, s2, hv, h2, rfl, rfl, rfl⟩
 have hm : (v : Int).tmod 2 = ((v % 2 : Nat) : Int) := by rw [Int.tmod_eq_emod_of_nonneg (by omega)]; omega
 by_cases c1 : v % 2 = 0
 ·rw [if_pos c1] at h2
  repeat (first | (apply wo_po; apply mo_bin; exact rfl; exact rfl; apply bin_rem; omega; exact hm; exact trivial) | refine wneqF ?_ | refine we_seq ?_ | (refine wR ?_; try simp only [oS]) | refine wo_nil ?_ | refine wM ?_ | refine wA ?_ | refine wN ?_ | refine wD ?_ | refine wF ?_ | refine we_skip ?_ | refine we_block ?_)
  refine we_star (A.C s2 :: vec 1 (.slice none 0 0) (([] : List Nat).map num) :: F) (fun h st => star_swap (vec_nil st)) ?_
  refine we_loopN (rdInv A r n v F _) (fun i => 17 - i.1) (0, .slice none 0 0, [], s2) ⟨Nat.zero_le _, rfl, (fun w hw => by cases hw), h2⟩ ⟨rfl, rfl, rfl, rfl, rfl, rfl, trivial⟩ .refl rfl ?_
  clear h2 h1 hs hr0
  rintro ⟨i, rv, acc, s3⟩ ⟨hi, hal, hab, h3⟩
  dsimp only [rdInv] at hi hal hab h3 ⊢
  have hr3 : Rd (A.C s3 :: vec 1 rv (acc.map num) :: F) r 1 (.int .i64 (n : Nat)) := Rd.of .here (R.hdr s3)
  by_cases c2 : i < n
  ·obtain ⟨k, hk⟩ : ∃ k, n - i = k + 1 := ⟨n - i - 1, by omega⟩
   rw [hk] at h3
   unfold RLoop at h3
   rw [hal] at h3
   have h1i : IntKind.i64.wrap (1 + (i : Int)) = ((1 + i : Nat) : Int) := (wrap_i64 (by omega) (by omega)).trans (by omega)
   repeat (first | (apply wo_po; apply mo_load; exact rfl; exact hr3; exact trivial) | (apply wo_po; apply mo_bin; exact rfl; exact rfl; apply bin_add; exact h1i; exact trivial) | refine wlssT ?_ | refine weqlF ?_ | refine we_seq ?_ | (refine wR ?_; try simp only [oS]) | refine wo_nil ?_ | refine wM ?_ | refine wA ?_ | refine wN ?_ | refine wD ?_ | refine wT ?_ | refine wF ?_ | refine we_skip ?_ | refine we_block ?_)
   refine wo_call (.cons rfl (.cons rfl (.cons rfl .nil))) trivial (step_tr (w := 1 + i) h3 .here) ?_
   rintro v1 L1 x1 ⟨s4, h4, rfl, rfl, rfl⟩
   refine wo_pure (of_has (.there .here) (vec_shape (by omega))) ?_
   rintro ⟨ra, rl, rc, rfl, hlen, hrc, hra, hra2⟩
   obtain rfl : rl = i := by simp at hlen; omega
   repeat (first | (apply wo_po; apply mo_indexArr1 (j := rl); exact rfl; exact rfl; omega; exact trivial) | (refine wR ?_; try simp only [oS]) | refine wo_nil ?_ | refine wM ?_ | refine wN ?_)
   refine wo_call (.cons rfl .nil) trivial (A.load_ok _ _ _ _ _ _ _ (R.a rl c2) h4 .here) ?_
   rintro v1 L1 x1 ⟨w, s5, hwb, h5, rfl, rfl, rfl⟩
   repeat (first | (apply wo_mo; apply mo_buildSlice (vs := [_]); exact rfl; exact .cons rfl .nil; exact rfl; (intro v hv; cases (List.mem_singleton.1 hv); exact rfl); omega; exact trivial))
   rintro v' L' ⟨nb, rfl, rfl⟩
   repeat (first | (apply wo_mo; apply mo_append (new := [num w]); exact rfl; exact rfl; exact rfl; exact rfl; exact .there (.there .here); exact rfl; exact .inr ⟨_, _, rfl, Rds.all .here⟩; (intro v hv; cases (List.mem_singleton.1 hv); exact rfl); (simp only [sliceLen]; omega); exact trivial))
   rintro v' L' hL
   rw [show acc.map num ++ [num w] = (acc ++ [w]).map num by simp] at hL
   subst hL
   repeat (first | (refine wR ?_; try simp only [oS]) | refine wo_nil ?_ | refine wM ?_ | refine wA ?_ | refine wadd ?_)
   refine at_round (I := rdInv A r n v F _) (R := fun j => 17 - j.1 < 17 - rl) (rl + 1, v', acc ++ [w], s5) (by show 17 - (rl + 1) < 17 - rl; omega) ⟨by show rl + 1 ≤ n; omega, by simp [hal], fun u hu => ?_, by show RLoop A _ (n - (rl + 1)) _ _; rw [show n - (rl + 1) = k by omega]; exact h5⟩ ⟨rfl, rfl, rfl, rfl, rfl, rfl, trivial⟩ (.take (.there (.there .here)) (.take .here (.drop .refl))) rfl
   rcases List.mem_append.1 hu with hu | hu
   ·exact hab u hu
   ·cases List.mem_singleton.1 hu; exact hwb
  ·obtain rfl : i = n := by omega
   rw [show i - i = 0 by omega] at h3
   have key : ∀ {e : Env}, ev e (.tmp 0) = some (.pointer (some ⟨r, 0, none⟩)) → True := fun _ => trivial
   by_cases c3 : i = 16
   ·repeat (first | refine wlssF ?_ | refine we_seq ?_ | (refine wR ?_; try simp only [oS]) | refine wo_nil ?_ | refine wM ?_ | refine wF ?_ | refine we_exit ?_)
    refine wo_call (.cons rfl (.cons rfl (.cons rfl .nil))) trivial (step_tr h3 .here) ?_
    rintro v1 L1 x1 ⟨s4, h4, rfl, rfl, rfl⟩
    repeat (first | refine we_seq ?_ | (refine wR ?_; try simp only [oS]) | refine wo_nil ?_ | refine wM ?_ | refine wN ?_ | refine wD ?_)
    refine wo_call (.cons rfl .nil) trivial (A.load_ok _ _ _ _ _ _ _ R.a0 h4 .here) ?_
    rintro v1 L1 x1 ⟨u, s5, hu, h5, rfl, rfl, rfl⟩
    by_cases c4 : u = v
    ·rw [if_pos c4] at h5
     repeat (first | refine wneqF ?_ | refine we_seq ?_ | (refine wR ?_; try simp only [oS]) | refine wo_nil ?_ | refine wM ?_ | refine wA ?_ | refine wF ?_ | refine we_ret ?_ | refine we_skip ?_)
     (first | refine or3 Try.func16 Try.results16 hQ rfl rfl rfl ?_ | refine on3 Try.func16 Try.results16 hQ rfl rfl rfl ?_)
     exact ⟨some (acc, v), s5, rv, h5, fun y hy => by cases hy; exact ⟨hal, hab, hv⟩, rfl, rfl, fun h st => st⟩
    ·rw [if_neg c4] at h5
     repeat (first | refine wneqT ?_ | refine we_seq ?_ | (refine wR ?_; try simp only [oS]) | refine wo_nil ?_ | refine wM ?_ | refine wA ?_ | refine wT ?_ | refine we_ret ?_)
     (first | refine or3 Try.func16 Try.results16 hQ rfl rfl rfl ?_ | refine on3 Try.func16 Try.results16 hQ rfl rfl rfl ?_)
     exact ⟨none, s5, _, h5, (fun y hy => by cases hy), rfl, rfl, fun h st => star_swap (vec_nil (Ent.star (.take .here (.drop .refl)) st))⟩
   ·repeat (first | (apply wo_po; apply mo_load; exact rfl; exact hr3; exact trivial) | refine wlssT ?_ | refine weqlT ?_ | refine we_seq ?_ | (refine wR ?_; try simp only [oS]) | refine wo_nil ?_ | refine wM ?_ | refine wA ?_ | refine wN ?_ | refine wD ?_ | refine wT ?_ | refine we_skip ?_ | refine we_block ?_ | refine we_exit ?_)
    refine wo_call (.cons rfl (.cons rfl (.cons rfl .nil))) trivial (step_tr h3 .here) ?_
    rintro v1 L1 x1 ⟨s4, h4, rfl, rfl, rfl⟩
    repeat (first | refine we_seq ?_ | (refine wR ?_; try simp only [oS]) | refine wo_nil ?_ | refine wM ?_ | refine wN ?_ | refine wD ?_)
    refine wo_call (.cons rfl .nil) trivial (A.load_ok _ _ _ _ _ _ _ R.a0 h4 .here) ?_
    rintro v1 L1 x1 ⟨u, s5, hu, h5, rfl, rfl, rfl⟩
    by_cases c4 : u = v
    ·rw [if_pos c4] at h5
     repeat (first | refine wneqF ?_ | refine we_seq ?_ | (refine wR ?_; try simp only [oS]) | refine wo_nil ?_ | refine wM ?_ | refine wA ?_ | refine wF ?_ | refine we_ret ?_ | refine we_skip ?_)
     (first | refine or3 Try.func16 Try.results16 hQ rfl rfl rfl ?_ | refine on3 Try.func16 Try.results16 hQ rfl rfl rfl ?_)
     exact ⟨some (acc, v), s5, rv, h5, fun y hy => by cases hy; exact ⟨hal, hab, hv⟩, rfl, rfl, fun h st => st⟩
    ·rw [if_neg c4] at h5
     repeat (first | refine wneqT ?_ | refine we_seq ?_ | (refine wR ?_; try simp only [oS]) | refine wo_nil ?_ | refine wM ?_ | refine wA ?_ | refine wT ?_ | refine we_ret ?_)
     (first | refine or3 Try.func16 Try.results16 hQ rfl rfl rfl ?_ | refine on3 Try.func16 Try.results16 hQ rfl rfl rfl ?_)
     exact ⟨none, s5, _, h5, (fun y hy => by cases hy), rfl, rfl, fun h st => star_swap (vec_nil (Ent.star (.take .here (.drop .refl)) st))⟩
 ·rw [if_neg c1] at h2
  repeat (first | (apply wo_po; apply mo_bin; exact rfl; exact rfl; apply bin_rem; omega; exact hm; exact trivial) | refine wneqT ?_ | refine we_seq ?_ | (refine wR ?_; try simp only [oS]) | refine wo_nil ?_ | refine wM ?_ | refine wA ?_ | refine wT ?_ | refine we_ret ?_)
  (first | refine or3 Try.func16 Try.results16 hQ rfl rfl rfl ?_ | refine on3 Try.func16 Try.results16 hQ rfl rfl rfl ?_)
  exact ⟨none, s2, _, h2, (fun y hy => by cases hy), rfl, rfl, fun h st => star_swap (vec_nil st)⟩
end
end
section
def sAddr (r : Nat) (w : Nat) : Nat × Nat := (r, if w = 0 then 0 else 1 + w)
def sK (r n : Nat) : List (Nat × Nat × Value) := [(r, 1, .int .i64 (n : Nat))]
theorem s_apart (r n : Nat) : Apart (sAddr r) (n + 1) (sK r n) where
 inj := fun i j _ _ h => by
  have := congrArg Prod.snd h
  simp only [sAddr] at this
  split at this <;> split at this <;> omega
 fix := fun i _ k hk => by
  simp only [sK, List.mem_singleton] at hk; subst hk
  intro h
  have := congrArg Prod.snd h
  simp only [sAddr] at this
  split at this <;> omega
def sC (r n : Nat) (f : Nat → Nat) : HProp := wds (sAddr r) (n + 1) (sK r n) f
def recF (ws : List Nat) (v : Nat) : Nat → Nat := fun w => if w = 0 then v else ws.getD (w - 1) 0
theorem recF_succ {ws : List Nat} {v i : Nat} : recF ws v (1 + i) = ws.getD i 0 := by
 unfold recF
 rw [if_neg (by omega), show 1 + i - 1 = i by omega]
def updL : (Nat → Nat) → List Nat → Nat → Nat → Nat
 | f, [], _ => f
 | f, w :: l, i => updL (upd f (1 + i) w) l (i + 1)
theorem updL_at : ∀ (l : List Nat) (f : Nat → Nat) (i j : Nat), updL f l i j = if i + 1 ≤ j ∧ j < i + 1 + l.length then l.getD (j - (i + 1)) 0 else f j
 | [], f, i, j => by simp only [updL, List.length_nil]; rw [if_neg (by omega)]
 | w :: l, f, i, j => by
  rw [updL, updL_at l]
  simp only [List.length_cons]
  by_cases h1 : i + 1 + 1 ≤ j ∧ j < i + 1 + 1 + l.length
  ·rw [if_pos h1, if_pos (by omega), show j - (i + 1) = (j - (i + 1 + 1)) + 1 by omega]; rfl
  ·rw [if_neg h1]
   by_cases h2 : j = 1 + i
   ·subst h2
    rw [upd_same, if_pos (by omega), show 1 + i - (i + 1) = 0 by omega]; rfl
   ·rw [upd_other h2, if_neg (by omega)]
theorem upd_rec {ws ws' : List Nat} {v u n : Nat} (h' : ws'.length = n) : ∀ i, i < n + 1 → upd (updL (upd (recF ws v) 0 (v + 1)) ws' 0) 0 u i = recF ws' u i := fun i hi => by
 by_cases h0 : i = 0
 ·subst h0; rw [upd_same]; rfl
 ·rw [upd_other h0, updL_at, if_pos (by omega)]
  show _ = if i = 0 then u else _
  rw [if_neg h0]
section
variable {B : Hand} [Lets B] {x : B.X} {r n nb : Nat} {L F : List HProp} {h : Hp} {ws ws' : List Nat} {ms : List (Int × Nat)} {v : Nat} {f f' : Nat → Nat}
theorem sC_rd : Rd [sC r n f] r 1 (.int .i64 (n : Nat)) := fun h hs => by
 obtain ⟨h1, h2, s1, hc, _⟩ := hs
 exact ⟨rfl, .inl (s1.o1 _ _ _ (hc.2 (r, 1, .int .i64 (n : Nat)) (List.mem_singleton.2 rfl)))⟩
theorem sC_congr (e : ∀ i, i < n + 1 → f i = f' i) : ∀ h, sC r n f h → sC r n f' h := fun h s => ⟨fun w hw => by rw [← e w hw]; exact s.1 w hw, s.2⟩
def sLone (x : B.X) (r n : Nat) : Acc B .nilIface := loneAcc x (sAddr r) (n + 1) (sK r n) (s_apart r n)
theorem s_addr {i : Nat} : sAddr r (1 + i) = (r, 2 + i) := by
 simp only [sAddr]; rw [if_neg (by omega)]; congr 1; omega
theorem s_at (h1 : 1 ≤ n) (h2 : n ≤ 16) : SeqAt (sLone x r n) r n := ⟨h1, h2, fun s => sC_rd, rfl, fun i _ => s_addr⟩
theorem rd_in1 {M : List HProp} {b o : Nat} {v : Value} (h : Rd M b o v) : Rd [all M] b o v := fun w st => h w (by have := star_open st; rwa [List.append_nil] at this)
theorem rloop_lone {K : List Nat → (Nat → Nat) → Prop} {s : Nat → Nat} : ∀ (k : Nat) (acc : List Nat), acc.length + k ≤ n → K (acc ++ (List.range' acc.length k).map fun i => s (1 + i)) s → RLoop (sLone x r n) K k acc s
 | 0, acc, _, hk => by
  show K acc s
  simpa using hk
 | k + 1, acc, hl, hk => ⟨by omega, rloop_lone k (acc ++ [s (1 + acc.length)]) (by simp; omega) (by
   rw [List.range'_succ] at hk
   simpa using hk)⟩
theorem range_rec {ws : List Nat} {v : Nat} : (List.range' 0 ws.length).map (fun i => recF ws v (1 + i)) = ws := by
 apply List.ext_getElem
 ·simp
 ·intro i h1 h2
  simp only [List.getElem_map, List.getElem_range', recF_succ]
  rw [List.getD_eq_getElem?_getD, List.getElem?_eq_getElem (by omega)]
  simp
theorem readT_lone (hlen : ws.length = n) (hv : v % 2 = 0) {Q : Option (List Nat × Nat) → (Nat → Nat) → Prop} (q : Q (some (ws, v)) (recF ws v)) : ReadT (sLone x r n) n (recF ws v) Q := by
 refine ⟨by show 0 < n + 1; omega, ?_⟩
 show if v % 2 = 0 then _ else _
 rw [if_pos hv]
 refine rloop_lone n [] (by simp) ⟨by show 0 < n + 1; omega, ?_⟩
 show if v = v then _ else _
 rw [if_pos rfl]
 show Q (some (_, v)) _
 simp only [List.length_nil, List.nil_append]
 rw [← hlen, range_rec]
 exact q
theorem read_lone (h1 : 1 ≤ n) (h2 : n ≤ 16) (hlen : ws.length = n) (hv : v % 2 = 0) (hh : Has L (sC r n (recF ws v)) F) :
  Tr Try.prog B 16 [.pointer (some ⟨r, 0, none⟩), .nilIface] L x fun v' L' x' => ∃ rv, v' = .tuple #[rv, .int .u64 (v : Nat), .int .i64 0] ∧ L' = sC r n (recF ws v) :: vec 1 rv (ws.map num) :: F ∧ x' = x := by
 refine (read_tr (A := sLone x r n) (s_at h1 h2) (s := recF ws v) (Q := fun o s => o = some (ws, v) ∧ s = recF ws v) (readT_lone hlen hv ⟨rfl, rfl⟩) hh).mono ?_
 rintro v' L' x' ⟨o, s', rv, ⟨rfl, rfl⟩, _, rfl, rfl, rfl⟩
 exact ⟨rv, rfl, rfl, rfl⟩
def newF (ws : List Nat) (i : Nat) : Nat → Nat := fun w => if w = 0 then 0 else if w - 1 < i then ws.getD (w - 1) 0 else 0
def newInv (x : B.X) (r n : Nat) (ws : List Nat) (wv : Value) (L : List HProp) : PB.Inv Nat B.X where
 e := fun i => [(4, .pointer (some ⟨r, 0, none⟩)), (19, wv), (20, .int .i64 (n : Nat)), (21, .int .i64 (i : Nat))]
 L := fun i => sC r n (newF ws i) :: L
 x := fun _ => x
 ok := fun i => i ≤ n
theorem snew_tr (h1 : 1 ≤ n) (h2 : n ≤ 16) {wa : Option Addr} {wc : Nat} (hlen : ws.length = n) (hb : ∀ w ∈ ws, w < 18446744073709551616) (hw : RdsO L wa n (ws.map num)) :
  Tr Try.prog B 11 [.slice wa n wc] L x fun v L' x' => ∃ r, v = .tuple #[.pointer (some ⟨r, 0, none⟩), .int .i64 0] ∧ L' = sC r n (recF ws 0) :: L ∧ x' = x := by
 refine Tr.post (R := fun v L' x' => ∃ r, v = .tuple #[.pointer (some ⟨r, 0, none⟩), .int .i64 0] ∧ x' = x ∧ ∀ h, Star L' h → Star (sC r n (recF ws 0) :: L) h) ?_ (by rintro v L' x' ⟨r, rfl, rfl, hs⟩; exact ⟨_, ⟨r, rfl, rfl, rfl⟩, hs⟩)
 obtain ⟨wb, wo, rfl, hrds⟩ := hw.rds (by omega)
 refine tr_of_body Try.func11 rfl Try.ntmps11 (by simp) fun um Q _ hQ => ?_
 simp only [argE, Nat.zero_add, Nat.reduceAdd]
 repeat (first | (apply wo_po; apply mo_build (pv := [(1, _)]); exact rfl; exact .cons rfl .nil; exact rfl; exact trivial) | (apply wo_mo; apply mo_box; exact rfl; exact trivial) | refine wgtrF ?_ | refine weqlF ?_ | refine we_seq ?_ | (refine wR ?_; try simp only [oS]) | refine wo_nil ?_ | refine wM ?_ | refine wA ?_ | refine wE ?_ | refine wF ?_ | refine we_skip ?_ | refine we_block ?_)
 rintro v' L' ⟨r, rfl, rfl⟩
 refine wo_star (sC r n (newF ws 0) :: L) (fun h st => star_map st (fun h a => ⟨fun w hw => ⟨?_, ?_⟩, fun k hk => ?_⟩) fun _ y => y) ?_
 ·show (if w = 0 then 0 else if w - 1 < 0 then ws.getD (w - 1) 0 else 0) < 18446744073709551616
  rw [if_neg (by omega : ¬ (w - 1 < 0))]; split <;> decide
 ·have e : newF ws 0 w = 0 := by
   show (if w = 0 then 0 else if w - 1 < 0 then ws.getD (w - 1) 0 else 0) = 0
   rw [if_neg (by omega : ¬ (w - 1 < 0))]; split <;> rfl
  rw [e]
  have hlt : w < 17 := by omega
  match w, hlt with
  | 0, _ => exact a 0 _ rfl
  | 1, _ => exact a 2 _ rfl
  | 2, _ => exact a 3 _ rfl
  | 3, _ => exact a 4 _ rfl
  | 4, _ => exact a 5 _ rfl
  | 5, _ => exact a 6 _ rfl
  | 6, _ => exact a 7 _ rfl
  | 7, _ => exact a 8 _ rfl
  | 8, _ => exact a 9 _ rfl
  | 9, _ => exact a 10 _ rfl
  | 10, _ => exact a 11 _ rfl
  | 11, _ => exact a 12 _ rfl
  | 12, _ => exact a 13 _ rfl
  | 13, _ => exact a 14 _ rfl
  | 14, _ => exact a 15 _ rfl
  | 15, _ => exact a 16 _ rfl
  | 16, _ => exact a 17 _ rfl
  | w + 17, h => exact absurd h (by omega)
 ·simp only [sK, List.mem_singleton] at hk; subst hk; exact a 1 _ rfl
 repeat (first | refine we_seq ?_ | (refine wR ?_; try simp only [oS]) | refine wo_nil ?_ | refine wM ?_ | refine wA ?_ | refine wE ?_ | refine we_block ?_)
 refine we_loopN (newInv x r n ws (.slice (some ⟨wb, wo, none⟩) n wc) L) (fun i => n - i) 0 (Nat.zero_le _) ⟨rfl, rfl, rfl, rfl, trivial⟩ .refl rfl ?_
 intro i hi
 replace hi : i ≤ n := hi
 dsimp only [newInv]
 by_cases c2 : i < n
 ·have hiw : i < ws.length := by omega
  obtain ⟨w, hwv⟩ : ∃ w, ws[i] = w := ⟨_, rfl⟩
  have hwb : w < 18446744073709551616 := hb w (hwv ▸ List.getElem_mem hiw)
  have hrd : Rd (sC r n (newF ws i) :: L) wb (wo + i) (.int .u64 (w : Nat)) := .there (hrds i _ (by rw [List.getElem?_map, List.getElem?_eq_getElem hiw, hwv]; rfl))
  repeat (first | (apply wo_po; apply mo_indexAddr (r := wo + i); exact rfl; exact rfl; omega; omega; omega; exact trivial) | (apply wo_po; apply mo_load; exact rfl; exact hrd; exact trivial) | (apply wo_po; apply mo_indexArr1 (j := i); exact rfl; exact rfl; omega; exact trivial) | refine wlssT ?_ | refine we_seq ?_ | (refine wR ?_; try simp only [oS]) | refine wo_nil ?_ | refine wM ?_ | refine wA ?_ | refine wN ?_ | refine wD ?_ | refine wT ?_ | refine we_skip ?_ | refine we_block ?_)
  refine wo_call (.cons rfl (.cons rfl .nil)) trivial (store_lone (wt_wds (s_apart r n) .here (w := 1 + i) (by omega) s_addr (n := w) hwb)) ?_
  rintro v1 L1 x1 ⟨rfl, rfl, rfl⟩
  repeat (first | (refine wR ?_; try simp only [oS]) | refine wo_nil ?_ | refine wM ?_ | refine wadd ?_)
  have e : upd (newF ws i) (1 + i) w = newF ws (i + 1) := by
   funext j
   show (if j = 1 + i then w else if j = 0 then 0 else if j - 1 < i then ws.getD (j - 1) 0 else 0) = if j = 0 then 0 else if j - 1 < i + 1 then ws.getD (j - 1) 0 else 0
   by_cases hj : j = 1 + i
   ·subst hj
    rw [if_pos rfl, if_neg (by omega), if_pos (by omega), show 1 + i - 1 = i by omega, List.getD_eq_getElem?_getD, List.getElem?_eq_getElem hiw, hwv]; rfl
   ·rw [if_neg hj]
    by_cases h0 : j = 0
    ·rw [if_pos h0, if_pos h0]
    ·rw [if_neg h0, if_neg h0]
     by_cases h3 : j - 1 < i
     ·rw [if_pos h3, if_pos (by omega)]
     ·rw [if_neg h3, if_neg (by omega)]
  rw [e]
  refine at_round (I := newInv x1 r n ws (.slice (some ⟨wb, wo, none⟩) n wc) L) (R := fun j => n - j < n - i) (i + 1) (by omega) (by show i + 1 ≤ n; omega) ⟨rfl, rfl, rfl, rfl, trivial⟩ .refl rfl
 ·obtain rfl : i = n := by omega
  repeat (first | refine wlssF ?_ | refine we_seq ?_ | (refine wR ?_; try simp only [oS]) | refine wo_nil ?_ | refine wM ?_ | refine wA ?_ | refine wF ?_ | refine we_ret ?_ | refine we_exit ?_)
  (first | refine or2 Try.func11 Try.results11 hQ rfl rfl ?_ | refine on2 Try.func11 Try.results11 hQ rfl rfl ?_)
  refine ⟨r, rfl, rfl, fun h st => star_map st (sC_congr fun j hj => ?_) fun _ z => z⟩
  show (if j = 0 then 0 else if j - 1 < i then ws.getD (j - 1) 0 else 0) = if j = 0 then 0 else ws.getD (j - 1) 0
  by_cases h0 : j = 0
  ·rw [if_pos h0, if_pos h0]
  ·rw [if_neg h0, if_neg h0, if_pos (by omega)]
end
end
end Go.Proofs.Ytodgemainhokjaa
namespace Go.Proofs.Ytodgemainhokjaa
open Go Go.PB
attribute [local irreducible] Mo Bin Eql Tr Wo Ap Wle
attribute [local instance] Pass.of_no
section
structure Thr (g : Game) where
 fv : Value
 ini : g.σ → g.σ × g.θ
 M : HProp
section
variable {g : Game}
def startF : List (Thr g) → g.σ → g.σ × List g.θ
 | [], s => (s, [])
 | t :: ts, s => ((startF ts (t.ini s).1).1, (t.ini s).2 :: (startF ts (t.ini s).1).2)
theorem startF_snoc {t : Thr g} : ∀ (l : List (Thr g)) (s : g.σ), startF (l ++ [t]) s = ((t.ini (startF l s).1).1, (startF l s).2 ++ [(t.ini (startF l s).1).2])
 | [], s => rfl
 | a :: l, s => by simp only [List.cons_append, startF, startF_snoc l]
theorem startF_len : ∀ (l : List (Thr g)) (s : g.σ), (startF l s).2.length = l.length
 | [], s => rfl
 | a :: l, s => by simp [startF, startF_len l]
def ordF (p : PS g) (order : List Int) : PS g := order.foldl (fun p k => (takeF p k).1) p
def roundF (p : PS g) : Nat → PS g × Bool
 | 0 => (p, false)
 | k + 1 => ((takeF (roundF p k).1 k).1, (takeF (roundF p k).1 k).2 || (roundF p k).2)
def restF : Nat → PS g → PS g
 | 0, p => p
 | n + 1, p => if (roundF p p.qs.length).2 = true then restF n (roundF p p.qs.length).1 else (roundF p p.qs.length).1
def playF (ts : List (Thr g)) (s : g.σ) (order : List Int) : PS g := restF 16385 (ordF ⟨(startF ts s).1, (startF ts s).2, []⟩ order)
def cutC (l : List Nat) : List Value := l.map fun k => .int .i64 (k : Nat)
theorem roundF_len (p : PS g) : ∀ n, (roundF p n).1.qs.length = p.qs.length
 | 0 => rfl
 | n + 1 => by show (takeF _ _).1.qs.length = _; rw [takeF_len, roundF_len p n]
theorem roundF_le {p : PS g} (h : p.tr.length ≤ 16384) : ∀ n, (roundF p n).1.tr.length ≤ 16384
 | 0 => h
 | n + 1 => takeF_le (roundF_le h n) _
theorem takeF_cases (p : PS g) (k : Int) : takeF p k = (p, false) ∨ ∃ (n : Nat) (q : g.θ) (m : Int × Int) (f : g.σ → g.σ × g.θ), k = n ∧ p.qs[n]? = some q ∧ g.plan q = some (m, f) ∧ p.tr.length ≠ 16384 ∧ takeF p k = (⟨(f p.s).1, p.qs.set n (f p.s).2, p.tr ++ [(n, m)]⟩, true) := by
 by_cases h0 : k < 0
 ·left; unfold takeF; rw [if_pos h0]
 obtain ⟨n, rfl⟩ : ∃ n : Nat, k = n := ⟨k.toNat, by omega⟩
 cases hq : p.qs[n]? with
 | none => left; unfold takeF; rw [if_neg h0, Int.toNat_natCast, hq]
 | some q =>
  cases hpl : g.plan q with
  | none => left; unfold takeF; rw [if_neg h0, Int.toNat_natCast, hq]; simp only [hpl]
  | some mf =>
   obtain ⟨m, f⟩ := mf
   by_cases htr : p.tr.length = 16384
   ·left; unfold takeF; rw [if_neg h0, Int.toNat_natCast, hq]; simp only [hpl, if_pos htr]
   ·right; refine ⟨n, q, m, f, rfl, hq, hpl, htr, ?_⟩
    unfold takeF; rw [if_neg h0, Int.toNat_natCast, hq]; simp only [hpl, if_neg htr]
theorem takeF_grow (p : PS g) (k : Int) : p.tr.length + (if (takeF p k).2 = true then 1 else 0) ≤ (takeF p k).1.tr.length := by
 rcases takeF_cases p k with h | ⟨n, q, m, f, _, _, _, _, h⟩ <;> rw [h] <;> simp
theorem roundF_grow (p : PS g) : ∀ n, p.tr.length + (if (roundF p n).2 = true then 1 else 0) ≤ (roundF p n).1.tr.length
 | 0 => by simp [roundF]
 | n + 1 => by
  have h1 := roundF_grow p n
  have h2 := takeF_grow (roundF p n).1 n
  show p.tr.length + (if ((takeF (roundF p n).1 n).2 || (roundF p n).2) = true then 1 else 0) ≤ (takeF (roundF p n).1 n).1.tr.length
  cases h3 : (takeF (roundF p n).1 n).2 <;> cases h4 : (roundF p n).2 <;> simp [h3, h4] at h1 h2 ⊢ <;> omega
theorem ordF_len (order : List Int) : ∀ p : PS g, (ordF p order).qs.length = p.qs.length := by
 induction order with
 | nil => intro p; rfl
 | cons k l ih => intro p; show (ordF (takeF p k).1 l).qs.length = _; rw [ih, takeF_len]
theorem ordF_le (order : List Int) : ∀ p : PS g, p.tr.length ≤ 16384 → (ordF p order).tr.length ≤ 16384 := by
 induction order with
 | nil => intro p h; exact h
 | cons k l ih => intro p h; exact ih _ (takeF_le h k)
theorem ordF_snoc (p : PS g) (l : List Int) (k : Int) : ordF p (l ++ [k]) = (takeF (ordF p l) k).1 := by simp [ordF]
def cutN (g : Game) (qs : List g.θ) (j : Nat) : List Nat := (List.range j).filter fun k => ((qs[k]?).bind g.plan).isSome
theorem cutN_succ {qs : List g.θ} {j : Nat} : cutN g qs (j + 1) = cutN g qs j ++ (if ((qs[j]?).bind g.plan).isSome = true then [j] else []) := by
 unfold cutN
 rw [List.range_succ, List.filter_append]
 congr 1
 simp only [List.filter_cons, List.filter_nil]
def shutS (ids : List SId) (qs : List g.θ) (j : Nat) : List (Seat g.σ g.θ) := (List.zip ids qs).mapIdx fun k iq => if k < j then ⟨iq.1.says, iq.1.turn, iq.1.fin, .shut iq.2⟩ else seatS iq.1 iq.2
theorem shutS_zero {ids : List SId} {qs : List g.θ} : shutS ids qs 0 = seatSs ids qs := by
 apply List.ext_getElem?
 intro k
 simp only [shutS, List.getElem?_mapIdx, seatSs, List.getElem?_zipWith, List.getElem?_zip_eq_some, List.zip, Nat.not_lt_zero, if_false]
 cases ids[k]? <;> cases qs[k]? <;> rfl
theorem shutS_len {ids : List SId} {qs : List g.θ} {j : Nat} (h : ids.length = qs.length) : (shutS ids qs j).length = ids.length := by simp [shutS]; omega
theorem shutS_get {ids : List SId} {qs : List g.θ} {j k : Nat} {i : SId} {q : g.θ} (hi : ids[k]? = some i) (hq : qs[k]? = some q) : (shutS ids qs j)[k]? = some (if k < j then ⟨i.says, i.turn, i.fin, .shut q⟩ else seatS i q) := by
 simp [shutS, List.getElem?_mapIdx, List.zip, List.getElem?_zipWith, hi, hq]
theorem shutS_succ {ids : List SId} {qs : List g.θ} {j : Nat} {i : SId} {q : g.θ} (hi : ids[j]? = some i) (hq : qs[j]? = some q) : (shutS ids qs j).set j ⟨i.says, i.turn, i.fin, .shut q⟩ = shutS ids qs (j + 1) := by
 apply List.ext_getElem?
 intro k
 have hj : j < (shutS ids qs j).length := (List.getElem?_eq_some_iff.1 (shutS_get (j := j) hi hq)).1
 rw [List.getElem?_set]
 by_cases e : j = k
 ·subst e
  rw [if_pos rfl, if_pos hj, shutS_get hi hq, if_pos (by omega)]
 ·rw [if_neg e]
  simp only [shutS, List.getElem?_mapIdx]
  cases (ids.zip qs)[k]? with
  | none => rfl
  | some iq =>
   simp only [Option.map_some, Option.some.injEq]
   by_cases h : k < j
   ·rw [if_pos h, if_pos (by omega)]
   ·rw [if_neg h, if_neg (by omega)]
theorem shutS_all {ids : List SId} {qs : List g.θ} (h : ids.length = qs.length) : (shutS ids qs ids.length).map Seat.fins = qs.map g.Fin := by
 apply List.ext_getElem?
 intro k
 by_cases hk : k < ids.length
 ·have hi := List.getElem?_eq_getElem hk
  have hq := List.getElem?_eq_getElem (show k < qs.length by omega)
  rw [List.getElem?_map, shutS_get hi hq, if_pos hk, List.getElem?_map, hq]
  rfl
 ·rw [List.getElem?_eq_none (by simp [shutS_len h]; omega), List.getElem?_eq_none (by simp; omega)]
theorem shutS_closed {ids : List SId} {qs : List g.θ} (h : ids.length = qs.length) : ∀ s ∈ shutS ids qs ids.length, s.closed := by
 intro s hs
 obtain ⟨k, hk⟩ := List.mem_iff_getElem?.1 hs
 have hlt := (List.getElem?_eq_some_iff.1 hk).1
 rw [shutS_len h] at hlt
 rw [shutS_get (List.getElem?_eq_getElem hlt) (List.getElem?_eq_getElem (show k < qs.length by omega)), if_pos hlt] at hk
 cases hk
 trivial
end
section
variable {g : Game} {ts : List (Thr g)} {s0 : g.σ} {F : List HProp} {wg pb rb : Nat} {ov tv : Value}
theorem star_head {c : HProp} {M L : List HProp} {h : Hp} (s : Star (all (c :: M) :: L) h) : Star (c :: all M :: L) h :=
 star_map (star_open s) (fun _ a => a) (fun _ st => star_shut (M := M) st)
def startInvP (ts : List (Thr g)) (s0 : g.σ) (wg pb rb : Nat) (ov tv : Value) (F : List HProp) : PB.Inv (Nat × g.σ × List g.θ × List SId × Value) MX where
 e := fun i => [(0, ov), (1, tv), (4, .pointer (some ⟨rb, 0, none⟩)), (7, .pointer (some ⟨wg, 0, none⟩)), (8, .pointer (some ⟨pb, 0, none⟩)), (28, tv), (29, .int .i64 (ts.length : Nat)), (30, .int .i64 (i.1 : Nat))]
 L := fun i => g.U i.2.1 :: arr pb 0 [i.2.2.2.2, .slice none 0 0, .slice none 0 0] :: vec 1 i.2.2.2.2 (ptrs i.2.2.2.1) :: all (seatCs g i.2.2.2.1 i.2.2.1) :: all ((ts.drop i.1).map Thr.M) :: arr rb 0 [.slice none 0 0, .slice none 0 0] :: F
 x := fun i => gx g wg (seatSs i.2.2.2.1 i.2.2.1) (some i.2.1) 16384 (seatSs i.2.2.2.1 i.2.2.1).length
 ok := fun i => i.1 ≤ ts.length ∧ i.2.2.2.1.length = i.1 ∧ startF (ts.take i.1) s0 = (i.2.1, i.2.2.1)
def seatMid (wg pb rb j n : Nat) (ov tv fv : Value) (x : MX) (L : List HProp) : PB.Inv (Nat × Nat × Nat × Nat) MX where
 e := fun i => [(0, ov), (1, tv), (4, .pointer (some ⟨rb, 0, none⟩)), (7, .pointer (some ⟨wg, 0, none⟩)), (8, .pointer (some ⟨pb, 0, none⟩)), (28, tv), (29, .int .i64 (n : Nat)), (30, .int .i64 (j : Nat)), (10, fv), (11, .pointer (some ⟨i.1, 0, none⟩))]
 L := fun i => arr i.1 0 [.chan (some i.2.2.1), .chan (some i.2.2.2), .chan (some i.2.1), .int .u8 0, .int .i64 0, .bool false] :: ob i.2.1 newChan :: ob i.2.2.1 newChan :: ob i.2.2.2 newChan :: L
 x := fun _ => x
 ok := fun _ => True
def ordInv (p0 : PS g) (order : List Int) (ids : List SId) (wg pb rb : Nat) (ov : Value) (ss : Value) (F : List HProp) : PB.Inv (Nat × Value) MX where
 e := fun i => [(4, .pointer (some ⟨rb, 0, none⟩)), (7, .pointer (some ⟨wg, 0, none⟩)), (8, .pointer (some ⟨pb, 0, none⟩)), (49, ov), (50, .int .i64 (order.length : Nat)), (51, .int .i64 (i.1 : Nat))]
 L := fun i => playL g pb ss i.2 (.slice none 0 0) ids (ordF p0 (order.take i.1)) F
 x := fun i => playX g wg ids (ordF p0 (order.take i.1))
 ok := fun i => i.1 ≤ order.length
def restInv (I : PS g → Prop) (p0 : PS g) (ids : List SId) (wg pb rb : Nat) (ss : Value) (F : List HProp) : PB.Inv (Nat × PS g × Value × Bool) MX where
 e := fun i => [(4, .pointer (some ⟨rb, 0, none⟩)), (7, .pointer (some ⟨wg, 0, none⟩)), (8, .pointer (some ⟨pb, 0, none⟩)), (14, .bool i.2.2.2)]
 L := fun i => playL g pb ss i.2.2.1 (.slice none 0 0) ids i.2.1 F
 x := fun i => playX g wg ids i.2.1
 ok := fun i => I i.2.1 ∧ i.2.1.qs.length = p0.qs.length ∧ i.2.1.tr.length ≤ 16384 ∧ (if i.2.2.2 = true then restF i.1 i.2.1 = restF 16385 p0 ∧ 16384 < i.2.1.tr.length + i.1 else i.2.1 = restF 16385 p0)
def rndInvP (p : PS g) (ids : List SId) (wg pb rb : Nat) (ss : Value) (F : List HProp) : PB.Inv (Nat × Value) MX where
 e := fun i => [(4, .pointer (some ⟨rb, 0, none⟩)), (7, .pointer (some ⟨wg, 0, none⟩)), (8, .pointer (some ⟨pb, 0, none⟩)), (14, .bool (roundF p i.1).2), (61, .int .i64 (ids.length : Nat)), (62, .int .i64 (i.1 : Nat))]
 L := fun i => playL g pb ss i.2 (.slice none 0 0) ids (roundF p i.1).1 F
 x := fun i => playX g wg ids (roundF p i.1).1
 ok := fun i => i.1 ≤ ids.length
def cutInv (p : PS g) (ids : List SId) (wg pb rb : Nat) (ss tsv : Value) (F : List HProp) : PB.Inv (Nat × Value) MX where
 e := fun i => [(4, .pointer (some ⟨rb, 0, none⟩)), (7, .pointer (some ⟨wg, 0, none⟩)), (8, .pointer (some ⟨pb, 0, none⟩)), (72, ss), (73, .int .i64 (ids.length : Nat)), (74, .int .i64 (i.1 : Nat))]
 L := fun i => vec 1 i.2 (cutC (cutN g p.qs i.1)) :: arr pb 0 [ss, tsv, i.2] :: vec 1 ss (ptrs ids) :: vec 3 tsv (trCP p.tr) :: all (seatCs g ids p.qs) :: g.U p.s :: F
 x := fun i => gx g wg (shutS ids p.qs i.1) (some p.s) (16384 - p.tr.length) ids.length
 ok := fun i => i.1 ≤ ids.length
set_option maxHeartbeats 4000000 in
theorem plays_tr {oa ta : Option Addr} {on oc tn tc : Nat} {order : List Int} (I : PS g → Prop) (hS : ∀ j, j < ts.length → g.ok (startF (ts.take j) s0).1) (hI0 : I ⟨(startF ts s0).1, (startF ts s0).2, []⟩) (hIs : ∀ p k, I p → I (takeF p k).1) (hIo : ∀ p, I p → p.tr.length < 16384 → g.ok p.s) (hfin : ∀ q h, g.Pv q h → g.Fin q h) (hts : ∀ t ∈ ts, ThrOk g t.ini t.fv t.M) (h1 : 0 < ts.length) (h16 : ts.length ≤ 16) (hor : order.length ≤ 16384)
  (hrt : RdsO F ta tn (ts.map Thr.fv)) (hro : RdsO F oa on (order.map fun k => .int .i64 k)) :
  Tr Try.prog mT 18 [.slice oa on oc, .slice ta tn tc] (g.U s0 :: all (ts.map Thr.M) :: F) .idle fun v L' x' =>
   ∃ tv cv, v = .tuple #[.agg #[tv, cv], .int .i64 0] ∧ x' = .idle ∧ L' = vec 3 tv (trCP (playF ts s0 order).tr) :: vec 1 cv (cutC (cutN g (playF ts s0 order).qs ts.length)) :: g.U (playF ts s0 order).s :: all ((playF ts s0 order).qs.map g.Fin) :: F := by
 refine Tr.post (R := fun v L' x' => ∃ tv cv, v = .tuple #[.agg #[tv, cv], .int .i64 0] ∧ x' = MX.idle ∧ ∀ h, Star L' h → Star (vec 3 tv (trCP (playF ts s0 order).tr) :: vec 1 cv (cutC (cutN g (playF ts s0 order).qs ts.length)) :: g.U (playF ts s0 order).s :: all ((playF ts s0 order).qs.map g.Fin) :: F) h) ?_
  (by rintro v L' x' ⟨tv, cv, rfl, rfl, h2⟩; exact ⟨_, ⟨tv, cv, rfl, rfl, rfl⟩, h2⟩)
 have hfn : ∀ v ∈ ts.map Thr.fv, isFn v := by
  intro v hv
  obtain ⟨t, ht, rfl⟩ := List.mem_map.1 hv
  obtain ⟨f, first, cap, hc, _⟩ := (hts t ht).run
  revert hc
  cases t.fv with
  | func a b c => exact fun _ => ⟨a, b, c, rfl⟩
  | _ => intro hc; cases hc
 have hIord : ∀ (l : List Int) (p : PS g), I p → I (ordF p l) := by
  intro l
  induction l with
  | nil => exact fun p h => h
  | cons k l ih => exact fun p h => ih _ (hIs p k h)
 have hIrnd : ∀ (p : PS g) k, I p → I (roundF p k).1 := by
  intro p k h
  induction k with
  | zero => exact h
  | succ k ih => exact hIs _ _ ih
 have htn : tn = ts.length := by have := hrt.1; simpa using this
 have hon : on = order.length := by have := hro.1; simpa using this
 subst htn
 subst hon
 refine tr_of_body Try.func18 rfl Try.ntmps18 (by simp) fun um Q _ hQ => ?_
 simp only [argE, Nat.zero_add, Nat.reduceAdd]
 repeat (first | (apply wo_mo; apply mo_alloc; exact trivial) | refine we_seq ?_ | (refine wR ?_; try simp only [oS]))
 rintro v' L' ⟨rb, rfl, rfl⟩
 repeat (first | refine we_seq ?_ | (refine wR ?_; try simp only [oS]) | refine wo_nil ?_ | refine wM ?_ | refine wA ?_)
 refine wo_call (.cons rfl .nil) trivial (wrong_tr (fun v hv => .inr (hfn v hv)) hrt.there.there.there (by omega)) ?_
 rintro v' L' x' ⟨⟨k, rfl, hk⟩, rfl, rfl⟩
 obtain rfl : k = 0 := by
  rcases hk with ⟨_, h⟩ | ⟨_, h⟩
  ·obtain ⟨_, _, _, h⟩ := hfn _ h; cases h
  ·rw [h, List.length_map, if_neg (by omega), if_neg (by omega)]
 repeat (first | (apply wo_mo; apply mo_allocS; exact trivial) | refine wgtrF ?_ | refine wneqF ?_ | refine we_seq ?_ | (refine wR ?_; try simp only [oS]) | refine wo_nil ?_ | refine wM ?_ | refine wA ?_ | refine wE ?_ | refine wF ?_ | refine we_skip ?_)
 rintro v' L' ⟨wg, rfl, rfl⟩
 repeat (first | refine we_seq ?_ | (refine wR ?_; try simp only [oS]) | refine wo_nil ?_)
 refine wo_begin g s0 (wg := wg) (R := arr rb 0 [.slice none 0 0, .slice none 0 0] :: g.U s0 :: all (ts.map Thr.M) :: F) (fun h st => st) ?_
 repeat (first | (apply wo_mo; apply mo_alloc; exact trivial))
 rintro v' L' ⟨pb, rfl, rfl⟩
 repeat (first | refine we_seq ?_ | (refine wR ?_; try simp only [oS]) | refine wo_nil ?_ | refine wM ?_ | refine wE ?_ | refine we_block ?_)
 refine we_star (vec 1 (.slice none 0 0) (ptrs []) :: all (seatCs g [] []) :: arr pb 0 [.slice none 0 0, .slice none 0 0, .slice none 0 0] :: shpC wg 119 2 :: arr rb 0 [.slice none 0 0, .slice none 0 0] :: g.U s0 :: all (ts.map Thr.M) :: F) (fun h st => vec_nil (star_shut (M := []) st)) ?_
 refine we_loopN (startInvP ts s0 wg pb rb (.slice oa order.length oc) (.slice ta ts.length tc) (shpC wg 119 2 :: F)) (fun i => ts.length - i.1) (0, s0, [], [], .slice none 0 0) ⟨by omega, rfl, rfl⟩ ⟨rfl, rfl, rfl, rfl, rfl, rfl, rfl, rfl, trivial⟩ (.take (.there (.there (.there (.there (.there .here))))) (.take (.there (.there .here)) (.take .here (.take .here (.take (.there (.there .here)) (.take (.there .here) (.take .here .refl))))))) rfl ?_
 rintro ⟨j, s, qs, ids, ss⟩ ⟨hj, hids, hst⟩
 simp only at hj hids hst
 have hqs : qs.length = j := by have := startF_len (ts.take j) s0; rw [hst] at this; simpa [Nat.min_eq_left hj] using this
 have hsl : (seatSs ids qs).length = ids.length := by simp [seatSs]; omega
 simp only [startInvP]
 by_cases hlt : j < ts.length
 ·obtain ⟨tb, to, rfl, hrd⟩ := hrt.rds (by omega)
  have ht : ts[j]? = some ts[j] := List.getElem?_eq_getElem hlt
  have hrj := hrd j (ts[j].fv) (by simp [ht])
  have hTO := hts _ (List.getElem_mem hlt)
  have hdrop : ts.drop j = ts[j] :: ts.drop (j + 1) := List.drop_eq_getElem_cons hlt
  rw [hdrop]
  refine we_star (g.U s :: arr pb 0 [ss, .slice none 0 0, .slice none 0 0] :: vec 1 ss (ptrs ids) :: all (seatCs g ids qs) :: ts[j].M :: all ((ts.drop (j + 1)).map Thr.M) :: arr rb 0 [.slice none 0 0, .slice none 0 0] :: shpC wg 119 2 :: F) (fun h st => Ent.star (.take (.there (.there .here)) (.take (.there (.there .here)) (.take (.there (.there .here)) (.take (.there (.there .here)) (.take .here (.take .here .refl)))))) (star_head (((.there (.there (.there (.there .here)))) : Has _ (all ((ts[j] :: ts.drop (j + 1)).map Thr.M)) _).star st))) ?_
  repeat (first | (apply wo_po; apply mo_index1; exact rfl; exact rfl; omega; exact gY) | (apply wo_po; apply mo_load; exact rfl; exact .there (.there (.there (.there (.there (.there (.there (.there hrj))))))); exact trivial) | refine wlssT ?_ | refine we_seq ?_ | (refine wR ?_; try simp only [oS]) | refine wo_nil ?_ | refine wA ?_ | refine wT ?_ | refine we_skip ?_ | refine we_block ?_)
  let MI := seatMid wg pb rb j ts.length (.slice oa order.length oc) (.slice (some ⟨tb, to, none⟩) ts.length tc) ts[j].fv (gx g wg (seatSs ids qs) (some s) 16384 (seatSs ids qs).length) (g.U s :: arr pb 0 [ss, .slice none 0 0, .slice none 0 0] :: vec 1 ss (ptrs ids) :: all (seatCs g ids qs) :: ts[j].M :: all ((ts.drop (j + 1)).map Thr.M) :: arr rb 0 [.slice none 0 0, .slice none 0 0] :: shpC wg 119 2 :: F)
  refine we_join MI ?_ ?_
  ·refine we_draw (List.range' 0 6) (by kernel_rfl) ?_
   refine ap_fork3 (f := 1) (g := 2) (ordf := [1, 0, 2, 3, 4, 5]) (ordg := [2, 0, 1, 3, 4, 5]) (Rf := [2, 3, 4, 5]) (Rg := [1, 3, 4, 5]) (by kernel_rfl) (by kernel_rfl) (by kernel_rfl) (by kernel_rfl) (by kernel_rfl) (by kernel_rfl) (by kernel_rfl) (by kernel_rfl) (by kernel_rfl) ?_ ?_ ?_
   ·refine ap1_mo (Pd' := []) rfl rfl rfl trivial (mo_makeChan (m := 0) (k := .i64) rfl (by omega) (by omega)) (fun v L' _ p hp => by cases hp) ?_
    rintro v' L' ⟨ct, rfl, rfl⟩
    refine ap_fork2 (f := 2) (ordf := [0, 2, 1, 3, 4, 5]) (Rf := [3, 4, 5]) (by kernel_rfl) (by kernel_rfl) (by kernel_rfl) (by kernel_rfl) (by kernel_rfl) ?_ ?_
    ·refine ap1_mo (Pd' := []) rfl rfl rfl trivial (mo_makeChan (m := 0) (k := .i64) rfl (by omega) (by omega)) (fun v L' _ p hp => by cases hp) ?_
     rintro v' L' ⟨ce, rfl, rfl⟩
     refine ap_loud rfl rfl rfl rfl rfl trivial (mo_makeChan (m := 0) (k := .i64) rfl (by omega) (by omega)) ?_
     rintro v' L' ⟨cs, rfl, rfl⟩
     repeat (first | (apply ap_pure; exact rfl; exact rfl; exact trivial; intro L; apply mo_build (pv := [(0, _), (1, _), (2, _)]); exact rfl; exact .cons rfl (.cons rfl (.cons rfl .nil)); exact rfl))
     refine ap_loud rfl rfl rfl rfl rfl trivial (mo_box rfl) ?_
     rintro v' L' ⟨sb, rfl, rfl⟩
     repeat (first | refine aA ?_ | refine ap_end ?_)
     refine at_mid (B := mT) (I := MI) (sb, cs, ct, ce) trivial ?_ ?_ rfl
     exact ⟨rfl, rfl, rfl, rfl, rfl, rfl, rfl, rfl, rfl, rfl, trivial⟩
     repeat (first | exact Ent.refl | (apply Ent.take; (repeat (first | exact Has.here | apply Has.there))) | apply Ent.drop)
    ·refine ap1_mo (Pd' := []) rfl rfl rfl trivial (mo_makeChan (m := 0) (k := .i64) rfl (by omega) (by omega)) (fun v L' _ p hp => by cases hp) ?_
     rintro v' L' ⟨cs, rfl, rfl⟩
     refine ap_loud rfl rfl rfl rfl rfl trivial (mo_makeChan (m := 0) (k := .i64) rfl (by omega) (by omega)) ?_
     rintro v' L' ⟨ce, rfl, rfl⟩
     repeat (first | (apply ap_pure; exact rfl; exact rfl; exact trivial; intro L; apply mo_build (pv := [(0, _), (1, _), (2, _)]); exact rfl; exact .cons rfl (.cons rfl (.cons rfl .nil)); exact rfl))
     refine ap_loud rfl rfl rfl rfl rfl trivial (mo_box rfl) ?_
     rintro v' L' ⟨sb, rfl, rfl⟩
     repeat (first | refine aA ?_ | refine ap_end ?_)
     refine at_mid (B := mT) (I := MI) (sb, cs, ct, ce) trivial ?_ ?_ rfl
     exact ⟨rfl, rfl, rfl, rfl, rfl, rfl, rfl, rfl, rfl, rfl, trivial⟩
     repeat (first | exact Ent.refl | (apply Ent.take; (repeat (first | exact Has.here | apply Has.there))) | apply Ent.drop)
   ·refine ap1_mo (Pd' := []) rfl rfl rfl trivial (mo_makeChan (m := 0) (k := .i64) rfl (by omega) (by omega)) (fun v L' _ p hp => by cases hp) ?_
    rintro v' L' ⟨ce, rfl, rfl⟩
    refine ap_fork2 (f := 2) (ordf := [1, 2, 0, 3, 4, 5]) (Rf := [3, 4, 5]) (by kernel_rfl) (by kernel_rfl) (by kernel_rfl) (by kernel_rfl) (by kernel_rfl) ?_ ?_
    ·refine ap1_mo (Pd' := []) rfl rfl rfl trivial (mo_makeChan (m := 0) (k := .i64) rfl (by omega) (by omega)) (fun v L' _ p hp => by cases hp) ?_
     rintro v' L' ⟨ct, rfl, rfl⟩
     refine ap_loud rfl rfl rfl rfl rfl trivial (mo_makeChan (m := 0) (k := .i64) rfl (by omega) (by omega)) ?_
     rintro v' L' ⟨cs, rfl, rfl⟩
     repeat (first | (apply ap_pure; exact rfl; exact rfl; exact trivial; intro L; apply mo_build (pv := [(0, _), (1, _), (2, _)]); exact rfl; exact .cons rfl (.cons rfl (.cons rfl .nil)); exact rfl))
     refine ap_loud rfl rfl rfl rfl rfl trivial (mo_box rfl) ?_
     rintro v' L' ⟨sb, rfl, rfl⟩
     repeat (first | refine aA ?_ | refine ap_end ?_)
     refine at_mid (B := mT) (I := MI) (sb, cs, ct, ce) trivial ?_ ?_ rfl
     exact ⟨rfl, rfl, rfl, rfl, rfl, rfl, rfl, rfl, rfl, rfl, trivial⟩
     repeat (first | exact Ent.refl | (apply Ent.take; (repeat (first | exact Has.here | apply Has.there))) | apply Ent.drop)
    ·refine ap1_mo (Pd' := []) rfl rfl rfl trivial (mo_makeChan (m := 0) (k := .i64) rfl (by omega) (by omega)) (fun v L' _ p hp => by cases hp) ?_
     rintro v' L' ⟨cs, rfl, rfl⟩
     refine ap_loud rfl rfl rfl rfl rfl trivial (mo_makeChan (m := 0) (k := .i64) rfl (by omega) (by omega)) ?_
     rintro v' L' ⟨ct, rfl, rfl⟩
     repeat (first | (apply ap_pure; exact rfl; exact rfl; exact trivial; intro L; apply mo_build (pv := [(0, _), (1, _), (2, _)]); exact rfl; exact .cons rfl (.cons rfl (.cons rfl .nil)); exact rfl))
     refine ap_loud rfl rfl rfl rfl rfl trivial (mo_box rfl) ?_
     rintro v' L' ⟨sb, rfl, rfl⟩
     repeat (first | refine aA ?_ | refine ap_end ?_)
     refine at_mid (B := mT) (I := MI) (sb, cs, ct, ce) trivial ?_ ?_ rfl
     exact ⟨rfl, rfl, rfl, rfl, rfl, rfl, rfl, rfl, rfl, rfl, trivial⟩
     repeat (first | exact Ent.refl | (apply Ent.take; (repeat (first | exact Has.here | apply Has.there))) | apply Ent.drop)
   ·refine ap1_mo (Pd' := []) rfl rfl rfl trivial (mo_makeChan (m := 0) (k := .i64) rfl (by omega) (by omega)) (fun v L' _ p hp => by cases hp) ?_
    rintro v' L' ⟨cs, rfl, rfl⟩
    refine ap_fork2 (f := 1) (ordf := [2, 1, 0, 3, 4, 5]) (Rf := [3, 4, 5]) (by kernel_rfl) (by kernel_rfl) (by kernel_rfl) (by kernel_rfl) (by kernel_rfl) ?_ ?_
    ·refine ap1_mo (Pd' := []) rfl rfl rfl trivial (mo_makeChan (m := 0) (k := .i64) rfl (by omega) (by omega)) (fun v L' _ p hp => by cases hp) ?_
     rintro v' L' ⟨ct, rfl, rfl⟩
     refine ap_loud rfl rfl rfl rfl rfl trivial (mo_makeChan (m := 0) (k := .i64) rfl (by omega) (by omega)) ?_
     rintro v' L' ⟨ce, rfl, rfl⟩
     repeat (first | (apply ap_pure; exact rfl; exact rfl; exact trivial; intro L; apply mo_build (pv := [(0, _), (1, _), (2, _)]); exact rfl; exact .cons rfl (.cons rfl (.cons rfl .nil)); exact rfl))
     refine ap_loud rfl rfl rfl rfl rfl trivial (mo_box rfl) ?_
     rintro v' L' ⟨sb, rfl, rfl⟩
     repeat (first | refine aA ?_ | refine ap_end ?_)
     refine at_mid (B := mT) (I := MI) (sb, cs, ct, ce) trivial ?_ ?_ rfl
     exact ⟨rfl, rfl, rfl, rfl, rfl, rfl, rfl, rfl, rfl, rfl, trivial⟩
     repeat (first | exact Ent.refl | (apply Ent.take; (repeat (first | exact Has.here | apply Has.there))) | apply Ent.drop)
    ·refine ap1_mo (Pd' := []) rfl rfl rfl trivial (mo_makeChan (m := 0) (k := .i64) rfl (by omega) (by omega)) (fun v L' _ p hp => by cases hp) ?_
     rintro v' L' ⟨ce, rfl, rfl⟩
     refine ap_loud rfl rfl rfl rfl rfl trivial (mo_makeChan (m := 0) (k := .i64) rfl (by omega) (by omega)) ?_
     rintro v' L' ⟨ct, rfl, rfl⟩
     repeat (first | (apply ap_pure; exact rfl; exact rfl; exact trivial; intro L; apply mo_build (pv := [(0, _), (1, _), (2, _)]); exact rfl; exact .cons rfl (.cons rfl (.cons rfl .nil)); exact rfl))
     refine ap_loud rfl rfl rfl rfl rfl trivial (mo_box rfl) ?_
     rintro v' L' ⟨sb, rfl, rfl⟩
     repeat (first | refine aA ?_ | refine ap_end ?_)
     refine at_mid (B := mT) (I := MI) (sb, cs, ct, ce) trivial ?_ ?_ rfl
     exact ⟨rfl, rfl, rfl, rfl, rfl, rfl, rfl, rfl, rfl, rfl, trivial⟩
     repeat (first | exact Ent.refl | (apply Ent.take; (repeat (first | exact Has.here | apply Has.there))) | apply Ent.drop)
  ·rintro ⟨sb, cs, ct, ce⟩ _
   simp only [MI, seatMid]
   repeat (first | refine we_seq ?_ | (refine wR ?_; try simp only [oS]) | refine wM ?_)
   refine wo_call (.cons rfl (.cons rfl (.cons rfl .nil))) trivial (Tr.ent (L' := g.U s :: ts[j].M :: arr sb 0 [.chan (some ct), .chan (some ce), .chan (some cs), .int .u8 0, .int .i64 0, .bool false] :: ob cs newChan :: ob ct newChan :: ob ce newChan :: arr pb 0 [ss, .slice none 0 0, .slice none 0 0] :: vec 1 ss (ptrs ids) :: all (seatCs g ids qs) :: all ((ts.drop (j + 1)).map Thr.M) :: arr rb 0 [.slice none 0 0, .slice none 0 0] :: shpC wg 119 2 :: F) (.take (.there (.there (.there (.there .here)))) (.take (.there (.there (.there (.there (.there (.there (.there .here))))))) (.take .here (.take .here (.take .here (.take .here .refl)))))) (run_tr hTO (by have := hS j hlt; rw [hst] at this; exact this) hfin (by rw [hsl]; omega) (fun h st => shp_of (.there (.there (.there (.there (.there .here))))) st))) ?_
   rintro v' L' x' ⟨rfl, rfl, rfl⟩
   refine wo_pure (of_has (.there (.there (.there (.there .here)))) (vec_shape (by omega))) ?_
   rintro ⟨sa, sn, sc, rfl, hsn, _⟩
   have hsn : sn = ids.length := by simp [ptrs] at hsn; omega
   subst hsn
   repeat (first | (apply wo_mo; apply mo_buildSlice (sz := 1) (vs := [.pointer (some ⟨sb, 0, none⟩)]); exact rfl; exact .cons rfl .nil; exact rfl; (intro v hv; cases (List.mem_singleton.1 hv); exact rfl); omega; exact trivial) | (refine wR ?_; try simp only [oS]) | refine wo_nil ?_ | refine wM ?_ | refine wD ?_ | refine wL ?_)
   rintro v' L' ⟨nb, rfl, rfl⟩
   repeat (first | (apply wo_mo; apply mo_append (sz := 1) (new := [.pointer (some ⟨sb, 0, none⟩)]); exact rfl; exact rfl; exact rfl; exact rfl; exact (.there (.there (.there (.there (.there .here))))); exact rfl; exact .inr ⟨_, _, rfl, Rds.all .here⟩; (intro v hv; cases (List.mem_singleton.1 hv); exact rfl); (simp only [sliceLen]; omega); exact trivial))
   rintro v' L' rfl
   refine wo_pure (of_has .here (vec_shape (by omega))) ?_
   rintro ⟨ua, un, uc, rfl, hun, _⟩
   repeat (first | refine wS ?_ | (refine wR ?_; try simp only [oS]) | refine wo_nil ?_ | refine wM ?_ | refine wD ?_ | refine wadd ?_)
   have hseats : seatCs g (ids ++ [⟨sb, cs, ct, ce⟩]) (qs ++ [(ts[j].ini s).2]) = seatCs g ids qs ++ [seatC g ⟨sb, cs, ct, ce⟩ (ts[j].ini s).2] := by
    unfold seatCs; rw [List.zipWith_append (by omega)]; rfl
   have hseatS : seatSs (ids ++ [⟨sb, cs, ct, ce⟩]) (qs ++ [(ts[j].ini s).2]) = seatSs ids qs ++ [seatS ⟨sb, cs, ct, ce⟩ (ts[j].ini s).2] := by
    unfold seatSs; rw [List.zipWith_append (by omega)]; rfl
   refine at_roundS (B := mT) (I := startInvP ts s0 wg pb rb (.slice oa order.length oc) (.slice (some ⟨tb, to, none⟩) ts.length tc) (shpC wg 119 2 :: F)) (R := fun i' => ts.length - i'.1 < ts.length - j) (j + 1, (ts[j].ini s).1, qs ++ [(ts[j].ini s).2], ids ++ [⟨sb, cs, ct, ce⟩], .slice ua un uc) (by show ts.length - (j + 1) < ts.length - j; omega) ⟨by show j + 1 ≤ _; omega, by show (ids ++ [_]).length = j + 1; simp; omega, ?_⟩ ?_ (fun h st => ?_) ?_
   ·show startF (ts.take (j + 1)) s0 = _
    rw [List.take_succ_eq_append_getElem hlt, startF_snoc, hst]
   ·exact ⟨rfl, rfl, rfl, rfl, rfl, rfl, rfl, rfl, trivial⟩
   ·have s1 : Star (seatR sb cs ct ce :: arr sb 3 (lastC ((g.plan (ts[j].ini s).2).map (·.1))) :: all (seatCs g ids qs) :: g.U (ts[j].ini s).1 :: arr pb 0 [.slice ua un uc, .slice none 0 0, .slice none 0 0] :: vec 1 (.slice ua un uc) (ptrs ids ++ [.pointer (some ⟨sb, 0, none⟩)]) :: all ((ts.drop (j + 1)).map Thr.M) :: arr rb 0 [.slice none 0 0, .slice none 0 0] :: shpC wg 119 2 :: F) h := Ent.star (.take (.there (.there (.there .here))) (.take (.there (.there (.there .here))) (.take (.there (.there (.there (.there .here)))) (.take (.there (.there .here)) (.take (.there (.there .here)) (.take .here (.drop .refl))))))) st
    have s2 := star_push (c := seatC g ⟨sb, cs, ct, ce⟩ (ts[j].ini s).2) (star_shut (M := [_, _]) s1)
    rw [← hseats] at s2
    have e3 : ptrs ids ++ [.pointer (some ⟨sb, 0, none⟩)] = ptrs (ids ++ [⟨sb, cs, ct, ce⟩]) := by simp [ptrs]
    rw [e3] at s2
    exact Ent.star (.take (.there .here) (.take (.there .here) (.take (.there .here) (.take .here .refl)))) s2
   ·show gx g wg (seatSs (ids ++ [_]) (qs ++ [_])) _ _ _ = _
    rw [hseatS]
    simp only [List.length_append, List.length_singleton]
    rfl
 ·obtain rfl : j = ts.length := by omega
  rw [List.take_length] at hst
  rw [hsl]
  repeat (first | refine wlssF ?_ | refine we_seq ?_ | (refine wR ?_; try simp only [oS]) | refine wo_nil ?_ | refine wM ?_ | refine wE ?_ | refine wF ?_ | refine we_block ?_ | refine we_exit ?_)
  refine we_star (playL g pb ss (.slice none 0 0) (.slice none 0 0) ids (⟨s, qs, []⟩ : PS g) (arr rb 0 [.slice none 0 0, .slice none 0 0] :: shpC wg 119 2 :: F)) (fun h st => Ent.star (M := playL g pb ss (.slice none 0 0) (.slice none 0 0) ids (⟨s, qs, []⟩ : PS g) (arr rb 0 [.slice none 0 0, .slice none 0 0] :: shpC wg 119 2 :: F)) (.take (.there .here) (.take (.there .here) (.take (.there .here) (.take .here (.take .here (.drop .refl)))))) (vec_nil (sz := 3) st)) ?_
  refine we_loopN (ordInv (⟨s, qs, []⟩ : PS g) order ids wg pb rb (.slice oa order.length oc) ss (arr rb 0 [.slice none 0 0, .slice none 0 0] :: shpC wg 119 2 :: F)) (fun i => order.length - i.1) (0, .slice none 0 0) (Nat.zero_le _) ⟨rfl, rfl, rfl, rfl, rfl, rfl, trivial⟩ .refl rfl ?_
  have hI1 : I (⟨s, qs, []⟩ : PS g) := by rw [hst] at hI0; exact hI0
  rintro ⟨i, tsv⟩ hi
  replace hi : i ≤ order.length := hi
  have hpl : ids.length = (ordF (⟨s, qs, []⟩ : PS g) (order.take i)).qs.length := by rw [ordF_len]; show ids.length = qs.length; omega
  have hple := ordF_le (order.take i) (⟨s, qs, []⟩ : PS g) (Nat.zero_le _)
  simp only [ordInv]
  by_cases hlt2 : i < order.length
  ·obtain ⟨ob, oo, rfl, hrd⟩ := hro.rds (by omega)
   have hri := hrd i (.int .i64 order[i]) (by rw [List.getElem?_map, List.getElem?_eq_getElem hlt2]; rfl)
   repeat (first | (apply wo_po; apply mo_index1; exact rfl; exact rfl; omega; exact gY) | (apply wo_po; apply mo_load; exact rfl; exact .there (.there (.there (.there (.there (.there (.there hri)))))); exact trivial) | refine wlssT ?_ | refine we_seq ?_ | (refine wR ?_; try simp only [oS]) | refine wo_nil ?_ | refine wM ?_ | refine wA ?_ | refine wT ?_ | refine we_skip ?_ | refine we_block ?_)
   refine wo_call (.cons rfl (.cons rfl .nil)) trivial (takes_tr hpl hple (hIo _ (hIord _ _ hI1))) ?_
   rintro v' L' x' ⟨ts', rfl, rfl, rfl⟩
   repeat (first | (refine wR ?_; try simp only [oS]) | refine wo_nil ?_ | refine wM ?_ | refine wadd ?_)
   have htk : (takeF (ordF (⟨s, qs, []⟩ : PS g) (order.take i)) order[i]).1 = ordF (⟨s, qs, []⟩ : PS g) (order.take (i + 1)) := by
    rw [List.take_succ_eq_append_getElem hlt2, ordF_snoc]
   rw [htk]
   refine at_round (B := mT) (I := ordInv (⟨s, qs, []⟩ : PS g) order ids wg pb rb (.slice (some ⟨ob, oo, none⟩) order.length oc) ss (arr rb 0 [.slice none 0 0, .slice none 0 0] :: shpC wg 119 2 :: F)) (R := fun i' => order.length - i'.1 < order.length - i) (i + 1, ts') (by show order.length - (i + 1) < order.length - i; omega) (show i + 1 ≤ order.length by omega) ?_ .refl rfl
   exact ⟨rfl, rfl, rfl, rfl, rfl, rfl, trivial⟩
  ·obtain rfl : i = order.length := by omega
   rw [List.take_length] at hpl hple ⊢
   obtain ⟨p1, hp1⟩ : ∃ p1, ordF (⟨s, qs, []⟩ : PS g) order = p1 := ⟨_, rfl⟩
   rw [hp1] at hpl hple ⊢
   repeat (first | refine wlssF ?_ | refine we_seq ?_ | (refine wR ?_; try simp only [oS]) | refine wo_nil ?_ | refine wA ?_ | refine wF ?_ | refine we_block ?_ | refine we_exit ?_)
   refine we_loopN (restInv I p1 ids wg pb rb ss (arr rb 0 [.slice none 0 0, .slice none 0 0] :: shpC wg 119 2 :: F)) (fun i => if i.2.2.2 = true then i.1 + 1 else 0) (16385, p1, tsv, true) ⟨by rw [← hp1]; exact hIord _ _ hI1, rfl, hple, by simp only [if_true]; exact ⟨trivial, by omega⟩⟩ ⟨rfl, rfl, rfl, rfl, trivial⟩ .refl rfl ?_
   rintro ⟨n, p, tv2, more⟩ ⟨hIp, hq1, hq2, hq3⟩
   simp only at hIp hq1 hq2 hq3
   simp only [restInv]
   cases more with
   | true =>
    simp only [if_true] at hq3
    obtain ⟨n, rfl⟩ : ∃ m, n = m + 1 := ⟨n - 1, by omega⟩
    have hpq : p.qs.length = ids.length := by omega
    refine we_pure (of_has (.there (.there .here)) (vec_shape (by omega))) ?_
    rintro ⟨sa, sn, sc, rfl, hsn, _⟩
    have hsn : sn = ids.length := by simp [ptrs] at hsn; omega
    subst hsn
    repeat (first | refine we_seq ?_ | (refine wR ?_; try simp only [oS]) | refine wo_nil ?_ | refine wM ?_ | refine wA ?_ | refine wD ?_ | refine wL ?_ | refine wE ?_ | refine wT ?_ | refine we_skip ?_ | refine we_block ?_)
    refine we_loopN (rndInvP p ids wg pb rb (.slice sa ids.length sc) (arr rb 0 [.slice none 0 0, .slice none 0 0] :: shpC wg 119 2 :: F)) (fun i => ids.length - i.1) (0, tv2) (Nat.zero_le _) ⟨rfl, rfl, rfl, rfl, rfl, rfl, trivial⟩ .refl rfl ?_
    rintro ⟨k, tv3⟩ hk
    replace hk : k ≤ ids.length := hk
    simp only [rndInvP]
    by_cases hlt3 : k < ids.length
    ·repeat (first | refine wlssT ?_ | refine we_seq ?_ | (refine wR ?_; try simp only [oS]) | refine wo_nil ?_ | refine wM ?_ | refine wA ?_ | refine wT ?_ | refine we_skip ?_ | refine we_block ?_)
     refine wo_call (.cons rfl (.cons rfl .nil)) trivial (takes_tr (by rw [roundF_len]; omega) (roundF_le hq2 k) (hIo _ (hIrnd _ _ hIp))) ?_
     rintro v' L' x' ⟨ts', rfl, rfl, rfl⟩
     have hnx : roundF p (k + 1) = ((takeF (roundF p k).1 k).1, (takeF (roundF p k).1 k).2 || (roundF p k).2) := rfl
     have hr1 : (roundF p (k + 1)).1 = (takeF (roundF p k).1 k).1 := rfl
     obtain ⟨b, hb⟩ : ∃ b, (takeF (roundF p k).1 k).2 = b := ⟨_, rfl⟩
     rw [hb, ← hr1]
     cases b with
     | true =>
      repeat (first | (refine wR ?_; try simp only [oS]) | refine wo_nil ?_ | refine wM ?_ | refine wA ?_ | (apply wo_no; exact rfl) | refine wK ?_ | refine wadd ?_)
      refine at_round (B := mT) (I := rndInvP p ids wg pb rb (.slice sa ids.length sc) (arr rb 0 [.slice none 0 0, .slice none 0 0] :: shpC wg 119 2 :: F)) (R := fun i' => ids.length - i'.1 < ids.length - k) (k + 1, ts') (by show ids.length - (k + 1) < ids.length - k; omega) (show k + 1 ≤ ids.length by omega) ?_ .refl rfl
      exact ⟨rfl, rfl, rfl, by rw [hnx, hb]; rfl, rfl, rfl, trivial⟩
     | false =>
      repeat (first | (refine wR ?_; try simp only [oS]) | refine wo_nil ?_ | refine wM ?_ | refine wA ?_ | refine wJ ?_ | refine wadd ?_)
      refine at_round (B := mT) (I := rndInvP p ids wg pb rb (.slice sa ids.length sc) (arr rb 0 [.slice none 0 0, .slice none 0 0] :: shpC wg 119 2 :: F)) (R := fun i' => ids.length - i'.1 < ids.length - k) (k + 1, ts') (by show ids.length - (k + 1) < ids.length - k; omega) (show k + 1 ≤ ids.length by omega) ?_ .refl rfl
      exact ⟨rfl, rfl, rfl, by rw [hnx, hb]; rfl, rfl, rfl, trivial⟩
    ·obtain rfl : k = ids.length := by omega
     repeat (first | refine wlssF ?_ | refine we_seq ?_ | (refine wR ?_; try simp only [oS]) | refine wo_nil ?_ | refine wF ?_ | refine we_exit ?_)
     have hg := roundF_grow p ids.length
     have hle3 := roundF_le hq2 ids.length
     have hrest : restF (n + 1) p = if (roundF p ids.length).2 = true then restF n (roundF p ids.length).1 else (roundF p ids.length).1 := by
      show (if (roundF p p.qs.length).2 = true then restF n (roundF p p.qs.length).1 else (roundF p p.qs.length).1) = _
      rw [hpq]
     refine at_round (B := mT) (I := restInv I p1 ids wg pb rb (.slice sa ids.length sc) (arr rb 0 [.slice none 0 0, .slice none 0 0] :: shpC wg 119 2 :: F)) (R := fun i' => (if i'.2.2.2 = true then i'.1 + 1 else 0) < (if true = true then (n + 1) + 1 else 0)) (n, (roundF p ids.length).1, tv3, (roundF p ids.length).2) ?_ ⟨hIrnd _ _ hIp, by show (roundF p ids.length).1.qs.length = _; rw [roundF_len]; exact hq1, hle3, ?_⟩ ?_ .refl rfl
     ·show (if (roundF p ids.length).2 = true then n + 1 else 0) < (if true = true then (n + 1) + 1 else 0)
      simp only [if_true]
      split <;> omega
     ·simp only
      rw [hrest] at hq3
      cases hb : (roundF p ids.length).2 with
      | true => rw [hb] at hq3 hg; simp only [if_true] at hq3 hg ⊢; exact ⟨hq3.1, by omega⟩
      | false => rw [hb] at hq3; simpa using hq3.1
     ·exact ⟨rfl, rfl, rfl, rfl, trivial⟩
   | false =>
    simp only [Bool.false_eq_true, if_false] at hq3
    have hplay : playF ts s0 order = p := by rw [hq3, ← hp1]; unfold playF; rw [hst]
    rw [hplay] at hQ
    have hpq : p.qs.length = ids.length := by omega
    refine we_pure (of_has (.there (.there .here)) (vec_shape (by omega))) ?_
    rintro ⟨sa, sn, sc, rfl, hsn, _, hnz, hy⟩
    have hsn : sn = ids.length := by simp [ptrs] at hsn; omega
    subst hsn
    cases sa with
    | none => have := hnz rfl; omega
    | some ad =>
    obtain ⟨sb, so, sp⟩ := ad
    have := hy _ rfl
    simp only [Addr.mk.injEq, true_and] at this
    subst this
    repeat (first | refine we_seq ?_ | (refine wR ?_; try simp only [oS]) | refine wo_nil ?_ | refine wM ?_ | refine wD ?_ | refine wL ?_ | refine wE ?_ | refine wF ?_ | refine we_block ?_ | refine we_exit ?_)
    refine we_star (vec 1 (.slice none 0 0) (cutC (cutN g p.qs 0)) :: arr pb 0 [.slice (some ⟨sb, so, none⟩) ids.length sc, tv2, .slice none 0 0] :: vec 1 (.slice (some ⟨sb, so, none⟩) ids.length sc) (ptrs ids) :: vec 3 tv2 (trCP p.tr) :: all (seatCs g ids p.qs) :: g.U p.s :: arr rb 0 [.slice none 0 0, .slice none 0 0] :: shpC wg 119 2 :: F) (fun h st => vec_nil (Ent.star (.take (.there .here) (.take (.there .here) (.take (.there .here) (.take (.there .here) (.take .here .refl))))) st)) ?_
    refine we_loopN (cutInv p ids wg pb rb (.slice (some ⟨sb, so, none⟩) ids.length sc) tv2 (arr rb 0 [.slice none 0 0, .slice none 0 0] :: shpC wg 119 2 :: F)) (fun i => ids.length - i.1) (0, .slice none 0 0) (Nat.zero_le _) ⟨rfl, rfl, rfl, rfl, rfl, rfl, trivial⟩ .refl (by simp only [cutInv]; rw [shutS_zero]) ?_
    rintro ⟨k, cv⟩ hk
    replace hk : k ≤ ids.length := hk
    simp only [cutInv]
    by_cases hlt3 : k < ids.length
    ·have hi : ids[k]? = some ids[k] := List.getElem?_eq_getElem hlt3
     have hq : p.qs[k]? = some (p.qs[k]'(by omega)) := List.getElem?_eq_getElem _
     obtain ⟨i, hie⟩ : ∃ i, ids[k] = i := ⟨_, rfl⟩
     obtain ⟨q, hqe⟩ : ∃ q, (p.qs[k]'(by omega)) = q := ⟨_, rfl⟩
     rw [hie] at hi
     rw [hqe] at hq
     let er := all ((seatCs g ids p.qs).eraseIdx k)
     refine we_star (seatR i.sb i.says i.turn i.fin :: arr i.sb 3 (lastQ g q) :: er :: vec 1 cv (cutC (cutN g p.qs k)) :: arr pb 0 [.slice (some ⟨sb, so, none⟩) ids.length sc, tv2, cv] :: vec 1 (.slice (some ⟨sb, so, none⟩) ids.length sc) (ptrs ids) :: vec 3 tv2 (trCP p.tr) :: g.U p.s :: arr rb 0 [.slice none 0 0, .slice none 0 0] :: shpC wg 119 2 :: F) (fun h st => seat_pick hi hq (((.there (.there (.there (.there .here)))) : Has (_ :: _ :: _ :: _ :: all (seatCs g ids p.qs) :: _) _ _).star st)) ?_
     have hback : ∀ {cv' : Value} {cl : List Value} h, Star (seatR i.sb i.says i.turn i.fin :: arr i.sb 3 (lastQ g q) :: er :: vec 1 cv' cl :: arr pb 0 [.slice (some ⟨sb, so, none⟩) ids.length sc, tv2, cv'] :: vec 1 (.slice (some ⟨sb, so, none⟩) ids.length sc) (ptrs ids) :: vec 3 tv2 (trCP p.tr) :: g.U p.s :: arr rb 0 [.slice none 0 0, .slice none 0 0] :: shpC wg 119 2 :: F) h →
       Star (vec 1 cv' cl :: arr pb 0 [.slice (some ⟨sb, so, none⟩) ids.length sc, tv2, cv'] :: vec 1 (.slice (some ⟨sb, so, none⟩) ids.length sc) (ptrs ids) :: vec 3 tv2 (trCP p.tr) :: all (seatCs g ids p.qs) :: g.U p.s :: arr rb 0 [.slice none 0 0, .slice none 0 0] :: shpC wg 119 2 :: F) h := fun h st => by
      have s1 := seat_put (q' := q) hi hq st
      rw [set_same hq] at s1
      exact Ent.star (.take (.there .here) (.take (.there .here) (.take (.there .here) (.take (.there .here) (.take .here .refl))))) s1
     have hcl : (cutN g p.qs k).length ≤ k := by have := List.length_filter_le (fun k => ((p.qs[k]?).bind g.plan).isSome) (List.range k); rw [List.length_range] at this; exact this
     have hget : (shutS ids p.qs k)[k]? = some (⟨i.says, i.turn, i.fin, .said q⟩ : Seat g.σ g.θ) := by rw [shutS_get hi hq, if_neg (by omega)]; rfl
     have hsl2 : ids.length = (shutS ids p.qs k).length := (shutS_len hpq.symm).symm
     have rs : ∀ {a b c d e : HProp} {M : List HProp}, Rd (a :: b :: c :: d :: e :: vec 1 (.slice (some ⟨sb, so, none⟩) ids.length sc) (ptrs ids) :: M) sb (so + k) (.pointer (some ⟨i.sb, 0, none⟩)) := rd_vec (cs := ptrs ids) (.there (.there (.there (.there (.there .here))))) (by simp [ptrs, hi])
     refine we_pure (of_has (.there (.there (.there .here))) (vec_shape (by omega))) ?_
     rintro ⟨ca, cn, cc, rfl, hcn, _⟩
     have hcn : cn = (cutN g p.qs k).length := by simp [cutC] at hcn; omega
     subst hcn
     cases hpl2 : g.plan q with
     | none =>
      have hlq : lastQ g q = [.int .u8 0, .int .i64 0, .bool true] := by unfold lastQ; rw [hpl2]; rfl
      have hcut : cutN g p.qs (k + 1) = cutN g p.qs k := by rw [cutN_succ, hq]; simp [hpl2]
      rw [hlq] at hback ⊢
      have rl : ∀ {a : HProp} {M : List HProp}, Rd (a :: arr i.sb 3 [.int .u8 0, .int .i64 0, .bool true] :: M) i.sb 5 (.bool true) := .there (Rd.row (k := 2) rfl rfl)
      have re : ∀ {M : List HProp}, Rd (seatR i.sb i.says i.turn i.fin :: M) i.sb 1 (.chan (some i.fin)) := Rd.fro (k := 1) rfl rfl
      repeat (first | (apply wo_po; apply mo_index1; exact rfl; exact rfl; omega; exact gY) | (apply wo_po; apply mo_load; exact rfl; (first | exact rs | exact rl | exact re); exact trivial) | refine wlssT ?_ | refine we_seq ?_ | (refine wR ?_; try simp only [oS]) | refine wo_nil ?_ | refine wM ?_ | refine wA ?_ | refine wN ?_ | refine wD ?_ | (apply wo_po; apply mo_not; exact rfl; exact gY) | refine wT ?_ | refine wF ?_ | refine we_skip ?_ | refine we_block ?_)
      refine wo_shut (X := ⟨g, wg, shutS ids p.qs k, some p.s, 16384 - p.tr.length, ids.length, false, .play⟩) (j := k) (c := ⟨i.says, i.turn, i.fin, .said q⟩) (q0 := q) rfl rfl rfl hsl2 rfl hget rfl trivial (by decide) ?_
      repeat (first | (refine wR ?_; try simp only [oS]) | refine wo_nil ?_ | refine wM ?_ | refine wadd ?_)
      refine at_roundS (B := mT) (I := cutInv p ids wg pb rb (.slice (some ⟨sb, so, none⟩) ids.length sc) tv2 (arr rb 0 [.slice none 0 0, .slice none 0 0] :: shpC wg 119 2 :: F)) (R := fun i' => ids.length - i'.1 < ids.length - k) (k + 1, .slice ca (cutN g p.qs k).length cc) (by show ids.length - (k + 1) < ids.length - k; omega) (show k + 1 ≤ ids.length by omega) ?_ (fun h st => ?_) ?_
      ·exact ⟨rfl, rfl, rfl, rfl, rfl, rfl, trivial⟩
      ·show Star (vec 1 _ (cutC (cutN g p.qs (k + 1))) :: _) h
       rw [hcut]
       exact hback h st
      ·simp only [cutInv]
       rw [← shutS_succ hi hq]
     | some mf =>
      obtain ⟨m, f⟩ := mf
      have hlq : lastQ g q = [.int .u8 m.1, .int .i64 m.2, .bool false] := by unfold lastQ; rw [hpl2]; rfl
      have hcut : cutN g p.qs (k + 1) = cutN g p.qs k ++ [k] := by rw [cutN_succ, hq]; simp [hpl2]
      rw [hlq] at hback ⊢
      have rl : ∀ {a : HProp} {M : List HProp}, Rd (a :: arr i.sb 3 [.int .u8 m.1, .int .i64 m.2, .bool false] :: M) i.sb 5 (.bool false) := .there (Rd.row (k := 2) rfl rfl)
      have re : ∀ {a b : HProp} {M : List HProp}, Rd (a :: b :: seatR i.sb i.says i.turn i.fin :: M) i.sb 1 (.chan (some i.fin)) := .there (.there (Rd.fro (k := 1) rfl rfl))
      repeat (first | (apply wo_po; apply mo_index1; exact rfl; exact rfl; omega; exact gY) | (apply wo_po; apply mo_load; exact rfl; (first | exact rs | exact rl); exact trivial) | (apply wo_mo; apply mo_buildSlice (sz := 1) (vs := [.int .i64 (k : Nat)]); exact rfl; exact .cons rfl .nil; exact rfl; (intro v hv; cases (List.mem_singleton.1 hv); exact rfl); omega; exact trivial) | refine wlssT ?_ | refine we_seq ?_ | (refine wR ?_; try simp only [oS]) | refine wo_nil ?_ | refine wM ?_ | refine wA ?_ | refine wN ?_ | refine wD ?_ | (apply wo_po; apply mo_not; exact rfl; exact gY) | refine wL ?_ | refine wT ?_ | refine we_skip ?_ | refine we_block ?_)
      rintro v' L' ⟨nb, rfl, rfl⟩
      repeat (first | (apply wo_mo; apply mo_append (sz := 1) (new := [.int .i64 (k : Nat)]); exact rfl; exact rfl; exact rfl; exact rfl; exact (.there (.there (.there (.there .here)))); exact rfl; exact .inr ⟨_, _, rfl, Rds.all .here⟩; (intro v hv; cases (List.mem_singleton.1 hv); exact rfl); (simp only [sliceLen]; omega); exact trivial))
      rintro v' L' rfl
      refine wo_pure (of_has .here (vec_shape (by omega))) ?_
      rintro ⟨ua, un, uc, rfl, hun, _⟩
      repeat (first | refine wS ?_ | (apply wo_po; apply mo_load; exact rfl; exact re; exact trivial) | (refine wR ?_; try simp only [oS]) | refine wo_nil ?_ | refine wM ?_ | refine wN ?_ | refine wD ?_)
      refine wo_shut (X := ⟨g, wg, shutS ids p.qs k, some p.s, 16384 - p.tr.length, ids.length, false, .play⟩) (j := k) (c := ⟨i.says, i.turn, i.fin, .said q⟩) (q0 := q) rfl rfl rfl hsl2 rfl hget rfl trivial (by decide) ?_
      repeat (first | (refine wR ?_; try simp only [oS]) | refine wo_nil ?_ | refine wM ?_ | refine wadd ?_)
      refine at_roundS (B := mT) (I := cutInv p ids wg pb rb (.slice (some ⟨sb, so, none⟩) ids.length sc) tv2 (arr rb 0 [.slice none 0 0, .slice none 0 0] :: shpC wg 119 2 :: F)) (R := fun i' => ids.length - i'.1 < ids.length - k) (k + 1, .slice ua un uc) (by show ids.length - (k + 1) < ids.length - k; omega) (show k + 1 ≤ ids.length by omega) ?_ (fun h st => ?_) ?_
      ·exact ⟨rfl, rfl, rfl, rfl, rfl, rfl, trivial⟩
      ·show Star (vec 1 _ (cutC (cutN g p.qs (k + 1))) :: _) h
       have e4 : cutC (cutN g p.qs (k + 1)) = cutC (cutN g p.qs k) ++ [.int .i64 (k : Nat)] := by rw [hcut]; simp [cutC]
       rw [e4]
       exact hback h (Ent.star (.take (.there (.there .here)) (.take (.there (.there .here)) (.take (.there (.there .here)) (.take .here (.drop .refl))))) st)
      ·simp only [cutInv]
       rw [← shutS_succ hi hq]
    ·obtain rfl : k = ids.length := by omega
     repeat (first | refine wlssF ?_ | refine we_seq ?_ | (refine wR ?_; try simp only [oS]) | refine wo_nil ?_ | refine wF ?_ | refine we_exit ?_)
     refine wo_call (.cons rfl .nil) trivial (wgWait_tr (X := ⟨g, wg, shutS ids p.qs ids.length, some p.s, 16384 - p.tr.length, ids.length, false, .play⟩) rfl (by show ids.length < 1000; omega) (shutS_len hpq.symm).symm (shutS_closed hpq.symm) rfl (fun h st => shp_of (.there (.there (.there (.there (.there (.there (.there .here))))))) st)) ?_
     rintro v' L' x' ⟨rfl, rfl, rfl⟩
     rw [show (GX.seats ⟨g, wg, shutS ids p.qs ids.length, some p.s, 16384 - p.tr.length, ids.length, false, .play⟩).map Seat.fins = p.qs.map g.Fin from shutS_all hpq.symm]
     repeat (first | (apply wo_po; apply mo_loadA (vs := [tv2, cv]); exact rfl; exact rfl; exact Rds.row (k := 1) (.there (.there .here)) (by intro i v hv; match i, hv with | 0, hv => exact hv | 1, hv => exact hv); exact trivial) | refine we_seq ?_ | (refine wR ?_; try simp only [oS]) | refine wo_nil ?_ | refine wD ?_)
     refine wo_pure (of_has (.there .here) (vec_shape (by omega))) ?_
     rintro ⟨ca, cn, cc, rfl, _⟩
     refine wo_pure (of_has (.there (.there (.there (.there .here)))) (vec_shape (by omega))) ?_
     rintro ⟨ta2, tn2, tc2, rfl, _⟩
     repeat (first | (apply wo_pm; apply mo_storeA (c := 0) (k := 0) (a := 0) (vs := [.slice none 0 0, .slice none 0 0]); exact rfl; exact rfl; exact rfl; (intro w hw; simp [Value.cells] at hw; rcases hw with rfl | rfl <;> rfl); exact rfl; exact Nat.le_refl 2; exact (.there (.there (.there (.there (.there (.there (.there .here))))))); exact trivial) | refine wo_nil ?_ | refine wA ?_ | refine we_ret ?_)
     refine at_leaveM (rs := [.cell 4 49, .tmp 5]) Try.func18 Try.results18 hQ (.inl rfl) (.cons (.cell (vs := [.slice ta2 tn2 tc2, .slice ca cn cc]) rfl rfl (Rds.all (.there (.there (.there (.there (.there (.there (.there .here))))))))) (.cons (.tmp rfl) .nil)) ?_
     refine ⟨_, _, rfl, rfl, fun h st => ?_⟩
     rw [← hids]
     exact Ent.star (.take (.there (.there (.there (.there .here)))) (.take (.there .here) (.take (.there (.there (.there (.there .here)))) (.take .here (.drop (.drop (.drop (.drop (.drop .refl))))))))) st
end
end
end Go.Proofs.Ytodgemainhokjaa
namespace Go.Proofs.Ytodgemainhokjaa
open Go Go.PB
section
section
variable {g : Game}
theorem ordF_inv {I : PS g → Prop} (hs : ∀ p k, I p → I (takeF p k).1) : ∀ (l : List Int) (p : PS g), I p → I (ordF p l)
 | [], p, h => h
 | k :: l, p, h => ordF_inv hs l _ (hs p k h)
theorem roundF_inv {I : PS g → Prop} (hs : ∀ p k, I p → I (takeF p k).1) {p : PS g} (h : I p) : ∀ n, I (roundF p n).1
 | 0 => h
 | n + 1 => hs _ _ (roundF_inv hs h n)
theorem restF_inv {I : PS g → Prop} (hs : ∀ p k, I p → I (takeF p k).1) : ∀ (n : Nat) (p : PS g), I p → I (restF n p)
 | 0, p, h => h
 | n + 1, p, h => by
  unfold restF
  split
  ·exact restF_inv hs n _ (roundF_inv hs h _)
  ·exact roundF_inv hs h _
theorem playF_inv {I : PS g → Prop} (hs : ∀ p k, I p → I (takeF p k).1) {ts : List (Thr g)} {s : g.σ} {o : List Int} (h0 : I ⟨(startF ts s).1, (startF ts s).2, []⟩) : I (playF ts s o) :=
 restF_inv hs _ _ (ordF_inv hs _ _ h0)
theorem roundF_no {p : PS g} : ∀ {n : Nat}, (roundF p n).2 = false → (roundF p n).1 = p ∧ ∀ k : Nat, k < n → takeF p k = (p, false)
 | 0, _ => ⟨rfl, fun k h => by omega⟩
 | n + 1, h => by
  have h' : ((takeF (roundF p n).1 n).2 || (roundF p n).2) = false := h
  rw [Bool.or_eq_false_iff] at h'
  obtain ⟨h1, h2⟩ := roundF_no h'.2
  rw [h1] at h'
  have h3 : takeF p n = (p, false) := by
   rcases takeF_cases p n with e | ⟨_, _, _, _, _, _, _, _, e⟩
   ·exact e
   ·rw [e] at h'; cases h'.1
  refine ⟨?_, fun k hk => ?_⟩
  ·show (takeF (roundF p n).1 n).1 = p
   rw [h1, h3]
  ·by_cases e : k = n
   ·subst e; exact h3
   ·exact h2 k (by omega)
theorem take_stuck {p : PS g} {k : Nat} {q : g.θ} (hq : p.qs[k]? = some q) (h : takeF p k = (p, false)) : g.plan q = none ∨ p.tr.length = 16384 := by
 cases hp : g.plan q with
 | none => exact .inl rfl
 | some mf =>
  obtain ⟨m, f⟩ := mf
  right
  by_cases htr : p.tr.length = 16384
  ·exact htr
  ·unfold takeF at h
   rw [if_neg (by omega), Int.toNat_natCast, hq] at h
   simp only [hp, if_neg htr] at h
   have := congrArg Prod.snd h
   cases this
theorem restF_done : ∀ (n : Nat) (p : PS g), p.tr.length ≤ 16384 → 16384 < p.tr.length + n → ∀ (k : Nat) q, (restF n p).qs[k]? = some q → g.plan q = none ∨ (restF n p).tr.length = 16384
 | 0, p, h1, h2 => by omega
 | n + 1, p, h1, h2 => by
  intro k q hq
  unfold restF at hq ⊢
  have hg := roundF_grow p p.qs.length
  have hle := roundF_le h1 p.qs.length
  split at hq
  ·rename_i hm
   rw [if_pos hm]
   rw [if_pos hm] at hg
   exact restF_done n _ hle (by omega) k q hq
  ·rename_i hm
   rw [if_neg hm]
   obtain ⟨e, hk⟩ := roundF_no (Bool.not_eq_true _ ▸ hm : (roundF p p.qs.length).2 = false)
   rw [e] at hq ⊢
   exact take_stuck hq (hk k (List.getElem?_eq_some_iff.1 hq).1)
theorem playF_done {ts : List (Thr g)} {s : g.σ} {o : List Int} {k : Nat} {q : g.θ} (hq : (playF ts s o).qs[k]? = some q) : g.plan q = none ∨ (playF ts s o).tr.length = 16384 :=
 restF_done 16385 _ (ordF_le _ _ (Nat.zero_le _)) (by omega) k q hq
theorem cutN_nil {qs : List g.θ} {n : Nat} (h : ∀ (k : Nat) q, qs[k]? = some q → g.plan q = none) : cutN g qs n = [] := by
 unfold cutN
 rw [List.filter_eq_nil_iff]
 intro k _
 cases hq : qs[k]? with
 | none => simp
 | some q => simp [h k q hq]
end
def sumN (l : List Nat) : Nat := l.foldr (· + ·) 0
end
end Go.Proofs.Ytodgemainhokjaa
namespace Go.PB.Mach
section
structure In where
 op : Nat
 on : Nat := 0
 a : Nat := 0
 b : Nat := 0
 c : Nat := 0
 d : Nat := 0
 n : Nat := 0
structure Cl where
 code : List In
 data : List Nat := []
structure Wd where
 words : List (List Nat)
 nl : Nat
structure Th where
 calls : List Cl
 call : Nat := 0
 pc : Nat := 0
 r : Nat → Nat := fun _ => 0
 ans : List (Bool × List Nat) := []
 over : Bool := false
def fin : In := { op := 23 }
def Th.cl (t : Th) : Cl := t.calls.getD t.call { code := [] }
def Th.next (t : Th) : In := t.cl.code.getD t.pc fin
def Th.put (t : Th) (i v : Nat) : Th := { t with r := upd t.r i (v % 18446744073709551616) }
def Th.tell (t : Th) (v : Nat) : Th := { t with ans := t.ans.modify t.call fun y => (y.1, y.2 ++ [v]) }
structure Wd.ok (w : Wd) : Prop where
 n : w.words.length < 1000000
 nl : w.nl < 1000000
 len : ∀ l ∈ w.words, l.length < 1000000
 lt : ∀ l ∈ w.words, ∀ v ∈ l, v < 18446744073709551616
def own (t0 : Th) (x : In) : Th :=
 let t := { t0 with pc := t0.pc + 1 }
 match x.op with
 | 6 => t.put x.a x.n
 | 7 => t.put x.a (t.r x.b)
 | 8 => t.put x.a (t.r x.b + t.r x.c + x.n)
 | 9 => t.put x.a (t.r x.b + 18446744073709551616 - t.r x.c)
 | 10 => t.put x.a (t.r x.b * t.r x.c)
 | 11 => t.put x.a (if t.r x.c = 0 then 0 else t.r x.b / t.r x.c)
 | 12 => t.put x.a (t.r x.b &&& t.r x.c)
 | 13 => t.put x.a (t.r x.b ||| t.r x.c)
 | 14 => t.put x.a (t.r x.b * 2 ^ x.n)
 | 15 => t.put x.a (t.r x.b / 2 ^ x.n)
 | 16 => t.put x.a (max (t.r x.b) (t.r x.c))
 | 17 => t.put x.a (t.cl.data.getD ((t.r x.b + x.n) % 18446744073709551616) 0)
 | 18 => { t with pc := x.n }
 | 19 => if t.r x.a = t.r x.b then { t with pc := x.n } else t
 | 20 => if t.r x.a < t.r x.b then { t with pc := x.n } else t
 | 21 => if 9223372036854775808 ≤ t.r x.a then { t with pc := x.n } else t
 | 22 => t.tell (t.r x.a)
 | _ => t
def told (op : Nat) : Bool := 1 ≤ op && op ≤ 5
def Th.begun (t : Th) : Th := if t.ans.length = t.call then { t with ans := t.ans ++ [(false, [])] } else t
def Th.done (t : Th) : Th := { t with ans := t.ans.modify t.call fun y => (true, y.2), call := t.call + 1, pc := 0, r := fun _ => 0 }
def onF : Nat → Th → Option Th
 | 0, _ => none
 | f + 1, t =>
  if t.over = true then some t
  else if t.calls.length ≤ t.call then some { t with over := true }
  else if told t.begun.next.op = true then some t.begun
  else if t.begun.next.op = 23 then onF f t.begun.done
  else onF f (own t.begun t.begun.next)
def Th.place (t : Th) : Nat := (t.r t.next.b + t.next.n) % 18446744073709551616
def op1 (x : In) (l : List Nat) (p : Nat) (r : Nat → Nat) : List Nat × (Nat → Nat) :=
 let v := l.getD p 0
 match x.op with
 | 1 => (l, upd r x.a v)
 | 2 => (l.set p (r x.a), r)
 | 3 => (l.set p ((v + r x.c) % 18446744073709551616), upd r x.a ((v + r x.c) % 18446744073709551616))
 | 4 => (l.set p (r x.c), upd r x.a v)
 | _ => if v = r x.c then (l.set p (r x.d), upd r x.a 1) else (l, upd r x.a 0)
def Wd.row (w : Wd) (on : Nat) : List Nat := w.words.getD on []
def opF (f : Nat) (w : Wd) (t : Th) : Option (Wd × Th) :=
 if t.place < (w.row t.next.on).length then
  let y := op1 t.next (w.row t.next.on) t.place t.r
  (onF f { t with pc := t.pc + 1, r := y.2 }).map fun t' => ({ w with words := w.words.set t.next.on y.1 }, t')
 else none
def Th.mark (t : Th) : Nat × Nat := (t.next.op, t.place)
structure St where
 w : Wd
 l : List Th
 tr : List (Nat × Nat × Nat) := []
def turn (f : Nat) (s : St) (k : Nat) : Option St :=
 match s.l[k]? with
 | some t => (opF f s.w t).map fun y => ⟨y.1, s.l.set k y.2, s.tr ++ [(k, t.mark)]⟩
 | none => some s
def may (s : St) (k : Nat) : Bool := s.tr.length < 16384 && (match s.l[k]? with | some t => !t.over | none => false)
def byOrder (f : Nat) : St → List (Option Nat) → Option St
 | s, [] => some s
 | s, none :: o => byOrder f s o
 | s, some k :: o => if may s k = true then (turn f s k).bind fun s => byOrder f s o else byOrder f s o
def round (f : Nat) : Nat → Nat → St → Bool → Option (St × Bool)
 | 0, _, s, q => some (s, q)
 | m + 1, k, s, q => if may s k = true then (turn f s k).bind fun s => round f m (k + 1) s true else round f m (k + 1) s q
def rounds (f : Nat) : Nat → St → Option St
 | 0, _ => none
 | g + 1, s => (round f s.l.length 0 s false).bind fun y => if y.2 = true then rounds f g y.1 else some y.1
def begin_ (f : Nat) : List Th → Option (List Th)
 | [] => some []
 | t :: l => (onF f t).bind fun t => (begin_ f l).map fun l => t :: l
def play (f g : Nat) (w : Wd) (o : List (Option Nat)) (l : List (List Cl)) : Option St :=
 (begin_ f (l.map fun c => { calls := c })).bind fun l => (byOrder f ⟨w, l, []⟩ o).bind fun s => rounds f g s
def In.ok (x : In) : Bool := 1 ≤ x.op && x.op ≤ 23 && x.a < 24 && x.b < 24 && x.c < 24 && x.d < 24 && x.on < 1000 && x.n < 18446744073709551616 && (!(18 ≤ x.op && x.op ≤ 21) || x.n < 1000000) && (!(x.op = 17) || !(x.a = x.b)) && (!(x.op = 14 || x.op = 15) || x.n < 64)
def Cl.ok (c : Cl) : Bool := c.code.all In.ok && c.data.all (fun v => v < 18446744073709551616) && c.code.length < 1000000 && c.data.length < 1000000
end
end Go.PB.Mach
namespace Go.Proofs.Ytodgemainhokjaa
open Go Go.PB
section
structure Wds where
 W : (Nat → Nat) → Mach.Wd
 un : Mach.Wd → (Nat → Nat)
 ok : (Nat → Nat) → Prop
 fu : Nat
 back : ∀ f, W (un (W f)) = W f
 okun : ∀ f, ok f → ok (un (W f))
def mF (D : Wds) (q : Nat × Mach.Th) (f : Nat → Nat) : (Nat → Nat) × (Nat × Mach.Th) :=
 match Mach.opF D.fu (D.W f) q.2 with
 | some y => (D.un y.1, (q.1, y.2))
 | none => (f, (q.1, { q.2 with over := true }))
def mkII (m : Nat × Nat) : Int × Int := (((m.1 : Nat) : Int), ((m.2 : Nat) : Int))
def mPlan (D : Wds) (q : Nat × Mach.Th) : Option ((Int × Int) × ((Nat → Nat) → (Nat → Nat) × (Nat × Mach.Th))) :=
 if q.2.over = true then none else some (mkII q.2.mark, mF D q)
def mG (D : Wds) (U : (Nat → Nat) → HProp) (Pv : Nat × Mach.Th → HProp) : Game where
 σ := Nat → Nat
 θ := Nat × Mach.Th
 U := U
 plan := mPlan D
 ok := D.ok
 Pv := Pv
 Fin := Pv
def GoodN (D : Wds) : Nat → Mach.Th → Prop
 | 0, _ => True
 | n + 1, t => t.over = true ∨ t.over = false ∧ ∀ f, D.ok f → ∃ f' t', Mach.opF D.fu (D.W f) t = some (D.W f', t') ∧ D.ok f' ∧ GoodN D n t'
def GoodT (D : Wds) (t : Mach.Th) : Prop := ∀ n, GoodN D n t
section
variable {D : Wds} {U : (Nat → Nat) → HProp} {Pv : Nat × Mach.Th → HProp}
structure Rel (p : PS (mG D U Pv)) (st : Mach.St) : Prop where
 w : st.w = D.W p.s
 len : p.qs.length = st.l.length
 qs : ∀ k : Nat, p.qs[k]? = (st.l[k]?).map fun t => (k, t)
 tr : p.tr = st.tr.map fun e => (e.1, mkII e.2)
 le : st.tr.length ≤ 16384
 good : ∀ t ∈ st.l, GoodT D t
 ok : D.ok p.s
structure Begins (D : Wds) (U : (Nat → Nat) → HProp) (Pv : Nat × Mach.Th → HProp) (k0 : Nat) (ts : List (Thr (mG D U Pv))) (cc : List (List Mach.Cl)) : Prop where
 len : ts.length = cc.length
 ini : ∀ (k : Nat) t c, ts[k]? = some t → cc[k]? = some c → ∃ u, Mach.onF D.fu { calls := c } = some u ∧ GoodT D u ∧ ∀ s : (mG D U Pv).σ, t.ini s = (s, ((k0 + k, u) : Nat × Mach.Th))
end
end
end Go.Proofs.Ytodgemainhokjaa
namespace Go.Proofs.Ytodgemainhokjaa
open Go Go.PB
attribute [local irreducible] Mo Bin Eql Tr Wo Ap Wle
section
theorem wds_congr {addr : Nat → Nat × Nat} {N : Nat} {K : List (Nat × Nat × Value)} {f f' : Nat → Nat} (e : ∀ i, i < N → f i = f' i) : ∀ h, wds addr N K f h → wds addr N K f' h := fun h s =>
 ⟨fun w hw => by rw [← e w hw]; exact s.1 w hw, s.2⟩
structure PlS where
 f : Nat → Nat
 g : Nat → Nat
 t : Mach.Th
 n : Nat
section
variable {D : Wds} {addr : Nat → Nat × Nat} {N : Nat} {K : List (Nat × Nat × Value)} {Z : HProp} {Pv : Nat × Mach.Th → HProp} {sb says turn fin wg : Nat}
end
end
section
structure WGm where
 σ : Type
 θ : Type
 ζ : Type
 wf : σ → Nat → Nat
 zf : σ → ζ
 Z : ζ → HProp
 plan : θ → Option ((Int × Int) × (σ → σ × θ))
 ok : σ → Prop
 Pv : θ → HProp
 up : ∀ q h, Star [Pv q] h → Pv q h
def WGm.g (G : WGm) (addr : Nat → Nat × Nat) (N : Nat) (K : List (Nat × Nat × Value)) : Game where
 σ := G.σ
 θ := G.θ
 U := fun s => all [wds addr N K (G.wf s), G.Z (G.zf s)]
 plan := G.plan
 ok := G.ok
 Pv := G.Pv
 Fin := G.Pv
structure GaS (G : WGm) where
 f : Nat → Nat
 c : G.ζ
 s : G.σ
 q : G.θ
 n : Nat
section
variable {G : WGm} {addr : Nat → Nat × Nat} {N : Nat} {K : List (Nat × Nat × Value)} {sb says turn fin wg : Nat}
def gaC (G : WGm) (addr : Nat → Nat × Nat) (N : Nat) (K : List (Nat × Nat × Value)) (sb says turn fin : Nat) (Pm : HProp) (f : Nat → Nat) (c : G.ζ) : HProp := all [wds addr N K f, G.Z c, seatR sb says turn fin, Pm]
def GaStep (G : WGm) (N : Nat) (Pm : HProp) (op : Int) (w : Nat) (s : GaS G) (R : GaS G → Prop) : Prop :=
 ∃ F, G.plan s.q = some ((op, ((w : Nat) : Int)), F) ∧ (∀ i, i < N → s.f i = G.wf s.s i) ∧ s.c = G.zf s.s ∧ (∀ h, Pm h → G.Pv s.q h) ∧ ∀ s' n, n < s.n → G.ok s' → R ⟨G.wf s', G.zf s', (F s').1, (F s').2, n⟩
theorem ga_step {Pm : HProp} {op : Int} {w : Nat} {s : GaS G} {R : GaS G → Prop} {L F : List HProp} (hs : GaStep G N Pm op w s R) (hh : Has L (gaC G addr N K sb says turn fin Pm s.f s.c) F) :
  Tr Try.prog tH 111 [.pointer (some ⟨sb, 0, none⟩), .agg #[.int .u8 op, .int .i64 (w : Nat)]] L (tx (G.g addr N K) says turn fin wg (.busy s.s s.q s.n)) fun v L' x' =>
   ∃ s', R s' ∧ v = .tuple #[] ∧ L' = gaC G addr N K sb says turn fin Pm s'.f s'.c :: F ∧ x' = tx (G.g addr N K) says turn fin wg (.busy s'.s s'.q s'.n) := by
 obtain ⟨FF, hp, hfg, hc, hpm, hR⟩ := hs
 refine tr_star ((G.g addr N K).U s.s :: seatR sb says turn fin :: Pm :: F) (fun h st => ?_) ?_
 ·have s1 : Star (wds addr N K s.f :: G.Z s.c :: seatR sb says turn fin :: Pm :: F) h := star_open (M := [_, _, _, _]) (hh.star st)
  rw [hc] at s1
  exact star_shut (M := [_, _]) (star_map s1 (wds_congr hfg) fun _ z => z)
 ·refine (seat_tr (g := G.g addr N K) (mk := (op, ((w : Nat) : Int))) (f := FF) hp .here .here fun h st => G.up _ _ ?_).post ?_
  ·exact star_map (star_drop st) hpm fun _ z => trivial
  ·rintro v L' x' ⟨m', s', hm, hok, rfl, rfl, rfl⟩
   refine ⟨_, ⟨⟨G.wf s', G.zf s', (FF s').1, (FF s').2, m'⟩, hR s' m' (by omega) hok, rfl, rfl, rfl⟩, fun h st => ?_⟩
   exact star_shut (M := [_, _, _, _]) (star_open (M := [_, _]) st)
def gamAcc (G : WGm) (addr : Nat → Nat × Nat) (N : Nat) (K : List (Nat × Nat × Value)) (A : Apart addr N K) (sb says turn fin wg : Nat) (Pm : HProp) : Acc tH (gateV sb) where
 S := GaS G
 C := fun s => gaC G addr N K sb says turn fin Pm s.f s.c
 x := fun s => tx (G.g addr N K) says turn fin wg (.busy s.s s.q s.n)
 step := GaStep G N Pm
 addr := addr
 load := fun w s R => w < N ∧ R (s.f w) s
 store := fun w n s R => w < N ∧ R { s with f := upd s.f w n }
 cas := fun w a n s R => w < N ∧ if s.f w = a then R true { s with f := upd s.f w n } else R false s
 add := fun w n s R => w < N ∧ R ((s.f w + n) % 18446744073709551616) { s with f := upd s.f w ((s.f w + n) % 18446744073709551616) }
 swap := fun w n s R => w < N ∧ R (s.f w) { s with f := upd s.f w n }
 gate := .inr ⟨_, _, 111, rfl, inferInstance, inferInstance, fun op w s R L F hs hh => ga_step hs hh⟩
 load_ok := fun w s R L F b o ha hl hh => tr_star _ (fun h st => star_open (hh.star st)) (tr_pure (of_has .here fun h hc => (hc.1 w hl.1).1) fun hs =>
  (load_lone (rd_wds .here hl.1 ha)).post fun v L' x' ⟨h1, h2, h3⟩ => ⟨_, ⟨s.f w, s, hs, hl.2, h1, rfl, h3⟩, fun h st => star_shut (M := [_, _, _, _]) (by rw [h2] at st; exact st)⟩)
 store_ok := fun w n s R L F b o ha hn hl hh => tr_star _ (fun h st => star_open (hh.star st))
  ((store_lone (wt_wds A .here hl.1 ha hn)).post fun v L' x' ⟨h1, h2, h3⟩ => ⟨_, ⟨{ s with f := upd s.f w n }, hl.2, h1, rfl, h3⟩, fun h st => star_shut (M := [_, _, _, _]) (by rw [h2] at st; exact st)⟩)
 cas_ok := fun w m n s R L F b o ha hn hl hh => tr_star _ (fun h st => star_open (hh.star st))
  ((cas_lone (rd_wds .here hl.1 ha) (wt_wds A .here hl.1 ha hn)).post fun v L' x' ⟨h1, h2, h3⟩ => by
   obtain ⟨h4, h5⟩ := hl
   by_cases e : s.f w = m
   ·rw [if_pos e] at h5; rw [if_pos (by omega)] at h2; exact ⟨_, ⟨true, _, h5, by rw [h1]; simp [e], rfl, h3⟩, fun h st => star_shut (M := [_, _, _, _]) (by rw [h2] at st; exact st)⟩
   ·rw [if_neg e] at h5; rw [if_neg (by omega)] at h2; exact ⟨_, ⟨false, _, h5, by rw [h1]; simp; omega, rfl, h3⟩, fun h st => star_shut (M := [_, _, _, _]) (by rw [h2] at st; exact st)⟩)
 add_ok := fun w n s R L F b o ha hn hl hh => tr_star _ (fun h st => star_open (hh.star st))
  ((add_lone (r := ((s.f w + n) % 18446744073709551616 : Nat)) (rd_wds .here hl.1 ha) (by rw [wrap_u64_mod]; omega) (wt_wds A .here hl.1 ha (Nat.mod_lt _ (by decide)))).post fun v L' x' ⟨h1, h2, h3⟩ => ⟨_, ⟨_, { s with f := _ }, Nat.mod_lt _ (by decide), hl.2, h1, rfl, h3⟩, fun h st => star_shut (M := [_, _, _, _]) (by rw [h2] at st; exact st)⟩)
theorem ga_go {A : Apart addr N K} {Pm : HProp} {op w : Nat} {o : Int} {s : GaS G} {R : GaS G → Prop} {F : G.σ → G.σ × G.θ} (ho : ((op : Nat) : Int) = o) (hp : G.plan s.q = some ((((op : Nat) : Int), ((w : Nat) : Int)), F)) (hf : ∀ i, i < N → s.f i = G.wf s.s i) (hc : s.c = G.zf s.s) (hpm : ∀ h, Pm h → G.Pv s.q h)
  (hR : ∀ s' n, n < s.n → G.ok s' → R ⟨G.wf s', G.zf s', (F s').1, (F s').2, n⟩) : (gamAcc G addr N K A sb says turn fin wg Pm).step o w s R := by
 subst ho
 exact ⟨F, hp, hf, hc, hpm, hR⟩
end
section
variable {g : Game}
theorem play_ends {I : PS g → Prop} {Φ : PS g → Nat} {ts : List (Thr g)} {s : g.σ} {o : List Int} {n : Nat} (hs : ∀ p k, I p → I (takeF p k).1) (hΦ : ∀ p k, I p → (takeF p k).2 = true → Φ (takeF p k).1 + 1 ≤ Φ p) (h0 : I ⟨(startF ts s).1, (startF ts s).2, []⟩) (hn : Φ ⟨(startF ts s).1, (startF ts s).2, []⟩ ≤ n) (hlt : n < 16384) :
  I (playF ts s o) ∧ (playF ts s o).tr.length ≤ n ∧ ∀ (k : Nat) q, (playF ts s o).qs[k]? = some q → g.plan q = none := by
 have hJ : I (playF ts s o) ∧ (playF ts s o).tr.length + Φ (playF ts s o) ≤ n := playF_inv (I := fun p => I p ∧ p.tr.length + Φ p ≤ n) (fun p k h => ⟨hs p k h.1, by
  have h2 := h.2
  rcases takeF_cases p k with e | ⟨m, q, mk, f, hk, hq, hp, htr, e⟩
  ·rw [e]; exact h2
  ·have h3 := hΦ p k h.1 (by rw [e])
   have h4 : (takeF p k).1.tr.length = p.tr.length + 1 := by rw [e]; simp
   omega⟩) ⟨h0, by simpa using hn⟩
 refine ⟨hJ.1, by omega, fun k q hq => (playF_done hq).resolve_right (by omega)⟩
end
theorem sum_step {α : Type} {φ0 φ1 : α → Nat} (h : ∀ a, φ1 a ≤ φ0 a) : ∀ {l : List α} {k : Nat} {q q' : α}, l[k]? = some q → φ1 q' + 1 ≤ φ0 q → sumN ((l.set k q').map φ1) + 1 ≤ sumN (l.map φ0)
 | [], _, _, _, hq, _ => by simp at hq
 | a :: l, 0, q, q', hq, hl => by
  simp at hq; subst hq
  have hle : ∀ l : List α, sumN (l.map φ1) ≤ sumN (l.map φ0) := by
   intro l
   induction l with
   | nil => simp [sumN]
   | cons b l ih => have := h b; simp only [List.map_cons, sumN, List.foldr_cons] at ih ⊢; omega
  have := hle l
  simp only [List.set_cons_zero, List.map_cons, sumN, List.foldr_cons] at this ⊢; omega
 | a :: l, k + 1, q, q', hq, hl => by
  have h1 := sum_step h (l := l) (k := k) (q := q) (q' := q') (by simpa using hq) hl
  have h2 := h a
  simp only [List.set_cons_succ, List.map_cons, sumN, List.foldr_cons] at h1 ⊢; omega
end
section
structure Slk where
 n : Nat
 W : Nat → Nat → Nat
 ζ : Type
 π : Type
 onW : Nat → Nat → π → ζ → ζ × π
 onR : List Nat → Nat → π → ζ → ζ × π
inductive SlkSt where
 | idle
 | cas (v : Nat)
 | wr (v j : Nat)
 | rd (v j : Nat) (acc : List Nat)
structure SlkS (ζ : Type) where
 ver : Nat
 ws : Nat → Nat
 xs : List Nat
 z : ζ
structure SlkQ (π : Type) where
 ops : List (Option Nat)
 st : SlkSt
 p : π
def Slk.words (D : Slk) (x : Nat) : List Nat := (List.range D.n).map (D.W x)
def slkPlan (D : Slk) (q : SlkQ D.π) : Option ((Int × Int) × (SlkS D.ζ → SlkS D.ζ × SlkQ D.π)) :=
 match q.ops, q.st with
 | [], _ => none
 | some x :: rest, .idle => some ((((1 : Nat) : Int), ((0 : Nat) : Int)), fun s => if s.ver % 2 = 0 then (s, ⟨some x :: rest, .cas s.ver, q.p⟩) else (s, ⟨rest, .idle, q.p⟩))
 | some x :: rest, .cas v => some ((((5 : Nat) : Int), ((0 : Nat) : Int)), fun s => if s.ver = v then ({ s with ver := (v + 1) % 18446744073709551616 }, ⟨some x :: rest, .wr v 0, q.p⟩) else (s, ⟨rest, .idle, q.p⟩))
 | some x :: rest, .wr v j => if j < D.n then some ((((2 : Nat) : Int), ((1 + j : Nat) : Int)), fun s => ({ s with ws := upd s.ws j (D.W x j) }, ⟨some x :: rest, .wr v (j + 1), q.p⟩))
   else some ((((2 : Nat) : Int), ((0 : Nat) : Int)), fun s => ({ s with ver := (v + 2) % 18446744073709551616, xs := s.xs ++ [x], z := (D.onW x ((v + 2) % 18446744073709551616) q.p s.z).1 }, ⟨rest, .idle, (D.onW x ((v + 2) % 18446744073709551616) q.p s.z).2⟩))
 | some _ :: _, .rd _ _ _ => none
 | none :: rest, .idle => some ((((1 : Nat) : Int), ((0 : Nat) : Int)), fun s => if s.ver % 2 = 0 then (s, ⟨none :: rest, .rd s.ver 0 [], q.p⟩) else (s, ⟨rest, .idle, q.p⟩))
 | none :: rest, .rd v j acc => if j < D.n then some ((((1 : Nat) : Int), ((1 + j : Nat) : Int)), fun s => (s, ⟨none :: rest, .rd v (j + 1) (acc ++ [s.ws j]), q.p⟩))
   else some ((((1 : Nat) : Int), ((0 : Nat) : Int)), fun s => if s.ver = v then ({ s with z := (D.onR acc v q.p s.z).1 }, ⟨rest, .idle, (D.onR acc v q.p s.z).2⟩) else (s, ⟨rest, .idle, q.p⟩))
 | none :: _, _ => none
def slkW (D : Slk) (s : SlkS D.ζ) (i : Nat) : Nat := if i = 0 then s.ver else s.ws (i - 1)
def slkG (D : Slk) (Z : D.ζ → HProp) (ok : SlkS D.ζ → Prop) : WGm where
 σ := SlkS D.ζ
 θ := SlkQ D.π
 ζ := D.ζ
 wf := slkW D
 zf := fun s => s.z
 Z := Z
 plan := slkPlan D
 ok := ok
 Pv := fun _ _ => True
 up := fun _ _ _ => trivial
section
variable {D : Slk} {Z : D.ζ → HProp} {ok : SlkS D.ζ → Prop} {r sb says turn fin wg : Nat} {Pm : HProp}
abbrev slkAcc (D : Slk) (Z : D.ζ → HProp) (ok : SlkS D.ζ → Prop) (r sb says turn fin wg : Nat) (Pm : HProp) : Acc tH (gateV sb) := gamAcc (slkG D Z ok) (sAddr r) (D.n + 1) (sK r D.n) (s_apart r D.n) sb says turn fin wg Pm
theorem slk_at (h1 : 1 ≤ D.n) (h2 : D.n ≤ 16) : SeqAt (slkAcc D Z ok r sb says turn fin wg Pm) r D.n := ⟨h1, h2, fun s => rd_in1 (Rd.of .here sC_rd), rfl, fun i _ => s_addr⟩
structure SlkAt (D : Slk) (Z : D.ζ → HProp) (ok : SlkS D.ζ → Prop) (q : SlkQ D.π) (s : GaS (slkG D Z ok)) : Prop where
 q : s.q = q
 f : ∀ j, j < D.n + 1 → s.f j = slkW D s.s j
 c : s.c = (show SlkS D.ζ from s.s).z
theorem slkW_succ {s : SlkS D.ζ} {i : Nat} : slkW D s (1 + i) = s.ws i := by unfold slkW; rw [if_neg (by omega), show 1 + i - 1 = i by omega]
theorem slk_wloop {x v : Nat} {rest : List (Option Nat)} {p : D.π} {R : GaS (slkG D Z ok) → Prop} : ∀ (k i : Nat) (s : GaS (slkG D Z ok)), i + k = D.n → SlkAt D Z ok ⟨some x :: rest, .wr v i, p⟩ s → (∀ s, SlkAt D Z ok ⟨some x :: rest, .wr v D.n, p⟩ s → R s) → WLoop (slkAcc D Z ok r sb says turn fin wg Pm) R ((List.range' i k).map (D.W x)) i s
 | 0, i, s, hi, hs, hR => by
  obtain rfl : i = D.n := by omega
  exact hR s hs
 | k + 1, i, s, hi, hs, hR => by
  rw [List.range'_succ, List.map_cons]
  refine ga_go (op := 2) (w := 1 + i) (F := fun s => ({ s with ws := upd s.ws i (D.W x i) }, ⟨some x :: rest, .wr v (i + 1), p⟩)) rfl (by rw [hs.q]; exact if_pos (by omega)) hs.f hs.c (fun _ _ => trivial) fun s' n hn hok => ⟨by show 1 + i < D.n + 1; omega, ?_⟩
  obtain ⟨ver, ws, xs, z⟩ := s'
  refine slk_wloop k (i + 1) _ (by omega) ⟨rfl, fun j hj => ?_, rfl⟩ hR
  show upd (slkW D ⟨ver, ws, xs, z⟩) (1 + i) (D.W x i) j = slkW D ⟨ver, upd ws i (D.W x i), xs, z⟩ j
  unfold slkW
  by_cases h0 : j = 0
  ·subst h0; rw [upd_other (by omega)]; rfl
  ·rw [if_neg h0]
   by_cases h1 : j = 1 + i
   ·subst h1
    rw [upd_same, show 1 + i - 1 = i by omega]
    exact upd_same.symm
   ·rw [upd_other h1, if_neg h0]
    exact (upd_other (by omega)).symm
theorem slk_write {x : Nat} {rest : List (Option Nat)} {p : D.π} {s : GaS (slkG D Z ok)} (hs : SlkAt D Z ok ⟨some x :: rest, .idle, p⟩ s) :
  WriteT (slkAcc D Z ok r sb says turn fin wg Pm) (D.words x) s fun o s' => ∃ p' s0, s'.q = (⟨rest, .idle, p'⟩ : SlkQ D.π) ∧ (∀ j, j < D.n + 1 → s'.f j = slkW D s'.s j) ∧ ok s0 ∧ s0.z = s'.c ∧ match o with
   | none => p' = p ∧ s'.c = (show SlkS D.ζ from s'.s).z
   | some v => ((show SlkS D.ζ from s'.s).z, p') = D.onW x v p s'.c := by
 refine ga_go (op := 1) (F := fun s => if s.ver % 2 = 0 then (s, ⟨some x :: rest, .cas s.ver, p⟩) else (s, ⟨rest, .idle, p⟩)) rfl (by rw [hs.q]; rfl) hs.f hs.c (fun _ _ => trivial) fun s1 n1 hn1 hok1 => ⟨by show 0 < D.n + 1; omega, ?_⟩
 show if (show SlkS D.ζ from s1).ver % 2 = 0 then _ else _
 by_cases c : (show SlkS D.ζ from s1).ver % 2 = 0
 ·rw [if_pos c]
  simp only [if_pos c]
  refine ga_go (op := 5) (w := 0) (F := fun s => if s.ver = (show SlkS D.ζ from s1).ver then ({ s with ver := ((show SlkS D.ζ from s1).ver + 1) % 18446744073709551616 }, ⟨some x :: rest, .wr (show SlkS D.ζ from s1).ver 0, p⟩) else (s, ⟨rest, .idle, p⟩)) rfl rfl (fun j hj => rfl) rfl (fun _ _ => trivial) fun s2 n2 hn2 hok2 => ⟨by show 0 < D.n + 1; omega, ?_⟩
  show if (show SlkS D.ζ from s2).ver = (show SlkS D.ζ from s1).ver then _ else _
  by_cases e : (show SlkS D.ζ from s2).ver = (show SlkS D.ζ from s1).ver
  ·rw [if_pos e]
   simp only [if_pos e]
   have hr : D.words x = (List.range' 0 D.n).map (D.W x) := by unfold Slk.words; rw [List.range_eq_range']
   rw [hr]
   refine slk_wloop D.n 0 _ (by omega) ⟨rfl, fun j hj => ?_, rfl⟩ fun s3 h3 => ?_
   ·obtain ⟨ver, ws, xs, z⟩ := s2
    obtain ⟨ver1, ws1, xs1, z1⟩ := s1
    show upd (slkW D ⟨ver, ws, xs, z⟩) 0 ((ver1 + 1) % 18446744073709551616) j = slkW D ⟨(ver1 + 1) % 18446744073709551616, ws, xs, z⟩ j
    unfold slkW
    by_cases h0 : j = 0
    ·subst h0; rw [upd_same]; rfl
    ·rw [upd_other h0, if_neg h0, if_neg h0]
   refine ga_go (op := 2) (w := 0) (F := fun s => ({ s with ver := ((show SlkS D.ζ from s1).ver + 2) % 18446744073709551616, xs := s.xs ++ [x], z := (D.onW x (((show SlkS D.ζ from s1).ver + 2) % 18446744073709551616) p s.z).1 }, ⟨rest, .idle, (D.onW x (((show SlkS D.ζ from s1).ver + 2) % 18446744073709551616) p s.z).2⟩)) rfl (by rw [h3.q]; exact if_neg (Nat.lt_irrefl _)) h3.f h3.c (fun _ _ => trivial) fun s4 n4 hn4 hok4 => ⟨by show 0 < D.n + 1; omega, ?_⟩
   refine ⟨_, s4, rfl, fun j hj => ?_, hok4, rfl, rfl⟩
   obtain ⟨ver, ws, xs, z⟩ := s4
   obtain ⟨ver1, ws1, xs1, z1⟩ := s1
   show upd (slkW D ⟨ver, ws, xs, z⟩) 0 ((ver1 + 2) % 18446744073709551616) j = slkW D ⟨(ver1 + 2) % 18446744073709551616, ws, xs ++ [x], _⟩ j
   unfold slkW
   by_cases h0 : j = 0
   ·subst h0; rw [upd_same]; rfl
   ·rw [upd_other h0, if_neg h0, if_neg h0]
  ·rw [if_neg e]
   simp only [if_neg e]
   exact ⟨p, s2, rfl, fun j hj => rfl, hok2, rfl, rfl, rfl⟩
 ·rw [if_neg c]
  simp only [if_neg c]
  exact ⟨p, s1, rfl, fun j hj => rfl, hok1, rfl, rfl, rfl⟩
theorem slk_rloop {v : Nat} {rest : List (Option Nat)} {p : D.π} {K : List Nat → GaS (slkG D Z ok) → Prop} : ∀ (k : Nat) (acc : List Nat) (s : GaS (slkG D Z ok)), acc.length + k = D.n → SlkAt D Z ok ⟨none :: rest, .rd v acc.length acc, p⟩ s → (∀ acc s, SlkAt D Z ok ⟨none :: rest, .rd v D.n acc, p⟩ s → K acc s) → RLoop (slkAcc D Z ok r sb says turn fin wg Pm) K k acc s
 | 0, acc, s, hi, hs, hK => by
  have hl : acc.length = D.n := by omega
  rw [hl] at hs
  exact hK acc s hs
 | k + 1, acc, s, hi, hs, hK => by
  refine ga_go (op := 1) (w := 1 + acc.length) (F := fun s => (s, ⟨none :: rest, .rd v (acc.length + 1) (acc ++ [s.ws acc.length]), p⟩)) rfl (by rw [hs.q]; exact if_pos (by omega)) hs.f hs.c (fun _ _ => trivial) fun s' n hn hok => ⟨by show 1 + acc.length < D.n + 1; omega, ?_⟩
  have hw : slkW D s' (1 + acc.length) = (show SlkS D.ζ from s').ws acc.length := slkW_succ
  show RLoop (slkAcc D Z ok r sb says turn fin wg Pm) K k (acc ++ [slkW D s' (1 + acc.length)]) _
  rw [hw]
  refine slk_rloop k (acc ++ [(show SlkS D.ζ from s').ws acc.length]) _ (by simp; omega) ⟨?_, fun j hj => rfl, rfl⟩ hK
  show (⟨none :: rest, .rd v (acc.length + 1) (acc ++ [(show SlkS D.ζ from s').ws acc.length]), p⟩ : SlkQ D.π) = _
  rw [List.length_append]; rfl
theorem slk_read {rest : List (Option Nat)} {p : D.π} {s : GaS (slkG D Z ok)} (hs : SlkAt D Z ok ⟨none :: rest, .idle, p⟩ s) :
  ReadT (slkAcc D Z ok r sb says turn fin wg Pm) D.n s fun o s' => ∃ p' s0, s'.q = (⟨rest, .idle, p'⟩ : SlkQ D.π) ∧ (∀ j, j < D.n + 1 → s'.f j = slkW D s'.s j) ∧ ok s0 ∧ s0.z = s'.c ∧ match o with
   | none => p' = p ∧ s'.c = (show SlkS D.ζ from s'.s).z
   | some y => ((show SlkS D.ζ from s'.s).z, p') = D.onR y.1 y.2 p s'.c := by
 refine ga_go (op := 1) (F := fun s => if s.ver % 2 = 0 then (s, ⟨none :: rest, .rd s.ver 0 [], p⟩) else (s, ⟨rest, .idle, p⟩)) rfl (by rw [hs.q]; rfl) hs.f hs.c (fun _ _ => trivial) fun s1 n1 hn1 hok1 => ⟨by show 0 < D.n + 1; omega, ?_⟩
 show if (show SlkS D.ζ from s1).ver % 2 = 0 then _ else _
 by_cases c : (show SlkS D.ζ from s1).ver % 2 = 0
 ·rw [if_pos c]
  simp only [if_pos c]
  refine slk_rloop D.n [] _ (by simp) ⟨rfl, fun j hj => rfl, rfl⟩ fun acc s3 h3 => ?_
  refine ga_go (op := 1) (w := 0) (F := fun s => if s.ver = (show SlkS D.ζ from s1).ver then ({ s with z := (D.onR acc (show SlkS D.ζ from s1).ver p s.z).1 }, ⟨rest, .idle, (D.onR acc (show SlkS D.ζ from s1).ver p s.z).2⟩) else (s, ⟨rest, .idle, p⟩)) rfl (by rw [h3.q]; exact if_neg (Nat.lt_irrefl _)) h3.f h3.c (fun _ _ => trivial) fun s4 n4 hn4 hok4 => ⟨by show 0 < D.n + 1; omega, ?_⟩
  show if (show SlkS D.ζ from s4).ver = (show SlkS D.ζ from s1).ver then _ else _
  by_cases e : (show SlkS D.ζ from s4).ver = (show SlkS D.ζ from s1).ver
  ·rw [if_pos e]
   simp only [if_pos e]
   exact ⟨_, s4, rfl, fun j hj => rfl, hok4, rfl, rfl⟩
  ·rw [if_neg e]
   simp only [if_neg e]
   exact ⟨p, s4, rfl, fun j hj => rfl, hok4, rfl, rfl, rfl⟩
 ·rw [if_neg c]
  simp only [if_neg c]
  exact ⟨p, s1, rfl, fun j hj => rfl, hok1, rfl, rfl, rfl⟩
end
end
end Go.Proofs.Ytodgemainhokjaa
