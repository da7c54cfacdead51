/-
  patchbaylaw04: what the row asks: OnceKnown is true of every input; the input reads as it did.
-/
import Derived.Test.YtcladnioicackaaOk2
import Derived.Test.YtcladnioicackaaChecked
import Derived.Eval
import Derived.Leaving
import Derived.Handed
import Derived.RowKit3
import Derived.Below
import Derived.Carry
import Derived.Conc.LeavingOf
import Derived.Conc.LoneSelect
import Derived.Deep.Slices
import Derived.ProofKit
import Derived.OpenShut
import Derived.Conc.HoldsTime
import Derived.Test.YtcladnioicackaaRows
set_option linter.unusedVariables false
set_option linter.unusedSimpArgs false
namespace Go.Proofs
open Go.PB
section
instance : Siz Try.prog 3 1 := ⟨by kernel_rfl⟩
instance : Byt Try.prog 3 8 := ⟨by kernel_rfl⟩
instance : Zer Try.prog 3 (.int .i64 (0)) := ⟨by kernel_rfl⟩
instance : Scal Try.prog 3 := ⟨by kernel_rfl⟩
instance : InT Try.prog 3 .i64 := ⟨by kernel_rfl⟩
instance : Siz Try.prog 9 1 := ⟨by kernel_rfl⟩
instance : Scal Try.prog 9 := ⟨by kernel_rfl⟩
instance : Scal Try.prog 21 := ⟨by kernel_rfl⟩
instance : Siz Try.prog 22 1 := ⟨by kernel_rfl⟩
instance : Zer Try.prog 22 (.int .u64 (0)) := ⟨by kernel_rfl⟩
instance : Scal Try.prog 22 := ⟨by kernel_rfl⟩
instance : Und Try.prog 22 (.int .u64) := ⟨by kernel_rfl⟩
instance : PtT Try.prog 25 68 := ⟨by kernel_rfl⟩
instance : Siz Try.prog 26 1 := ⟨by kernel_rfl⟩
instance : Scal Try.prog 26 := ⟨by kernel_rfl⟩
instance : Scal Try.prog 29 := ⟨by kernel_rfl⟩
instance : Und Try.prog 29 (.func #[3] #[3, 26] false) := ⟨by kernel_rfl⟩
instance : PtT Try.prog 58 64 := ⟨by kernel_rfl⟩
instance : Siz Try.prog 62 1 := ⟨by kernel_rfl⟩
instance : Byt Try.prog 62 8 := ⟨by kernel_rfl⟩
instance : Zer Try.prog 62 (.pointer none) := ⟨by kernel_rfl⟩
instance : Scal Try.prog 62 := ⟨by kernel_rfl⟩
instance : PtT Try.prog 62 145 := ⟨by kernel_rfl⟩
instance : StT Try.prog 64 #[(0, 1)] #[(.pointer none)] := ⟨by kernel_rfl, by kernel_rfl⟩
instance : Fld Try.prog 64 0 0 62 1 := ⟨by kernel_rfl⟩
instance : Siz Try.prog 66 1 := ⟨by kernel_rfl⟩
instance : Scal Try.prog 66 := ⟨by kernel_rfl⟩
instance : SlT Try.prog 66 62 := ⟨by kernel_rfl⟩
instance : StT Try.prog 68 #[(0, 1)] #[(.slice none 0 0)] := ⟨by kernel_rfl, by kernel_rfl⟩
instance : Fld Try.prog 68 0 0 66 1 := ⟨by kernel_rfl⟩
instance : SlT Try.prog 69 3 := ⟨by kernel_rfl⟩
instance : PtT Try.prog 71 149 := ⟨by kernel_rfl⟩
instance : Scal Try.prog 73 := ⟨by kernel_rfl⟩
instance : Und Try.prog 73 (.func #[] #[9, 26] false) := ⟨by kernel_rfl⟩
instance : Byt Try.prog 84 0 := ⟨by kernel_rfl⟩
instance : Und Try.prog 94 (.interface #[("Step", 199)]) := ⟨by kernel_rfl⟩
instance : Scal Try.prog 102 := ⟨by kernel_rfl⟩
instance : Und Try.prog 102 (.func #[] #[3, 26] false) := ⟨by kernel_rfl⟩
instance : StT Try.prog 119 #[(0, 1), (1, 1)] #[(.int .u8 (0)), (.int .i64 (0))] := ⟨by kernel_rfl, by kernel_rfl⟩
instance : Fld Try.prog 130 2 0 22 1 := ⟨by kernel_rfl⟩
instance : Fld Try.prog 134 1 0 132 1 := ⟨by kernel_rfl⟩
instance : Siz Try.prog 136 2 := ⟨by kernel_rfl⟩
instance : Fld Try.prog 136 0 0 21 1 := ⟨by kernel_rfl⟩
instance : Fld Try.prog 138 1 0 136 2 := ⟨by kernel_rfl⟩
instance : Fld Try.prog 140 1 0 134 1 := ⟨by kernel_rfl⟩
instance : Fld Try.prog 140 2 1 138 2 := ⟨by kernel_rfl⟩
instance : Scal Try.prog 141 := ⟨by kernel_rfl⟩
instance : Und Try.prog 141 (.chan .both 84) := ⟨by kernel_rfl⟩
instance : StT Try.prog 145 #[(0, 1), (1, 1), (2, 1), (3, 1), (4, 3), (7, 1), (8, 1), (9, 1)] #[(.int .i64 (0)), .nilFunc, (.int .u64 (0)), (.int .u64 (0)), (.int .u32 (0)), (.int .i32 (0)), (.int .u32 (0)), (.chan none), (.int .i64 (0)), (.int .i64 (0))] := ⟨by kernel_rfl, by kernel_rfl⟩
instance : Fld Try.prog 145 0 0 3 1 := ⟨by kernel_rfl⟩
instance : Fld Try.prog 145 1 1 102 1 := ⟨by kernel_rfl⟩
instance : Fld Try.prog 145 2 2 130 1 := ⟨by kernel_rfl⟩
instance : Fld Try.prog 145 3 3 130 1 := ⟨by kernel_rfl⟩
instance : Fld Try.prog 145 4 4 140 3 := ⟨by kernel_rfl⟩
instance : Fld Try.prog 145 5 7 141 1 := ⟨by kernel_rfl⟩
instance : Fld Try.prog 145 6 8 3 1 := ⟨by kernel_rfl⟩
instance : Fld Try.prog 145 7 9 26 1 := ⟨by kernel_rfl⟩
instance : Scal Try.prog 146 := ⟨by kernel_rfl⟩
instance : PtT Try.prog 146 151 := ⟨by kernel_rfl⟩
instance : StT Try.prog 149 #[(0, 1)] #[(.pointer none)] := ⟨by kernel_rfl, by kernel_rfl⟩
instance : Fld Try.prog 149 0 0 146 1 := ⟨by kernel_rfl⟩
instance : StT Try.prog 151 #[(0, 1), (1, 1), (2, 1), (3, 1), (4, 3), (7, 1), (8, 1), (9, 1)] #[(.int .i64 (0)), .nilFunc, (.int .u64 (0)), (.int .u64 (0)), (.int .u32 (0)), (.int .i32 (0)), (.int .u32 (0)), (.chan none), (.string .empty), (.int .i64 (0))] := ⟨by kernel_rfl, by kernel_rfl⟩
instance : Fld Try.prog 151 0 0 3 1 := ⟨by kernel_rfl⟩
instance : Fld Try.prog 151 1 1 73 1 := ⟨by kernel_rfl⟩
instance : Fld Try.prog 151 2 2 130 1 := ⟨by kernel_rfl⟩
instance : Fld Try.prog 151 3 3 130 1 := ⟨by kernel_rfl⟩
instance : Fld Try.prog 151 4 4 140 3 := ⟨by kernel_rfl⟩
instance : Fld Try.prog 151 5 7 141 1 := ⟨by kernel_rfl⟩
instance : Fld Try.prog 151 6 8 9 1 := ⟨by kernel_rfl⟩
instance : Fld Try.prog 151 7 9 26 1 := ⟨by kernel_rfl⟩
instance : Und Try.prog 186 .unsafePointer := ⟨by kernel_rfl⟩
instance : PtT Try.prog 221 136 := ⟨by kernel_rfl⟩
instance : Ent' Try.prog 6 := ⟨⟨Try.f6, Try.func6, by kernel_rfl, by kernel_rfl⟩⟩
instance : Ent' Try.prog 22 := ⟨⟨Try.f22, Try.func22, by kernel_rfl, by kernel_rfl⟩⟩
instance : Ent' Try.prog 23 := ⟨⟨Try.f23, Try.func23, by kernel_rfl, by kernel_rfl⟩⟩
instance : Ent' Try.prog 24 := ⟨⟨Try.f24, Try.func24, by kernel_rfl, by kernel_rfl⟩⟩
instance : Ent' Try.prog 25 := ⟨⟨Try.f25, Try.func25, by kernel_rfl, by kernel_rfl⟩⟩
instance : Ent' Try.prog 26 := ⟨⟨Try.f26, Try.func26, by kernel_rfl, by kernel_rfl⟩⟩
instance : Ent' Try.prog 27 := ⟨⟨Try.f27, Try.func27, by kernel_rfl, by kernel_rfl⟩⟩
instance : Ent' Try.prog 28 := ⟨⟨Try.f28, Try.func28, by kernel_rfl, by kernel_rfl⟩⟩
instance : Ent' Try.prog 29 := ⟨⟨Try.f29, Try.func29, by kernel_rfl, by kernel_rfl⟩⟩
instance : Ent' Try.prog 30 := ⟨⟨Try.f30, Try.func30, by kernel_rfl, by kernel_rfl⟩⟩
instance : Ent' Try.prog 31 := ⟨⟨Try.f31, Try.func31, by kernel_rfl, by kernel_rfl⟩⟩
instance : Ent' Try.prog 32 := ⟨⟨Try.f32, Try.func32, by kernel_rfl, by kernel_rfl⟩⟩
instance : Ent' Try.prog 45 := ⟨⟨Try.f45, Try.func45, by kernel_rfl, by kernel_rfl⟩⟩
instance : Ent' Try.prog 46 := ⟨⟨Try.f46, Try.func46, by kernel_rfl, by kernel_rfl⟩⟩
instance : Ent' Try.prog 53 := ⟨⟨Try.f53, Try.func53, by kernel_rfl, by kernel_rfl⟩⟩
instance : Ent' Try.prog 54 := ⟨⟨Try.f54, Try.func54, by kernel_rfl, by kernel_rfl⟩⟩
instance : Ent' Try.prog 55 := ⟨⟨Try.f55, Try.func55, by kernel_rfl, by kernel_rfl⟩⟩
instance : Ent' Try.prog 56 := ⟨⟨Try.f56, Try.func56, by kernel_rfl, by kernel_rfl⟩⟩
instance : Ent' Try.prog 57 := ⟨⟨Try.f57, Try.func57, by kernel_rfl, by kernel_rfl⟩⟩
instance : Ent' Try.prog 58 := ⟨⟨Try.f58, Try.func58, by kernel_rfl, by kernel_rfl⟩⟩
instance : Ent' Try.prog 67 := ⟨⟨Try.f67, Try.func67, by kernel_rfl, by kernel_rfl⟩⟩
instance : Ent' Try.prog 69 := ⟨⟨Try.f69, Try.func69, by kernel_rfl, by kernel_rfl⟩⟩
instance : Exn Try.prog 75 (Extern.Atomic.loadT (.int .u64)) := ⟨⟨Try.f75, Try.func75, by kernel_rfl, by kernel_rfl, by kernel_rfl, by kernel_rfl⟩⟩
instance : Ent' Try.prog 76 := ⟨⟨Try.f76, Try.func76, by kernel_rfl, by kernel_rfl⟩⟩
instance : Ent' Try.prog 77 := ⟨⟨Try.f77, Try.func77, by kernel_rfl, by kernel_rfl⟩⟩
instance : Ent' Try.prog 78 := ⟨⟨Try.f78, Try.func78, by kernel_rfl, by kernel_rfl⟩⟩
instance : Ent' Try.prog 79 := ⟨⟨Try.f79, Try.func79, by kernel_rfl, by kernel_rfl⟩⟩
instance : Ent' Try.prog 80 := ⟨⟨Try.f80, Try.func80, by kernel_rfl, by kernel_rfl⟩⟩
instance : Ent' Try.prog 81 := ⟨⟨Try.f81, Try.func81, by kernel_rfl, by kernel_rfl⟩⟩
instance : Exn Try.prog 84 (Extern.Race.marked .releaseMerge) := ⟨⟨Try.f84, Try.func84, by kernel_rfl, by kernel_rfl, by kernel_rfl, by kernel_rfl⟩⟩
instance : Exn Try.prog 85 (fun _ => (do mark .disable; pure Extern.Race.none_ : Sem Value)) := ⟨⟨Try.f85, Try.func85, by kernel_rfl, by kernel_rfl, by kernel_rfl, by kernel_rfl⟩⟩
instance : Exn Try.prog 86 (fun _ => (do mark .enable; pure Extern.Race.none_ : Sem Value)) := ⟨⟨Try.f86, Try.func86, by kernel_rfl, by kernel_rfl, by kernel_rfl, by kernel_rfl⟩⟩
instance : Ent' Try.prog 91 := ⟨⟨Try.f91, Try.func91, by kernel_rfl, by kernel_rfl⟩⟩
instance : Ent' Try.prog 93 := ⟨⟨Try.f93, Try.func93, by kernel_rfl, by kernel_rfl⟩⟩
instance : Exn Try.prog 96 (Extern.Race.marked .acquire) := ⟨⟨Try.f96, Try.func96, by kernel_rfl, by kernel_rfl, by kernel_rfl, by kernel_rfl⟩⟩
instance : Ent' Try.prog 98 := ⟨⟨Try.f98, Try.func98, by kernel_rfl, by kernel_rfl⟩⟩
instance : Ent' Try.prog 101 := ⟨⟨Try.f101, Try.func101, by kernel_rfl, by kernel_rfl⟩⟩
instance : Ent' Try.prog 102 := ⟨⟨Try.f102, Try.func102, by kernel_rfl, by kernel_rfl⟩⟩
instance : Ent' Try.prog 109 := ⟨⟨Try.f109, Try.func109, by kernel_rfl, by kernel_rfl⟩⟩
instance : Ent' Try.prog 110 := ⟨⟨Try.f110, Try.func110, by kernel_rfl, by kernel_rfl⟩⟩
instance : Exn Try.prog 113 (Extern.Atomic.update (Op.intArith .add) .u64 true) := ⟨⟨Try.f113, Try.func113, by kernel_rfl, by kernel_rfl, by kernel_rfl, by kernel_rfl⟩⟩
instance : Exn Try.prog 114 (Extern.Atomic.storeT) := ⟨⟨Try.f114, Try.func114, by kernel_rfl, by kernel_rfl, by kernel_rfl, by kernel_rfl⟩⟩
instance : Exn Try.prog 115 (Extern.Atomic.casT (.int .u64)) := ⟨⟨Try.f115, Try.func115, by kernel_rfl, by kernel_rfl, by kernel_rfl, by kernel_rfl⟩⟩
instance : Exn Try.prog 116 (Extern.Atomic.loadT (.int .u32)) := ⟨⟨Try.f116, Try.func116, by kernel_rfl, by kernel_rfl, by kernel_rfl, by kernel_rfl⟩⟩
instance : Ent' Try.prog 117 := ⟨⟨Try.f117, Try.func117, by kernel_rfl, by kernel_rfl⟩⟩
instance : Ent' Try.prog 118 := ⟨⟨Try.f118, Try.func118, by kernel_rfl, by kernel_rfl⟩⟩
instance : Ent' Try.prog 119 := ⟨⟨Try.f119, Try.func119, by kernel_rfl, by kernel_rfl⟩⟩
instance : Ent' Try.prog 122 := ⟨⟨Try.f122, Try.func122, by kernel_rfl, by kernel_rfl⟩⟩
instance : Ent' Try.prog 123 := ⟨⟨Try.f123, Try.func123, by kernel_rfl, by kernel_rfl⟩⟩
instance : Ent' Try.prog 124 := ⟨⟨Try.f124, Try.func124, by kernel_rfl, by kernel_rfl⟩⟩
instance : Ent' Try.prog 125 := ⟨⟨Try.f125, Try.func125, by kernel_rfl, by kernel_rfl⟩⟩
instance : Exn Try.prog 126 (Extern.Atomic.storeT) := ⟨⟨Try.f126, Try.func126, by kernel_rfl, by kernel_rfl, by kernel_rfl, by kernel_rfl⟩⟩
instance : Ent' Try.prog 127 := ⟨⟨Try.f127, Try.func127, by kernel_rfl, by kernel_rfl⟩⟩
instance : Exn Try.prog 129 (Extern.Atomic.casT (.int .i32)) := ⟨⟨Try.f129, Try.func129, by kernel_rfl, by kernel_rfl, by kernel_rfl, by kernel_rfl⟩⟩
instance : Exn Try.prog 131 (Extern.Atomic.update (Op.intArith .add) .i32 true) := ⟨⟨Try.f131, Try.func131, by kernel_rfl, by kernel_rfl, by kernel_rfl, by kernel_rfl⟩⟩
end
end Go.Proofs
namespace Go.Proofs.Ytcladnioicackaa
open Go Go.PB
attribute [local irreducible] Mo Bin Eql Tr Wo
section
structure Acc (B : Hand) (gv : Value) where
 S : Type
 C : S → HProp
 x : S → B.X
 step : Int → Nat → S → (S → Prop) → Prop
 addr : Nat → Nat × Nat
 load : Nat → S → (Nat → S → Prop) → Prop
 store : Nat → Nat → S → (S → Prop) → Prop
 cas : Nat → Nat → Nat → S → (Bool → S → Prop) → Prop
 add : Nat → Nat → S → (Nat → S → Prop) → Prop
 swap : Nat → Nat → S → (Nat → S → Prop) → Prop
 gate : (gv = .nilIface ∧ ∀ op w s R, step op w s R → R s) ∨
  ∃ t p f, gv = .iface t p ∧ Met Try.prog t "Step" f ∧ Ent' Try.prog f ∧ ∀ op w s R L F, step op w s R → Has L (C s) F →
   Tr Try.prog B f [p, .agg #[.int .u8 op, .int .i64 (w : Nat)]] L (x s) fun v L' x' => ∃ s', R s' ∧ v = .tuple #[] ∧ L' = C s' :: F ∧ x' = x s'
 load_ok : ∀ w s R L F b o, addr w = (b, o) → load w s R → Has L (C s) F → Tr Try.prog B 53 [.pointer (some ⟨b, o, none⟩)] L (x s) fun v L' x' => ∃ n s', n < 18446744073709551616 ∧ R n s' ∧ v = .int .u64 (n : Nat) ∧ L' = C s' :: F ∧ x' = x s'
 store_ok : ∀ w n s R L F b o, addr w = (b, o) → n < 18446744073709551616 → store w n s R → Has L (C s) F → Tr Try.prog B 93 [.pointer (some ⟨b, o, none⟩), .int .u64 (n : Nat)] L (x s) fun v L' x' => ∃ s', R s' ∧ v = .tuple #[] ∧ L' = C s' :: F ∧ x' = x s'
 cas_ok : ∀ w m n s R L F b o, addr w = (b, o) → n < 18446744073709551616 → cas w m n s R → Has L (C s) F → Tr Try.prog B 98 [.pointer (some ⟨b, o, none⟩), .int .u64 (m : Nat), .int .u64 (n : Nat)] L (x s) fun v L' x' => ∃ q s', R q s' ∧ v = .bool q ∧ L' = C s' :: F ∧ x' = x s'
 add_ok : ∀ w n s R L F b o, addr w = (b, o) → n < 18446744073709551616 → add w n s R → Has L (C s) F → Tr Try.prog B 91 [.pointer (some ⟨b, o, none⟩), .int .u64 (n : Nat)] L (x s) fun v L' x' => ∃ m s', m < 18446744073709551616 ∧ R m s' ∧ v = .int .u64 (m : Nat) ∧ L' = C s' :: F ∧ x' = x s'
section
variable {B : Hand} [Lets B] {L F L1 : List HProp}
theorem load_lone {b o : Nat} {n : Int} {x : B.X} (hr : Rd L b o (.int .u64 n)) : Tr Try.prog B 53 [.pointer (some ⟨b, o, none⟩)] L x fun v L' x' => v = .int .u64 n ∧ L' = L ∧ x' = x := by
 refine tr_of_body Try.func53 rfl Try.ntmps53 (by simp) fun um Q _ hQ => ?_
 simp only [argE, Nat.zero_add, Nat.reduceAdd]
 repeat (first | (apply wo_po; apply mo_ext (args := [_]); exact .cons rfl .nil; exact at_loadI hr; exact trivial) | refine we_seq ?_ | (refine wR ?_; try simp only [oS]) | refine wo_nil ?_ | refine wM ?_ | refine wA ?_ | refine wN ?_ | refine wD ?_ | refine we_ret ?_)
 (first | refine or1 Try.func53 Try.results53 hQ rfl ?_ | refine on1 Try.func53 Try.results53 hQ rfl ?_)
 exact ⟨rfl, rfl, rfl⟩
theorem store_lone {b o : Nat} {n : Int} {x : B.X} (hw : Wt L b o (.int .u64 n) L1) : Tr Try.prog B 93 [.pointer (some ⟨b, o, none⟩), .int .u64 n] L x fun v L' x' => v = .tuple #[] ∧ L' = L1 ∧ x' = x := by
 refine tr_of_body Try.func93 rfl Try.ntmps93 (by simp) fun um Q _ hQ => ?_
 simp only [argE, Nat.zero_add, Nat.reduceAdd]
 repeat (first | (apply wo_pm; apply mo_ext (args := [_, _]); exact .cons rfl (.cons rfl .nil); exact at_storeI rfl hw; exact trivial) | (refine wR ?_; try simp only [oS]) | refine wo_nil ?_ | refine wM ?_ | refine wN ?_ | refine wD ?_)
 (first | refine or0 Try.func93 Try.results93 hQ ?_ | refine on0 Try.func93 Try.results93 hQ ?_)
 exact ⟨rfl, rfl, rfl⟩
theorem cas_lone {b o : Nat} {n m y : Int} {x : B.X} (hr : Rd L b o (.int .u64 n)) (hw : Wt L b o (.int .u64 y) L1) : Tr Try.prog B 98 [.pointer (some ⟨b, o, none⟩), .int .u64 m, .int .u64 y] L x fun v L' x' => v = .bool (decide (n = m)) ∧ L' = (if n = m then L1 else L) ∧ x' = x := by
 refine tr_of_body Try.func98 rfl Try.ntmps98 (by simp) fun um Q _ hQ => ?_
 simp only [argE, Nat.zero_add, Nat.reduceAdd]
 repeat (first | (apply wo_pm; apply mo_ext (args := [_, _, _]); exact .cons rfl (.cons rfl (.cons rfl .nil)); exact at_casI hr hw; exact trivial) | refine we_seq ?_ | (refine wR ?_; try simp only [oS]) | refine wo_nil ?_ | refine wM ?_ | refine wA ?_ | refine wN ?_ | refine wD ?_ | refine we_ret ?_)
 (first | refine or1 Try.func98 Try.results98 hQ rfl ?_ | refine on1 Try.func98 Try.results98 hQ rfl ?_)
 exact ⟨rfl, rfl, rfl⟩
theorem add_lone {b o : Nat} {n y r : Int} {x : B.X} (hr : Rd L b o (.int .u64 n)) (hn : IntKind.u64.wrap (n + y) = r) (hw : Wt L b o (.int .u64 r) L1) : Tr Try.prog B 91 [.pointer (some ⟨b, o, none⟩), .int .u64 y] L x fun v L' x' => v = .int .u64 r ∧ L' = L1 ∧ x' = x := by
 refine tr_of_body Try.func91 rfl Try.ntmps91 (by simp) fun um Q _ hQ => ?_
 simp only [argE, Nat.zero_add, Nat.reduceAdd]
 repeat (first | (apply wo_pm; apply mo_ext (args := [_, _]); exact .cons rfl (.cons rfl .nil); exact at_addI hr hn hw; exact trivial) | refine we_seq ?_ | (refine wR ?_; try simp only [oS]) | refine wo_nil ?_ | refine wM ?_ | refine wA ?_ | refine wN ?_ | refine wD ?_ | refine we_ret ?_)
 (first | refine or1 Try.func91 Try.results91 hQ rfl ?_ | refine on1 Try.func91 Try.results91 hQ rfl ?_)
 exact ⟨rfl, rfl, rfl⟩
end
end
end Go.Proofs.Ytcladnioicackaa
namespace Go.PB
section
theorem star_upd {b o : Nat} {v v0 : Value} {c c' : HProp} {L : List HProp} {h : Hp} (hc : ∀ h, c h → h.own b o = some v0) (hu : ∀ h, c h → c' (h.set b o v)) (s : Star (c :: L) h) :
  (h.own b o).isSome = true ∧ Star (c' :: L) (h.set b o v) := by
 obtain ⟨h1, h2, s1, ha, hL⟩ := s
 have h1k := hc h1 ha
 have hown := s1.o1 _ _ _ h1k
 have h2k : h2.own b o = none := (s1.od b o).resolve_left (by rw [h1k]; simp)
 refine ⟨by rw [hown]; rfl, h1.set b o v, h2, ⟨s1.r1, s1.r2, ?_, ?_, ?_, s1.b1, s1.b2, s1.bd, s1.s1, s1.s2⟩, hu _ ha, hL⟩
 ·intro b' o' v' e
  simp only [Hp.set] at e ⊢
  split at e
  ·rename_i hh; simp [hh, e]
  ·rename_i hh; simp only [hh, if_false]; exact s1.o1 _ _ _ e
 ·intro b' o' v' e
  simp only [Hp.set]
  rw [if_neg (by rintro ⟨rfl, rfl⟩; rw [h2k] at e; cases e)]
  exact s1.o2 _ _ _ e
 ·intro b' o'
  simp only [Hp.set]
  split
  ·rename_i hh; obtain ⟨rfl, rfl⟩ := hh; exact .inr h2k
  ·exact s1.od _ _
theorem Wt.upd {b o : Nat} {v v0 : Value} {c c' : HProp} {L F : List HProp} (hh : Has L c F) (hc : ∀ h, c h → h.own b o = some v0) (hu : ∀ h, c h → c' (h.set b o v)) : Wt L b o v (c' :: F) :=
 fun h s => star_upd hc hu (hh.star s)
def wds (addr : Nat → Nat × Nat) (N : Nat) (K : List (Nat × Nat × Value)) (m : Nat → Nat) : HProp := fun h =>
 (∀ w, w < N → m w < 18446744073709551616 ∧ h.own (addr w).1 (addr w).2 = some (.int .u64 (m w : Nat))) ∧ ∀ k ∈ K, h.own k.1 k.2.1 = some k.2.2
def upd (m : Nat → Nat) (w n : Nat) : Nat → Nat := fun i => if i = w then n else m i
theorem upd_same {m : Nat → Nat} {w n : Nat} : upd m w n w = n := by simp [upd]
theorem upd_other {m : Nat → Nat} {w n i : Nat} (h : i ≠ w) : upd m w n i = m i := by simp [upd, h]
structure Apart (addr : Nat → Nat × Nat) (N : Nat) (K : List (Nat × Nat × Value)) : Prop where
 inj : ∀ i j, i < N → j < N → addr i = addr j → i = j
 fix : ∀ i, i < N → ∀ k ∈ K, addr i ≠ (k.1, k.2.1)
variable {addr : Nat → Nat × Nat} {N : Nat} {K : List (Nat × Nat × Value)} {m : Nat → Nat} {L F : List HProp} {b o w : Nat}
theorem rd_wds (hh : Has L (wds addr N K m) F) (hw : w < N) (ha : addr w = (b, o)) : Rd L b o (.int .u64 (m w : Nat)) :=
 Rd.of hh fun h s => by
  obtain ⟨h1, h2, s1, hc, _⟩ := s
  have := (hc.1 w hw).2
  rw [ha] at this
  exact ⟨rfl, .inl (s1.o1 _ _ _ this)⟩
theorem wt_wds (A : Apart addr N K) (hh : Has L (wds addr N K m) F) (hw : w < N) (ha : addr w = (b, o)) {n : Nat} (hn : n < 18446744073709551616) : Wt L b o (.int .u64 (n : Nat)) (wds addr N K (upd m w n) :: F) := by
 refine Wt.upd (v0 := .int .u64 (m w : Nat)) hh (fun h hc => ?_) (fun h hc => ⟨fun i hi => ?_, fun k hk => ?_⟩)
 ·have := (hc.1 w hw).2
  rwa [ha] at this
 ·by_cases e : i = w
  ·subst e
   rw [upd_same, ha]
   exact ⟨hn, by simp [Hp.set]⟩
  ·rw [upd_other e]
   refine ⟨(hc.1 i hi).1, ?_⟩
   have : ¬ ((addr i).1 = b ∧ (addr i).2 = o) := fun ⟨h1, h2⟩ => e (A.inj i w hi hw (by rw [ha, ← h1, ← h2]))
   simp only [Hp.set, if_neg this]
   exact (hc.1 i hi).2
 ·have : ¬ (k.1 = b ∧ k.2.1 = o) := fun ⟨h1, h2⟩ => A.fix w hw k hk (by rw [ha, ← h1, ← h2])
  simp only [Hp.set, if_neg this]
  exact hc.2 k hk
section
variable {P : Program} {B : Hand} {x : B.X}
theorem tr_pure {f : FuncId} {args : List Value} {R : Value → List HProp → B.X → Prop} {p : Prop} (h0 : ∀ h, Star L h → p) (t : p → Tr P B f args L x R) : Tr P B f args L x R :=
 fun h um Q hs q pn => t (h0 h hs) h um Q hs q pn
theorem tr_star {f : FuncId} {args : List Value} {R : Value → List HProp → B.X → Prop} (L' : List HProp) (s : ∀ h, Star L h → Star L' h) (t : Tr P B f args L' x R) : Tr P B f args L x R :=
 fun h um Q hs q pn => t h um Q (s h hs) q pn
theorem Tr.post {f : FuncId} {args : List Value} {R R' : Value → List HProp → B.X → Prop} (t : Tr P B f args L x R) (s : ∀ v L' x', R v L' x' → ∃ L'', R' v L'' x' ∧ ∀ h, Star L' h → Star L'' h) : Tr P B f args L x R' :=
 fun h um Q hs q pn => t h um Q hs (fun v L' x' h' r st => by
  obtain ⟨L'', r', s'⟩ := s v L' x' r
  exact q v L'' x' h' r' (s' h' st)) pn
end
theorem we_star {P : Program} {B : Hand} {kd : CallKind} {n : Nat} {K : Post B} {e : Env} {z : Z} {x : B.X} {c : Code} (L' : List HProp) (s : ∀ h, Star L h → Star L' h) (a : We P B kd n c K e z L' x) : We P B kd n c K e z L x := at_star L' s a
theorem we_pure {P : Program} {B : Hand} {kd : CallKind} {n : Nat} {K : Post B} {e : Env} {z : Z} {x : B.X} {c : Code} {p : Prop} (h0 : ∀ h, Star L h → p) (a : p → We P B kd n c K e z L x) : We P B kd n c K e z L x :=
 fun t h a1 a2 a3 => a (h0 h a3) t h a1 a2 a3
theorem wo_pure {P : Program} {B : Hand} {kd : CallKind} {n : Nat} {K : Post B} {e : Env} {z : Z} {x : B.X} {l : List OpG} {p : Prop} (h0 : ∀ h, Star L h → p) (a : p → Wo P B kd n l K e z L x) : Wo P B kd n l K e z L x :=
 fun ops idx h1 h2 t h a1 a2 a3 => a (h0 h a3) ops idx h1 h2 t h a1 a2 a3
theorem ap_know {P : Program} {B : Hand} {kd : CallKind} {n : Nat} {K : Post B} {e : Env} {z : Z} {x : B.X} {ops : Array Oper} {ord R : List Nat} {Pd : List Pn} {p : Prop} (h0 : ∀ h, Star L h → p) (k : p → Ap P B kd n ops ord R Pd K e z L x) : Ap P B kd n ops ord R Pd K e z L x :=
 fun a b c idx t h i s => k (h0 h s) a b c idx t h i s
theorem at_again {P : Program} {B : Hand} {kd : CallKind} {n : Nat} {K : Post B} {e e0 : Env} {z : Z} {x : B.X} {c : Code} {L' : List HProp} (w : We P B kd n c (inLp (Wl P B kd c K) K) e0 z L' x) (he : Sub e0 e) (hL : Ent L L') : At n e L fun t h => Wl P B kd c K t z h x :=
 at_sub e0 he (at_ent _ hL (wle_step w))
theorem vec_shape {sz : Nat} {v : Value} {cs : List Value} (hz : 0 < sz) : ∀ h, vec sz v cs h → ∃ a n c, v = .slice a n c ∧ cs.length = n * sz ∧ n ≤ c ∧ (a = none → n = 0) ∧ ∀ y, a = some y → y = ⟨y.block, y.off, none⟩ := by
 rintro h (⟨rfl, rfl⟩ | ⟨b, o, n, c, sp, rfl, h1, h2, h3, h4⟩)
 ·exact ⟨none, 0, 0, rfl, by simp, by omega, fun _ => rfl, fun y hy => by cases hy⟩
 ·exact ⟨_, n, c, rfl, h1, h2, fun hy => (by cases hy), fun y hy => by cases hy; rfl⟩
theorem rd_vec {sz b o n c i : Nat} {cs : List Value} {v : Value} (hh : Has L (vec sz (.slice (some ⟨b, o, none⟩) n c) cs) F) (hi : cs[i]? = some v) : Rd L b (o + i) v :=
 Rd.of hh fun h s => by
  obtain ⟨h1, h2, s1, hc, _⟩ := s
  rcases hc with ⟨e, _⟩ | ⟨b', o', n', c', sp, e, h3, h4, h5, h6⟩
  ·cases e
  ·cases e
   refine ⟨rfl, .inl (s1.o1 _ _ _ (h6 i v ?_))⟩
   rw [List.getElem?_append_left (List.getElem?_eq_some_iff.1 hi).1]; exact hi
theorem of_has {c : HProp} {p : Prop} (hh : Has L c F) (hc : ∀ h, c h → p) : ∀ h, Star L h → p := fun h s => by
 obtain ⟨h1, h2, s1, hx, _⟩ := hh.star s
 exact hc h1 hx
end
end Go.PB
namespace Go.Proofs.Ytcladnioicackaa
open Go Go.PB
attribute [local irreducible] Mo Bin Eql Tr Wo
section
variable {B : Hand} [Lets B]
def loneAcc (x : B.X) (addr : Nat → Nat × Nat) (N : Nat) (K : List (Nat × Nat × Value)) (A : Apart addr N K) : Acc B .nilIface where
 S := Nat → Nat
 C := wds addr N K
 x := fun _ => x
 step := fun _ _ s R => R s
 addr := addr
 load := fun w s R => w < N ∧ R (s w) s
 store := fun w n s R => w < N ∧ R (upd s w n)
 cas := fun w a n s R => w < N ∧ if s w = a then R true (upd s w n) else R false s
 add := fun w n s R => w < N ∧ R ((s w + n) % 18446744073709551616) (upd s w ((s w + n) % 18446744073709551616))
 swap := fun w n s R => w < N ∧ R (s w) (upd s w n)
 gate := .inl ⟨rfl, fun _ _ _ _ h => h⟩
 load_ok := fun w s R L F b o ha hl hh => tr_pure (of_has hh fun h hc => (hc.1 w hl.1).1) fun hs =>
  (load_lone (rd_wds hh hl.1 ha)).post fun v L' x' ⟨h1, h2, h3⟩ => ⟨_, ⟨s w, s, hs, hl.2, h1, rfl, h3⟩, fun h st => hh.star (h2 ▸ st)⟩
 store_ok := fun w n s R L F b o ha hn hl hh =>
  (store_lone (wt_wds A hh hl.1 ha hn)).mono fun v L' x' ⟨h1, h2, h3⟩ => ⟨upd s w n, hl.2, h1, h2, h3⟩
 cas_ok := fun w m n s R L F b o ha hn hl hh =>
  (cas_lone (rd_wds hh hl.1 ha) (wt_wds A hh hl.1 ha hn)).post fun v L' x' ⟨h1, h2, h3⟩ => by
   obtain ⟨h4, h5⟩ := hl
   by_cases e : s w = m
   ·rw [if_pos e] at h5; rw [if_pos (by omega)] at h2; exact ⟨_, ⟨true, _, h5, by rw [h1]; simp [e], rfl, h3⟩, fun h st => h2 ▸ st⟩
   ·rw [if_neg e] at h5; rw [if_neg (by omega)] at h2; exact ⟨_, ⟨false, _, h5, by rw [h1]; simp; omega, rfl, h3⟩, fun h st => hh.star (h2 ▸ st)⟩
 add_ok := fun w n s R L F b o ha hn hl hh =>
  (add_lone (r := ((s w + n) % 18446744073709551616 : Nat)) (rd_wds hh hl.1 ha) (by rw [wrap_u64_mod]; omega) (wt_wds A hh hl.1 ha (Nat.mod_lt _ (by decide)))).mono fun v L' x' ⟨h1, h2, h3⟩ => ⟨_, _, Nat.mod_lt _ (by decide), hl.2, h1, h2, h3⟩
end
end Go.Proofs.Ytcladnioicackaa
namespace Go.PB
open Go.Conc
def tries (cases : Array CommCase) (bl : Bool) (sh : CommShape) (h : Hp) (k : Value → Hp → Prop) : Prop :=
 ∃ (c : Nat) (v z : Value) (cap : Nat) (buf : Array Value) (s r : Nat) (tm : Bool), cases = #[scase c v z] ∧ bl = false ∧ sh = .select ∧ h.obj c = some (.chan cap buf false s r tm) ∧
  (buf.size < cap → k (.tuple #[goInt 0, .bool false]) (h.setObj c (.chan cap (buf.push v) false (s + 1) r tm))) ∧ (cap ≤ buf.size → k (.tuple #[goInt (-1), .bool false]) h)
def solo0 : Hand := ⟨Unit, fun _ => True, fun _ _ _ _ _ => False, fun cases bl sh h x k => tries cases bl sh h fun v h' => k v h' x, fun _ _ _ _ => False, fun _ _ _ => False, fun _ _ _ _ => False, fun _ _ _ => False⟩
instance : NoCut solo0 := ⟨fun _ _ _ h => h⟩
instance : Lets solo0 := ⟨trivial, fun _ => trivial⟩
def start (W : World) : Hp := ⟨fun _ _ => none, fun b o => W.cell? ⟨b, o, none⟩, fun _ => none, fun b => W.shape? b⟩
theorem fits_start (W : World) : Fits (start W) W where
 own := fun _ _ _ h => by cases h
 thaw := fun _ _ _ h => by cases h
 ro := fun _ _ _ h => h
 disj := fun _ _ _ h => by cases h
 obj := fun _ _ h => by cases h
 objn := fun _ _ h => by cases h
 shp := fun _ _ h => h
def After (W W' : World) : Prop := RowKit.Below W.heap.size W W' ∧ ∀ a, W'.frozen? a = W.frozen? a
theorem after_of {W W' : World} {h' : Hp} (g : Guar (start W) W W' h') : After W W' :=
 ⟨⟨g.os, g.tape, g.output, g.size, fun i hi => g.block i hi (fun _ => rfl) rfl⟩, g.frz⟩
def Ends (P : Program) (f : FuncId) (W : World) (R : Value → Hp → Prop) (fr : Frame) (cs : List Frame) (h : Hp) (w : World) : Prop :=
 Fits h w → Guar (start W) W w h → ∃ n fr' v w' w'' h' h'', runN P n (lone fr cs w) = .next (lone fr' [] w') ∧ step P (lone fr' [] w') = .ended (.done v) w'' ∧ Guar (start W) W w' h' ∧ Guar (start W) W w'' h'' ∧ R v h''
theorem stepG_bare_go {P : Program} {fr fr' : Frame} {cs cs' : List Frame} {w w' : World} {es : Array Event} (h : stepG P true (G fr cs) w = .go (G fr' cs') w' es) :
  step P (lone fr cs w) = .next (lone fr' cs' w') := by
 refine step_lone_go ?_
 unfold G at h
 rw [h]; rfl
theorem ends_closed {P : Program} {f : FuncId} {W : World} {R : Value → Hp → Prop} : Closed P solo0 true (fun fr cs h _ => ∀ w, Ends P f W R fr cs h w) where
 priv := by
  intro fr cs h x hs w fw gw
  obtain ⟨fr', cs', w', es, h', hstep, g, _, hk⟩ := hs w fw
  obtain ⟨n, fr2, v, w2, w3, h2, h3, e1, e2, e3, e4, e5⟩ := hk w' g.fits (gw.trans g)
  refine ⟨n + 1, fr2, v, w2, w3, h2, h3, ?_, e2, e3, e4, e5⟩
  have := stepG_bare_go hstep
  simp only [runN, this]
  exact e1
 act := fun _ _ _ _ _ _ _ h => h.elim
 comm := by
  rintro ⟨fn, tmps, todo, defers, mode, kind, roundOf⟩ cs h x o cases bl sh ⟨hm, hr, ops, i, r, k, htd, ho, hw⟩ hx ⟨c, v, z, cap, buf, s, rc, tm, rfl, rfl, rfl, hob, h1, h2⟩ w fw gw
  simp only at hm hr htd hw
  subst hm; subst hr; subst htd
  have hc := fw.obj c _ hob
  have hs := stepG_op (P := P) (main := true) (b := ⟨fn, kind⟩) (t := tmps) (d := defers) (l := r) (k := k) (cs := cs) (w := w) ho hw
  have he := eval_mkFr (b := ⟨fn, kind⟩) (t := tmps) (d := defers) (todo := .inRegion ops (i :: r) :: k)
  have hx' : (execOp (evT tmps) o).runT P w #[] = (.ok (.comm #[scase c v z] false .select) w, #[]) := by
   rw [← he]; exact hx w fw
  have hs2 : ∃ es, stepG P true (G (mkFr ⟨fn, kind⟩ tmps defers (.inRegion ops (i :: r) :: k)) cs) w = .comm (G (mkFr ⟨fn, kind⟩ tmps defers (.inRegion ops (i :: r) :: k)) cs) #[scase c v z] false .select w es :=
   ⟨_, by rw [hs]; simp only [stepG.apply, if_true, hx', GStep.after, mkFr]; rfl⟩
  obtain ⟨es, hs2⟩ := hs2
  by_cases hlt : buf.size < cap
  ·have g := Guar.setObj fw (by rw [hob]; rfl) (.chan cap (buf.push v) false (s + 1) rc tm) rfl
   obtain ⟨n, fr2, v2, w2, w3, h2', h3, e1, e2, e3, e4, e5⟩ := h1 hlt _ g.fits (gw.trans g)
   refine ⟨n + 1, fr2, v2, w2, w3, h2', h3, ?_, e2, e3, e4, e5⟩
   have hst : step P (lone { fn := fn, tmps := tmps, todo := .inRegion ops (i :: r) :: k, defers := defers, mode := .run, kind := kind, roundOf := none } cs w) = _ := step_lone_select_send_room hs2 hc hlt
   simp only [runN]
   rw [hst]
   exact e1
  ·obtain ⟨n, fr2, v2, w2, w3, h2', h3, e1, e2, e3, e4, e5⟩ := h2 (by omega) _ fw gw
   refine ⟨n + 1, fr2, v2, w2, w3, h2', h3, ?_, e2, e3, e4, e5⟩
   have hst : step P (lone { fn := fn, tmps := tmps, todo := .inRegion ops (i :: r) :: k, defers := defers, mode := .run, kind := kind, roundOf := none } cs w) = _ := step_lone_select_send_full hs2 hc (by omega)
   simp only [runN]
   rw [hst]
   exact e1
 spawn := fun _ _ _ _ _ _ _ _ h => h.elim
 ghost := fun _ _ _ _ h => h.elim
 late := fun _ _ _ _ _ _ _ _ _ _ h => h.elim
theorem end_alone {P : Program} {fr : Frame} {f : FuncId} {v : Value} {h : Hp} {w : World} (hi : P.inits.idxOf? f = none) (a : AtEnd P fr f .normal h (.ret v)) (fw : Fits h w) :
  ∃ w', step P (lone fr [] w) = .ended (.done v) w' ∧ Guar h w w' h := by
 obtain ⟨h1, h2, h3, h4, h5, fn, hf, hr⟩ := a
 rcases wpS_sound _ hr w #[] fw with ⟨v', w', es', h', e1, g, e2, rfl, rfl⟩ | ⟨_, _, _, _, _, _, _, hx⟩
 ·refine ⟨w', step_lone_ended ?_, g⟩
  simp only [Array.empty_append] at e1
  obtain ⟨f1, tmps, f3, f4, f5, f6, f7⟩ := fr
  simp only at h1 h2 h3 h4 h5
  subst h1; subst h2; subst h3; subst h4; subst h5
  have er : (results fn tmps).run P w = .ok v' w' := by rw [← Sem.runT_fst P _ w #[], e1]
  simp [stepG, unwind, hf, er, GStep.after, doReturn, hi, GStep.bare]
 ·exact hx.elim
theorem run_of_tr {P : Program} {f : FuncId} {args : List Value} {W : World} {R : Value → List HProp → Unit → Prop} (hi : P.inits.idxOf? f = none)
  (t : Tr P solo0 f args [base W] () R) :
  ∃ n fr v w' w'' h'', runN P n (lone (Frame.enter P f args.toArray .normal) [] W) = .next (lone fr [] w') ∧ step P (lone fr [] w') = .ended (.done v) w'' ∧ Guar (start W) W w'' h'' ∧ ∃ L', R v L' () ∧ Star L' h'' := by
 have hst : Star [base W] (start W) := ⟨start W, ⟨fun _ _ => none, fun _ _ => none, fun _ => none, fun _ => none⟩,
  ⟨fun _ _ _ e => e, fun _ _ _ e => (by cases e), fun _ _ _ e => e, fun _ _ _ e => (by cases e), fun _ _ => .inl rfl, fun _ _ e => e, fun _ _ e => (by cases e), fun _ => .inl rfl, fun _ _ e => e, fun _ _ e => (by cases e)⟩, fun _ _ _ e => e, trivial⟩
 have key := t (start W) .run (fun e _ h' _ => ∃ v, e = .ret v ∧ ∃ L', R v L' () ∧ Star L' h') hst (fun v L' x' h' r s => ⟨v, rfl, L', r, s⟩) (fun _ _ _ h => h.elim)
  true _ (ends_closed (f := f) (W := W) (R := fun v h => ∃ L', R v L' () ∧ Star L' h)) [] (fun h => by cases h) (by
   rintro fr e um' h' x' ha ⟨v, rfl, L', r, s⟩ w fw gw
   obtain ⟨w', e1, g⟩ := end_alone hi ha fw
   exact ⟨0, fr, v, w, w', h', h', rfl, e1, gw, gw.trans g, L', r, s⟩)
  W (fits_start W) (.refl (fits_start W))
 obtain ⟨n, fr, v, w', w'', h', h'', e1, e2, e3, e4, e5⟩ := key
 exact ⟨n, fr, v, w', w'', h'', e1, e2, e4, e5⟩
theorem good_of_tr {P : Program} {f : FuncId} {args : Array Value} {W : World} {Post : Value → World → Prop} {R : Value → List HProp → Unit → Prop} (hi : P.inits.idxOf? f = none)
  (t : Tr P solo0 f args.toList [base W] () R) (hR : ∀ v L' w', R v L' () → After W w' → Post v w') :
  ∃ M last o w' t', runNT P (M + 1) (solo (G (Frame.enter P f args .normal) []) W) #[] = (.ended o w', t') ∧ runN P M (solo (G (Frame.enter P f args .normal) []) W) = .next last ∧
    step P last = .ended o w' ∧ Conc.Good P Post last o w' t' := by
 obtain ⟨n, fr, v, w', w'', h'', e1, e2, e3, L', r, s⟩ := run_of_tr hi t
 have hend : runN P (n + 1) (lone (Frame.enter P f args .normal) [] W) = .ended (.done v) w'' := by
  rw [runN_add, e1]; simp only [runN, e2]
 have ht : (runNT P (n + 1) (lone (Frame.enter P f args .normal) [] W) #[]).1 = .ended (.done v) w'' := by rw [runNT_fst]; exact hend
 have ha := alone_of_lone (w' := w'') e1
 have hc := (clean_of_lone e1).2
 obtain ⟨a1, a2, a3⟩ := ha
 refine ⟨n, lone fr [] w', .done v, w'', (runNT P (n + 1) (lone (Frame.enter P f args .normal) [] W) #[]).2, Prod.ext ht rfl, e1, e2, v, rfl, hR v L' w'' r (after_of e3), ?_, ?_, onlyLeaving_of_quiet a1, ?_⟩
 ·exact fun said => (no_race_of_lone (said := said) P n _ _ e1 (by simp [lone]) rfl).2
 ·exact a2
 ·exact a3
end Go.PB
namespace Go.PB
open Go.ChangeShapes Go.WideShapes Go.ChangeAt Go.RowKit
structure Sh (α : Type) where
 n : Nat
 rel : World → List Value → α → Prop
section
variable {P : Program} {t e : TypeId} {α β : Type}
theorem all_stays (hl : laidOutB P = true) {H : Type} {enc : TypeId × Value → H} {W W' : World} {sp' : Nat → Bool} : ∀ {ts : List TypeId} {vs : List Value} {ds : List (DataW H)} {ps : List MemPlace}, (∀ t ∈ ts, P.readableRec t = true ∧ t < P.types.size) →
  DataW.TrodAll enc P W 0 (fun _ => true) true ts vs ds ps → (∀ p ∈ ps, W.sameAt W' p) → (∀ p ∈ ps, sp' p.block = true) → DataW.TrodAll enc P W' 0 sp' true ts vs ds ps := by
 intro ts
 induction ts with
 | nil => intro vs ds ps _ h _ _; cases vs <;> cases ds <;> simp_all [DataW.TrodAll]
 | cons t ts ih =>
  intro vs ds ps ht h h1 h2
  obtain ⟨v, vs', d, ds', p, q, rfl, rfl, rfl, h3, h4⟩ := trodAll_cons h
  exact ⟨p, q, WideElems.Trod_stays hl (ht t (by simp)).1 (ht t (by simp)).2 h3 (fun x hx => h1 x (by simp [hx])) (fun x hx => h2 x (by simp [hx])),
   ih (fun t' h' => ht t' (by simp [h'])) h4 (fun x hx => h1 x (by simp [hx])) (fun x hx => h2 x (by simp [hx])), rfl⟩
theorem all_length {H : Type} {enc : TypeId × Value → H} {W : World} {sp' : Nat → Bool} {hd : Bool} : ∀ {ts : List TypeId} {vs : List Value} {ds : List (DataW H)} {ps : List MemPlace}, DataW.TrodAll enc P W 0 sp' hd ts vs ds ps → ds.length = ts.length := by
 intro ts
 induction ts with
 | nil => intro vs ds ps h; cases vs <;> cases ds <;> simp_all [DataW.TrodAll]
 | cons t ts ih =>
  intro vs ds ps h
  obtain ⟨v, vs', d, ds', p, q, rfl, rfl, rfl, h3, h4⟩ := trodAll_cons h
  simp [ih h4]
theorem post_true {H : Type} {enc : TypeId × Value → H} {f : Func} {s : ChangeSpec} {bt : TypeId} (hl : laidOutB P = true) (hp : ∀ t ∈ f.params.toList, P.readableRec t = true ∧ t < P.types.size) (hr : f.resultTypes = #[bt]) (hb : P.underlying bt = some .bool)
  (hv : s.vars = []) (hs : ∀ ds : List (DataW H), ds.length = f.params.size → s.fn H ds = { results := [.lit (.bool true)], args := ds })
  {W W' : World} {args : Array Value} {ds gs : List (DataW H)} {before : List MemPlace} (hW : DataW.Whole enc P f.params.toList s.vars false W args.toList ds gs before) (ha : After W W') :
  s.post enc P f false true false false W args (.bool true) W' := by
 have hW' := hW
 obtain ⟨p, q, hA, hV, rfl, hfz, hnd⟩ := hW
 rw [hv] at hV
 obtain ⟨rfl, rfl⟩ := trodVars_none hV
 have hlen := all_length hA
 simp only [Array.length_toList] at hlen
 have hfn := hs (ds ++ []) (by simpa using hlen)
 have hlt : ∀ x ∈ p, x.block < W.heap.size := fun x hx => hW'.lt x (by simpa using hx)
 refine post_of_same (pa := p) (pv := []) hW' ?_ ?_ ?_ (by simp) (ha.1.frame _) ha.2 (ok_one hr rfl (okWide_bool_mk hb _))
 ·intro b sp hd
  rw [hfn, hr]
  exact trodAll_cons_mk (shut_bool hb _) trodAll_mk0
 ·intro sp hsp
  rw [hfn, List.append_nil]
  exact all_stays hl hp hA (fun x hx => ha.1.same (hlt x hx)) (fun x hx => hsp x (by simpa using hx))
 ·intro sp _
  rw [hfn, hv]
  exact rfl
end
end Go.PB
namespace Go.PB
end Go.PB
namespace Go.PB
inductive ResV (P : Program) (e : Env) (L : List HProp) : ResultVar → Value → Prop
 | tmp {i : Nat} {v : Value} : lk e i = some v → ResV P e L (.tmp i) v
 | cell {a ty n b o : Nat} {vs : List Value} [p : AggT P ty] [sz : Siz P ty n] : lk e a = some (.pointer (some ⟨b, o, none⟩)) → n = vs.length → Rds L b o vs → ResV P e L (.cell a ty) (.agg vs.toArray)
 | cell1 {a ty b o : Nat} {v : Value} [p : Scal P ty] : lk e a = some (.pointer (some ⟨b, o, none⟩)) → Rd L b o v → ResV P e L (.cell a ty) v
inductive ResL (P : Program) (e : Env) (L : List HProp) : List ResultVar → List Value → Prop
 | nil : ResL P e L [] []
 | cons {r : ResultVar} {v : Value} {rs : List ResultVar} {vs : List Value} : ResV P e L r v → ResL P e L rs vs → ResL P e L (r :: rs) (v :: vs)
def packR : List Value → Value
 | [a] => a
 | vs => .tuple vs.toArray
def loadR (t : Array Value) : ResultVar → Sem Value
 | .tmp i => pure (t.getD i undef)
 | .cell a ty => do loadVar ty (← asAddr (t.getD a undef))
variable {P : Program} {B : Hand} {kd : CallKind} {n : Nat} {e : Env} {L : List HProp} {x : B.X}
theorem ResV.load {r : ResultVar} {v : Value} {t : Array Value} {M : Mark → Prop} {h : Hp} {Q : Value → Hp → Prop} {X : Value → Hp → Prop} (rv : ResV P e L r v) (ag : Agree e t) (s : Star L h) (q : Q v h) :
  wpS P M (loadR t r) h Q X := by
 cases rv with
 | @tmp i v hi =>
  have : t.getD i undef = v := ag.ev (o := .tmp i) hi
  show Q (t.getD i undef) h
  rw [this]; exact q
 | @cell a ty n b o vs p sz ha hn hr =>
  have : t.getD a undef = _ := ag.ev (o := .tmp a) ha
  show wpS P M (Sem.bind (asAddr (t.getD a undef)) fun y => loadVar ty y) h Q X
  rw [this]
  show wpS P M (loadVar ty ⟨b, o, none⟩) h Q X
  show wpS P M (Sem.bind (isAgg ty) _) h _ X
  refine wpS_isAgg p.ok ?_
  rw [if_pos rfl]
  show wpS P M (Sem.bind (sizeOf ty) fun n => Sem.bind (loadCells ⟨b, o, none⟩ n) fun x => pure (Value.agg x)) h _ X
  exact wpS_sizeOf sz.ok (wpS_bind _ _ (wpS_loadCells hn (fun j v hv => hr j v hv h s) q))
 | @cell1 a ty b o v p ha hr =>
  have : t.getD a undef = _ := ag.ev (o := .tmp a) ha
  show wpS P M (Sem.bind (asAddr (t.getD a undef)) fun y => loadVar ty y) h Q X
  rw [this]
  show wpS P M (loadVar ty ⟨b, o, none⟩) h Q X
  show wpS P M (Sem.bind (isAgg ty) _) h _ X
  refine wpS_isAgg p.ok ?_
  exact wpS_load (hr h s) q
theorem at_leaveM {f : FuncId} {fn : Func} {rs : List ResultVar} {vs : List Value} {um : FrameMode} {Q : PB.End → FrameMode → Hp → B.X → Prop} {R : Value → List HProp → B.X → Prop} {ex : Ex} (hf : P.funcs[f]? = some fn) (hr : fn.results = rs.toArray)
  (q : ∀ v L' x' h', R v L' x' → Star L' h' → Q (.ret v) um h' x') (hex : ex = .ret ∨ ex = .normal) (hv : ResL P e L rs vs) (hR : R (packR vs) L x) :
  At n e L fun t h => leave P B f kd Q ex t ⟨[], um⟩ h x := by
 intro t h a1 a2 a3
 have hw : Wd P B f kd .returning t ⟨[], um⟩ h x Q := by
  refine wd_ret (packR vs) hf rfl ?_ (q _ L x h hR a3)
  have key : ∀ {rs : List ResultVar} {vs : List Value}, ResL P e L rs vs → ∀ (acc : Array Value) (M : Mark → Prop) (Q : Array Value → Hp → Prop) (X : Value → Hp → Prop), Q (acc ++ vs.toArray) h →
    wpS P M (List.foldlM (fun (bs : Array Value) (r : ResultVar) => bs.push <$> loadR t r) acc rs) h Q X := by
   intro rs vs hv
   induction hv with
   | nil => exact fun acc M Q X hq => (show Q acc h from by simpa using hq)
   | @cons r v rs vs h1 _ ih =>
    intro acc M Q X hq
    rw [List.foldlM_cons, map_eq_pure_bind]
    refine wpS_bind _ _ (wpS_bind _ _ (h1.load a2 a3 ?_))
    show wpS P M (List.foldlM _ (acc.push v) rs) h Q X
    refine ih (acc.push v) M Q X ?_
    simpa using hq
  unfold results
  rw [hr, Array.mapM_eq_foldlM, ← Array.foldlM_toList]
  refine wpS_bind _ _ ?_
  have e1 : (fun (bs : Array Value) (r : ResultVar) => (bs.push <$> (match r with | .tmp i => pure (t.getD i undef) | .cell a ty => do loadVar ty (← asAddr (t.getD a undef)) : Sem Value) : Sem (Array Value))) = fun bs r => bs.push <$> loadR t r := by
   funext bs r; cases r <;> rfl
  show wpS P _ (List.foldlM (fun (bs : Array Value) (r : ResultVar) => (bs.push <$> (match r with | .tmp i => pure (t.getD i undef) | .cell a ty => do loadVar ty (← asAddr (t.getD a undef)) : Sem Value) : Sem (Array Value))) #[] rs) h _ _
  rw [e1]
  refine key hv #[] _ _ _ ?_
  rw [show (#[] ++ vs.toArray : Array Value) = vs.toArray by simp]
  refine ⟨?_, rfl⟩
  cases vs with
  | nil => rfl
  | cons a l => cases l <;> rfl
 rcases hex with rfl | rfl
 ·exact hw
 ·exact hw
end Go.PB
namespace Go.PB
section
variable {L F : List HProp}
theorem ent_eq {L L' : List HProp} (h : L = L') : Ent L L' := h ▸ .refl
end
section
variable {P : Program} {e : Env} {L : List HProp} {ty : TypeId}
theorem mo_index1 {t el : Nat} {o i : Operand} {b c n cp : Nat} {k : IntKind} {j : Nat} [p : SlT P t el] [z : Siz P el 1] (hx : ev e o = some (.slice (some ⟨b, c, none⟩) n cp)) (hi : ev e i = some (.int k (j : Nat))) (h1 : j < n) : Mo P e (.indexAddr t o i) ty L fun v' L' => v' = .pointer (some ⟨b, c + j, none⟩) ∧ L' = L :=
 mo_indexAddr hx hi (by omega) (by omega) (by omega)
end
theorem ap_callR {P : Program} {B : Hand} {kd : CallKind} {n : Nat} {ops : Array Oper} {ord R : List Nat} {Pd : List Pn} {K : Post B} {e : Env} {z : Z} {L : List HProp} {x : B.X} [Lets B] {i : Nat} {Pd' : List Pn} {d : Option Nat} {fo : Operand} {args : List Operand} {tys : Array TypeId} {ty : TypeId} {pos : String} {aft : Array Edge} {gd : Option (Nat × Bool)} {fv : Value} {f : FuncId} {first cap vs : List Value} {Q : Value → List HProp → B.X → Prop} (ho : nth ops.toList i = some ⟨d, .call ⟨.value fo, args.toArray, tys⟩, ty, pos, aft, gd⟩)
  (hdom : (R.all fun j => (anc ops ops.size j).contains i) = true) (hpd' : pdKeep ops i Pd = Pd') (hg : gYes (resE (readsOf n ops i) e) (guardOf n ops ⟨d, .call ⟨.value fo, args.toArray, tys⟩, ty, pos, aft, gd⟩))
  (hf : ev (resE (readsOf n ops i) e) fo = some fv) (hc : callee? fv = some (f, first, cap)) (hargs : EvL (resE (readsOf n ops i) e) args vs) [en : Ent' P f] [pk : Pass K z] (m : Tr P B f (first ++ vs ++ cap) L x Q)
  (hre : ∀ v L' x', Q v L' x' → ∀ p ∈ Pd', p.st = true ∨ ∃ o, nth ops.toList p.i = some o ∧ gYes p.e (guardOf n ops o) ∧ Mo P p.e o.op o.type L' (fun v' L1 => v' = p.v ∧ L1 = L'))
  (k : ∀ v L' x', Q v L' x' → Ap P B kd n ops ord R Pd' K (setE d v e) z L' x') : Ap P B kd n ops ord (i :: R) Pd K e z L x := by
 subst hpd'
 have ho := nth_at ho
 refine ap_loud_gen ho hdom hg fun idx t h ht ha s hw kk => ?_
 refine wr_op ho hw ?_
 have hfv : evT t fo = fv := ha.ev hf
 have hav := hargs.evT ha
 have hex : execOp (evT t) ⟨d, .call ⟨.value fo, args.toArray, tys⟩, ty, pos, aft, gd⟩ = callFunc f (first ++ vs ++ cap).toArray := by
  show (do let d ← resolve (evT t) ⟨.value fo, args.toArray, tys⟩ ty; invoke d.target d.args : Sem Next) = _
  cases fv with
  | func fn fi ca =>
   cases fn with
   | func g =>
    simp only [callee?, Option.some.injEq, Prod.mk.injEq] at hc
    obtain ⟨rfl, rfl, rfl⟩ := hc
    simp only [resolve, hfv, Deferred.ofValue, List.map_toArray, hav]
    show callFunc g ((fi ++ vs.toArray) ++ ca) = _
    congr 1
    apply Array.ext'
    simp
   | _ => cases hc
  | _ => cases hc
 rw [hex]
 refine wpS_callFunc en.ok ?_
 refine m h .run _ s (fun v L' x' h' r s' => ⟨rfl, ?_⟩) (fun ch h' x' hc => ⟨rfl, pk.ok ch t h' x' hc⟩)
 exact kk v L' x' h' s' (fun p hp hk => by
  by_cases hs : p.st = true
  ·exact pd_still (Pd' := [p]) (by simp [hs]) p (by simp) hk
  ·rcases hre v L' x' r p hp with h | ⟨o, h1, h2, h3⟩
   ·exact absurd h hs
   ·exact ⟨o, nth_at h1, .inl ⟨h2, by rw [if_neg hs]; exact h3⟩⟩) (k v L' x' r)
section
variable {P : Program} {B : Hand} {kd : CallKind} {n : Nat} {K : Post B} {e : Env} {z : Z} {L F : List HProp} {x : B.X}
end
end Go.PB
namespace Go.PB
section
variable {P : Program} {B : Hand} {kd : CallKind} {n : Nat} {ops : Array Oper} {ord R : List Nat} {Pd : List Pn} {K : Post B} {e : Env} {z : Z} {L : List HProp} {x : B.X}
variable (P B kd n) in
end
end Go.PB
namespace Go.PB
variable {P : Program} {B : Hand} {kd : CallKind} {n : Nat} {K : Post B} {e : Env} {z : Z} {L : List HProp} {x : B.X}
end Go.PB
namespace Go.PB
section
variable {P : Program} {L : List HProp} {b o : Nat} {p q : Option Addr}
open Extern.Atomic
end
def shpC (b : Nat) (t : TypeId) (n : Nat) : HProp := fun h => h.shp b = some (t, n)
theorem star_newS {b : Nat} {c : Array Value} {L : List HProp} {h : Hp} {t : TypeId} (f : h.fresh b) (s : Star L h) : Star (arr b 0 c.toList :: shpC b t c.size :: L) (h.newCells b c t) := by
 refine ⟨⟨fun b' o' => if b' = b then c[o']? else none, fun _ _ => none, fun _ => none, fun _ => none⟩, { h with shp := fun b' => if b' = b then some (t, c.size) else h.shp b' },
  ⟨fun _ _ _ e => by simp at e, fun _ _ _ e => e, ?_, ?_, ?_, fun _ _ e => by simp at e, fun _ _ e => e, fun _ => .inl rfl, fun _ _ e => by simp at e, fun _ _ e => e⟩, ?_,
  ⟨fun _ _ => none, fun _ _ => none, fun _ => none, fun b' => if b' = b then some (t, c.size) else none⟩, h, ⟨fun _ _ _ e => by simp at e, fun _ _ _ e => e, fun _ _ _ e => by simp at e, fun _ _ _ e => e, fun _ _ => .inl rfl, fun _ _ e => by simp at e, fun _ _ e => e, fun _ => .inl rfl, ?_, ?_⟩, by simp [shpC], s⟩
 ·intro b' o' v e
  simp only [Hp.newCells] at e ⊢
  split at e
  ·rename_i hh; simp [hh, e]
  ·cases e
 ·intro b' o' v e
  simp only [Hp.newCells]
  rw [if_neg (by rintro rfl; simp only at e; rw [f.1] at e; cases e)]
  exact e
 ·intro b' o'
  by_cases hb : b' = b
  ·subst hb; exact .inr (f.1 o')
  ·left; simp [hb]
 ·intro i v e
  simp only [Nat.zero_add, if_true]
  simpa using e
 ·intro b' y e
  simp only at e ⊢
  split at e
  ·rename_i hh; simp [hh, e]
  ·cases e
 ·intro b' y e
  simp only
  rw [if_neg (by rintro rfl; rw [f.2.2.2] at e; cases e)]
  exact e
theorem shp_of {b : Nat} {t : TypeId} {n : Nat} {L F : List HProp} (hh : Has L (shpC b t n) F) {h : Hp} (s : Star L h) : h.shp b = some (t, n) := by
 obtain ⟨h1, h2, s1, hc, _⟩ := hh.star s
 exact s1.s1 _ _ hc
section
variable {P : Program} {e : Env} {L : List HProp} {ty : TypeId}
theorem mo_boxS {t : TypeId} {o : Operand} {v : Value} (hx : ev e o = some v) : Mo P e (.box t o) ty L fun v' L' => ∃ b, v' = .pointer (some ⟨b, 0, none⟩) ∧ L' = arr b 0 v.cells.toList :: shpC b t v.cells.size :: L := by
 intro M _ _ tt h Q X ag s q
 show wpS P M (Sem.bind (Sem.bind (newVar t (evT tt o)) fun a => pure (.pointer (some a))) fun v => pure (.value v)) h Q X
 rw [ag.ev hx]
 refine wpS_bind _ _ (wpS_bind _ _ fun b hf => ?_)
 exact q _ _ _ _ (.inl rfl) ⟨b, rfl, rfl⟩ (star_newS hf s)
theorem wpS_shapeK {M : Mark → Prop} {α : Type} {b n : Nat} {t : TypeId} {h : Hp} {k : Option (TypeId × Nat) → Sem α} {Q : α → Hp → Prop} {X : Value → Hp → Prop} (hs : h.shp b = some (t, n)) (q : wpS P M (k (some (t, n))) h Q X) : wpS P M (Sem.bind (shape b) k) h Q X := by
 show wpS P M (.shape b fun s => k s) h Q X
 refine ⟨.inr (by rw [hs]; rfl), fun t' n' _ hy => ?_⟩
 have := hy _ hs
 cases this
 exact q
theorem wpS_seen {M : Mark → Prop} {α : Type} {b o n : Nat} {t : TypeId} {h : Hp} {k : Addr → Sem α} {Q : α → Hp → Prop} {X : Value → Hp → Prop} (hs : h.shp b = some (t, n)) (q : wpS P M (k ⟨b, o, none⟩) h Q X) : wpS P M (Sem.bind (Conv.seenAt ⟨b, o, none⟩) k) h Q X := by
 refine wpS_bind _ _ ?_
 unfold Conv.seenAt
 refine wpS_bind _ _ ?_
 unfold viewAt
 exact wpS_shapeK hs q
end
end Go.PB
namespace Go.PB
open Go.Conc
section
class Chans (B : Hand) : Prop where
 mono : ∀ cases bl sh h x (k k' : Value → Hp → B.X → Prop), (∀ v h x, k v h x → k' v h x) → B.comm cases bl sh h x k → B.comm cases bl sh h x k'
 try_ : ∀ (c : Nat) (v z : Value) (cap : Nat) (buf : Array Value) (s r : Nat) (tm : Bool) (h : Hp) (x : B.X) (k : Value → Hp → B.X → Prop), h.obj c = some (.chan cap buf false s r tm) →
  (buf.size < cap → k (.tuple #[goInt 0, .bool false]) (h.setObj c (.chan cap (buf.push v) false (s + 1) r tm)) x) → (cap ≤ buf.size → k (.tuple #[goInt (-1), .bool false]) h x) → B.comm #[scase c v z] false .select h x k
section
variable {P : Program} {B : Hand} {kd : CallKind}
abbrev chC (c cap : Nat) (buf : Array Value) (s r : Nat) : HProp := ob c (.chan cap buf false s r false)
variable {n : Nat} {e : Env} {z : Z} {L F : List HProp} {x : B.X} {K : Post B} {ty : TypeId}
theorem mo_makeChan {t el by_ m : Nat} {dr : ChanDir} {o : Operand} {k : IntKind} [p : Und P t (.chan dr el)] [b : Byt P el by_] (hx : ev e o = some (.int k (m : Nat))) (hm : m ≤ 1048576) (hb : by_ ≤ 1048576) : Mo P e (.makeChan t o) ty L fun v' L' => ∃ c, v' = .chan (some c) ∧ L' = chC c m #[] 0 0 :: L := by
 intro M hM _ tt h Q X ag st q
 show wpS P M (Sem.bind (Instr.makeChan t (evT tt o)) fun v => pure (.value v)) h Q X
 rw [ag.ev hx]
 refine wpS_bind _ _ ?_
 unfold Instr.makeChan
 simp only [asInt, asIntOf, pure_bind, bind_assoc]
 refine wpS_underlying p.ok ?_
 refine wpS_bytes b.ok fun i hi => ?_
 have hmul : by_ * m ≤ 1048576 * 1048576 := Nat.mul_le_mul hb hm
 obtain ⟨q', hq'⟩ : ∃ q, by_ * m = q := ⟨_, rfl⟩
 rw [hi, if_neg (by
  rw [← Int.natCast_mul, hq']
  rw [hq'] at hmul
  have hmax : IntKind.i64.max = 9223372036854775807 := rfl
  omega)]
 simp only [pure_bind, Int.toNat_natCast]
 intro c hf
 exact q _ _ _ _ (.inl rfl) ⟨c, rfl, rfl⟩ (star_newObj hf st)
end
end
end Go.PB
namespace Go.PB
open Go
section
class AllM (B : Hand) : Prop where
 ok : ∀ m, B.mark m
instance : AllM solo0 := ⟨fun _ => trivial⟩
section
variable {P : Program} {B : Hand} {kd : CallKind} {n : Nat} {e : Env} {L L' : List HProp}
variable (P B) in
def TrD (f : FuncId) (args : List Value) (L : List HProp) (x : B.X) (L' : List HProp) : Prop :=
 ∀ h (Q : PB.End → FrameMode → Hp → B.X → Prop), Star L h → (∀ v h', Star L' h' → Q (.ret v) .returning h' x) → Wf P B f .deferred args.toArray .returning h x Q
theorem trd_of_body {f : FuncId} {fn : Func} {c : Code} {args : List Value} {nt : Nat} {x : B.X} [NoCut B] (hf : P.funcs[f]? = some fn) (hb : fn.body = some c) (hnt : fn.ntmps = nt) (hn : (args.length ≤ nt) = True)
  (w : ∀ (Q : PB.End → FrameMode → Hp → B.X → Prop) (_ : Pass (leave P B f .deferred Q) ⟨[], .returning⟩), (∀ v h', Star L' h' → Q (.ret v) .returning h' x) → We P B .deferred nt c (leave P B f .deferred Q) (argE 0 args) ⟨[], .returning⟩ L x) : TrD P B f args L x L' :=
 fun h Q hs q => wf_of_argE hf hb hnt (by rw [hn]; trivial) hs (w Q Pass.of_no q)
theorem at_retD {f : FuncId} {fn : Func} {Q : PB.End → FrameMode → Hp → B.X → Prop} {ex : Ex} {x : B.X} (hf : P.funcs[f]? = some fn) (hr : fn.results = #[])
  (hQ : ∀ v h', Star L' h' → Q (.ret v) .returning h' x) (hex : ex = .ret ∨ ex = .normal) (hL : ∀ h, Star L h → Star L' h) : At n e L fun t h => leave P B f kd Q ex t ⟨[], .returning⟩ h x :=
 at_ret0 (R := fun v L1 x1 => (∀ h, Star L1 h → Star L' h) ∧ x1 = x) hf hr (fun v L1 x1 h' r s => by obtain ⟨r1, rfl⟩ := r; exact hQ v h' (r1 _ s)) hex ⟨hL, rfl⟩
theorem at_dfr {f g : FuncId} {um : FrameMode} {Q : PB.End → FrameMode → Hp → B.X → Prop} {ex : Ex} {cap args : Array Value} {ds : List Deferred} {x : B.X} [en : Ent' P g] (hex : ex = .ret ∨ ex = .normal)
  (w : TrD P B g (args ++ cap).toList L x L')
  (k : At n e L' fun t h => leave P B f kd Q .ret t ⟨ds, um⟩ h x) : At n e L fun t h => leave P B f kd Q ex t ⟨{ target := .fn (.func g) cap, args := args } :: ds, um⟩ h x := by
 intro t h a1 a2 a3
 have key : Wd P B f kd .returning t ⟨{ target := .fn (.func g) cap, args := args } :: ds, um⟩ h x Q := by
  refine wd_cons (by simp) rfl en.ok ?_
  have := w h (fun en um1 h1 x1 => match en with
   | .ret _ => Wd P B f kd (settled um1) t { (⟨{ target := .fn (.func g) cap, args := args } :: ds, um⟩ : Z) with d := ds } h1 x1 Q
   | .pan chain => Wd P B f kd (raised chain um1) t { (⟨{ target := .fn (.func g) cap, args := args } :: ds, um⟩ : Z) with d := ds } h1 x1 Q) a3 fun v h' s => k t h' a1 a2 s
  rw [Array.toArray_toList] at this
  exact this
 rcases hex with rfl | rfl
 ·exact key
 ·exact key
variable {z : Z} {L1 : List HProp} {x : B.X} {K : Post B} {l : List OpG} {d : Option Nat} {ty : TypeId} {tys : Array TypeId} {g : Option (Nat × Bool)}
theorem wo_dfr {fo : Operand} {fn : Fn} {first cap : List Value} {args : List Operand} {vs : List Value} (hf : ev e fo = some (.func fn first.toArray cap.toArray)) (ha : EvL e args vs) (hg : gYes e g)
  (k : Wo P B kd n l K (setE d undef e) { z with d := { target := .fn fn cap.toArray, args := (first ++ vs).toArray } :: z.d } L x) :
  Wo P B kd n (⟨d, .defer ⟨.value fo, args.toArray, tys⟩, ty, g⟩ :: l) K e z L x := by
 intro ops idx h1 h2 t h a1 a2 a3
 obtain ⟨i, idx', oo, rfl, h3, h4, h5, h6, h7, h8⟩ := map_head h1
 refine wr_op h4 (wanted_yes a1 a2 h8 hg) ?_
 rw [execOp_of _ h6 h7]
 show wpS P B.mark (Sem.bind (resolve (evT t) ⟨.value fo, args.toArray, tys⟩ ty) fun d => pure (Next.defer d)) h _ _
 have hr : resolve (evT t) ⟨.value fo, args.toArray, tys⟩ ty = pure { target := .fn fn cap.toArray, args := (first ++ vs).toArray } := by
  simp only [resolve, a2.ev hf, Deferred.ofValue, List.map_toArray, ha.evT a2]
  simp
 rw [hr]
 exact k ops idx' h3 (dOk_tail h2) _ h ((setDst_size oo t _).trans a1) (a2.setE h5 (by rw [a1]; exact dOk_head h2) _) a3
theorem mo_close {c cap s r : Nat} {buf : Array Value} {tm : Bool} {o : Operand} {t : TypeId} {F : List HProp} (hx : ev e o = some (.chan (some c))) (hh : Has L (ob c (.chan cap buf false s r tm)) F) :
  Mo P e (.call ⟨.builtin .close, #[o], #[t]⟩) ty L fun v' L' => v' = .tuple #[] ∧ L' = ob c (.chan cap buf true s r tm) :: F := by
 intro M _ _ tt h Q X ag st q
 show wpS P M (Sem.bind (Builtin.close_ #[t] ty (#[o].map (evT tt))) fun v => pure (.value v)) h Q X
 rw [show #[o].map (evT tt) = #[evT tt o] by simp, ag.ev hx]
 obtain ⟨h1, h2⟩ := star_setObj (o' := .chan cap buf true s r tm) (hh.star st)
 refine wpS_bind _ _ ?_
 refine ⟨_, h1, ?_⟩
 exact ⟨by rw [h1]; rfl, rfl, q _ _ _ _ (.inl rfl) ⟨rfl, rfl⟩ h2⟩
theorem wo_ext [AllM B] {f : Nat} {en : Array Value → Sem Value} [xn : Exn P f en] {args : List Operand} {vs : List Value} {R : Value → List HProp → Prop} (ha : EvL e args vs)
  (hw : ∀ (M : Mark → Prop) h (Q : Value → Hp → Prop) X, (∀ m, M m) → Star L h → (∀ v L' h', R v L' → Star L' h' → Q v h') → wpS P M (en vs.toArray) h Q X) (hg : gYes e g)
  (k : ∀ v L', R v L' → Wo P B kd n l K (setE d v e) z L' x) : Wo P B kd n (⟨d, .call ⟨.value (.func f), args.toArray, tys⟩, ty, g⟩ :: l) K e z L x := by
 intro ops idx h1 h2 t h a1 a2 a3
 obtain ⟨i, idx', oo, rfl, h3, h4, h5, h6, h7, h8⟩ := map_head h1
 refine wr_op h4 (wanted_yes a1 a2 h8 hg) ?_
 rw [execOp_of _ h6 h7]
 have hargs := ha.evT a2
 have hex : execOp (evT t) (opOf (.call ⟨.value (.func f), args.toArray, tys⟩) ty) = callFunc f vs.toArray := by
  show callFunc f ((#[] ++ args.toArray.map (evT t)) ++ #[]) = _
  rw [List.map_toArray, hargs]; simp
 rw [hex]
 refine callFunc_ext (AllM.ok _) (hw B.mark h _ _ AllM.ok a3 fun v L' h' r s' => ?_)
 exact k v L' r ops idx' h3 (dOk_tail h2) _ h' ((setDst_size oo t v).trans a1) (a2.setE h5 (by rw [a1]; exact dOk_head h2) v) s'
theorem wo_mk0 [AllM B] {f : Nat} {m : Mark} [xn : Exn P f (fun _ => (do mark m; pure Extern.Race.none_ : Sem Value))] (hg : gYes e g)
  (k : Wo P B kd n l K (setE d (.tuple #[]) e) z L x) : Wo P B kd n (⟨d, .call ⟨.value (.func f), #[], tys⟩, ty, g⟩ :: l) K e z L x :=
 wo_ext (en := fun _ => (do mark m; pure Extern.Race.none_ : Sem Value)) (args := []) (vs := []) (R := fun v L' => v = .tuple #[] ∧ L' = L) .nil (fun M h Q X hM st q => (show M m ∧ Q Extern.Race.none_ h from ⟨hM _, q _ _ _ ⟨rfl, rfl⟩ st⟩)) hg (by rintro v L' ⟨rfl, rfl⟩; exact k)
theorem wo_mk1 [AllM B] {f : Nat} {m : Addr → Mark} [xn : Exn P f (Extern.Race.marked m)] {o : Operand} {a : Addr} (ho : ev e o = some (.pointer (some a))) (hg : gYes e g)
  (k : Wo P B kd n l K (setE d (.tuple #[]) e) z L x) : Wo P B kd n (⟨d, .call ⟨.value (.func f), #[o], tys⟩, ty, g⟩ :: l) K e z L x :=
 wo_ext (en := Extern.Race.marked m) (args := [o]) (vs := [.pointer (some a)]) (R := fun v L' => v = .tuple #[] ∧ L' = L) (.cons ho .nil) (fun M h Q X hM st q => (show M (m a) ∧ Q Extern.Race.none_ h from ⟨hM _, q _ _ _ ⟨rfl, rfl⟩ st⟩)) hg (by rintro v L' ⟨rfl, rfl⟩; exact k)
theorem mo_convPUd {src dst u : TypeId} {sz : Nat} {o : Operand} {b c m : Nat} {t ty : TypeId} [ps : PtT P src u] [pd : Und P dst .unsafePointer] [z : Siz P u sz] (hx : ev e o = some (.pointer (some ⟨b, c, none⟩))) (hs : ∀ h, Star L h → h.shp b = some (t, m)) (hm : c < m) (hz : sz ≠ 0) :
  Mo P e (.convert src dst o) ty L fun v' L' => v' = .pointer (some ⟨b, c, none⟩) ∧ L' = L := by
 intro M _ _ tt h Q X ag s q
 show wpS P M (Sem.bind (convert src dst (evT tt o)) fun v => pure (.value v)) h Q X
 rw [ag.ev hx]
 have hh := hs h s
 refine wpS_bind _ _ (wpS_underlying ps.ok (wpS_underlying pd.ok ?_))
 refine wpS_underlying ps.ok (wpS_underlying pd.ok (wpS_seen hh ?_))
 refine wpS_bind _ _ ?_
 unfold cellsIn
 refine wpS_shapeK hh ?_
 refine wpS_sizeOf z.ok ?_
 have e1 : (decide (sz = 0) || (decide (c ≥ m) && true)) = false := by simp [hz]; omega
 show wpS P M (if (decide (sz = 0) || (decide (c ≥ m) && true)) = true then _ else _) h _ X
 rw [if_neg (by rw [e1]; decide)]
 exact q _ L h _ (.inl rfl) ⟨rfl, rfl⟩ s
theorem at_casT {k : IntKind} {b o : Nat} {n y : Int} {L1 : List HProp} (hr : Rd L b o (.int k n)) (hw : Wt L b o (.int k y) L1) (M : Mark → Prop) (h : Hp) (Q : Value → Hp → Prop) (X : Value → Hp → Prop) (s : Star L h) (q : ∀ v L' h', (v = .bool true ∧ L' = L1) → Star L' h' → Q v h') :
  wpS P M (Extern.Atomic.casT (.int k) [Value.pointer (some ⟨b, o, none⟩), .int k n, .int k y].toArray) h Q X :=
 at_casI hr hw M h Q X s fun v L' h' ⟨e1, e2⟩ s' => q v L' h' ⟨by simpa using e1, by simpa using e2⟩ s'
end
end
end Go.PB
namespace Go.Proofs.Ytcladnioicackaa
open Go Go.PB
attribute [local irreducible] Mo Bin Eql Tr Wo TrD
section
section
variable {B : Hand} [Lets B] {L L1 F : List HProp} {x : B.X} {r : Nat}
theorem bload0_tr (hr : Rd L r 4 (.int .u32 0)) : Tr Try.prog B 101 [.pointer (some ⟨r, 4, none⟩)] L x fun v L' x' => v = .bool false ∧ L' = L ∧ x' = x := by
 refine tr_of_body Try.func101 rfl Try.ntmps101 (by simp) fun um Q _ hQ => ?_
 simp only [argE, Nat.zero_add, Nat.reduceAdd]
 repeat (first | (apply wo_po; apply mo_ext (args := [_]); exact .cons rfl .nil; exact at_loadI hr; exact trivial) | refine wneqF ?_ | refine we_seq ?_ | (refine wR ?_; try simp only [oS]) | refine wo_nil ?_ | refine wM ?_ | refine wA ?_ | refine wN ?_ | refine wD ?_ | refine we_ret ?_)
 (first | refine or1 Try.func101 Try.results101 hQ rfl ?_ | refine on1 Try.func101 Try.results101 hQ rfl ?_)
 exact ⟨rfl, rfl, rfl⟩
theorem b32_tr : Tr Try.prog B 127 [.bool true] L x fun v L' x' => v = .int .u32 1 ∧ L' = L ∧ x' = x := by
 refine tr_of_body Try.func127 rfl Try.ntmps127 (by simp) fun um Q _ hQ => ?_
 simp only [argE, Nat.zero_add, Nat.reduceAdd]
 repeat (first | refine we_seq ?_ | (refine wR ?_; try simp only [oS]) | refine wo_nil ?_ | refine wM ?_ | refine wA ?_ | refine wT ?_ | refine we_ret ?_)
 (first | refine or1 Try.func127 Try.results127 hQ rfl ?_ | refine on1 Try.func127 Try.results127 hQ rfl ?_)
 exact ⟨rfl, rfl, rfl⟩
theorem bstore_trd [NoCut B] (hw : Wt L r 4 (.int .u32 1) L1) : TrD Try.prog B 119 [.pointer (some ⟨r, 4, none⟩), .bool true] L x L1 := by
 refine trd_of_body Try.func119 rfl Try.ntmps119 (by simp) fun Q _ hQ => ?_
 simp only [argE, Nat.zero_add, Nat.reduceAdd]
 refine we_draw (List.range' 0 6) (by kernel_rfl) ?_
 repeat (first | refine aM ?_ | refine aN ?_ | refine aD ?_)
 refine ap_callR rfl rfl rfl trivial rfl rfl (.cons rfl .nil) b32_tr ?_ ?_
 ·rintro v L' x' ⟨rfl, rfl, rfl⟩ p hp
  replace hp := (List.mem_filter.1 hp).1
  simp only [List.mem_cons, List.not_mem_nil, or_false] at hp
  rcases hp with rfl | rfl | rfl | rfl <;> exact .inl rfl
 rintro v L' x1 ⟨rfl, rfl, rfl⟩
 skip
 refine ap_loud rfl rfl rfl rfl rfl trivial (mo_ext (args := [_, _]) (.cons rfl (.cons rfl .nil)) (at_storeI rfl hw)) ?_
 rintro v' L' ⟨rfl, rfl⟩
 refine ap_end ?_
 exact at_retD Try.func119 Try.results119 hQ (.inr rfl) fun _ s => s
variable [AllM B]
theorem ilock_tr (hr : Rd L r 5 (.int .i32 0)) (hw : Wt L r 5 (.int .i32 1) L1) {t : TypeId} {m : Nat} (hm : 5 < m) (hs : ∀ h, Star L1 h → h.shp r = some (t, m)) : Tr Try.prog B 124 [.pointer (some ⟨r, 5, none⟩)] L x fun v L' x' => v = .tuple #[] ∧ L' = L1 ∧ x' = x := by
 refine tr_of_body Try.func124 rfl Try.ntmps124 (by simp) fun um Q _ hQ => ?_
 simp only [argE, Nat.zero_add, Nat.reduceAdd]
 repeat (first | (apply wo_mk0; exact trivial) | refine we_seq ?_ | (refine wR ?_; try simp only [oS]) | refine wo_nil ?_ | refine wM ?_ | refine wN ?_ | refine wD ?_)
 apply wo_pm
 apply mo_ext (args := [_, _, _])
 exact .cons rfl (.cons rfl (.cons rfl .nil))
 exact at_casT hr hw
 exact trivial
 repeat (first | (apply wo_mk0; exact trivial) | (apply wo_po; apply mo_convPUd (c := 5) (m := m); exact rfl; exact hs; exact hm; decide; exact trivial) | (apply wo_mk1; exact rfl; exact trivial) | refine we_seq ?_ | (refine wR ?_; try simp only [oS]) | refine wo_nil ?_ | refine wM ?_ | refine wT ?_ | refine we_ret ?_)
 (first | refine or0 Try.func124 Try.results124 hQ ?_ | refine on0 Try.func124 Try.results124 hQ ?_)
 exact ⟨rfl, rfl, rfl⟩
theorem lock_tr (hr : Rd L r 5 (.int .i32 0)) (hw : Wt L r 5 (.int .i32 1) L1) {t : TypeId} {m : Nat} (hm : 5 < m) (hs : ∀ h, Star L1 h → h.shp r = some (t, m)) : Tr Try.prog B 117 [.pointer (some ⟨r, 5, none⟩)] L x fun v L' x' => v = .tuple #[] ∧ L' = L1 ∧ x' = x := by
 refine tr_of_body Try.func117 rfl Try.ntmps117 (by simp) fun um Q _ hQ => ?_
 simp only [argE, Nat.zero_add, Nat.reduceAdd]
 repeat (first | (refine wR ?_; try simp only [oS]) | refine wM ?_ | refine wN ?_ | refine wD ?_)
 refine wo_call (.cons rfl .nil) trivial (ilock_tr hr hw hm hs) ?_
 rintro v1 L2 x1 ⟨rfl, rfl, rfl⟩
 repeat (first | refine wo_nil ?_)
 (first | refine or0 Try.func117 Try.results117 hQ ?_ | refine on0 Try.func117 Try.results117 hQ ?_)
 exact ⟨rfl, rfl, rfl⟩
theorem iunlock_tr (hr : Rd L r 5 (.int .i32 1)) (hw : Wt L r 5 (.int .i32 0) L1) {t : TypeId} {m : Nat} (hm : 5 < m) (hs : ∀ h, Star L h → h.shp r = some (t, m)) : Tr Try.prog B 125 [.pointer (some ⟨r, 5, none⟩)] L x fun v L' x' => v = .tuple #[] ∧ L' = L1 ∧ x' = x := by
 refine tr_of_body Try.func125 rfl Try.ntmps125 (by simp) fun um Q _ hQ => ?_
 simp only [argE, Nat.zero_add, Nat.reduceAdd]
 repeat (first | (apply wo_mk0; exact trivial) | (apply wo_po; apply mo_convPUd (c := 5) (m := m); exact rfl; exact hs; exact hm; decide; exact trivial) | (apply wo_mk1; exact rfl; exact trivial) | (apply wo_po; apply mo_load; exact rfl; exact hr; exact trivial) | refine we_seq ?_ | (refine wR ?_; try simp only [oS]) | refine wo_nil ?_ | refine wM ?_ | refine wN ?_ | refine wD ?_ | refine wT ?_)
 apply wo_pm
 apply mo_ext (args := [_, _])
 exact .cons rfl (.cons rfl .nil)
 exact at_addI (r := 0) hr (by decide) hw
 exact trivial
 repeat (first | (apply wo_mk0; exact trivial) | refine wneqF ?_ | refine we_seq ?_ | (refine wR ?_; try simp only [oS]) | refine wo_nil ?_ | refine wM ?_ | refine wA ?_ | refine wF ?_ | refine we_skip ?_)
 (first | refine or0 Try.func125 Try.results125 hQ ?_ | refine on0 Try.func125 Try.results125 hQ ?_)
 exact ⟨rfl, rfl, rfl⟩
theorem unlock_trd [NoCut B] (hr : Rd L r 5 (.int .i32 1)) (hw : Wt L r 5 (.int .i32 0) L1) {t : TypeId} {m : Nat} (hm : 5 < m) (hs : ∀ h, Star L h → h.shp r = some (t, m)) : TrD Try.prog B 118 [.pointer (some ⟨r, 5, none⟩)] L x L1 := by
 refine trd_of_body Try.func118 rfl Try.ntmps118 (by simp) fun Q _ hQ => ?_
 simp only [argE, Nat.zero_add, Nat.reduceAdd]
 repeat (first | (refine wR ?_; try simp only [oS]) | refine wM ?_ | refine wN ?_ | refine wD ?_)
 refine wo_call (.cons rfl .nil) trivial (iunlock_tr hr hw hm hs) ?_
 rintro v1 L2 x1 ⟨rfl, rfl, rfl⟩
 repeat (first | refine wo_nil ?_)
 exact at_retD Try.func118 Try.results118 hQ (.inr rfl) fun _ s => s
def onceL (a0 a1 st ca : Value) (dn : Int) (ms : Int) (ov va co : Value) : List Value := [a0, a1, st, ca, .int .u32 dn, .int .i32 ms, .int .u32 0, ov, va, co]
section
variable {a0 a1 st ca ov va co st' ca' va' co' : Value} {t : TypeId} {m : Nat} {F' G G' : List HProp} {fv : Value} {f : FuncId} {first cap : List Value}
theorem slow_tr [NoCut B] (hm : 5 < m) (hF : Has F (shpC r t m) G) (hF' : Has F' (shpC r t m) G') (hc : callee? fv = some (f, first, cap)) [en : Ent' Try.prog f]
  (tr : Tr Try.prog B f (first ++ cap) (arr r 0 (onceL a0 a1 st ca 0 1 ov va co) :: F) x fun v L' x' => v = .tuple #[] ∧ L' = arr r 0 (onceL a0 a1 st' ca' 0 1 ov va' co') :: F' ∧ x' = x) (hh : L = arr r 0 (onceL a0 a1 st ca 0 0 ov va co) :: F) :
  Tr Try.prog B 102 [.pointer (some ⟨r, 4, none⟩), fv] L x fun v L' x' => v = .tuple #[] ∧ L' = arr r 0 (onceL a0 a1 st' ca' 1 0 ov va' co') :: F' ∧ x' = x := by
 subst hh
 refine tr_of_body Try.func102 rfl Try.ntmps102 (by simp) fun um Q _ hQ => ?_
 simp only [argE, Nat.zero_add, Nat.reduceAdd]
 repeat (first | refine we_seq ?_ | (refine wR ?_; try simp only [oS]) | refine wM ?_ | refine wN ?_ | refine wD ?_)
 refine wo_call (.cons rfl .nil) trivial (lock_tr (L1 := arr r 0 (onceL a0 a1 st ca 0 1 ov va co) :: F) (Rd.row0 rfl) (Wt.row0 (k := 5) .here (by simp [onceL])) hm (fun h s => shp_of (.there hF) s)) ?_
 rintro v1 L2 x1 ⟨rfl, rfl, rfl⟩
 repeat (first | refine we_seq ?_ | (refine wR ?_; try simp only [oS]) | refine wo_nil ?_ | refine wM ?_ | refine wN ?_ | refine wD ?_)
 refine wo_dfr (first := []) (cap := []) (args := [_]) rfl (.cons rfl .nil) trivial ?_
 repeat (first | refine we_seq ?_ | (refine wR ?_; try simp only [oS]) | refine wo_nil ?_ | refine wM ?_ | refine wN ?_ | refine wD ?_)
 refine wo_call (pk := Pass.of_no) (.cons rfl .nil) trivial (bload0_tr (Rd.row0 rfl)) ?_
 rintro v1 L2 x1 ⟨rfl, rfl, rfl⟩
 repeat (first | refine we_seq ?_ | (refine wR ?_; try simp only [oS]) | refine wo_nil ?_ | refine wM ?_ | refine wN ?_ | refine wD ?_ | (apply wo_po; apply mo_not; exact rfl; exact gY) | refine wT ?_)
 refine wo_dfr (first := []) (cap := []) (args := [_, _]) rfl (.cons rfl (.cons rfl .nil)) trivial ?_
 repeat (first | (refine wR ?_; try simp only [oS]) | refine wo_nil ?_ | refine wM ?_)
 refine wo_callv (pk := Pass.of_no) (args := []) rfl hc .nil trivial (by simpa using tr) ?_
 rintro v1 L2 x1 ⟨rfl, rfl, rfl⟩
 repeat (first | refine wo_nil ?_)
 refine at_dfr (L' := arr r 0 (onceL a0 a1 st' ca' 1 1 ov va' co') :: F') (.inr rfl) (bstore_trd (Wt.row0 (k := 4) .here (by simp [onceL]))) ?_
 refine at_dfr (L' := arr r 0 (onceL a0 a1 st' ca' 1 0 ov va' co') :: F') (.inl rfl) (unlock_trd (Rd.row0 rfl) (Wt.row0 (k := 5) .here (by simp [onceL])) hm (fun h s => shp_of (.there hF') s)) ?_
 (first | refine or0 Try.func102 Try.results102 hQ ?_ | refine on0 Try.func102 Try.results102 hQ ?_)
 exact ⟨rfl, rfl, rfl⟩
theorem do_tr [NoCut B] (hm : 5 < m) (hF : Has F (shpC r t m) G) (hF' : Has F' (shpC r t m) G') (hc : callee? fv = some (f, first, cap)) [en : Ent' Try.prog f]
  (tr : Tr Try.prog B f (first ++ cap) (arr r 0 (onceL a0 a1 st ca 0 1 ov va co) :: F) x fun v L' x' => v = .tuple #[] ∧ L' = arr r 0 (onceL a0 a1 st' ca' 0 1 ov va' co') :: F' ∧ x' = x) (hh : L = arr r 0 (onceL a0 a1 st ca 0 0 ov va co) :: F) :
  Tr Try.prog B 69 [.pointer (some ⟨r, 4, none⟩), fv] L x fun v L' x' => v = .tuple #[] ∧ L' = arr r 0 (onceL a0 a1 st' ca' 1 0 ov va' co') :: F' ∧ x' = x := by
 subst hh
 refine tr_of_body Try.func69 rfl Try.ntmps69 (by simp) fun um Q _ hQ => ?_
 simp only [argE, Nat.zero_add, Nat.reduceAdd]
 repeat (first | refine we_seq ?_ | (refine wR ?_; try simp only [oS]) | refine wM ?_ | refine wN ?_ | refine wD ?_)
 refine wo_call (.cons rfl .nil) trivial (bload0_tr (Rd.row0 rfl)) ?_
 rintro v1 L2 x1 ⟨rfl, rfl, rfl⟩
 repeat (first | (refine wR ?_; try simp only [oS]) | refine wo_nil ?_ | refine wM ?_ | (apply wo_po; apply mo_not; exact rfl; exact gY) | refine wT ?_)
 refine wo_call (.cons rfl (.cons rfl .nil)) trivial (slow_tr hm hF hF' hc tr rfl) ?_
 rintro v1 L2 x1 ⟨rfl, rfl, rfl⟩
 repeat (first | refine wo_nil ?_)
 (first | refine or0 Try.func69 Try.results69 hQ ?_ | refine on0 Try.func69 Try.results69 hQ ?_)
 exact ⟨rfl, rfl, rfl⟩
end
end
theorem star_dropM {L : List HProp} : ∀ {M : List HProp} {h : Hp}, Star (M ++ L) h → Star L h
 | [], _, s => s
 | _ :: _, _, s => star_dropM (star_drop s)
def MkOk (B : Hand) (fv : Value) (D D' : HProp) (va : Value) (co : Int) : Prop := ∃ f first cap, callee? fv = some (f, first, cap) ∧ Ent' Try.prog f ∧
 ∀ (L F : List HProp) (x : B.X), Has L D F → Tr Try.prog B f (first ++ cap) L x fun v L' x' => v = .tuple #[va, .int .i64 co] ∧ L' = D' :: F ∧ x' = x
end
end Go.Proofs.Ytcladnioicackaa
namespace Go.Proofs.Ytcladnioicackaa
open Go Go.PB
attribute [local irreducible] Mo Bin Eql Tr Wo TrD Wle
section
section
variable {B : Hand} [Lets B] {L F : List HProp} {x : B.X} {r c w : Nat}
def stOf (co : Int) : Nat := if co = 0 then 2 else 3
section
variable {D D' : HProp} {fv a0 st ov va va0 co0 : Value} {co dn ms : Int}
end
abbrev shutC (c : Nat) : HProp := ob c (.chan 0 #[] true 0 0 false)
section
variable {gv : Value} {A : Acc B gv}
theorem ostep_tr {op : Int} {w : Nat} {s : A.S} {T : A.S → Prop} (hs : A.step op w s T) (hh : Has L (A.C s) F) :
  Tr Try.prog B 67 [gv, .int .u8 op, .int .i64 w] L (A.x s) fun v L' x' => ∃ s', T s' ∧ v = .tuple #[] ∧ L' = A.C s' :: F ∧ x' = A.x s' := by
 rcases A.gate with ⟨rfl, hg⟩ | ⟨t, p, f, rfl, hm, he, hg⟩
 ·refine tr_of_body Try.func67 rfl Try.ntmps67 (by simp) fun um Q _ hQ => ?_
  simp only [argE, Nat.zero_add, Nat.reduceAdd]
  repeat (first | refine we_seq ?_ | (refine wR ?_; try simp only [oS]) | refine wo_nil ?_ | refine wM ?_ | (apply wo_po; apply mo_bin; exact rfl; exact rfl; apply bin_ne; apply eql_nil_nil; exact gY) | refine wF ?_ | refine we_skip ?_)
  refine at_ent _ (Ent.take hh .refl) ?_
  (first | refine or0 Try.func67 Try.results67 hQ ?_ | refine on0 Try.func67 Try.results67 hQ ?_)
  exact ⟨s, hg _ _ _ _ hs, rfl, rfl, rfl⟩
 ·refine tr_of_body Try.func67 rfl Try.ntmps67 (by simp) fun um Q _ hQ => ?_
  simp only [argE, Nat.zero_add, Nat.reduceAdd]
  repeat (first | (apply wo_po; apply mo_build (pv := [(0, _), (1, _)]); exact rfl; exact .cons rfl (.cons rfl .nil); exact rfl; exact trivial) | refine we_seq ?_ | (refine wR ?_; try simp only [oS]) | refine wo_nil ?_ | refine wM ?_ | (apply wo_po; apply mo_bin; exact rfl; exact rfl; apply bin_ne; apply eql_iface_nil; exact gY) | refine wT ?_)
  refine wo_invoke (args := [_]) rfl (.cons rfl .nil) trivial (hg op w s T L F hs hh) ?_
  rintro v L' x' ⟨s', h1, rfl, rfl, rfl⟩
  repeat (first | refine wo_nil ?_)
  (first | refine or0 Try.func67 Try.results67 hQ ?_ | refine on0 Try.func67 Try.results67 hQ ?_)
  exact ⟨s', h1, rfl, rfl, rfl⟩
end
section
variable {gv : Value} {A : Acc B gv} {D D' : HProp} {fv va va0 co0 : Value} {co dn ms : Int}
def nilAcc (B : Hand) [Lets B] (x : B.X) : Acc B .nilIface := loneAcc x (fun _ => (0, 0)) 0 [] ⟨fun i j hi => by omega, fun i hi => by omega⟩
theorem nil_in {x : B.X} {f : Nat → Nat} {L : List HProp} {h : Hp} (st : Star L h) : Star ((nilAcc B x).C f :: L) h :=
 star_map (star_shut (M := []) st) (fun _ _ => ⟨fun w hw => by omega, fun k hk => by cases hk⟩) fun _ s => s
end
end
end
section
section
variable {B : Hand} [Lets B] {L F : List HProp} {x : B.X} {r c w : Nat}
theorem freshI_tr {i : Int} {fn : Fn} {u v : Array Value} : Tr Try.prog B 45 [.int .i64 i, .func fn u v] L x fun q L' x' => ∃ r c, q = .pointer (some ⟨r, 0, none⟩) ∧ L' = arr r 0 (onceL (.int .i64 i) (.func fn u v) (.int .u64 0) (.int .u64 0) 0 0 (.chan (some c)) (.int .i64 0) (.int .i64 0)) :: shpC r 145 10 :: chC c 0 #[] 0 0 :: L ∧ x' = x := by
 refine tr_of_body Try.func45 rfl Try.ntmps45 (by simp) fun um Q _ hQ => ?_
 simp only [argE, Nat.zero_add, Nat.reduceAdd]
 repeat (first | refine we_seq ?_ | (refine wR ?_; try simp only [oS]) | refine wo_nil ?_ | refine wM ?_ | refine wA ?_)
 apply wo_mo
 apply mo_makeChan (m := 0) (k := .i64)
 exact rfl
 omega
 omega
 exact trivial
 rintro v' L' ⟨c, rfl, rfl⟩
 repeat (first | (apply wo_po; apply mo_build (pv := [(0, _), (1, _), (5, _)]); exact rfl; exact .cons rfl (.cons rfl (.cons rfl .nil)); exact rfl; exact trivial))
 apply wo_mo
 apply mo_boxS
 exact rfl
 exact trivial
 rintro v' L' ⟨r, rfl, rfl⟩
 repeat (first | refine wo_nil ?_ | refine wA ?_ | refine we_ret ?_)
 (first | refine or1 Try.func45 Try.results45 hQ rfl ?_ | refine on1 Try.func45 Try.results45 hQ rfl ?_)
 exact ⟨r, c, rfl, rfl, rfl⟩
theorem newI_tr {fn : Fn} {u v : Array Value} : Tr Try.prog B 23 [.func fn u v] L x fun q L' x' => ∃ o r c, q = .pointer (some ⟨o, 0, none⟩) ∧ L' = arr o 0 [.pointer (some ⟨r, 0, none⟩)] :: arr r 0 (onceL (.int .i64 (0 : Nat)) (.func fn u v) (.int .u64 0) (.int .u64 0) 0 0 (.chan (some c)) (.int .i64 0) (.int .i64 0)) :: shpC r 145 10 :: chC c 0 #[] 0 0 :: L ∧ x' = x := by
 refine tr_of_body Try.func23 rfl Try.ntmps23 (by simp) fun um Q _ hQ => ?_
 simp only [argE, Nat.zero_add, Nat.reduceAdd]
 repeat (first | (apply wo_po; apply mo_bin; exact rfl; exact rfl; apply bin_eq; apply eql_func_nil; exact trivial) | refine we_seq ?_ | (refine wR ?_; try simp only [oS]) | refine wo_nil ?_ | refine wM ?_ | refine wA ?_ | refine wF ?_ | refine we_skip ?_)
 refine wo_call (.cons rfl (.cons rfl .nil)) trivial freshI_tr ?_
 rintro v1 L1 x1 ⟨r, c, rfl, rfl, rfl⟩
 repeat (first | (apply wo_po; apply mo_build (pv := [(0, _)]); exact rfl; exact .cons rfl .nil; exact rfl; exact trivial) | (apply wo_mo; apply mo_box; exact rfl; exact trivial))
 rintro v' L' ⟨o, rfl, rfl⟩
 repeat (first | refine wo_nil ?_ | refine wA ?_ | refine we_ret ?_)
 (first | refine or1 Try.func23 Try.results23 hQ rfl ?_ | refine on1 Try.func23 Try.results23 hQ rfl ?_)
 exact ⟨o, r, c, rfl, rfl, rfl⟩
theorem answerI2_tr {va : Value} (hr : Rd L r 8 va) : Tr Try.prog B 76 [.pointer (some ⟨r, 0, none⟩), .int .u64 2] L x fun q L' x' => q = .tuple #[va, .int .i64 0] ∧ L' = L ∧ x' = x := by
 refine tr_of_body Try.func76 rfl Try.ntmps76 (by simp) fun um Q _ hQ => ?_
 simp only [argE, Nat.zero_add, Nat.reduceAdd]
 repeat (first | (apply wo_po; apply mo_load; exact rfl; exact hr; exact trivial) | refine weqlT ?_ | refine we_seq ?_ | (refine wR ?_; try simp only [oS]) | refine wo_nil ?_ | refine wM ?_ | refine wA ?_ | refine wN ?_ | refine wD ?_ | refine wT ?_ | refine we_ret ?_ | refine we_block ?_)
 (first | refine or2 Try.func76 Try.results76 hQ rfl rfl ?_ | refine on2 Try.func76 Try.results76 hQ rfl rfl ?_)
 exact ⟨rfl, rfl, rfl⟩
theorem answerI3_tr {co : Int} (hr : Rd L r 9 (.int .i64 co)) : Tr Try.prog B 76 [.pointer (some ⟨r, 0, none⟩), .int .u64 3] L x fun q L' x' => q = .tuple #[(.int .i64 0), .int .i64 co] ∧ L' = L ∧ x' = x := by
 refine tr_of_body Try.func76 rfl Try.ntmps76 (by simp) fun um Q _ hQ => ?_
 simp only [argE, Nat.zero_add, Nat.reduceAdd]
 repeat (first | refine weqlT ?_ | refine weqlF ?_ | refine we_seq ?_ | (refine wR ?_; try simp only [oS]) | refine wo_nil ?_ | refine wM ?_ | refine wA ?_ | refine wT ?_ | refine wF ?_ | refine we_block ?_)
 refine we_draw (List.range' 0 7) (by kernel_rfl) ?_
 repeat (first | (apply ap_read; exact rfl; exact rfl; exact trivial; apply mo_load; exact rfl; exact hr) | refine aM ?_ | refine aA ?_ | refine aN ?_ | refine aD ?_ | refine ap_end ?_)
 repeat (first | refine we_ret ?_)
 (first | refine or2 Try.func76 Try.results76 hQ rfl rfl ?_ | refine on2 Try.func76 Try.results76 hQ rfl rfl ?_)
 exact ⟨rfl, rfl, rfl⟩
def toldI (va : Value) (co : Int) : Value := if co = 0 then .tuple #[va, .int .i64 0] else .tuple #[(.int .i64 0), .int .i64 co]
theorem answerI_tr {va : Value} {co : Int} (h8 : Rd L r 8 va) (h9 : Rd L r 9 (.int .i64 co)) : Tr Try.prog B 76 [.pointer (some ⟨r, 0, none⟩), .int .u64 (stOf co : Nat)] L x fun q L' x' => q = toldI va co ∧ L' = L ∧ x' = x := by
 by_cases e : co = 0
 ·simp only [stOf, toldI, e, if_true]; exact answerI2_tr h8
 ·simp only [stOf, toldI, e, if_false]; exact answerI3_tr h9
section
variable {D D' : HProp} {fv a0 st ov va va0 co0 : Value} {co dn ms : Int}
theorem lookI_trd [NoCut B] {b : Nat} {n : Int} (hn : n ≠ 4) (hr : Rd L b 0 (.int .u64 n)) : TrD Try.prog B 122 [.pointer (some ⟨b, 0, none⟩)] L x L := by
 refine trd_of_body Try.func122 rfl Try.ntmps122 (by simp) fun Q _ hQ => ?_
 simp only [argE, Nat.zero_add, Nat.reduceAdd]
 repeat (first | (apply wo_po; apply mo_load; exact rfl; exact hr; exact trivial) | refine weqlF ?_ | refine we_seq ?_ | (refine wR ?_; try simp only [oS]) | refine wo_nil ?_ | refine wF ?_ | refine we_skip ?_)
 exact at_retD Try.func122 Try.results122 hQ (.inr rfl) fun _ s => s
theorem workI_tr [NoCut B] (mk : MkOk B fv D D' va co) (hva : one va = true) (hL : L = arr r 0 (onceL a0 fv st (.int .u64 0) dn ms ov va0 co0) :: D :: F) :
  Tr Try.prog B 109 [.pointer (some ⟨r, 0, none⟩)] L x fun q L' x' => q = .int .u64 (stOf co : Nat) ∧ L' = arr r 0 (onceL a0 fv st (.int .u64 1) dn ms ov va (.int .i64 co)) :: D' :: F ∧ x' = x := by
 subst hL
 obtain ⟨f, first, cap, hcal, en, tr⟩ := mk
 refine Tr.post (R := fun q L' x' => ∃ c, q = .int .u64 (stOf co : Nat) ∧ L' = c :: arr r 0 (onceL a0 fv st (.int .u64 1) dn ms ov va (.int .i64 co)) :: D' :: F ∧ x' = x) ?_ (by rintro v L' x' ⟨c, h1, rfl, h3⟩; exact ⟨_, ⟨h1, rfl, h3⟩, fun h s => star_drop s⟩)
 refine tr_of_body Try.func109 rfl Try.ntmps109 (by simp) fun um Q _ hQ => ?_
 simp only [argE, Nat.zero_add, Nat.reduceAdd]
 repeat (first | (apply wo_mo; apply mo_alloc; exact trivial) | refine we_seq ?_ | (refine wR ?_; try simp only [oS]))
 rintro v' L' ⟨tb, rfl, rfl⟩
 refine wo_ent (arr tb 0 [.int .u64 0] :: arr r 0 (onceL a0 fv st (.int .u64 0) dn ms ov va0 co0) :: D :: F) .refl ?_
 repeat (first | (apply wo_po; apply mo_makeFunc (first := []) (cap := [_]) (vf := []); exact .nil; exact .cons rfl .nil; exact trivial) | refine we_seq ?_ | (refine wR ?_; try simp only [oS]) | refine wo_nil ?_)
 refine wo_dfr (first := []) (cap := [_]) (args := []) rfl .nil trivial ?_
 repeat (first | refine we_seq ?_ | (refine wR ?_; try simp only [oS]) | refine wo_nil ?_ | refine wM ?_ | refine wN ?_ | refine wD ?_)
 refine wo_call (pk := Pass.of_no) (.cons rfl (.cons rfl .nil)) trivial (add_lone (r := 1) (n := 0) (L1 := arr tb 0 [.int .u64 0] :: arr r 0 (onceL a0 fv st (.int .u64 1) dn ms ov va0 co0) :: D :: F) (.there (Rd.row (k := 3) rfl rfl)) (by decide) (Wt.row0 (k := 3) (.there .here) (by simp [onceL]))) ?_
 rintro v1 L1 x1 ⟨rfl, rfl, rfl⟩
 repeat (first | refine wS ?_ | refine we_seq ?_ | (refine wR ?_; try simp only [oS]) | refine wo_nil ?_ | refine wM ?_ | refine wN ?_ | refine wD ?_ | refine wL ?_)
 refine wo_ent (arr tb 0 [.int .u64 4] :: arr r 0 (onceL a0 fv st (.int .u64 1) dn ms ov va0 co0) :: D :: F) .refl ?_
 skip
 refine wo_callv (pk := Pass.of_no) (args := []) rfl hcal .nil trivial (by simpa using tr (arr tb 0 [.int .u64 4] :: arr r 0 (onceL a0 fv st (.int .u64 1) dn ms ov va0 co0) :: D :: F) (arr tb 0 [.int .u64 4] :: arr r 0 (onceL a0 fv st (.int .u64 1) dn ms ov va0 co0) :: F) _ (.there (.there .here))) ?_
 rintro v1 L1 x1 ⟨rfl, rfl, rfl⟩
 repeat (first | refine we_seq ?_ | (refine wR ?_; try simp only [oS]) | refine wo_nil ?_ | refine wM ?_ | refine wA ?_ | refine wN ?_ | refine wD ?_ | (apply wo_po; apply mo_extract; exact rfl; exact rfl; exact gY))
 apply wo_pm
 apply mo_store
 exact rfl
 exact rfl
 exact hva
 exact Wt.row0 (k := 8) (vs := onceL a0 fv st (.int .u64 1) dn ms ov va0 co0) (.there (.there .here)) (by simp [onceL])
 exact trivial
 refine wo_ent (D' :: arr tb 0 [.int .u64 4] :: arr r 0 (onceL a0 fv st (.int .u64 1) dn ms ov va co0) :: F) .refl ?_
 repeat (first | refine wN ?_ | refine wD ?_)
 apply wo_pm
 apply mo_store
 exact rfl
 exact rfl
 exact rfl
 exact Wt.row0 (k := 9) (vs := onceL a0 fv st (.int .u64 1) dn ms ov va co0) (.there (.there .here)) (by simp [onceL])
 exact trivial
 refine wo_ent (D' :: arr tb 0 [.int .u64 4] :: arr r 0 (onceL a0 fv st (.int .u64 1) dn ms ov va (.int .i64 co)) :: F) .refl ?_
 by_cases e : co = 0
 ·subst e
  repeat (first | refine wS ?_ | refine wneqF ?_ | refine we_seq ?_ | (refine wR ?_; try simp only [oS]) | refine wo_nil ?_ | refine wM ?_ | refine wF ?_ | refine we_ret ?_ | refine we_skip ?_)
  refine at_ent (arr tb 0 [.int .u64 2] :: arr r 0 (onceL a0 fv st (.int .u64 1) dn ms ov va (.int .i64 0)) :: D' :: F) (.take (.there .here) (.take (.there .here) (.take .here .refl))) ?_
  refine at_dfr (.inl rfl) (lookI_trd (b := tb) (n := 2) (by decide) (Rd.row0 rfl)) ?_
  refine at_leaveM (ex := .ret) (rs := [.cell 2 22]) (vs := [.int .u64 2]) Try.func109 Try.results109 hQ (.inl rfl) (.cons (.cell1 (b := tb) (o := 0) rfl (Rd.row0 rfl)) .nil) ?_
  exact ⟨_, rfl, rfl, rfl⟩
 ·repeat (first | refine wS ?_ | refine wneqT ?_ | refine we_seq ?_ | (refine wR ?_; try simp only [oS]) | refine wo_nil ?_ | refine wM ?_ | refine wT ?_ | refine we_ret ?_)
  refine at_ent (arr tb 0 [.int .u64 3] :: arr r 0 (onceL a0 fv st (.int .u64 1) dn ms ov va (.int .i64 co)) :: D' :: F) (.take (.there .here) (.take (.there .here) (.take .here .refl))) ?_
  refine at_dfr (.inl rfl) (lookI_trd (b := tb) (n := 3) (by decide) (Rd.row0 rfl)) ?_
  refine at_leaveM (ex := .ret) (rs := [.cell 2 22]) (vs := [.int .u64 3]) Try.func109 Try.results109 hQ (.inl rfl) (.cons (.cell1 (b := tb) (o := 0) rfl (Rd.row0 rfl)) .nil) ?_
  exact ⟨_, by simp [stOf, e, packR], rfl, rfl⟩
end
section
variable {gv : Value} {A : Acc B gv} {D D' : HProp} {fv va va0 co0 : Value} {co dn ms : Int}
theorem claimI_tr [NoCut B] (mk : MkOk B fv D D' va co) (hva : one va = true) {s : A.S} {R : A.S → Prop} (hst : A.step 5 w s fun s1 => A.step 2 w s1 R) (hL : L = A.C s :: arr r 0 (onceL (.int .i64 (w : Nat)) fv (.int .u64 0) (.int .u64 0) dn ms (.chan (some c)) va0 co0) :: D :: chC c 0 #[] 0 0 :: F) :
  Tr Try.prog B 78 [.pointer (some ⟨r, 0, none⟩), gv] L (A.x s) fun q L' x' => ∃ s', R s' ∧ q = .bool true ∧ L' = shutC c :: A.C s' :: arr r 0 (onceL (.int .i64 (w : Nat)) fv (.int .u64 (stOf co : Nat)) (.int .u64 1) dn ms (.chan (some c)) va (.int .i64 co)) :: D' :: F ∧ x' = A.x s' := by
 subst hL
 have hso : stOf co < 18446744073709551616 := by unfold stOf; split <;> decide
 refine tr_of_body Try.func78 rfl Try.ntmps78 (by simp) fun um Q _ hQ => ?_
 simp only [argE, Nat.zero_add, Nat.reduceAdd]
 repeat (first | (apply wo_po; apply mo_load; exact rfl; exact .there (Rd.row (k := 0) rfl rfl); exact trivial) | refine we_seq ?_ | (refine wR ?_; try simp only [oS]) | refine wo_nil ?_ | refine wM ?_ | refine wA ?_ | refine wN ?_ | refine wD ?_)
 refine wo_call (.cons rfl (.cons rfl (.cons rfl .nil))) trivial (ostep_tr hst .here) ?_
 rintro v1 L1 x1 ⟨s1, hst1, rfl, rfl, rfl⟩
 repeat (first | refine we_seq ?_ | (refine wR ?_; try simp only [oS]) | refine wo_nil ?_ | refine wM ?_ | refine wN ?_ | refine wD ?_)
 refine wo_call (.cons rfl (.cons rfl (.cons rfl .nil))) trivial (cas_lone (n := 0) (L1 := A.C s1 :: arr r 0 (onceL (.int .i64 (w : Nat)) fv (.int .u64 1) (.int .u64 0) dn ms (.chan (some c)) va0 co0) :: D :: chC c 0 #[] 0 0 :: F) (.there (Rd.row (k := 2) rfl rfl)) (Wt.row0 (k := 2) (.there .here) (by simp [onceL]))) ?_
 rintro v1 L1 x1 ⟨rfl, hL1, rfl⟩
 rw [if_pos rfl] at hL1
 subst hL1
 repeat (first | refine we_seq ?_ | (refine wR ?_; try simp only [oS]) | refine wo_nil ?_ | refine wM ?_ | (apply wo_po; apply mo_not; exact rfl; exact gY) | refine wF ?_ | refine we_skip ?_)
 refine wo_ent (arr r 0 (onceL (.int .i64 (w : Nat)) fv (.int .u64 1) (.int .u64 0) dn ms (.chan (some c)) va0 co0) :: D :: A.C s1 :: chC c 0 #[] 0 0 :: F) (.take (.there .here) (.take (.there .here) (.take .here .refl))) ?_
 refine wo_call (.cons rfl .nil) trivial (workI_tr mk hva rfl) ?_
 rintro v1 L1 x1 ⟨rfl, rfl, rfl⟩
 repeat (first | (apply wo_po; apply mo_load; exact rfl; exact Rd.row (k := 0) rfl rfl; exact trivial) | refine we_seq ?_ | (refine wR ?_; try simp only [oS]) | refine wo_nil ?_ | refine wM ?_ | refine wA ?_ | refine wN ?_ | refine wD ?_)
 refine wo_call (.cons rfl (.cons rfl (.cons rfl .nil))) trivial (ostep_tr (s := s1) hst1 (.there (.there .here))) ?_
 rintro v1 L1 x1 ⟨s2, hst2, rfl, rfl, rfl⟩
 repeat (first | refine we_seq ?_ | (refine wR ?_; try simp only [oS]) | refine wo_nil ?_ | refine wM ?_ | refine wN ?_ | refine wD ?_)
 refine wo_call (.cons rfl (.cons rfl .nil)) trivial (store_lone (L1 := A.C s2 :: arr r 0 (onceL (.int .i64 (w : Nat)) fv (.int .u64 (stOf co : Nat)) (.int .u64 1) dn ms (.chan (some c)) va (.int .i64 co)) :: D' :: chC c 0 #[] 0 0 :: F) (Wt.row0 (k := 2) (.there .here) (by simp [onceL]))) ?_
 rintro v1 L1 x1 ⟨rfl, rfl, rfl⟩
 repeat (first | (apply wo_po; apply mo_load; exact rfl; exact .there (Rd.row (k := 7) rfl rfl); exact trivial) | (apply wo_pm; apply mo_close; exact rfl; exact .there (.there (.there .here)); exact trivial) | refine we_seq ?_ | (refine wR ?_; try simp only [oS]) | refine wo_nil ?_ | refine wM ?_ | refine wA ?_ | refine wN ?_ | refine wD ?_ | refine we_ret ?_)
 (first | refine or1 Try.func78 Try.results78 hQ rfl ?_ | refine on1 Try.func78 Try.results78 hQ rfl ?_)
 exact ⟨s2, hst2, rfl, rfl, rfl⟩
theorem oldI_tr {s : A.S} {R : A.S → Prop} {cs : List Value} (hcs : cs = onceL (.int .i64 (w : Nat)) fv (.int .u64 (stOf co : Nat)) (.int .u64 1) dn ms (.chan (some c)) va (.int .i64 co)) (hst : A.step 1 w s R) (hL : Has L (A.C s) F) (hF : ∀ (k : Nat) v, cs[k]? = some v → Rd F r k v) :
  Tr Try.prog B 56 [.pointer (some ⟨r, 0, none⟩), gv] L (A.x s) fun q L' x' => ∃ s', R s' ∧ q = toldI va co ∧ L' = A.C s' :: F ∧ x' = A.x s' := by
 subst hcs
 refine Tr.ent (L' := A.C s :: F) (.take hL .refl) ?_
 refine Tr.post (R := fun q L' x' => ∃ s' b, R s' ∧ q = toldI va co ∧ L' = A.C s' :: b :: F ∧ x' = A.x s') ?_ (by rintro v L' x' ⟨s', b, h1, h2, rfl, h3⟩; exact ⟨_, ⟨s', h1, h2, rfl, h3⟩, fun h st => star_drop (star_swap st)⟩)
 have hlo : 1 < (stOf co : Int) := by unfold stOf; split <;> decide
 refine tr_of_body Try.func56 rfl Try.ntmps56 (by simp) fun um Q _ hQ => ?_
 simp only [argE, Nat.zero_add, Nat.reduceAdd]
 repeat (first | (apply wo_mo; apply mo_box; exact rfl; exact trivial) | refine we_seq ?_ | (refine wR ?_; try simp only [oS]))
 rintro v' L' ⟨bb, rfl, rfl⟩
 refine wo_ent (A.C s :: arr bb 0 [.pointer (some ⟨r, 0, none⟩)] :: F) (.take (.there .here) (.take .here .refl)) ?_
 repeat (first | refine wo_nil ?_ | refine wA ?_ | refine we_block ?_)
 refine we_loop1 ?_
 have hF2 : ∀ {a b : HProp} (k : Nat) v, (onceL (.int .i64 (w : Nat)) fv (.int .u64 (stOf co : Nat)) (.int .u64 1) dn ms (.chan (some c)) va (.int .i64 co))[k]? = some v → Rd (a :: b :: F) r k v := fun k v hk => .there (.there (hF k v hk))
 repeat (first | (apply wo_po; apply mo_load; exact rfl; exact hF2 0 _ rfl; exact trivial) | refine we_seq ?_ | (refine wR ?_; try simp only [oS]) | refine wM ?_ | refine wN ?_ | refine wD ?_ | refine wL ?_ | refine we_block ?_)
 refine wo_call (.cons rfl (.cons rfl (.cons rfl .nil))) trivial (ostep_tr hst .here) ?_
 rintro v1 L1 x1 ⟨s1, hst1, rfl, rfl, rfl⟩
 repeat (first | refine we_seq ?_ | (refine wR ?_; try simp only [oS]) | refine wo_nil ?_ | refine wN ?_ | refine wD ?_ | refine wL ?_)
 refine wo_call (.cons rfl .nil) trivial (load_lone (hF2 2 _ rfl)) ?_
 rintro v1 L1 x1 ⟨rfl, rfl, rfl⟩
 repeat (first | refine wgtrT ?_ | refine we_seq ?_ | (refine wR ?_; try simp only [oS]) | refine wo_nil ?_ | refine wM ?_ | refine wA ?_ | refine wL ?_ | refine wT ?_ | refine we_block ?_)
 refine wo_call (.cons rfl (.cons rfl .nil)) trivial (answerI_tr (hF2 8 _ rfl) (hF2 9 _ rfl)) ?_
 rintro v1 L1 x1 ⟨rfl, rfl, rfl⟩
 skip
 by_cases e : co = 0
 ·subst e
  rw [show toldI va 0 = .tuple #[va, .int .i64 0] from rfl]
  repeat (first | refine wo_nil ?_ | refine wA ?_ | (apply wo_po; apply mo_extract; exact rfl; exact rfl; exact gY) | refine we_ret ?_)
  (first | refine or2 Try.func56 Try.results56 hQ rfl rfl ?_ | refine on2 Try.func56 Try.results56 hQ rfl rfl ?_)
  exact ⟨s1, _, hst1, rfl, rfl, rfl⟩
 ·rw [show toldI va co = .tuple #[(.int .i64 0), .int .i64 co] from if_neg e]
  repeat (first | refine wo_nil ?_ | refine wA ?_ | (apply wo_po; apply mo_extract; exact rfl; exact rfl; exact gY) | refine we_ret ?_)
  (first | refine or2 Try.func56 Try.results56 hQ rfl rfl ?_ | refine on2 Try.func56 Try.results56 hQ rfl rfl ?_)
  exact ⟨s1, _, hst1, (if_neg e).symm, rfl, rfl⟩
theorem getfI_tr [NoCut B] {bb : Nat} (mk : MkOk B fv D D' va co) (hva : one va = true) (hL : L = arr r 0 (onceL (.int .i64 (w : Nat)) fv (.int .u64 0) (.int .u64 0) dn ms (.chan (some c)) va0 co0) :: D :: chC c 0 #[] 0 0 :: arr bb 0 [.pointer (some ⟨r, 0, none⟩)] :: F) :
  Tr Try.prog B 77 [.pointer (some ⟨bb, 0, none⟩)] L x fun q L' x' => q = .tuple #[] ∧ L' = arr r 0 (onceL (.int .i64 (w : Nat)) fv (.int .u64 (stOf co : Nat)) (.int .u64 1) dn ms (.chan (some c)) va (.int .i64 co)) :: shutC c :: D' :: arr bb 0 [.pointer (some ⟨r, 0, none⟩)] :: F ∧ x' = x := by
 subst hL
 refine tr_of_body Try.func77 rfl Try.ntmps77 (by simp) fun um Q _ hQ => ?_
 simp only [argE, Nat.zero_add, Nat.reduceAdd]
 have rb : ∀ {a b c : HProp}, Rd (a :: b :: c :: arr bb 0 [.pointer (some ⟨r, 0, none⟩)] :: F) bb 0 (.pointer (some ⟨r, 0, none⟩)) := fun {a b c} => .there (.there (.there (Rd.row (k := 0) rfl rfl)))
 repeat (first | (apply wo_po; apply mo_load; exact rfl; exact rb; exact trivial) | refine we_seq ?_ | (refine wR ?_; try simp only [oS]))
 refine wo_star ((nilAcc B x).C (fun _ => 0) :: arr r 0 (onceL (.int .i64 (w : Nat)) fv (.int .u64 0) (.int .u64 0) dn ms (.chan (some c)) va0 co0) :: D :: chC c 0 #[] 0 0 :: arr bb 0 [.pointer (some ⟨r, 0, none⟩)] :: F) (fun h st => nil_in st) ?_
 refine wo_call (.cons rfl (.cons rfl .nil)) trivial (claimI_tr (A := nilAcc B x) (s := fun _ => 0) (R := fun _ => True) mk hva trivial rfl) ?_
 rintro v1 L1 x1 ⟨s1, _, rfl, rfl, rfl⟩
 repeat (first | refine wo_nil ?_ | (apply wo_po; apply mo_not; exact rfl; exact gY) | refine wF ?_ | refine we_skip ?_)
 refine at_ent (arr r 0 (onceL (.int .i64 (w : Nat)) fv (.int .u64 (stOf co : Nat)) (.int .u64 1) dn ms (.chan (some c)) va (.int .i64 co)) :: shutC c :: D' :: arr bb 0 [.pointer (some ⟨r, 0, none⟩)] :: F) (.take (.there (.there .here)) (.take .here (.drop .refl))) ?_
 (first | refine or0 Try.func77 Try.results77 hQ ?_ | refine on0 Try.func77 Try.results77 hQ ?_)
 exact ⟨rfl, rfl, rfl⟩
theorem newNI_tr [NoCut B] [AllM B] {t : TypeId} {m : Nat} {G : List HProp} (hm : 5 < m) (hF : Has F (shpC r t m) G) (mk : MkOk B fv D D' va co) (hva : one va = true) (hL : L = arr r 0 (onceL (.int .i64 (w : Nat)) fv (.int .u64 0) (.int .u64 0) 0 0 (.chan (some c)) va0 co0) :: D :: chC c 0 #[] 0 0 :: F) :
  Tr Try.prog B 56 [.pointer (some ⟨r, 0, none⟩), .nilIface] L x fun q L' x' => q = toldI va co ∧ L' = arr r 0 (onceL (.int .i64 (w : Nat)) fv (.int .u64 (stOf co : Nat)) (.int .u64 1) 1 0 (.chan (some c)) va (.int .i64 co)) :: D' :: F ∧ x' = x := by
 subst hL
 refine Tr.post (R := fun q L' x' => ∃ a b d, q = toldI va co ∧ L' = a :: arr r 0 (onceL (.int .i64 (w : Nat)) fv (.int .u64 (stOf co : Nat)) (.int .u64 1) 1 0 (.chan (some c)) va (.int .i64 co)) :: d :: D' :: b :: F ∧ x' = x) ?_ (by rintro v L' x' ⟨a, b, d, h2, rfl, h3⟩; exact ⟨_, ⟨h2, rfl, h3⟩, fun h st => (Ent.drop (.take .here (.drop (.take .here (.drop .refl))))).star st⟩)
 have hlo : 1 < (stOf co : Int) := by unfold stOf; split <;> decide
 refine tr_of_body Try.func56 rfl Try.ntmps56 (by simp) fun um Q _ hQ => ?_
 simp only [argE, Nat.zero_add, Nat.reduceAdd]
 repeat (first | (apply wo_mo; apply mo_box; exact rfl; exact trivial) | refine we_seq ?_ | (refine wR ?_; try simp only [oS]))
 rintro v' L' ⟨bb, rfl, rfl⟩
 refine wo_ent (arr r 0 (onceL (.int .i64 (w : Nat)) fv (.int .u64 0) (.int .u64 0) 0 0 (.chan (some c)) va0 co0) :: D :: chC c 0 #[] 0 0 :: arr bb 0 [.pointer (some ⟨r, 0, none⟩)] :: F) (.take (.there .here) (.take (.there .here) (.take (.there .here) (.take .here .refl)))) ?_
 repeat (first | refine wo_nil ?_ | refine wA ?_ | refine we_block ?_)
 refine we_star ((nilAcc B x).C (fun _ => 0) :: arr r 0 (onceL (.int .i64 (w : Nat)) fv (.int .u64 0) (.int .u64 0) 0 0 (.chan (some c)) va0 co0) :: D :: chC c 0 #[] 0 0 :: arr bb 0 [.pointer (some ⟨r, 0, none⟩)] :: F) (fun h st => nil_in st) ?_
 refine we_loop1 ?_
 have rb : ∀ {a b c d : HProp}, Rd (a :: b :: c :: d :: arr bb 0 [.pointer (some ⟨r, 0, none⟩)] :: F) bb 0 (.pointer (some ⟨r, 0, none⟩)) := fun {a b c d} => .there (.there (.there (.there (Rd.row (k := 0) rfl rfl))))
 repeat (first | (apply wo_po; apply mo_load; exact rfl; exact rb; exact trivial) | (apply wo_po; apply mo_load; exact rfl; exact .there (Rd.row (k := 0) (vs := onceL (.int .i64 (w : Nat)) fv (.int .u64 0) (.int .u64 0) 0 0 (.chan (some c)) va0 co0) rfl rfl); exact trivial) | refine we_seq ?_ | (refine wR ?_; try simp only [oS]) | refine wM ?_ | refine wN ?_ | refine wD ?_ | refine we_block ?_)
 refine wo_call (.cons rfl (.cons rfl (.cons rfl .nil))) trivial (ostep_tr (A := nilAcc B x) (T := fun _ => True) (s := fun _ => 0) trivial .here) ?_
 rintro v1 L1 x1 ⟨s1, _, rfl, rfl, rfl⟩
 repeat (first | (apply wo_po; apply mo_load; exact rfl; exact rb; exact trivial) | refine we_seq ?_ | (refine wR ?_; try simp only [oS]) | refine wo_nil ?_ | refine wN ?_ | refine wD ?_)
 refine wo_call (.cons rfl .nil) trivial (load_lone (n := 0) (.there (Rd.row (k := 2) rfl rfl))) ?_
 rintro v1 L1 x1 ⟨rfl, rfl, rfl⟩
 repeat (first | (apply wo_po; apply mo_load; exact rfl; exact rb; exact trivial) | (apply wo_po; apply mo_bin; exact rfl; exact rfl; apply bin_eq; apply eql_nil_nil; exact trivial) | (apply wo_po; apply mo_makeFunc (first := []) (cap := [_]) (vf := []); exact .nil; exact .cons rfl .nil; exact trivial) | refine wgtrF ?_ | refine we_seq ?_ | (refine wR ?_; try simp only [oS]) | refine wo_nil ?_ | refine wM ?_ | refine wA ?_ | refine wN ?_ | refine wD ?_ | refine wT ?_ | refine wF ?_ | refine we_block ?_)
 refine wo_ent (arr r 0 (onceL (.int .i64 (w : Nat)) fv (.int .u64 0) (.int .u64 0) 0 0 (.chan (some c)) va0 co0) :: D :: chC c 0 #[] 0 0 :: arr bb 0 [.pointer (some ⟨r, 0, none⟩)] :: F) (.drop .refl) ?_
 refine wo_call (.cons rfl (.cons rfl .nil)) trivial (do_tr (G' := _) hm (.there (.there (.there hF))) (.there (.there (.there hF))) rfl (getfI_tr (dn := 0) (ms := 1) (bb := bb) mk hva rfl) rfl) ?_
 rintro v1 L1 x1 ⟨rfl, rfl, rfl⟩
 repeat (first | refine wo_nil ?_)
 refine at_star ((nilAcc B x1).C (fun _ => 0) :: arr r 0 (onceL (.int .i64 (w : Nat)) fv (.int .u64 (stOf co : Nat)) (.int .u64 1) 1 0 (.chan (some c)) va (.int .i64 co)) :: shutC c :: D' :: arr bb 0 [.pointer (some ⟨r, 0, none⟩)] :: F) (fun h st => nil_in st) ?_
 refine at_again (e0 := [(1, .nilIface), (2, .pointer (some ⟨bb, 0, none⟩))]) ?_ ⟨rfl, rfl, trivial⟩ .refl
 repeat (first | (apply wo_po; apply mo_load; exact rfl; exact rb; exact trivial) | (apply wo_po; apply mo_load; exact rfl; exact .there (Rd.row (k := 0) (vs := onceL (.int .i64 (w : Nat)) fv (.int .u64 (stOf co : Nat)) (.int .u64 1) 1 0 (.chan (some c)) va (.int .i64 co)) rfl rfl); exact trivial) | refine we_seq ?_ | (refine wR ?_; try simp only [oS]) | refine wM ?_ | refine wN ?_ | refine wD ?_ | refine we_block ?_)
 refine wo_call (.cons rfl (.cons rfl (.cons rfl .nil))) trivial (ostep_tr (A := nilAcc B x1) (T := fun _ => True) (s := fun _ => 0) trivial .here) ?_
 rintro v1 L1 x1 ⟨s1, _, rfl, rfl, rfl⟩
 repeat (first | (apply wo_po; apply mo_load; exact rfl; exact rb; exact trivial) | refine we_seq ?_ | (refine wR ?_; try simp only [oS]) | refine wo_nil ?_ | refine wN ?_ | refine wD ?_)
 refine wo_call (.cons rfl .nil) trivial (load_lone (.there (Rd.row (k := 2) rfl rfl))) ?_
 rintro v1 L1 x1 ⟨rfl, rfl, rfl⟩
 repeat (first | (apply wo_po; apply mo_load; exact rfl; exact rb; exact trivial) | refine wgtrT ?_ | refine we_seq ?_ | (refine wR ?_; try simp only [oS]) | refine wo_nil ?_ | refine wM ?_ | refine wA ?_ | refine wT ?_ | refine we_block ?_)
 refine wo_call (.cons rfl (.cons rfl .nil)) trivial (answerI_tr (va := va) (co := co) (.there (Rd.row (k := 8) rfl rfl)) (.there (Rd.row (k := 9) rfl rfl))) ?_
 rintro v1 L1 x1 ⟨rfl, rfl, rfl⟩
 by_cases e : co = 0
 ·subst e
  rw [show toldI va 0 = .tuple #[va, .int .i64 0] from rfl]
  repeat (first | refine wo_nil ?_ | refine wA ?_ | (apply wo_po; apply mo_extract; exact rfl; exact rfl; exact gY) | refine we_ret ?_)
  (first | refine or2 Try.func56 Try.results56 hQ rfl rfl ?_ | refine on2 Try.func56 Try.results56 hQ rfl rfl ?_)
  exact ⟨_, _, _, rfl, rfl, rfl⟩
 ·rw [show toldI va co = .tuple #[(.int .i64 0), .int .i64 co] from if_neg e]
  repeat (first | refine wo_nil ?_ | refine wA ?_ | (apply wo_po; apply mo_extract; exact rfl; exact rfl; exact gY) | refine we_ret ?_)
  (first | refine or2 Try.func56 Try.results56 hQ rfl rfl ?_ | refine on2 Try.func56 Try.results56 hQ rfl rfl ?_)
  exact ⟨_, _, _, (if_neg e).symm, rfl, rfl⟩
theorem getI_tr {o : Nat} {gv : Value} {R : List HProp → B.X → Prop} (hr : Rd L o 0 (.pointer (some ⟨r, 0, none⟩))) (tr : Tr Try.prog B 56 [.pointer (some ⟨r, 0, none⟩), gv] L x fun q L' x' => q = toldI va co ∧ R L' x') :
  Tr Try.prog B 24 [.pointer (some ⟨o, 0, none⟩), gv] L x fun q L' x' => q = toldI va co ∧ R L' x' := by
 refine tr_of_body Try.func24 rfl Try.ntmps24 (by simp) fun um Q _ hQ => ?_
 simp only [argE, Nat.zero_add, Nat.reduceAdd]
 repeat (first | (apply wo_po; apply mo_load; exact rfl; exact hr; exact gY) | refine we_seq ?_ | (refine wR ?_; try simp only [oS]) | refine wo_nil ?_ | refine wM ?_ | refine wA ?_ | refine wJ ?_ | refine wN ?_ | refine wD ?_ | (apply wo_po; apply mo_bin; exact rfl; exact rfl; apply bin_eq; apply eql_ptr_nil; exact gY) | refine wF ?_ | refine we_skip ?_)
 refine wo_call (.cons rfl (.cons rfl .nil)) trivial tr ?_
 rintro v1 L1 x1 ⟨rfl, hR⟩
 by_cases e : co = 0
 ·subst e
  rw [show toldI va 0 = .tuple #[va, .int .i64 0] from rfl]
  repeat (first | refine wo_nil ?_ | refine wA ?_ | (apply wo_po; apply mo_extract; exact rfl; exact rfl; exact gY) | refine we_ret ?_)
  (first | refine or2 Try.func24 Try.results24 hQ rfl rfl ?_ | refine on2 Try.func24 Try.results24 hQ rfl rfl ?_)
  exact ⟨rfl, hR⟩
 ·rw [show toldI va co = .tuple #[(.int .i64 0), .int .i64 co] from if_neg e]
  repeat (first | refine wo_nil ?_ | refine wA ?_ | (apply wo_po; apply mo_extract; exact rfl; exact rfl; exact gY) | refine we_ret ?_)
  (first | refine or2 Try.func24 Try.results24 hQ rfl rfl ?_ | refine on2 Try.func24 Try.results24 hQ rfl rfl ?_)
  exact ⟨(if_neg e).symm, hR⟩
end
end
end
end Go.Proofs.Ytcladnioicackaa
namespace Go.Proofs.Ytcladnioicackaa
open Go Go.PB
attribute [local irreducible] Mo Bin Eql Tr Wo TrD Wle Ap
section
def tc1 (mb i : Nat) (t : Nat × Nat × Nat) : HProp := all [arr t.1 0 (onceL (.int .i64 (i : Nat)) (.func (.func 46) #[] #[.pointer (some ⟨mb, 0, none⟩), .pointer (some ⟨t.2.2, 0, none⟩)]) (.int .u64 0) (.int .u64 0) 0 0 (.chan (some t.2.1)) (.int .i64 0) (.int .i64 0)),
 shpC t.1 145 10, chC t.2.1 0 #[] 0 0, arr t.2.2 0 [.int .i64 (i : Nat)]]
def tabR (mb : Nat) : List (Nat × Nat × Nat) → List HProp
 | [] => []
 | t :: l => tc1 mb l.length t :: tabR mb l
def tptr (t : Nat × Nat × Nat) : Value := .pointer (some ⟨t.1, 0, none⟩)
theorem tab_cons {mb : Nat} {t : Nat × Nat × Nat} {l : List (Nat × Nat × Nat)} {R : List HProp} {h : Hp} (s : Star (tc1 mb l.length t :: all (tabR mb l) :: R) h) : Star (all (tabR mb (t :: l)) :: R) h :=
 star_shut (M := tabR mb (t :: l)) (star_map s (fun _ x => x) fun _ y => star_open y)
section
variable {B : Hand} [Lets B] {L F : List HProp} {x : B.X}
def ntInv (x : B.X) (n tb mb : Nat) (F : List HProp) : Inv (Value × List (Nat × Nat × Nat)) B.X where
 e := fun i => [(0, .int .i64 (n : Nat)), (3, .pointer (some ⟨mb, 0, none⟩)), (6, .pointer (some ⟨tb, 0, none⟩)), (18, .int .i64 (n : Nat)), (19, .int .i64 (i.2.length : Nat))]
 L := fun i => arr tb 0 [i.1] :: vec 1 i.1 (i.2.reverse.map tptr) :: all (tabR mb i.2) :: F
 x := fun _ => x
 ok := fun i => i.2.length ≤ n
theorem ntab_nil {n : Int} : Tr Try.prog B 6 [.int .i64 n, .nilFunc] L x fun q L' x' => q = .tuple #[.pointer none, .int .i64 1] ∧ (∃ b, L' = b :: L) ∧ x' = x := by
 refine tr_of_body Try.func6 rfl Try.ntmps6 (by simp) fun um Q _ hQ => ?_
 simp only [argE, Nat.zero_add, Nat.reduceAdd]
 repeat (first | (apply wo_mo; apply mo_box; exact rfl; exact trivial) | refine we_seq ?_ | (refine wR ?_; try simp only [oS]))
 rintro v' L' ⟨mb, rfl, rfl⟩
 refine wo_ent (arr mb 0 [.nilFunc] :: L) .refl ?_
 repeat (first | (apply wo_po; apply mo_bin; exact rfl; exact rfl; apply bin_eq; apply eql_nilfunc_nil; exact trivial) | refine we_seq ?_ | (refine wR ?_; try simp only [oS]) | refine wo_nil ?_ | refine wA ?_ | refine wL ?_ | refine wT ?_ | refine we_ret ?_)
 (first | refine or2 Try.func6 Try.results6 hQ rfl rfl ?_ | refine on2 Try.func6 Try.results6 hQ rfl rfl ?_)
 exact ⟨rfl, ⟨_, rfl⟩, rfl⟩
theorem ntab_tr {n : Nat} {fn : Fn} {u v : Array Value} (h1 : 1 ≤ n) (h2 : n ≤ 1024) : Tr Try.prog B 6 [.int .i64 (n : Nat), .func fn u v] L x fun q L' x' =>
  ∃ tb mb sv l, l.length = n ∧ q = .tuple #[.pointer (some ⟨tb, 0, none⟩), .int .i64 0] ∧ L' = arr tb 0 [sv] :: vec 1 sv (l.reverse.map tptr) :: all (tabR mb l) :: arr mb 0 [.func fn u v] :: L ∧ x' = x := by
 refine tr_of_body Try.func6 rfl Try.ntmps6 (by simp) fun um Q _ hQ => ?_
 simp only [argE, Nat.zero_add, Nat.reduceAdd]
 repeat (first | (apply wo_mo; apply mo_box; exact rfl; exact trivial) | refine we_seq ?_ | (refine wR ?_; try simp only [oS]))
 rintro v' L' ⟨mb, rfl, rfl⟩
 refine wo_ent (arr mb 0 [.func fn u v] :: L) .refl ?_
 repeat (first | (apply wo_po; apply mo_bin; exact rfl; exact rfl; apply bin_eq; apply eql_func_nil; exact trivial) | (apply wo_po; apply mo_build (pv := []); exact rfl; exact .nil; exact rfl; exact trivial) | (apply wo_mo; apply mo_box; exact rfl; exact trivial) | refine wlssF ?_ | refine wgtrF ?_ | refine we_seq ?_ | (refine wR ?_; try simp only [oS]) | refine wo_nil ?_ | refine wM ?_ | refine wA ?_ | refine wJ ?_ | refine wL ?_ | refine wF ?_ | refine we_skip ?_)
 rintro v' L' ⟨tb, rfl, rfl⟩
 refine wo_star (arr tb 0 [.slice none 0 0] :: vec 1 (.slice none 0 0) [] :: all [] :: arr mb 0 [.func fn u v] :: L) (fun h st => star_map st (fun _ z => z) fun _ s => vec_nil (star_shut (M := []) s)) ?_
 repeat (first | refine we_seq ?_ | (refine wR ?_; try simp only [oS]) | refine wo_nil ?_ | refine wM ?_ | refine wA ?_ | refine we_block ?_)
 refine we_loopN (ntInv x n tb mb (arr mb 0 [.func fn u v] :: L)) (fun i => n - i.2.length) (.slice none 0 0, []) (Nat.zero_le _) ⟨rfl, rfl, rfl, rfl, rfl, trivial⟩ .refl rfl ?_
 rintro ⟨sv, l⟩ hok
 replace hok : l.length ≤ n := hok
 show We Try.prog B .normal 36 _ _ [(0, .int .i64 (n : Nat)), (3, .pointer (some ⟨mb, 0, none⟩)), (6, .pointer (some ⟨tb, 0, none⟩)), (18, .int .i64 (n : Nat)), (19, .int .i64 (l.length : Nat))] _ (arr tb 0 [sv] :: vec 1 sv (l.reverse.map tptr) :: all (tabR mb l) :: arr mb 0 [.func fn u v] :: L) x
 by_cases hlt : l.length < n
 ·repeat (first | (apply wo_mo; apply mo_alloc; exact trivial) | refine wlssT ?_ | refine we_seq ?_ | (refine wR ?_; try simp only [oS]) | refine wo_nil ?_ | refine wM ?_ | refine wT ?_ | refine we_skip ?_ | refine we_block ?_)
  rintro v' L' ⟨ib, rfl, rfl⟩
  refine wo_ent (arr ib 0 [.int .i64 0] :: arr tb 0 [sv] :: vec 1 sv (l.reverse.map tptr) :: all (tabR mb l) :: arr mb 0 [.func fn u v] :: L) .refl ?_
  repeat (first | refine wS ?_ | refine wo_nil ?_)
  refine we_ent (arr ib 0 [.int .i64 (l.length : Nat)] :: arr tb 0 [sv] :: vec 1 sv (l.reverse.map tptr) :: all (tabR mb l) :: arr mb 0 [.func fn u v] :: L) .refl ?_
  refine we_pure (of_has (.there (.there .here)) (vec_shape (by omega))) ?_
  rintro ⟨ra, rl, rc, rfl, hlen, hrc, hra, hra2⟩
  have hrl : rl = l.length := by simpa using hlen.symm
  subst hrl
  have rs : ∀ {L : List HProp}, Rd (arr tb 0 [.slice ra l.length rc] :: L) tb 0 (.slice ra l.length rc) := Rd.row0 rfl
  refine we_draw (List.range' 0 13) (by kernel_rfl) ?_
  repeat (first | (apply ap_read; exact rfl; exact rfl; exact trivial; apply mo_load; exact rfl; exact .there rs) | (apply ap_pure; exact rfl; exact rfl; exact gY; intro L; apply mo_makeFunc (first := []) (cap := [_, _]) (vf := []); exact .nil; exact .cons rfl (.cons rfl .nil)) | refine aM ?_ | refine aN ?_ | refine aD ?_ | refine aL ?_)
  refine ap_callR rfl rfl rfl trivial rfl rfl (.cons rfl (.cons rfl .nil)) freshI_tr ?_ ?_
  ·rintro v L' x' ⟨r, c, rfl, rfl, rfl⟩ p hp
   replace hp := (List.mem_filter.1 hp).1
   simp only [List.mem_cons, List.not_mem_nil, or_false] at hp
   rcases hp with rfl | rfl | rfl | rfl | rfl | rfl | rfl <;> first | exact .inl rfl | exact .inr ⟨_, rfl, trivial, mo_load rfl (.there (.there (.there (.there rs))))⟩ | exact .inr ⟨_, rfl, trivial, mo_load rfl (.there (.there (.there (Rd.row0 rfl))))⟩
  rintro v L' x1 ⟨r, c, rfl, rfl, rfl⟩
  refine ap_loudR rfl rfl rfl rfl trivial (mo_buildSlice (sz := 1) (vs := [.pointer (some ⟨r, 0, none⟩)]) rfl (.cons rfl .nil) rfl (by intro v hv; cases (List.mem_singleton.1 hv); exact rfl) (by omega)) ?_ ?_
  ·rintro v L' ⟨sb, rfl, rfl⟩ p hp
   replace hp := (List.mem_filter.1 (List.mem_filter.1 hp).1).1
   simp only [List.mem_cons, List.not_mem_nil, or_false] at hp
   rcases hp with rfl | rfl | rfl | rfl | rfl | rfl | rfl <;> first | exact .inl rfl | exact .inr ⟨_, rfl, trivial, mo_load rfl (.there (.there (.there (.there (.there rs)))))⟩ | exact .inr ⟨_, rfl, trivial, mo_load rfl (.there (.there (.there (.there (Rd.row0 rfl)))))⟩
  rintro v L' ⟨sb, rfl, rfl⟩
  refine ap_loud rfl rfl rfl rfl rfl trivial (mo_append (sz := 1) (new := [.pointer (some ⟨r, 0, none⟩)]) rfl rfl rfl rfl (.there (.there (.there (.there (.there (.there .here)))))) rfl (.inr ⟨_, _, rfl, Rds.all .here⟩) (by intro v hv; simp at hv; subst hv; rfl) (by simp only [sliceLen]; omega)) ?_
  rintro v' L' rfl
  refine ap_know (of_has .here (vec_shape (by omega))) ?_
  rintro ⟨qa, ql, qc, rfl, _⟩
  repeat (first | refine aN ?_ | refine aD ?_)
  refine ap_loud rfl rfl rfl rfl rfl trivial (mo_store rfl rfl rfl (Wt.row0 (k := 0) (vs := [.slice ra l.length rc]) (.there (.there (.there (.there (.there (.there .here)))))) (Nat.succ_pos 0))) ?_
  rintro v' L' ⟨rfl, rfl⟩
  refine ap_end ?_
  repeat (first | (refine wR ?_; try simp only [oS]) | refine wo_nil ?_ | refine wM ?_ | refine wadd ?_)
  refine at_star (arr tb 0 [.slice qa ql qc] :: vec 1 (.slice qa ql qc) (l.reverse.map tptr ++ [.pointer (some ⟨r, 0, none⟩)]) :: all (tabR mb ((r, c, ib) :: l)) :: arr mb 0 [.func fn u v] :: L) (fun h st => ?_) ?_
  ·refine (Ent.take (.there (.there (.there .here))) (.take (.there .here) (.take .here (.drop .refl)))).star (tab_cons (star_map (star_shut (M := [_, _, _, _]) ((Ent.take (L := _) (.there (.there .here)) (.take (.there (.there .here)) (.take (.there (.there .here)) (.take (.there (.there .here)) (.take (.there (.there (.there .here))) .refl))))).star st)) (fun _ z => z) fun _ z => z))
  refine at_ent _ (ent_eq (show _ = (ntInv x1 n tb mb (arr mb 0 [.func fn u v] :: L)).L (.slice qa ql qc, (r, c, ib) :: l) by show _ = arr tb 0 [.slice qa ql qc] :: vec 1 (.slice qa ql qc) (((r, c, ib) :: l).reverse.map tptr) :: all (tabR mb ((r, c, ib) :: l)) :: arr mb 0 [.func fn u v] :: L; rw [List.reverse_cons, List.map_append]; rfl)) ?_
  refine at_round (I := ntInv x1 n tb mb (arr mb 0 [.func fn u v] :: L)) (R := fun j => n - j.2.length < n - l.length) (.slice qa ql qc, (r, c, ib) :: l) ?_ ?_ ⟨rfl, rfl, rfl, rfl, rfl, trivial⟩ .refl rfl
  ·show n - (l.length + 1) < n - l.length; omega
  ·show l.length + 1 ≤ n; omega
 ·repeat (first | refine wlssF ?_ | refine we_seq ?_ | (refine wR ?_; try simp only [oS]) | refine wo_nil ?_ | refine wM ?_ | refine wA ?_ | refine wF ?_ | refine we_ret ?_ | refine we_exit ?_)
  (first | refine or2 Try.func6 Try.results6 hQ rfl rfl ?_ | refine on2 Try.func6 Try.results6 hQ rfl rfl ?_)
  exact ⟨tb, mb, sv, l, by omega, rfl, rfl, rfl⟩
end
end
end Go.Proofs.Ytcladnioicackaa
namespace Go.Proofs.Ytcladnioicackaa
open Go Go.PB
attribute [local irreducible] Mo Bin Eql Tr Wo TrD Wle
section
section
variable {B : Hand} [Lets B] {L F : List HProp} {x : B.X} {r c w : Nat}
theorem freshS_tr {i : Int} {fn : Fn} {u v : Array Value} : Tr Try.prog B 57 [.int .i64 i, .func fn u v] L x fun q L' x' => ∃ r c, q = .pointer (some ⟨r, 0, none⟩) ∧ L' = arr r 0 (onceL (.int .i64 i) (.func fn u v) (.int .u64 0) (.int .u64 0) 0 0 (.chan (some c)) (.string .empty) (.int .i64 0)) :: shpC r 151 10 :: chC c 0 #[] 0 0 :: L ∧ x' = x := by
 refine tr_of_body Try.func57 rfl Try.ntmps57 (by simp) fun um Q _ hQ => ?_
 simp only [argE, Nat.zero_add, Nat.reduceAdd]
 repeat (first | refine we_seq ?_ | (refine wR ?_; try simp only [oS]) | refine wo_nil ?_ | refine wM ?_ | refine wA ?_)
 apply wo_mo
 apply mo_makeChan (m := 0) (k := .i64)
 exact rfl
 omega
 omega
 exact trivial
 rintro v' L' ⟨c, rfl, rfl⟩
 repeat (first | (apply wo_po; apply mo_build (pv := [(0, _), (1, _), (5, _)]); exact rfl; exact .cons rfl (.cons rfl (.cons rfl .nil)); exact rfl; exact trivial))
 apply wo_mo
 apply mo_boxS
 exact rfl
 exact trivial
 rintro v' L' ⟨r, rfl, rfl⟩
 repeat (first | refine wo_nil ?_ | refine wA ?_ | refine we_ret ?_)
 (first | refine or1 Try.func57 Try.results57 hQ rfl ?_ | refine on1 Try.func57 Try.results57 hQ rfl ?_)
 exact ⟨r, c, rfl, rfl, rfl⟩
theorem newS_tr {fn : Fn} {u v : Array Value} : Tr Try.prog B 29 [.func fn u v] L x fun q L' x' => ∃ o r c, q = .pointer (some ⟨o, 0, none⟩) ∧ L' = arr o 0 [.pointer (some ⟨r, 0, none⟩)] :: arr r 0 (onceL (.int .i64 (0 : Nat)) (.func fn u v) (.int .u64 0) (.int .u64 0) 0 0 (.chan (some c)) (.string .empty) (.int .i64 0)) :: shpC r 151 10 :: chC c 0 #[] 0 0 :: L ∧ x' = x := by
 refine tr_of_body Try.func29 rfl Try.ntmps29 (by simp) fun um Q _ hQ => ?_
 simp only [argE, Nat.zero_add, Nat.reduceAdd]
 repeat (first | (apply wo_po; apply mo_bin; exact rfl; exact rfl; apply bin_eq; apply eql_func_nil; exact trivial) | refine we_seq ?_ | (refine wR ?_; try simp only [oS]) | refine wo_nil ?_ | refine wM ?_ | refine wA ?_ | refine wF ?_ | refine we_skip ?_)
 refine wo_call (.cons rfl (.cons rfl .nil)) trivial freshS_tr ?_
 rintro v1 L1 x1 ⟨r, c, rfl, rfl, rfl⟩
 repeat (first | (apply wo_po; apply mo_build (pv := [(0, _)]); exact rfl; exact .cons rfl .nil; exact rfl; exact trivial) | (apply wo_mo; apply mo_box; exact rfl; exact trivial))
 rintro v' L' ⟨o, rfl, rfl⟩
 repeat (first | refine wo_nil ?_ | refine wA ?_ | refine we_ret ?_)
 (first | refine or1 Try.func29 Try.results29 hQ rfl ?_ | refine on1 Try.func29 Try.results29 hQ rfl ?_)
 exact ⟨o, r, c, rfl, rfl, rfl⟩
theorem answerS2_tr {va : Value} (hr : Rd L r 8 va) : Tr Try.prog B 79 [.pointer (some ⟨r, 0, none⟩), .int .u64 2] L x fun q L' x' => q = .tuple #[va, .int .i64 0] ∧ L' = L ∧ x' = x := by
 refine tr_of_body Try.func79 rfl Try.ntmps79 (by simp) fun um Q _ hQ => ?_
 simp only [argE, Nat.zero_add, Nat.reduceAdd]
 repeat (first | (apply wo_po; apply mo_load; exact rfl; exact hr; exact trivial) | refine weqlT ?_ | refine we_seq ?_ | (refine wR ?_; try simp only [oS]) | refine wo_nil ?_ | refine wM ?_ | refine wA ?_ | refine wN ?_ | refine wD ?_ | refine wT ?_ | refine we_ret ?_ | refine we_block ?_)
 (first | refine or2 Try.func79 Try.results79 hQ rfl rfl ?_ | refine on2 Try.func79 Try.results79 hQ rfl rfl ?_)
 exact ⟨rfl, rfl, rfl⟩
theorem answerS3_tr {co : Int} (hr : Rd L r 9 (.int .i64 co)) : Tr Try.prog B 79 [.pointer (some ⟨r, 0, none⟩), .int .u64 3] L x fun q L' x' => q = .tuple #[(.string .empty), .int .i64 co] ∧ L' = L ∧ x' = x := by
 refine tr_of_body Try.func79 rfl Try.ntmps79 (by simp) fun um Q _ hQ => ?_
 simp only [argE, Nat.zero_add, Nat.reduceAdd]
 repeat (first | refine weqlT ?_ | refine weqlF ?_ | refine we_seq ?_ | (refine wR ?_; try simp only [oS]) | refine wo_nil ?_ | refine wM ?_ | refine wA ?_ | refine wT ?_ | refine wF ?_ | refine we_block ?_)
 refine we_draw (List.range' 0 7) (by kernel_rfl) ?_
 repeat (first | (apply ap_read; exact rfl; exact rfl; exact trivial; apply mo_load; exact rfl; exact hr) | refine aM ?_ | refine aA ?_ | refine aN ?_ | refine aD ?_ | refine ap_end ?_)
 repeat (first | refine we_ret ?_)
 (first | refine or2 Try.func79 Try.results79 hQ rfl rfl ?_ | refine on2 Try.func79 Try.results79 hQ rfl rfl ?_)
 exact ⟨rfl, rfl, rfl⟩
def toldS (va : Value) (co : Int) : Value := if co = 0 then .tuple #[va, .int .i64 0] else .tuple #[(.string .empty), .int .i64 co]
theorem answerS_tr {va : Value} {co : Int} (h8 : Rd L r 8 va) (h9 : Rd L r 9 (.int .i64 co)) : Tr Try.prog B 79 [.pointer (some ⟨r, 0, none⟩), .int .u64 (stOf co : Nat)] L x fun q L' x' => q = toldS va co ∧ L' = L ∧ x' = x := by
 by_cases e : co = 0
 ·simp only [stOf, toldS, e, if_true]; exact answerS2_tr h8
 ·simp only [stOf, toldS, e, if_false]; exact answerS3_tr h9
section
variable {D D' : HProp} {fv a0 st ov va va0 co0 : Value} {co dn ms : Int}
theorem lookS_trd [NoCut B] {b : Nat} {n : Int} (hn : n ≠ 4) (hr : Rd L b 0 (.int .u64 n)) : TrD Try.prog B 123 [.pointer (some ⟨b, 0, none⟩)] L x L := by
 refine trd_of_body Try.func123 rfl Try.ntmps123 (by simp) fun Q _ hQ => ?_
 simp only [argE, Nat.zero_add, Nat.reduceAdd]
 repeat (first | (apply wo_po; apply mo_load; exact rfl; exact hr; exact trivial) | refine weqlF ?_ | refine we_seq ?_ | (refine wR ?_; try simp only [oS]) | refine wo_nil ?_ | refine wF ?_ | refine we_skip ?_)
 exact at_retD Try.func123 Try.results123 hQ (.inr rfl) fun _ s => s
theorem workS_tr [NoCut B] (mk : MkOk B fv D D' va co) (hva : one va = true) (hL : L = arr r 0 (onceL a0 fv st (.int .u64 0) dn ms ov va0 co0) :: D :: F) :
  Tr Try.prog B 110 [.pointer (some ⟨r, 0, none⟩)] L x fun q L' x' => q = .int .u64 (stOf co : Nat) ∧ L' = arr r 0 (onceL a0 fv st (.int .u64 1) dn ms ov va (.int .i64 co)) :: D' :: F ∧ x' = x := by
 subst hL
 obtain ⟨f, first, cap, hcal, en, tr⟩ := mk
 refine Tr.post (R := fun q L' x' => ∃ c, q = .int .u64 (stOf co : Nat) ∧ L' = c :: arr r 0 (onceL a0 fv st (.int .u64 1) dn ms ov va (.int .i64 co)) :: D' :: F ∧ x' = x) ?_ (by rintro v L' x' ⟨c, h1, rfl, h3⟩; exact ⟨_, ⟨h1, rfl, h3⟩, fun h s => star_drop s⟩)
 refine tr_of_body Try.func110 rfl Try.ntmps110 (by simp) fun um Q _ hQ => ?_
 simp only [argE, Nat.zero_add, Nat.reduceAdd]
 repeat (first | (apply wo_mo; apply mo_alloc; exact trivial) | refine we_seq ?_ | (refine wR ?_; try simp only [oS]))
 rintro v' L' ⟨tb, rfl, rfl⟩
 refine wo_ent (arr tb 0 [.int .u64 0] :: arr r 0 (onceL a0 fv st (.int .u64 0) dn ms ov va0 co0) :: D :: F) .refl ?_
 repeat (first | (apply wo_po; apply mo_makeFunc (first := []) (cap := [_]) (vf := []); exact .nil; exact .cons rfl .nil; exact trivial) | refine we_seq ?_ | (refine wR ?_; try simp only [oS]) | refine wo_nil ?_)
 refine wo_dfr (first := []) (cap := [_]) (args := []) rfl .nil trivial ?_
 repeat (first | refine we_seq ?_ | (refine wR ?_; try simp only [oS]) | refine wo_nil ?_ | refine wM ?_ | refine wN ?_ | refine wD ?_)
 refine wo_call (pk := Pass.of_no) (.cons rfl (.cons rfl .nil)) trivial (add_lone (r := 1) (n := 0) (L1 := arr tb 0 [.int .u64 0] :: arr r 0 (onceL a0 fv st (.int .u64 1) dn ms ov va0 co0) :: D :: F) (.there (Rd.row (k := 3) rfl rfl)) (by decide) (Wt.row0 (k := 3) (.there .here) (by simp [onceL]))) ?_
 rintro v1 L1 x1 ⟨rfl, rfl, rfl⟩
 repeat (first | refine wS ?_ | refine we_seq ?_ | (refine wR ?_; try simp only [oS]) | refine wo_nil ?_ | refine wM ?_ | refine wN ?_ | refine wD ?_ | refine wL ?_)
 refine wo_ent (arr tb 0 [.int .u64 4] :: arr r 0 (onceL a0 fv st (.int .u64 1) dn ms ov va0 co0) :: D :: F) .refl ?_
 skip
 refine wo_callv (pk := Pass.of_no) (args := []) rfl hcal .nil trivial (by simpa using tr (arr tb 0 [.int .u64 4] :: arr r 0 (onceL a0 fv st (.int .u64 1) dn ms ov va0 co0) :: D :: F) (arr tb 0 [.int .u64 4] :: arr r 0 (onceL a0 fv st (.int .u64 1) dn ms ov va0 co0) :: F) _ (.there (.there .here))) ?_
 rintro v1 L1 x1 ⟨rfl, rfl, rfl⟩
 repeat (first | refine we_seq ?_ | (refine wR ?_; try simp only [oS]) | refine wo_nil ?_ | refine wM ?_ | refine wA ?_ | refine wN ?_ | refine wD ?_ | (apply wo_po; apply mo_extract; exact rfl; exact rfl; exact gY))
 apply wo_pm
 apply mo_store
 exact rfl
 exact rfl
 exact hva
 exact Wt.row0 (k := 8) (vs := onceL a0 fv st (.int .u64 1) dn ms ov va0 co0) (.there (.there .here)) (by simp [onceL])
 exact trivial
 refine wo_ent (D' :: arr tb 0 [.int .u64 4] :: arr r 0 (onceL a0 fv st (.int .u64 1) dn ms ov va co0) :: F) .refl ?_
 repeat (first | refine wN ?_ | refine wD ?_)
 apply wo_pm
 apply mo_store
 exact rfl
 exact rfl
 exact rfl
 exact Wt.row0 (k := 9) (vs := onceL a0 fv st (.int .u64 1) dn ms ov va co0) (.there (.there .here)) (by simp [onceL])
 exact trivial
 refine wo_ent (D' :: arr tb 0 [.int .u64 4] :: arr r 0 (onceL a0 fv st (.int .u64 1) dn ms ov va (.int .i64 co)) :: F) .refl ?_
 by_cases e : co = 0
 ·subst e
  repeat (first | refine wS ?_ | refine wneqF ?_ | refine we_seq ?_ | (refine wR ?_; try simp only [oS]) | refine wo_nil ?_ | refine wM ?_ | refine wF ?_ | refine we_ret ?_ | refine we_skip ?_)
  refine at_ent (arr tb 0 [.int .u64 2] :: arr r 0 (onceL a0 fv st (.int .u64 1) dn ms ov va (.int .i64 0)) :: D' :: F) (.take (.there .here) (.take (.there .here) (.take .here .refl))) ?_
  refine at_dfr (.inl rfl) (lookS_trd (b := tb) (n := 2) (by decide) (Rd.row0 rfl)) ?_
  refine at_leaveM (ex := .ret) (rs := [.cell 2 22]) (vs := [.int .u64 2]) Try.func110 Try.results110 hQ (.inl rfl) (.cons (.cell1 (b := tb) (o := 0) rfl (Rd.row0 rfl)) .nil) ?_
  exact ⟨_, rfl, rfl, rfl⟩
 ·repeat (first | refine wS ?_ | refine wneqT ?_ | refine we_seq ?_ | (refine wR ?_; try simp only [oS]) | refine wo_nil ?_ | refine wM ?_ | refine wT ?_ | refine we_ret ?_)
  refine at_ent (arr tb 0 [.int .u64 3] :: arr r 0 (onceL a0 fv st (.int .u64 1) dn ms ov va (.int .i64 co)) :: D' :: F) (.take (.there .here) (.take (.there .here) (.take .here .refl))) ?_
  refine at_dfr (.inl rfl) (lookS_trd (b := tb) (n := 3) (by decide) (Rd.row0 rfl)) ?_
  refine at_leaveM (ex := .ret) (rs := [.cell 2 22]) (vs := [.int .u64 3]) Try.func110 Try.results110 hQ (.inl rfl) (.cons (.cell1 (b := tb) (o := 0) rfl (Rd.row0 rfl)) .nil) ?_
  exact ⟨_, by simp [stOf, e, packR], rfl, rfl⟩
end
section
variable {gv : Value} {A : Acc B gv} {D D' : HProp} {fv va va0 co0 : Value} {co dn ms : Int}
theorem claimS_tr [NoCut B] (mk : MkOk B fv D D' va co) (hva : one va = true) {s : A.S} {R : A.S → Prop} (hst : A.step 5 w s fun s1 => A.step 2 w s1 R) (hL : L = A.C s :: arr r 0 (onceL (.int .i64 (w : Nat)) fv (.int .u64 0) (.int .u64 0) dn ms (.chan (some c)) va0 co0) :: D :: chC c 0 #[] 0 0 :: F) :
  Tr Try.prog B 81 [.pointer (some ⟨r, 0, none⟩), gv] L (A.x s) fun q L' x' => ∃ s', R s' ∧ q = .bool true ∧ L' = shutC c :: A.C s' :: arr r 0 (onceL (.int .i64 (w : Nat)) fv (.int .u64 (stOf co : Nat)) (.int .u64 1) dn ms (.chan (some c)) va (.int .i64 co)) :: D' :: F ∧ x' = A.x s' := by
 subst hL
 have hso : stOf co < 18446744073709551616 := by unfold stOf; split <;> decide
 refine tr_of_body Try.func81 rfl Try.ntmps81 (by simp) fun um Q _ hQ => ?_
 simp only [argE, Nat.zero_add, Nat.reduceAdd]
 repeat (first | (apply wo_po; apply mo_load; exact rfl; exact .there (Rd.row (k := 0) rfl rfl); exact trivial) | refine we_seq ?_ | (refine wR ?_; try simp only [oS]) | refine wo_nil ?_ | refine wM ?_ | refine wA ?_ | refine wN ?_ | refine wD ?_)
 refine wo_call (.cons rfl (.cons rfl (.cons rfl .nil))) trivial (ostep_tr hst .here) ?_
 rintro v1 L1 x1 ⟨s1, hst1, rfl, rfl, rfl⟩
 repeat (first | refine we_seq ?_ | (refine wR ?_; try simp only [oS]) | refine wo_nil ?_ | refine wM ?_ | refine wN ?_ | refine wD ?_)
 refine wo_call (.cons rfl (.cons rfl (.cons rfl .nil))) trivial (cas_lone (n := 0) (L1 := A.C s1 :: arr r 0 (onceL (.int .i64 (w : Nat)) fv (.int .u64 1) (.int .u64 0) dn ms (.chan (some c)) va0 co0) :: D :: chC c 0 #[] 0 0 :: F) (.there (Rd.row (k := 2) rfl rfl)) (Wt.row0 (k := 2) (.there .here) (by simp [onceL]))) ?_
 rintro v1 L1 x1 ⟨rfl, hL1, rfl⟩
 rw [if_pos rfl] at hL1
 subst hL1
 repeat (first | refine we_seq ?_ | (refine wR ?_; try simp only [oS]) | refine wo_nil ?_ | refine wM ?_ | (apply wo_po; apply mo_not; exact rfl; exact gY) | refine wF ?_ | refine we_skip ?_)
 refine wo_ent (arr r 0 (onceL (.int .i64 (w : Nat)) fv (.int .u64 1) (.int .u64 0) dn ms (.chan (some c)) va0 co0) :: D :: A.C s1 :: chC c 0 #[] 0 0 :: F) (.take (.there .here) (.take (.there .here) (.take .here .refl))) ?_
 refine wo_call (.cons rfl .nil) trivial (workS_tr mk hva rfl) ?_
 rintro v1 L1 x1 ⟨rfl, rfl, rfl⟩
 repeat (first | (apply wo_po; apply mo_load; exact rfl; exact Rd.row (k := 0) rfl rfl; exact trivial) | refine we_seq ?_ | (refine wR ?_; try simp only [oS]) | refine wo_nil ?_ | refine wM ?_ | refine wA ?_ | refine wN ?_ | refine wD ?_)
 refine wo_call (.cons rfl (.cons rfl (.cons rfl .nil))) trivial (ostep_tr (s := s1) hst1 (.there (.there .here))) ?_
 rintro v1 L1 x1 ⟨s2, hst2, rfl, rfl, rfl⟩
 repeat (first | refine we_seq ?_ | (refine wR ?_; try simp only [oS]) | refine wo_nil ?_ | refine wM ?_ | refine wN ?_ | refine wD ?_)
 refine wo_call (.cons rfl (.cons rfl .nil)) trivial (store_lone (L1 := A.C s2 :: arr r 0 (onceL (.int .i64 (w : Nat)) fv (.int .u64 (stOf co : Nat)) (.int .u64 1) dn ms (.chan (some c)) va (.int .i64 co)) :: D' :: chC c 0 #[] 0 0 :: F) (Wt.row0 (k := 2) (.there .here) (by simp [onceL]))) ?_
 rintro v1 L1 x1 ⟨rfl, rfl, rfl⟩
 repeat (first | (apply wo_po; apply mo_load; exact rfl; exact .there (Rd.row (k := 7) rfl rfl); exact trivial) | (apply wo_pm; apply mo_close; exact rfl; exact .there (.there (.there .here)); exact trivial) | refine we_seq ?_ | (refine wR ?_; try simp only [oS]) | refine wo_nil ?_ | refine wM ?_ | refine wA ?_ | refine wN ?_ | refine wD ?_ | refine we_ret ?_)
 (first | refine or1 Try.func81 Try.results81 hQ rfl ?_ | refine on1 Try.func81 Try.results81 hQ rfl ?_)
 exact ⟨s2, hst2, rfl, rfl, rfl⟩
theorem getfS_tr [NoCut B] {bb : Nat} (mk : MkOk B fv D D' va co) (hva : one va = true) (hL : L = arr r 0 (onceL (.int .i64 (w : Nat)) fv (.int .u64 0) (.int .u64 0) dn ms (.chan (some c)) va0 co0) :: D :: chC c 0 #[] 0 0 :: arr bb 0 [.pointer (some ⟨r, 0, none⟩)] :: F) :
  Tr Try.prog B 80 [.pointer (some ⟨bb, 0, none⟩)] L x fun q L' x' => q = .tuple #[] ∧ L' = arr r 0 (onceL (.int .i64 (w : Nat)) fv (.int .u64 (stOf co : Nat)) (.int .u64 1) dn ms (.chan (some c)) va (.int .i64 co)) :: shutC c :: D' :: arr bb 0 [.pointer (some ⟨r, 0, none⟩)] :: F ∧ x' = x := by
 subst hL
 refine tr_of_body Try.func80 rfl Try.ntmps80 (by simp) fun um Q _ hQ => ?_
 simp only [argE, Nat.zero_add, Nat.reduceAdd]
 have rb : ∀ {a b c : HProp}, Rd (a :: b :: c :: arr bb 0 [.pointer (some ⟨r, 0, none⟩)] :: F) bb 0 (.pointer (some ⟨r, 0, none⟩)) := fun {a b c} => .there (.there (.there (Rd.row (k := 0) rfl rfl)))
 repeat (first | (apply wo_po; apply mo_load; exact rfl; exact rb; exact trivial) | refine we_seq ?_ | (refine wR ?_; try simp only [oS]))
 refine wo_star ((nilAcc B x).C (fun _ => 0) :: arr r 0 (onceL (.int .i64 (w : Nat)) fv (.int .u64 0) (.int .u64 0) dn ms (.chan (some c)) va0 co0) :: D :: chC c 0 #[] 0 0 :: arr bb 0 [.pointer (some ⟨r, 0, none⟩)] :: F) (fun h st => nil_in st) ?_
 refine wo_call (.cons rfl (.cons rfl .nil)) trivial (claimS_tr (A := nilAcc B x) (s := fun _ => 0) (R := fun _ => True) mk hva trivial rfl) ?_
 rintro v1 L1 x1 ⟨s1, _, rfl, rfl, rfl⟩
 repeat (first | refine wo_nil ?_ | (apply wo_po; apply mo_not; exact rfl; exact gY) | refine wF ?_ | refine we_skip ?_)
 refine at_ent (arr r 0 (onceL (.int .i64 (w : Nat)) fv (.int .u64 (stOf co : Nat)) (.int .u64 1) dn ms (.chan (some c)) va (.int .i64 co)) :: shutC c :: D' :: arr bb 0 [.pointer (some ⟨r, 0, none⟩)] :: F) (.take (.there (.there .here)) (.take .here (.drop .refl))) ?_
 (first | refine or0 Try.func80 Try.results80 hQ ?_ | refine on0 Try.func80 Try.results80 hQ ?_)
 exact ⟨rfl, rfl, rfl⟩
theorem newNS_tr [NoCut B] [AllM B] {t : TypeId} {m : Nat} {G : List HProp} (hm : 5 < m) (hF : Has F (shpC r t m) G) (mk : MkOk B fv D D' va co) (hva : one va = true) (hL : L = arr r 0 (onceL (.int .i64 (w : Nat)) fv (.int .u64 0) (.int .u64 0) 0 0 (.chan (some c)) va0 co0) :: D :: chC c 0 #[] 0 0 :: F) :
  Tr Try.prog B 58 [.pointer (some ⟨r, 0, none⟩), .nilIface] L x fun q L' x' => q = toldS va co ∧ L' = arr r 0 (onceL (.int .i64 (w : Nat)) fv (.int .u64 (stOf co : Nat)) (.int .u64 1) 1 0 (.chan (some c)) va (.int .i64 co)) :: D' :: F ∧ x' = x := by
 subst hL
 refine Tr.post (R := fun q L' x' => ∃ a b d, q = toldS va co ∧ L' = a :: arr r 0 (onceL (.int .i64 (w : Nat)) fv (.int .u64 (stOf co : Nat)) (.int .u64 1) 1 0 (.chan (some c)) va (.int .i64 co)) :: d :: D' :: b :: F ∧ x' = x) ?_ (by rintro v L' x' ⟨a, b, d, h2, rfl, h3⟩; exact ⟨_, ⟨h2, rfl, h3⟩, fun h st => (Ent.drop (.take .here (.drop (.take .here (.drop .refl))))).star st⟩)
 have hlo : 1 < (stOf co : Int) := by unfold stOf; split <;> decide
 refine tr_of_body Try.func58 rfl Try.ntmps58 (by simp) fun um Q _ hQ => ?_
 simp only [argE, Nat.zero_add, Nat.reduceAdd]
 repeat (first | (apply wo_mo; apply mo_box; exact rfl; exact trivial) | refine we_seq ?_ | (refine wR ?_; try simp only [oS]))
 rintro v' L' ⟨bb, rfl, rfl⟩
 refine wo_ent (arr r 0 (onceL (.int .i64 (w : Nat)) fv (.int .u64 0) (.int .u64 0) 0 0 (.chan (some c)) va0 co0) :: D :: chC c 0 #[] 0 0 :: arr bb 0 [.pointer (some ⟨r, 0, none⟩)] :: F) (.take (.there .here) (.take (.there .here) (.take (.there .here) (.take .here .refl)))) ?_
 repeat (first | refine wo_nil ?_ | refine wA ?_ | refine we_block ?_)
 refine we_star ((nilAcc B x).C (fun _ => 0) :: arr r 0 (onceL (.int .i64 (w : Nat)) fv (.int .u64 0) (.int .u64 0) 0 0 (.chan (some c)) va0 co0) :: D :: chC c 0 #[] 0 0 :: arr bb 0 [.pointer (some ⟨r, 0, none⟩)] :: F) (fun h st => nil_in st) ?_
 refine we_loop1 ?_
 have rb : ∀ {a b c d : HProp}, Rd (a :: b :: c :: d :: arr bb 0 [.pointer (some ⟨r, 0, none⟩)] :: F) bb 0 (.pointer (some ⟨r, 0, none⟩)) := fun {a b c d} => .there (.there (.there (.there (Rd.row (k := 0) rfl rfl))))
 repeat (first | (apply wo_po; apply mo_load; exact rfl; exact rb; exact trivial) | (apply wo_po; apply mo_load; exact rfl; exact .there (Rd.row (k := 0) (vs := onceL (.int .i64 (w : Nat)) fv (.int .u64 0) (.int .u64 0) 0 0 (.chan (some c)) va0 co0) rfl rfl); exact trivial) | refine we_seq ?_ | (refine wR ?_; try simp only [oS]) | refine wM ?_ | refine wN ?_ | refine wD ?_ | refine we_block ?_)
 refine wo_call (.cons rfl (.cons rfl (.cons rfl .nil))) trivial (ostep_tr (A := nilAcc B x) (T := fun _ => True) (s := fun _ => 0) trivial .here) ?_
 rintro v1 L1 x1 ⟨s1, _, rfl, rfl, rfl⟩
 repeat (first | (apply wo_po; apply mo_load; exact rfl; exact rb; exact trivial) | refine we_seq ?_ | (refine wR ?_; try simp only [oS]) | refine wo_nil ?_ | refine wN ?_ | refine wD ?_)
 refine wo_call (.cons rfl .nil) trivial (load_lone (n := 0) (.there (Rd.row (k := 2) rfl rfl))) ?_
 rintro v1 L1 x1 ⟨rfl, rfl, rfl⟩
 repeat (first | (apply wo_po; apply mo_load; exact rfl; exact rb; exact trivial) | (apply wo_po; apply mo_bin; exact rfl; exact rfl; apply bin_eq; apply eql_nil_nil; exact trivial) | (apply wo_po; apply mo_makeFunc (first := []) (cap := [_]) (vf := []); exact .nil; exact .cons rfl .nil; exact trivial) | refine wgtrF ?_ | refine we_seq ?_ | (refine wR ?_; try simp only [oS]) | refine wo_nil ?_ | refine wM ?_ | refine wA ?_ | refine wN ?_ | refine wD ?_ | refine wT ?_ | refine wF ?_ | refine we_block ?_)
 refine wo_ent (arr r 0 (onceL (.int .i64 (w : Nat)) fv (.int .u64 0) (.int .u64 0) 0 0 (.chan (some c)) va0 co0) :: D :: chC c 0 #[] 0 0 :: arr bb 0 [.pointer (some ⟨r, 0, none⟩)] :: F) (.drop .refl) ?_
 refine wo_call (.cons rfl (.cons rfl .nil)) trivial (do_tr (G' := _) hm (.there (.there (.there hF))) (.there (.there (.there hF))) rfl (getfS_tr (dn := 0) (ms := 1) (bb := bb) mk hva rfl) rfl) ?_
 rintro v1 L1 x1 ⟨rfl, rfl, rfl⟩
 repeat (first | refine wo_nil ?_)
 refine at_star ((nilAcc B x1).C (fun _ => 0) :: arr r 0 (onceL (.int .i64 (w : Nat)) fv (.int .u64 (stOf co : Nat)) (.int .u64 1) 1 0 (.chan (some c)) va (.int .i64 co)) :: shutC c :: D' :: arr bb 0 [.pointer (some ⟨r, 0, none⟩)] :: F) (fun h st => nil_in st) ?_
 refine at_again (e0 := [(1, .nilIface), (2, .pointer (some ⟨bb, 0, none⟩))]) ?_ ⟨rfl, rfl, trivial⟩ .refl
 repeat (first | (apply wo_po; apply mo_load; exact rfl; exact rb; exact trivial) | (apply wo_po; apply mo_load; exact rfl; exact .there (Rd.row (k := 0) (vs := onceL (.int .i64 (w : Nat)) fv (.int .u64 (stOf co : Nat)) (.int .u64 1) 1 0 (.chan (some c)) va (.int .i64 co)) rfl rfl); exact trivial) | refine we_seq ?_ | (refine wR ?_; try simp only [oS]) | refine wM ?_ | refine wN ?_ | refine wD ?_ | refine we_block ?_)
 refine wo_call (.cons rfl (.cons rfl (.cons rfl .nil))) trivial (ostep_tr (A := nilAcc B x1) (T := fun _ => True) (s := fun _ => 0) trivial .here) ?_
 rintro v1 L1 x1 ⟨s1, _, rfl, rfl, rfl⟩
 repeat (first | (apply wo_po; apply mo_load; exact rfl; exact rb; exact trivial) | refine we_seq ?_ | (refine wR ?_; try simp only [oS]) | refine wo_nil ?_ | refine wN ?_ | refine wD ?_)
 refine wo_call (.cons rfl .nil) trivial (load_lone (.there (Rd.row (k := 2) rfl rfl))) ?_
 rintro v1 L1 x1 ⟨rfl, rfl, rfl⟩
 repeat (first | (apply wo_po; apply mo_load; exact rfl; exact rb; exact trivial) | refine wgtrT ?_ | refine we_seq ?_ | (refine wR ?_; try simp only [oS]) | refine wo_nil ?_ | refine wM ?_ | refine wA ?_ | refine wT ?_ | refine we_block ?_)
 refine wo_call (.cons rfl (.cons rfl .nil)) trivial (answerS_tr (va := va) (co := co) (.there (Rd.row (k := 8) rfl rfl)) (.there (Rd.row (k := 9) rfl rfl))) ?_
 rintro v1 L1 x1 ⟨rfl, rfl, rfl⟩
 by_cases e : co = 0
 ·subst e
  rw [show toldS va 0 = .tuple #[va, .int .i64 0] from rfl]
  repeat (first | refine wo_nil ?_ | refine wA ?_ | (apply wo_po; apply mo_extract; exact rfl; exact rfl; exact gY) | refine we_ret ?_)
  (first | refine or2 Try.func58 Try.results58 hQ rfl rfl ?_ | refine on2 Try.func58 Try.results58 hQ rfl rfl ?_)
  exact ⟨_, _, _, rfl, rfl, rfl⟩
 ·rw [show toldS va co = .tuple #[(.string .empty), .int .i64 co] from if_neg e]
  repeat (first | refine wo_nil ?_ | refine wA ?_ | (apply wo_po; apply mo_extract; exact rfl; exact rfl; exact gY) | refine we_ret ?_)
  (first | refine or2 Try.func58 Try.results58 hQ rfl rfl ?_ | refine on2 Try.func58 Try.results58 hQ rfl rfl ?_)
  exact ⟨_, _, _, (if_neg e).symm, rfl, rfl⟩
theorem getS_tr {o : Nat} {gv : Value} {R : List HProp → B.X → Prop} (hr : Rd L o 0 (.pointer (some ⟨r, 0, none⟩))) (tr : Tr Try.prog B 58 [.pointer (some ⟨r, 0, none⟩), gv] L x fun q L' x' => q = toldS va co ∧ R L' x') :
  Tr Try.prog B 31 [.pointer (some ⟨o, 0, none⟩), gv] L x fun q L' x' => q = toldS va co ∧ R L' x' := by
 refine tr_of_body Try.func31 rfl Try.ntmps31 (by simp) fun um Q _ hQ => ?_
 simp only [argE, Nat.zero_add, Nat.reduceAdd]
 repeat (first | (apply wo_po; apply mo_load; exact rfl; exact hr; exact gY) | refine we_seq ?_ | (refine wR ?_; try simp only [oS]) | refine wo_nil ?_ | refine wM ?_ | refine wA ?_ | refine wJ ?_ | refine wN ?_ | refine wD ?_ | (apply wo_po; apply mo_bin; exact rfl; exact rfl; apply bin_eq; apply eql_ptr_nil; exact gY) | refine wF ?_ | refine we_skip ?_)
 refine wo_call (.cons rfl (.cons rfl .nil)) trivial tr ?_
 rintro v1 L1 x1 ⟨rfl, hR⟩
 by_cases e : co = 0
 ·subst e
  rw [show toldS va 0 = .tuple #[va, .int .i64 0] from rfl]
  repeat (first | refine wo_nil ?_ | refine wA ?_ | (apply wo_po; apply mo_extract; exact rfl; exact rfl; exact gY) | refine we_ret ?_)
  (first | refine or2 Try.func31 Try.results31 hQ rfl rfl ?_ | refine on2 Try.func31 Try.results31 hQ rfl rfl ?_)
  exact ⟨rfl, hR⟩
 ·rw [show toldS va co = .tuple #[(.string .empty), .int .i64 co] from if_neg e]
  repeat (first | refine wo_nil ?_ | refine wA ?_ | (apply wo_po; apply mo_extract; exact rfl; exact rfl; exact gY) | refine we_ret ?_)
  (first | refine or2 Try.func31 Try.results31 hQ rfl rfl ?_ | refine on2 Try.func31 Try.results31 hQ rfl rfl ?_)
  exact ⟨(if_neg e).symm, hR⟩
theorem madeS_tr {o : Nat} {n : Int} (hr : Rd L o 0 (.pointer (some ⟨r, 0, none⟩))) (h3 : Rd L r 3 (.int .u64 n)) (hn : IntKind.i64.wrap n = n) :
  Tr Try.prog B 32 [.pointer (some ⟨o, 0, none⟩)] L x fun q L' x' => q = .int .i64 n ∧ L' = L ∧ x' = x := by
 refine tr_of_body Try.func32 rfl Try.ntmps32 (by simp) fun um Q _ hQ => ?_
 simp only [argE, Nat.zero_add, Nat.reduceAdd]
 repeat (first | (apply wo_po; apply mo_load; exact rfl; exact hr; exact gY) | refine we_seq ?_ | (refine wR ?_; try simp only [oS]) | refine wo_nil ?_ | refine wM ?_ | refine wA ?_ | refine wJ ?_ | refine wN ?_ | refine wD ?_ | (apply wo_po; apply mo_bin; exact rfl; exact rfl; apply bin_eq; apply eql_ptr_nil; exact gY) | refine wF ?_ | refine we_skip ?_)
 refine wo_call (.cons rfl .nil) trivial (load_lone h3) ?_
 rintro v1 L1 x1 ⟨rfl, rfl, rfl⟩
 repeat (first | (apply wo_po; apply mo_conv; exact rfl; exact hn; exact trivial) | refine wo_nil ?_ | refine wA ?_ | refine we_ret ?_)
 (first | refine or1 Try.func32 Try.results32 hQ rfl ?_ | refine on1 Try.func32 Try.results32 hQ rfl ?_)
 exact ⟨rfl, rfl, rfl⟩
end
end
end
end Go.Proofs.Ytcladnioicackaa
namespace Go.Proofs.Ytcladnioicackaa
open Go Go.PB
attribute [local irreducible] Mo Bin Eql Tr Wo TrD Wle Ap
section
section
variable {B : Hand} [Lets B] {L F : List HProp} {x : B.X} {gv : Value}
theorem newI_nil : Tr Try.prog B 23 [.nilFunc] L x fun q L' x' => q = .pointer none ∧ L' = L ∧ x' = x := by
 refine tr_of_body Try.func23 rfl Try.ntmps23 (by simp) fun um Q _ hQ => ?_
 simp only [argE, Nat.zero_add, Nat.reduceAdd]
 repeat (first | (apply wo_po; apply mo_bin; exact rfl; exact rfl; apply bin_eq; apply eql_nilfunc_nil; exact trivial) | refine we_seq ?_ | (refine wR ?_; try simp only [oS]) | refine wo_nil ?_ | refine wM ?_ | refine wA ?_ | refine wT ?_ | refine we_ret ?_)
 (first | refine or1 Try.func23 Try.results23 hQ rfl ?_ | refine on1 Try.func23 Try.results23 hQ rfl ?_)
 exact ⟨rfl, rfl, rfl⟩
theorem getI_nil : Tr Try.prog B 24 [.pointer none, gv] L x fun q L' x' => q = .tuple #[.int .i64 0, .int .i64 1] ∧ L' = L ∧ x' = x := by
 refine tr_of_body Try.func24 rfl Try.ntmps24 (by simp) fun um Q _ hQ => ?_
 simp only [argE, Nat.zero_add, Nat.reduceAdd]
 repeat (first | refine we_seq ?_ | (refine wR ?_; try simp only [oS]) | refine wo_nil ?_ | refine wM ?_ | refine wA ?_ | (apply wo_no; exact rfl) | refine wK ?_ | (apply wo_po; apply mo_bin; exact rfl; exact rfl; apply bin_eq; apply eql_ptr_nil; exact gY) | refine wT ?_ | refine we_ret ?_)
 (first | refine or2 Try.func24 Try.results24 hQ rfl rfl ?_ | refine on2 Try.func24 Try.results24 hQ rfl rfl ?_)
 exact ⟨rfl, rfl, rfl⟩
theorem getI_zero {o : Nat} (h : Rd L o 0 (.pointer none)) : Tr Try.prog B 24 [.pointer (some ⟨o, 0, none⟩), gv] L x fun q L' x' => q = .tuple #[.int .i64 0, .int .i64 1] ∧ L' = L ∧ x' = x := by
 refine tr_of_body Try.func24 rfl Try.ntmps24 (by simp) fun um Q _ hQ => ?_
 simp only [argE, Nat.zero_add, Nat.reduceAdd]
 repeat (first | (apply wo_po; apply mo_load; exact rfl; exact h; exact rfl) | refine we_seq ?_ | (refine wR ?_; try simp only [oS]) | refine wo_nil ?_ | refine wM ?_ | refine wA ?_ | refine wJ ?_ | refine wN ?_ | refine wD ?_ | (apply wo_po; apply mo_bin; exact rfl; exact rfl; apply bin_eq; apply eql_ptr_nil; exact gY) | refine wT ?_ | refine we_ret ?_)
 (first | refine or2 Try.func24 Try.results24 hQ rfl rfl ?_ | refine on2 Try.func24 Try.results24 hQ rfl rfl ?_)
 exact ⟨rfl, rfl, rfl⟩
theorem madeI_nil : Tr Try.prog B 26 [.pointer none] L x fun q L' x' => q = .int .i64 0 ∧ L' = L ∧ x' = x := by
 refine tr_of_body Try.func26 rfl Try.ntmps26 (by simp) fun um Q _ hQ => ?_
 simp only [argE, Nat.zero_add, Nat.reduceAdd]
 repeat (first | refine we_seq ?_ | (refine wR ?_; try simp only [oS]) | refine wo_nil ?_ | refine wM ?_ | refine wA ?_ | (apply wo_no; exact rfl) | refine wK ?_ | (apply wo_po; apply mo_bin; exact rfl; exact rfl; apply bin_eq; apply eql_ptr_nil; exact gY) | refine wT ?_ | refine we_ret ?_)
 (first | refine or1 Try.func26 Try.results26 hQ rfl ?_ | refine on1 Try.func26 Try.results26 hQ rfl ?_)
 exact ⟨rfl, rfl, rfl⟩
theorem madeI_zero {o : Nat} (h : Rd L o 0 (.pointer none)) : Tr Try.prog B 26 [.pointer (some ⟨o, 0, none⟩)] L x fun q L' x' => q = .int .i64 0 ∧ L' = L ∧ x' = x := by
 refine tr_of_body Try.func26 rfl Try.ntmps26 (by simp) fun um Q _ hQ => ?_
 simp only [argE, Nat.zero_add, Nat.reduceAdd]
 repeat (first | (apply wo_po; apply mo_load; exact rfl; exact h; exact rfl) | refine we_seq ?_ | (refine wR ?_; try simp only [oS]) | refine wo_nil ?_ | refine wM ?_ | refine wA ?_ | refine wJ ?_ | refine wN ?_ | refine wD ?_ | (apply wo_po; apply mo_bin; exact rfl; exact rfl; apply bin_eq; apply eql_ptr_nil; exact gY) | refine wT ?_ | refine we_ret ?_)
 (first | refine or1 Try.func26 Try.results26 hQ rfl ?_ | refine on1 Try.func26 Try.results26 hQ rfl ?_)
 exact ⟨rfl, rfl, rfl⟩
theorem tget_nil {i : Int} : Tr Try.prog B 25 [.pointer none, gv, .int .i64 i] L x fun q L' x' => q = .tuple #[.int .i64 0, .int .i64 1] ∧ L' = L ∧ x' = x := by
 refine tr_of_body Try.func25 rfl Try.ntmps25 (by simp) fun um Q _ hQ => ?_
 simp only [argE, Nat.zero_add, Nat.reduceAdd]
 repeat (first | refine we_seq ?_ | (refine wR ?_; try simp only [oS]) | refine wo_nil ?_ | refine wM ?_ | refine wA ?_ | (apply wo_no; exact rfl) | refine wK ?_ | (apply wo_po; apply mo_bin; exact rfl; exact rfl; apply bin_eq; apply eql_ptr_nil; exact gY) | refine wT ?_ | refine we_ret ?_)
 (first | refine or2 Try.func25 Try.results25 hQ rfl rfl ?_ | refine on2 Try.func25 Try.results25 hQ rfl rfl ?_)
 exact ⟨rfl, rfl, rfl⟩
theorem tget_zero {i : Int} {o : Nat} (h : Rd L o 0 (.slice none 0 0)) : Tr Try.prog B 25 [.pointer (some ⟨o, 0, none⟩), gv, .int .i64 i] L x fun q L' x' => q = .tuple #[.int .i64 0, .int .i64 1] ∧ L' = L ∧ x' = x := by
 refine tr_of_body Try.func25 rfl Try.ntmps25 (by simp) fun um Q _ hQ => ?_
 simp only [argE, Nat.zero_add, Nat.reduceAdd]
 repeat (first | (apply wo_po; apply mo_load; exact rfl; exact h; exact rfl) | refine we_seq ?_ | (refine wR ?_; try simp only [oS]) | refine wo_nil ?_ | refine wM ?_ | refine wA ?_ | refine wJ ?_ | refine wN ?_ | refine wD ?_ | (apply wo_po; apply mo_bin; exact rfl; exact rfl; apply bin_eq; apply eql_ptr_nil; exact gY) | (apply wo_po; apply mo_bin; exact rfl; exact rfl; apply bin_eq; apply eql_slice_nil; exact gY) | refine wT ?_ | refine we_ret ?_)
 (first | refine or2 Try.func25 Try.results25 hQ rfl rfl ?_ | refine on2 Try.func25 Try.results25 hQ rfl rfl ?_)
 exact ⟨rfl, rfl, rfl⟩
theorem tget_out {i : Int} {tb vb vo n cap : Nat} (hi : i < 0 ∨ (n : Int) ≤ i) (h : Rd L tb 0 (.slice (some ⟨vb, vo, none⟩) n cap)) : Tr Try.prog B 25 [.pointer (some ⟨tb, 0, none⟩), gv, .int .i64 i] L x fun q L' x' => q = .tuple #[.int .i64 0, .int .i64 5] ∧ L' = L ∧ x' = x := by
 by_cases h0 : i < 0
 ·refine tr_of_body Try.func25 rfl Try.ntmps25 (by simp) fun um Q _ hQ => ?_
  simp only [argE, Nat.zero_add, Nat.reduceAdd]
  repeat (first | (apply wo_po; apply mo_load; exact rfl; exact h; exact rfl) | refine wlssT ?_ | refine we_seq ?_ | (refine wR ?_; try simp only [oS]) | refine wo_nil ?_ | refine wM ?_ | refine wA ?_ | (apply wo_no; exact rfl) | refine wK ?_ | refine wJ ?_ | refine wN ?_ | refine wD ?_ | (apply wo_po; apply mo_bin; exact rfl; exact rfl; apply bin_eq; apply eql_ptr_nil; exact gY) | (apply wo_po; apply mo_bin; exact rfl; exact rfl; apply bin_eq; apply eql_slice_nil; exact gY) | refine wT ?_ | refine wF ?_ | refine we_ret ?_ | refine we_skip ?_)
  (first | refine or2 Try.func25 Try.results25 hQ rfl rfl ?_ | refine on2 Try.func25 Try.results25 hQ rfl rfl ?_)
  exact ⟨rfl, rfl, rfl⟩
 ·refine tr_of_body Try.func25 rfl Try.ntmps25 (by simp) fun um Q _ hQ => ?_
  simp only [argE, Nat.zero_add, Nat.reduceAdd]
  repeat (first | (apply wo_po; apply mo_load; exact rfl; exact h; exact rfl) | refine wlssF ?_ | refine wgeqT ?_ | refine we_seq ?_ | (refine wR ?_; try simp only [oS]) | refine wo_nil ?_ | refine wM ?_ | refine wA ?_ | refine wJ ?_ | refine wN ?_ | refine wD ?_ | (apply wo_po; apply mo_bin; exact rfl; exact rfl; apply bin_eq; apply eql_ptr_nil; exact gY) | (apply wo_po; apply mo_bin; exact rfl; exact rfl; apply bin_eq; apply eql_slice_nil; exact gY) | refine wE ?_ | refine wT ?_ | refine wF ?_ | refine we_ret ?_ | refine we_skip ?_)
  (first | refine or2 Try.func25 Try.results25 hQ rfl rfl ?_ | refine on2 Try.func25 Try.results25 hQ rfl rfl ?_)
  exact ⟨rfl, rfl, rfl⟩
theorem tget_tr {va : Value} {co : Int} {i r tb vb vo n cap : Nat} {R : List HProp → B.X → Prop} (hi : i < n) (h : Rd L tb 0 (.slice (some ⟨vb, vo, none⟩) n cap)) (hv : Rd L vb (vo + i) (.pointer (some ⟨r, 0, none⟩)))
  (tr : Tr Try.prog B 56 [.pointer (some ⟨r, 0, none⟩), gv] L x fun q L' x' => q = toldI va co ∧ R L' x') :
  Tr Try.prog B 25 [.pointer (some ⟨tb, 0, none⟩), gv, .int .i64 (i : Nat)] L x fun q L' x' => q = toldI va co ∧ R L' x' := by
 refine tr_of_body Try.func25 rfl Try.ntmps25 (by simp) fun um Q _ hQ => ?_
 simp only [argE, Nat.zero_add, Nat.reduceAdd]
 repeat (first | (apply wo_po; apply mo_load; exact rfl; (first | exact h | exact hv); exact gY) | (apply wo_po; apply mo_index1; exact rfl; exact rfl; exact hi; exact trivial) | refine wlssF ?_ | refine wgeqF ?_ | refine we_seq ?_ | (refine wR ?_; try simp only [oS]) | refine wo_nil ?_ | refine wM ?_ | refine wA ?_ | refine wJ ?_ | refine wN ?_ | refine wD ?_ | (apply wo_po; apply mo_bin; exact rfl; exact rfl; apply bin_eq; apply eql_ptr_nil; exact gY) | (apply wo_po; apply mo_bin; exact rfl; exact rfl; apply bin_eq; apply eql_slice_nil; exact gY) | refine wE ?_ | refine wF ?_ | refine we_skip ?_)
 refine wo_call (.cons rfl (.cons rfl .nil)) trivial tr ?_
 rintro v1 L1 x1 ⟨rfl, hR⟩
 by_cases e : co = 0
 ·subst e
  rw [show toldI va 0 = .tuple #[va, .int .i64 0] from rfl]
  repeat (first | refine wo_nil ?_ | refine wA ?_ | (apply wo_po; apply mo_extract; exact rfl; exact rfl; exact gY) | refine we_ret ?_)
  (first | refine or2 Try.func25 Try.results25 hQ rfl rfl ?_ | refine on2 Try.func25 Try.results25 hQ rfl rfl ?_)
  exact ⟨rfl, hR⟩
 ·rw [show toldI va co = .tuple #[.int .i64 0, .int .i64 co] from if_neg e]
  repeat (first | refine wo_nil ?_ | refine wA ?_ | (apply wo_po; apply mo_extract; exact rfl; exact rfl; exact gY) | refine we_ret ?_)
  (first | refine or2 Try.func25 Try.results25 hQ rfl rfl ?_ | refine on2 Try.func25 Try.results25 hQ rfl rfl ?_)
  exact ⟨(if_neg e).symm, hR⟩
theorem tmade_nil : Tr Try.prog B 27 [.pointer none] L x fun q L' x' => q = .slice none 0 0 ∧ L' = L ∧ x' = x := by
 refine tr_of_body Try.func27 rfl Try.ntmps27 (by simp) fun um Q _ hQ => ?_
 simp only [argE, Nat.zero_add, Nat.reduceAdd]
 repeat (first | refine we_seq ?_ | (refine wR ?_; try simp only [oS]) | refine wo_nil ?_ | refine wM ?_ | refine wA ?_ | (apply wo_po; apply mo_bin; exact rfl; exact rfl; apply bin_eq; apply eql_ptr_nil; exact gY) | refine wT ?_ | refine we_ret ?_)
 (first | refine or1 Try.func27 Try.results27 hQ rfl ?_ | refine on1 Try.func27 Try.results27 hQ rfl ?_)
 exact ⟨rfl, rfl, rfl⟩
theorem tmade_tr {tb vb vo cap r0 r1 r2 : Nat} (h : Rd L tb 0 (.slice (some ⟨vb, vo, none⟩) 3 cap)) (v0 : Rd L vb (vo + 0) (.pointer (some ⟨r0, 0, none⟩))) (v1 : Rd L vb (vo + 1) (.pointer (some ⟨r1, 0, none⟩))) (v2 : Rd L vb (vo + 2) (.pointer (some ⟨r2, 0, none⟩)))
  (c0 : Rd L r0 3 (.int .u64 0)) (c1 : Rd L r1 3 (.int .u64 0)) (c2 : Rd L r2 3 (.int .u64 1)) :
  Tr Try.prog B 27 [.pointer (some ⟨tb, 0, none⟩)] L x fun q L' x' => ∃ b, L' = vec 1 q [.int .i64 2] :: b :: L ∧ x' = x := by
 refine tr_of_body Try.func27 rfl Try.ntmps27 (by simp) fun um Q _ hQ => ?_
 simp only [argE, Nat.zero_add, Nat.reduceAdd]
 refine we_star (vec 1 (.slice none 0 0) [] :: L) (fun h st => vec_nil st) ?_
 repeat (first | (apply wo_po; apply mo_load; exact rfl; exact .there h; exact trivial) | refine we_seq ?_ | (refine wR ?_; try simp only [oS]) | refine wo_nil ?_ | refine wM ?_ | refine wA ?_ | refine wN ?_ | refine wD ?_ | (apply wo_po; apply mo_bin; exact rfl; exact rfl; apply bin_eq; apply eql_ptr_nil; exact gY) | refine wE ?_ | refine wF ?_ | refine we_skip ?_)
 refine we_block ?_
 refine we_loop1 ?_
 repeat (first | (apply wo_po; apply mo_indexAddr (r := vo + 0); exact rfl; exact rfl; omega; omega; omega; exact trivial) | (apply wo_po; apply mo_load; exact rfl; exact .there v0; exact trivial) | refine wlssT ?_ | refine we_seq ?_ | (refine wR ?_; try simp only [oS]) | refine wo_nil ?_ | refine wM ?_ | refine wA ?_ | refine wN ?_ | refine wD ?_ | refine wT ?_ | refine we_skip ?_ | refine we_block ?_)
 refine wo_call (.cons rfl .nil) trivial (load_lone (.there c0)) ?_
 rintro w1 L1 x1 ⟨rfl, rfl, rfl⟩
 repeat (first | refine wgtrF ?_ | (refine wR ?_; try simp only [oS]) | refine wo_nil ?_ | refine wM ?_ | refine wadd ?_ | refine wF ?_ | refine we_skip ?_)
 refine at_again (e0 := [(3, .slice none 0 0), (11, .slice (some ⟨vb, vo, none⟩) 3 cap), (12, .int .i64 3), (13, .int .i64 1)]) ?_ ⟨rfl, rfl, rfl, rfl, trivial⟩ .refl
 repeat (first | (apply wo_po; apply mo_indexAddr (r := vo + 1); exact rfl; exact rfl; omega; omega; omega; exact trivial) | (apply wo_po; apply mo_load; exact rfl; exact .there v1; exact trivial) | refine wlssT ?_ | refine we_seq ?_ | (refine wR ?_; try simp only [oS]) | refine wo_nil ?_ | refine wM ?_ | refine wA ?_ | refine wN ?_ | refine wD ?_ | refine wT ?_ | refine we_skip ?_ | refine we_block ?_)
 refine wo_call (.cons rfl .nil) trivial (load_lone (.there c1)) ?_
 rintro w1 L1 x1 ⟨rfl, rfl, rfl⟩
 repeat (first | refine wgtrF ?_ | (refine wR ?_; try simp only [oS]) | refine wo_nil ?_ | refine wM ?_ | refine wadd ?_ | refine wF ?_ | refine we_skip ?_)
 refine at_again (e0 := [(3, .slice none 0 0), (11, .slice (some ⟨vb, vo, none⟩) 3 cap), (12, .int .i64 3), (13, .int .i64 2)]) ?_ ⟨rfl, rfl, rfl, rfl, trivial⟩ .refl
 repeat (first | (apply wo_po; apply mo_indexAddr (r := vo + 2); exact rfl; exact rfl; omega; omega; omega; exact trivial) | (apply wo_po; apply mo_load; exact rfl; exact .there v2; exact trivial) | refine wlssT ?_ | refine we_seq ?_ | (refine wR ?_; try simp only [oS]) | refine wo_nil ?_ | refine wM ?_ | refine wA ?_ | refine wN ?_ | refine wD ?_ | refine wT ?_ | refine we_skip ?_ | refine we_block ?_)
 refine wo_call (.cons rfl .nil) trivial (load_lone (.there c2)) ?_
 rintro w1 L1 x1 ⟨rfl, rfl, rfl⟩
 repeat (first | (apply wo_mo; apply mo_buildSlice (sz := 1) (vs := [.int .i64 2]); exact rfl; exact .cons rfl .nil; exact rfl; (intro v hv; cases (List.mem_singleton.1 hv); exact rfl); omega; exact trivial) | refine wgtrT ?_ | (refine wR ?_; try simp only [oS]) | refine wo_nil ?_ | refine wM ?_ | refine wT ?_)
 rintro v' L' ⟨sb, rfl, rfl⟩
 apply wo_mo
 apply mo_append (sz := 1) (new := [.int .i64 2]) rfl rfl
 exact rfl
 exact rfl
 exact .there .here
 exact rfl
 exact .inr ⟨_, _, rfl, Rds.all .here⟩
 ·intro v hv; simp at hv; subst hv; rfl
 ·simp only [sliceLen]; omega
 exact trivial
 rintro v' L' rfl
 repeat (first | (refine wR ?_; try simp only [oS]) | refine wo_nil ?_ | refine wM ?_ | refine wA ?_ | refine wadd ?_)
 refine at_again (e0 := [(3, v'), (11, .slice (some ⟨vb, vo, none⟩) 3 cap), (12, .int .i64 3), (13, .int .i64 3)]) ?_ ⟨rfl, rfl, rfl, rfl, trivial⟩ .refl
 repeat (first | refine wlssF ?_ | refine we_seq ?_ | (refine wR ?_; try simp only [oS]) | refine wo_nil ?_ | refine wM ?_ | refine wA ?_ | refine wF ?_ | refine we_ret ?_ | refine we_exit ?_)
 (first | refine or1 Try.func27 Try.results27 hQ rfl ?_ | refine on1 Try.func27 Try.results27 hQ rfl ?_)
 exact ⟨_, rfl, rfl⟩
end
end
section
section
variable {B : Hand} [Lets B] {L F : List HProp} {x : B.X}
theorem mk_w1 {nb : Nat} : MkOk B (.func (.func 54) #[] #[.pointer (some ⟨nb, 0, none⟩)]) (arr nb 0 [.int .i64 0]) (arr nb 0 [.int .i64 1]) (.int .i64 7) 0 := by
 refine ⟨54, [], [.pointer (some ⟨nb, 0, none⟩)], rfl, inferInstance, fun L F x hh => ?_⟩
 refine Tr.ent (.take hh .refl) ?_
 show Tr Try.prog B 54 [.pointer (some ⟨nb, 0, none⟩)] _ _ _
 refine tr_of_body Try.func54 rfl Try.ntmps54 (by simp) fun um Q _ hQ => ?_
 simp only [argE, Nat.zero_add, Nat.reduceAdd]
 repeat (first | refine wS ?_ | refine we_seq ?_ | (refine wR ?_; try simp only [oS]) | refine wo_nil ?_ | refine wA ?_ | refine wL ?_ | refine wadd ?_ | refine we_ret ?_)
 (first | refine or2 Try.func54 Try.results54 hQ rfl rfl ?_ | refine on2 Try.func54 Try.results54 hQ rfl rfl ?_)
 exact ⟨rfl, rfl, rfl⟩
theorem mk_w2 : MkOk B (.func (.func 55) #[] #[]) (fun _ => True) (fun _ => True) (.int .i64 9) 4 := by
 refine ⟨55, [], [], rfl, inferInstance, fun L F x hh => ?_⟩
 refine Tr.ent (.take hh .refl) ?_
 show Tr Try.prog B 55 [] _ _ _
 refine tr_of_body Try.func55 rfl Try.ntmps55 (by simp) fun um Q _ hQ => ?_
 simp only [argE, Nat.zero_add, Nat.reduceAdd]
 repeat (first | refine we_seq ?_ | (refine wR ?_; try simp only [oS]) | refine wo_nil ?_ | refine wA ?_ | refine we_ret ?_)
 (first | refine or2 Try.func55 Try.results55 hQ rfl rfl ?_ | refine on2 Try.func55 Try.results55 hQ rfl rfl ?_)
 exact ⟨rfl, rfl, rfl⟩
theorem star_triv {L : List HProp} {h : Hp} (st : Star L h) : Star ((fun _ => True) :: L) h := star_map (star_shut (M := []) st) (fun _ _ => trivial) fun _ s => s
theorem works_tr [NoCut B] [AllM B] : Tr Try.prog B 22 [] L x fun v L' x' => v = .bool true ∧ L' = L ∧ x' = x := by
 refine Tr.post (R := fun v L' x' => v = .bool true ∧ (∀ h, Star L' h → Star L h) ∧ x' = x) ?_ (by rintro v L' x' ⟨h1, h2, h3⟩; exact ⟨_, ⟨h1, rfl, h3⟩, h2⟩)
 refine tr_of_body Try.func22 rfl Try.ntmps22 (by simp) fun um Q _ hQ => ?_
 simp only [argE, Nat.zero_add, Nat.reduceAdd]
 repeat (first | (apply wo_mo; apply mo_alloc; exact trivial) | refine we_seq ?_ | (refine wR ?_; try simp only [oS]) | refine wo_nil ?_ | refine wA ?_)
 rintro v' L' ⟨nb, rfl, rfl⟩
 refine wo_ent (arr nb 0 [.int .i64 0] :: L) .refl ?_
 repeat (first | refine wS ?_ | (apply wo_po; apply mo_makeFunc (first := []) (cap := [_]) (vf := []); exact .nil; exact .cons rfl .nil; exact trivial) | refine we_seq ?_ | (refine wR ?_; try simp only [oS]) | refine wo_nil ?_)
 refine wo_ent (arr nb 0 [.int .i64 0] :: L) .refl ?_
 refine wo_call (.cons rfl .nil) trivial newI_tr ?_
 rintro v1 L1 x1 ⟨o, r, c, rfl, rfl, rfl⟩
 repeat (first | refine we_seq ?_ | (refine wR ?_; try simp only [oS]) | refine wo_nil ?_ | refine wM ?_ | refine wA ?_)
 refine wo_ent (arr r 0 (onceL (.int .i64 (0 : Nat)) (.func (.func 54) #[] #[.pointer (some ⟨nb, 0, none⟩)]) (.int .u64 0) (.int .u64 0) 0 0 (.chan (some c)) (.int .i64 0) (.int .i64 0)) :: arr nb 0 [.int .i64 0] :: chC c 0 #[] 0 0 :: arr o 0 [.pointer (some ⟨r, 0, none⟩)] :: shpC r 145 10 :: L) (.take (.there .here) (.take (.there (.there (.there .here))) (.take (.there (.there .here)) (.take .here (.take .here .refl))))) ?_
 refine wo_call (.cons rfl (.cons rfl .nil)) trivial (getI_tr (co := 0) (va := .int .i64 7) (R := fun L' x' => L' = arr r 0 (onceL (.int .i64 (0 : Nat)) (.func (.func 54) #[] #[.pointer (some ⟨nb, 0, none⟩)]) (.int .u64 (stOf 0 : Nat)) (.int .u64 1) 1 0 (.chan (some c)) (.int .i64 7) (.int .i64 0)) :: arr nb 0 [.int .i64 1] :: arr o 0 [.pointer (some ⟨r, 0, none⟩)] :: shpC r 145 10 :: L ∧ x' = x1) (Rd.there (.there (.there (Rd.row0 rfl)))) (newNI_tr (m := 10) (by omega) (.there .here) mk_w1 rfl rfl)) ?_
 rintro v1 L1 x2 ⟨rfl, rfl, rfl⟩
 rw [show toldI (.int .i64 7) 0 = .tuple #[.int .i64 7, .int .i64 0] from rfl]
 repeat (first | refine we_seq ?_ | (refine wR ?_; try simp only [oS]) | refine wo_nil ?_ | refine wM ?_ | refine wA ?_ | (apply wo_po; apply mo_extract; exact rfl; exact rfl; exact gY))
 refine wo_star ((nilAcc B x2).C (fun _ => 0) :: arr r 0 (onceL (.int .i64 (0 : Nat)) (.func (.func 54) #[] #[.pointer (some ⟨nb, 0, none⟩)]) (.int .u64 (stOf 0 : Nat)) (.int .u64 1) 1 0 (.chan (some c)) (.int .i64 7) (.int .i64 0)) :: arr nb 0 [.int .i64 1] :: arr o 0 [.pointer (some ⟨r, 0, none⟩)] :: L) (fun h st => nil_in ((Ent.take .here (.take .here (.take .here (.drop .refl)))).star st)) ?_
 refine wo_call (.cons rfl (.cons rfl .nil)) trivial (getI_tr (co := 0) (va := .int .i64 7) (R := fun L' x' => ∃ s', L' = (nilAcc B x2).C s' :: arr r 0 (onceL (.int .i64 (0 : Nat)) (.func (.func 54) #[] #[.pointer (some ⟨nb, 0, none⟩)]) (.int .u64 (stOf 0 : Nat)) (.int .u64 1) 1 0 (.chan (some c)) (.int .i64 7) (.int .i64 0)) :: arr nb 0 [.int .i64 1] :: arr o 0 [.pointer (some ⟨r, 0, none⟩)] :: L ∧ x' = x2) (Rd.there (.there (.there (Rd.row0 rfl))))
  ((oldI_tr (A := nilAcc B x2) (R := fun _ => True) (s := fun _ => 0) rfl trivial .here (fun k v hk => Rd.row0 hk)).mono fun v L' x' ⟨s', _, h1, h2, h3⟩ => ⟨h1, s', h2, h3⟩)) ?_
 rintro v1 L1 x3 ⟨rfl, s', rfl, rfl⟩
 rw [show toldI (.int .i64 7) 0 = .tuple #[.int .i64 7, .int .i64 0] from rfl]
 repeat (first | refine we_seq ?_ | (refine wR ?_; try simp only [oS]) | refine wo_nil ?_ | refine wM ?_ | refine wA ?_ | (apply wo_po; apply mo_extract; exact rfl; exact rfl; exact gY))
 refine wo_call (.cons rfl .nil) trivial newI_tr ?_
 rintro v1 L1 x4 ⟨o2, r2, c2, rfl, rfl, rfl⟩
 repeat (first | refine we_seq ?_ | (refine wR ?_; try simp only [oS]) | refine wo_nil ?_ | refine wM ?_ | refine wA ?_)
 refine wo_star (arr r2 0 (onceL (.int .i64 (0 : Nat)) (.func (.func 55) #[] #[]) (.int .u64 0) (.int .u64 0) 0 0 (.chan (some c2)) (.int .i64 0) (.int .i64 0)) :: (fun _ => True) :: chC c2 0 #[] 0 0 :: arr o2 0 [.pointer (some ⟨r2, 0, none⟩)] :: shpC r2 145 10 :: arr nb 0 [.int .i64 1] :: L) (fun h st => (Ent.take (.there (.there .here)) (.take .here (.take (.there (.there .here)) (.take .here (.take .here (.take (.there (.there .here)) (.drop (.drop (.drop .refl))))))))).star (star_triv st)) ?_
 refine wo_call (.cons rfl (.cons rfl .nil)) trivial (getI_tr (co := 4) (va := .int .i64 9) (R := fun L' x' => L' = arr r2 0 (onceL (.int .i64 (0 : Nat)) (.func (.func 55) #[] #[]) (.int .u64 (stOf 4 : Nat)) (.int .u64 1) 1 0 (.chan (some c2)) (.int .i64 9) (.int .i64 4)) :: (fun _ => True) :: arr o2 0 [.pointer (some ⟨r2, 0, none⟩)] :: shpC r2 145 10 :: arr nb 0 [.int .i64 1] :: L ∧ x' = x4) (Rd.there (.there (.there (Rd.row0 rfl)))) (newNI_tr (m := 10) (by omega) (.there .here) mk_w2 rfl rfl)) ?_
 rintro v1 L1 x5 ⟨rfl, rfl, rfl⟩
 rw [show toldI (.int .i64 9) 4 = .tuple #[.int .i64 0, .int .i64 4] from rfl]
 have rn : ∀ {a b c d : HProp}, Rd (a :: b :: c :: d :: arr nb 0 [.int .i64 1] :: L) nb 0 (.int .i64 1) := fun {a b c d} => .there (.there (.there (.there (Rd.row0 rfl))))
 repeat (first | (apply wo_po; apply mo_load; exact rfl; exact rn; exact rfl) | refine weqlT ?_ | refine we_seq ?_ | (refine wR ?_; try simp only [oS]) | refine wo_nil ?_ | refine wM ?_ | refine wA ?_ | refine wK ?_ | (apply wo_po; apply mo_extract; exact rfl; exact rfl; exact gY) | refine we_ret ?_)
 (first | refine or1 Try.func22 Try.results22 hQ rfl ?_ | refine on1 Try.func22 Try.results22 hQ rfl ?_)
 exact ⟨rfl, fun h st => star_dropM (M := [_, _, _, _, _]) st, rfl⟩
end
end
end Go.Proofs.Ytcladnioicackaa
namespace Go.PB
section
section
variable {P : Program} {xt : TypeId} {x y : Operand} {a b : ByteArray}
theorem bin_streq {r : Bool} (h : (a.toList == b.toList) = r) : Bin P .eql xt x y (.string a) (.string b) (.bool r) := by
 subst h
 intro M hh Q X q
 exact q
end
end
end Go.PB
namespace Go.Proofs.Ytcladnioicackaa
open Go Go.PB
attribute [local irreducible] Mo Bin Eql Tr Wo TrD Wle Ap
section
section
variable {B : Hand} [Lets B] {L F : List HProp} {x : B.X}
abbrev knF : Value := .func (.func 28) #[] #[]
theorem kn1_tr {i : Int} (h : IntKind.i64.wrap (10 * i) = 10 * i) : Tr Try.prog B 28 [.int .i64 i] L x fun q L' x' => q = .tuple #[.int .i64 (10 * i), .int .i64 0] ∧ L' = L ∧ x' = x := by
 refine tr_of_body Try.func28 rfl Try.ntmps28 (by simp) fun um Q _ hQ => ?_
 simp only [argE, Nat.zero_add, Nat.reduceAdd]
 repeat (first | (apply wo_po; apply mo_bin; exact rfl; exact rfl; apply bin_mul; exact h; exact trivial) | refine we_seq ?_ | (refine wR ?_; try simp only [oS]) | refine wo_nil ?_ | refine wM ?_ | refine wA ?_ | refine we_ret ?_)
 (first | refine or2 Try.func28 Try.results28 hQ rfl rfl ?_ | refine on2 Try.func28 Try.results28 hQ rfl rfl ?_)
 exact ⟨rfl, rfl, rfl⟩
def knD (mb ib : Nat) : HProp := all [arr mb 0 [knF], arr ib 0 [.int .i64 2]]
theorem mk_kn {mb ib : Nat} : MkOk B (.func (.func 46) #[] #[.pointer (some ⟨mb, 0, none⟩), .pointer (some ⟨ib, 0, none⟩)]) (knD mb ib) (knD mb ib) (.int .i64 20) 0 := by
 refine ⟨46, [], [.pointer (some ⟨mb, 0, none⟩), .pointer (some ⟨ib, 0, none⟩)], rfl, inferInstance, fun L F x hh => ?_⟩
 refine tr_star (arr mb 0 [knF] :: arr ib 0 [.int .i64 2] :: F) (fun h st => star_open (hh.star st)) ?_
 refine Tr.post (R := fun w L' x' => w = .tuple #[.int .i64 20, .int .i64 0] ∧ L' = arr mb 0 [knF] :: arr ib 0 [.int .i64 2] :: F ∧ x' = x) ?_
  (by rintro w L' x' ⟨h1, rfl, h3⟩; exact ⟨_, ⟨h1, rfl, h3⟩, fun h st => star_shut (M := [_, _]) st⟩)
 show Tr Try.prog B 46 [.pointer (some ⟨mb, 0, none⟩), .pointer (some ⟨ib, 0, none⟩)] _ _ _
 refine tr_of_body Try.func46 rfl Try.ntmps46 (by simp) fun um Q _ hQ => ?_
 simp only [argE, Nat.zero_add, Nat.reduceAdd]
 repeat (first | refine we_seq ?_ | (refine wR ?_; try simp only [oS]) | refine wo_nil ?_ | refine wA ?_ | refine wL ?_)
 refine wo_callv (args := [_]) rfl rfl (.cons rfl .nil) trivial (kn1_tr (i := 2) (by decide)) ?_
 rintro v1 L1 x1 ⟨rfl, rfl, rfl⟩
 repeat (first | refine wo_nil ?_ | refine wA ?_ | (apply wo_po; apply mo_extract; exact rfl; exact rfl; exact gY) | refine we_ret ?_)
 (first | refine or2 Try.func46 Try.results46 hQ rfl rfl ?_ | refine on2 Try.func46 Try.results46 hQ rfl rfl ?_)
 exact ⟨rfl, rfl, rfl⟩
theorem mk_ks : MkOk B (.func (.func 30) #[] #[]) (fun _ => True) (fun _ => True) (.string ⟨#[110, 111, 116, 32, 116, 111, 108, 100]⟩) 2 := by
 refine ⟨30, [], [], rfl, inferInstance, fun L F x hh => ?_⟩
 refine Tr.ent (.take hh .refl) ?_
 show Tr Try.prog B 30 [] _ _ _
 refine tr_of_body Try.func30 rfl Try.ntmps30 (by simp) fun um Q _ hQ => ?_
 simp only [argE, Nat.zero_add, Nat.reduceAdd]
 repeat (first | refine we_seq ?_ | (refine wR ?_; try simp only [oS]) | refine wo_nil ?_ | refine wA ?_ | refine we_ret ?_)
 (first | refine or2 Try.func30 Try.results30 hQ rfl rfl ?_ | refine on2 Try.func30 Try.results30 hQ rfl rfl ?_)
 exact ⟨rfl, rfl, rfl⟩
theorem tc_open {mb i : Nat} {t : Nat × Nat × Nat} {R : List HProp} {h : Hp} (st : Star (tc1 mb i t :: R) h) :
  Star (arr t.1 0 (onceL (.int .i64 (i : Nat)) (.func (.func 46) #[] #[.pointer (some ⟨mb, 0, none⟩), .pointer (some ⟨t.2.2, 0, none⟩)]) (.int .u64 0) (.int .u64 0) 0 0 (.chan (some t.2.1)) (.int .i64 0) (.int .i64 0)) :: shpC t.1 145 10 :: chC t.2.1 0 #[] 0 0 :: arr t.2.2 0 [.int .i64 (i : Nat)] :: R) h := star_open (M := [_, _, _, _]) st
theorem known_tr [NoCut B] [AllM B] {Z : HProp} : Tr Try.prog B 4 [] [Z] x fun w L' x' => w = .bool true ∧ x' = x := by
 refine tr_of_body Try.func4 rfl Try.ntmps4 (by simp) fun um Q _ hQ => ?_
 simp only [argE, Nat.zero_add, Nat.reduceAdd]
 repeat (first | refine we_seq ?_ | (refine wR ?_; try simp only [oS]) | refine wo_nil ?_ | refine wA ?_)
 refine wo_call (.cons rfl (.cons rfl .nil)) trivial ntab_nil ?_
 rintro v1 L1 x1 ⟨rfl, ⟨b1, rfl⟩, rfl⟩
 repeat (first | refine we_seq ?_ | (refine wR ?_; try simp only [oS]) | refine wo_nil ?_ | refine wM ?_ | refine wA ?_ | (apply wo_po; apply mo_extract; exact rfl; exact rfl; exact gY))
 refine wo_call (.cons rfl (.cons rfl .nil)) trivial ntab_nil ?_
 rintro v1 L1 x1 ⟨rfl, ⟨b2, rfl⟩, rfl⟩
 repeat (first | refine we_seq ?_ | (refine wR ?_; try simp only [oS]) | refine wo_nil ?_ | refine wM ?_ | refine wA ?_ | (apply wo_po; apply mo_extract; exact rfl; exact rfl; exact gY))
 refine wo_ent [Z] (.drop (.drop .refl)) ?_
 refine wo_call (.cons rfl .nil) trivial newI_nil ?_
 rintro v1 L1 x1 ⟨rfl, rfl, rfl⟩
 repeat (first | refine we_seq ?_ | (refine wR ?_; try simp only [oS]) | refine wo_nil ?_ | refine wM ?_ | refine wA ?_)
 refine wo_call (.cons rfl (.cons rfl .nil)) trivial getI_nil ?_
 rintro v1 L1 x1 ⟨rfl, rfl, rfl⟩
 repeat (first | (apply wo_po; apply mo_build (pv := []); exact rfl; exact .nil; exact rfl; exact trivial) | (apply wo_mo; apply mo_box; exact rfl; exact trivial) | refine we_seq ?_ | (refine wR ?_; try simp only [oS]) | refine wo_nil ?_ | refine wM ?_ | refine wA ?_ | (apply wo_po; apply mo_extract; exact rfl; exact rfl; exact gY))
 rintro v' L' ⟨zo, rfl, rfl⟩
 refine wo_call (.cons rfl (.cons rfl .nil)) trivial (getI_zero (Rd.row0 rfl)) ?_
 rintro v1 L1 x1 ⟨rfl, rfl, rfl⟩
 repeat (first | refine we_seq ?_ | (refine wR ?_; try simp only [oS]) | refine wo_nil ?_ | refine wM ?_ | refine wA ?_ | (apply wo_po; apply mo_extract; exact rfl; exact rfl; exact gY))
 refine wo_call (.cons rfl (.cons rfl (.cons rfl .nil))) trivial tget_nil ?_
 rintro v1 L1 x1 ⟨rfl, rfl, rfl⟩
 repeat (first | (apply wo_po; apply mo_build (pv := []); exact rfl; exact .nil; exact rfl; exact trivial) | (apply wo_mo; apply mo_box; exact rfl; exact trivial) | refine we_seq ?_ | (refine wR ?_; try simp only [oS]) | refine wo_nil ?_ | refine wM ?_ | refine wA ?_ | (apply wo_po; apply mo_extract; exact rfl; exact rfl; exact gY))
 rintro v' L' ⟨zt, rfl, rfl⟩
 refine wo_call (.cons rfl (.cons rfl (.cons rfl .nil))) trivial (tget_zero (Rd.row0 rfl)) ?_
 rintro v1 L1 x1 ⟨rfl, rfl, rfl⟩
 repeat (first | refine weqlT ?_ | refine we_seq ?_ | (refine wR ?_; try simp only [oS]) | refine wo_nil ?_ | refine wM ?_ | refine wA ?_ | refine wK ?_ | (apply wo_po; apply mo_extract; exact rfl; exact rfl; exact gY) | (apply wo_po; apply mo_bin; exact rfl; exact rfl; apply bin_eq; apply eql_ptr_nil; exact gY))
 refine wo_call (.cons rfl .nil) rfl madeI_nil ?_
 rintro v1 L1 x1 ⟨rfl, rfl, rfl⟩
 repeat (first | refine weqlT ?_ | refine wM ?_ | refine wK ?_)
 refine wo_call (.cons rfl .nil) rfl tmade_nil ?_
 rintro v1 L1 x1 ⟨rfl, rfl, rfl⟩
 repeat (first | (apply wo_po; apply mo_build (pv := []); exact rfl; exact .nil; exact rfl; exact rfl) | (apply wo_mo; apply mo_box; exact rfl; exact rfl) | refine weqlT ?_ | refine wM ?_ | refine wK ?_ | refine wE ?_)
 rintro v' L' ⟨zp, rfl, rfl⟩
 refine wo_call (.cons rfl .nil) rfl (madeI_zero (Rd.row0 rfl)) ?_
 rintro v1 L1 x1 ⟨rfl, rfl, rfl⟩
 repeat (first | refine weqlT ?_ | refine we_seq ?_ | (refine wR ?_; try simp only [oS]) | refine wo_nil ?_ | refine wA ?_ | refine wK ?_)
 refine wo_ent [Z] (.drop (.drop (.drop .refl))) ?_
 refine wo_call (.cons rfl (.cons rfl .nil)) trivial (ntab_tr (n := 3) (by omega) (by omega)) ?_
 rintro v1 L1 x1 ⟨tb, mb, sv, l, hl, rfl, rfl, rfl⟩
 obtain ⟨t2, t1, t0, rfl⟩ : ∃ t2 t1 t0, l = [t2, t1, t0] := by
  match l, hl with
  | [a, b, c], _ => exact ⟨a, b, c, rfl⟩
 refine wo_pure (of_has (.there .here) (vec_shape (by omega))) ?_
 rintro ⟨va, vn, vc, rfl, hvn, _, hva, hva2⟩
 obtain rfl : vn = 3 := by simpa using hvn.symm
 obtain ⟨⟨vb, vo, sp⟩, rfl⟩ : ∃ y, va = some y := by
  cases va with
  | none => exact absurd (hva rfl) (by omega)
  | some y => exact ⟨y, rfl⟩
 cases hva2 _ rfl
 repeat (first | refine we_seq ?_ | (refine wR ?_; try simp only [oS]) | refine wo_nil ?_ | refine wM ?_ | refine wA ?_ | (apply wo_po; apply mo_extract; exact rfl; exact rfl; exact gY))
 refine wo_star (arr t2.1 0 (onceL (.int .i64 (2 : Nat)) (.func (.func 46) #[] #[.pointer (some ⟨mb, 0, none⟩), .pointer (some ⟨t2.2.2, 0, none⟩)]) (.int .u64 0) (.int .u64 0) 0 0 (.chan (some t2.2.1)) (.int .i64 0) (.int .i64 0)) :: knD mb t2.2.2 :: chC t2.2.1 0 #[] 0 0 :: shpC t2.1 145 10 :: arr t1.1 0 (onceL (.int .i64 (1 : Nat)) (.func (.func 46) #[] #[.pointer (some ⟨mb, 0, none⟩), .pointer (some ⟨t1.2.2, 0, none⟩)]) (.int .u64 0) (.int .u64 0) 0 0 (.chan (some t1.2.1)) (.int .i64 0) (.int .i64 0)) :: arr t0.1 0 (onceL (.int .i64 (0 : Nat)) (.func (.func 46) #[] #[.pointer (some ⟨mb, 0, none⟩), .pointer (some ⟨t0.2.2, 0, none⟩)]) (.int .u64 0) (.int .u64 0) 0 0 (.chan (some t0.2.1)) (.int .i64 0) (.int .i64 0)) :: arr tb 0 [.slice (some ⟨vb, vo, none⟩) 3 vc] :: vec 1 (.slice (some ⟨vb, vo, none⟩) 3 vc) [tptr t0, tptr t1, tptr t2] :: [Z]) (fun h st => ?_) ?_
 ·have s1 : Star (all (tabR mb [t2, t1, t0]) :: arr mb 0 [knF] :: arr tb 0 [.slice (some ⟨vb, vo, none⟩) 3 vc] :: vec 1 (.slice (some ⟨vb, vo, none⟩) 3 vc) [tptr t0, tptr t1, tptr t2] :: [Z]) h := Ent.star (.take (.there (.there .here)) (.take (.there (.there .here)) (.take .here (.take .here .refl)))) st
  have s2 : Star (tc1 mb 2 t2 :: tc1 mb 1 t1 :: tc1 mb 0 t0 :: arr mb 0 [knF] :: arr tb 0 [.slice (some ⟨vb, vo, none⟩) 3 vc] :: vec 1 (.slice (some ⟨vb, vo, none⟩) 3 vc) [tptr t0, tptr t1, tptr t2] :: [Z]) h := star_open (M := tabR mb [t2, t1, t0]) s1
  have s3 := tc_open s2
  have s4 := tc_open (Ent.star (.take (.there (.there (.there (.there .here)))) .refl) s3)
  have s5 := tc_open (Ent.star (.take (.there (.there (.there (.there (.there (.there (.there (.there .here)))))))) .refl) s4)
  have s6 := star_shut (M := [_, _]) (Ent.star (.take (.there (.there (.there (.there (.there (.there (.there (.there (.there (.there (.there (.there .here)))))))))))) (.take (.there (.there (.there (.there (.there (.there (.there (.there (.there (.there (.there .here))))))))))) .refl)) s5)
  exact Ent.star (.take (.there (.there (.there (.there (.there (.there (.there (.there (.there .here))))))))) (.take .here (.take (.there (.there (.there (.there (.there (.there (.there (.there (.there .here))))))))) (.take (.there (.there (.there (.there (.there (.there (.there (.there .here)))))))) (.take (.there (.there (.there (.there .here)))) (.take .here (.drop (.drop (.drop (.drop (.drop (.drop .refl)))))))))))) s6
 refine wo_call (.cons rfl (.cons rfl (.cons rfl .nil))) trivial (tget_tr (va := .int .i64 20) (co := 0) (i := 2) (R := fun L' x' => L' = arr t2.1 0 (onceL (.int .i64 (2 : Nat)) (.func (.func 46) #[] #[.pointer (some ⟨mb, 0, none⟩), .pointer (some ⟨t2.2.2, 0, none⟩)]) (.int .u64 (stOf 0 : Nat)) (.int .u64 1) 1 0 (.chan (some t2.2.1)) (.int .i64 20) (.int .i64 0)) :: knD mb t2.2.2 :: shpC t2.1 145 10 :: arr t1.1 0 (onceL (.int .i64 (1 : Nat)) (.func (.func 46) #[] #[.pointer (some ⟨mb, 0, none⟩), .pointer (some ⟨t1.2.2, 0, none⟩)]) (.int .u64 0) (.int .u64 0) 0 0 (.chan (some t1.2.1)) (.int .i64 0) (.int .i64 0)) :: arr t0.1 0 (onceL (.int .i64 (0 : Nat)) (.func (.func 46) #[] #[.pointer (some ⟨mb, 0, none⟩), .pointer (some ⟨t0.2.2, 0, none⟩)]) (.int .u64 0) (.int .u64 0) 0 0 (.chan (some t0.2.1)) (.int .i64 0) (.int .i64 0)) :: arr tb 0 [.slice (some ⟨vb, vo, none⟩) 3 vc] :: vec 1 (.slice (some ⟨vb, vo, none⟩) 3 vc) [tptr t0, tptr t1, tptr t2] :: [Z] ∧ x' = x1) (by omega) (.there (.there (.there (.there (.there (.there (Rd.row0 rfl))))))) (rd_vec (i := 2) (.there (.there (.there (.there (.there (.there (.there .here))))))) rfl) (newNI_tr (m := 10) (by omega) .here mk_kn rfl rfl)) ?_
 rintro v1 L1 x2 ⟨rfl, rfl, rfl⟩
 rw [show toldI (.int .i64 20) 0 = .tuple #[.int .i64 20, .int .i64 0] from rfl]
 repeat (first | refine we_seq ?_ | (refine wR ?_; try simp only [oS]) | refine wo_nil ?_ | refine wM ?_ | refine wA ?_ | (apply wo_po; apply mo_extract; exact rfl; exact rfl; exact gY))
 refine wo_ent (arr t2.1 0 (onceL (.int .i64 (2 : Nat)) (.func (.func 46) #[] #[.pointer (some ⟨mb, 0, none⟩), .pointer (some ⟨t2.2.2, 0, none⟩)]) (.int .u64 (stOf 0 : Nat)) (.int .u64 1) 1 0 (.chan (some t2.2.1)) (.int .i64 20) (.int .i64 0)) :: arr t1.1 0 (onceL (.int .i64 (1 : Nat)) (.func (.func 46) #[] #[.pointer (some ⟨mb, 0, none⟩), .pointer (some ⟨t1.2.2, 0, none⟩)]) (.int .u64 0) (.int .u64 0) 0 0 (.chan (some t1.2.1)) (.int .i64 0) (.int .i64 0)) :: arr t0.1 0 (onceL (.int .i64 (0 : Nat)) (.func (.func 46) #[] #[.pointer (some ⟨mb, 0, none⟩), .pointer (some ⟨t0.2.2, 0, none⟩)]) (.int .u64 0) (.int .u64 0) 0 0 (.chan (some t0.2.1)) (.int .i64 0) (.int .i64 0)) :: arr tb 0 [.slice (some ⟨vb, vo, none⟩) 3 vc] :: vec 1 (.slice (some ⟨vb, vo, none⟩) 3 vc) [tptr t0, tptr t1, tptr t2] :: [Z]) (.take .here (.drop (.drop .refl))) ?_
 refine wo_call (.cons rfl (.cons rfl (.cons rfl .nil))) trivial (tget_out (.inr (Int.le_refl 3)) (.there (.there (.there (Rd.row0 rfl))))) ?_
 rintro v1 L1 x3 ⟨rfl, rfl, rfl⟩
 repeat (first | refine we_seq ?_ | (refine wR ?_; try simp only [oS]) | refine wo_nil ?_ | refine wM ?_ | refine wA ?_ | (apply wo_po; apply mo_extract; exact rfl; exact rfl; exact gY))
 refine wo_call (.cons rfl (.cons rfl (.cons rfl .nil))) trivial (tget_out (.inl (by decide)) (.there (.there (.there (Rd.row0 rfl))))) ?_
 rintro v1 L1 x4 ⟨rfl, rfl, rfl⟩
 have k0 : ∀ {M : List HProp}, Has M (vec 1 (.slice (some ⟨vb, vo, none⟩) 3 vc) [tptr t0, tptr t1, tptr t2]) (M.eraseIdx 4) → Rd M vb (vo + 0) (.pointer (some ⟨t0.1, 0, none⟩)) := fun hh => rd_vec (i := 0) hh rfl
 repeat (first | refine weqlT ?_ | refine we_seq ?_ | (refine wR ?_; try simp only [oS]) | refine wo_nil ?_ | refine wM ?_ | refine wA ?_ | refine wK ?_ | (apply wo_po; apply mo_extract; exact rfl; exact rfl; exact gY))
 refine wo_call (.cons rfl .nil) rfl (tmade_tr (.there (.there (.there (Rd.row0 rfl)))) (rd_vec (i := 0) (.there (.there (.there (.there .here)))) rfl) (rd_vec (i := 1) (.there (.there (.there (.there .here)))) rfl) (rd_vec (i := 2) (.there (.there (.there (.there .here)))) rfl) (.there (.there (Rd.row0 rfl))) (.there (Rd.row0 rfl)) (Rd.row0 rfl)) ?_
 rintro mv L1 x5 ⟨b1, rfl, rfl⟩
 refine wo_pure (of_has .here (vec_shape (by omega))) ?_
 rintro ⟨ma, mn, mc, rfl, hmn, _, hma, hma2⟩
 obtain rfl : mn = 1 := by simpa using hmn.symm
 repeat (first | refine weqlT ?_ | refine wM ?_ | refine wK ?_ | refine wE ?_)
 refine wo_call (.cons rfl .nil) rfl (tmade_tr (.there (.there (.there (.there (.there (Rd.row0 rfl)))))) (rd_vec (i := 0) (.there (.there (.there (.there (.there (.there .here)))))) rfl) (rd_vec (i := 1) (.there (.there (.there (.there (.there (.there .here)))))) rfl) (rd_vec (i := 2) (.there (.there (.there (.there (.there (.there .here)))))) rfl) (.there (.there (.there (.there (Rd.row0 rfl))))) (.there (.there (.there (Rd.row0 rfl)))) (.there (.there (Rd.row0 rfl)))) ?_
 rintro mv2 L1 x6 ⟨b2, rfl, rfl⟩
 refine wo_pure (of_has .here (vec_shape (by omega))) ?_
 rintro ⟨na, nn, nc, rfl, hnn, _, hna, hna2⟩
 obtain rfl : nn = 1 := by simpa using hnn.symm
 obtain ⟨⟨qb, qo, sp⟩, rfl⟩ : ∃ y, na = some y := by
  cases na with
  | none => exact absurd (hna rfl) (by omega)
  | some y => exact ⟨y, rfl⟩
 cases hna2 _ rfl
 have rq : ∀ {M : List HProp}, Rd (vec 1 (.slice (some ⟨qb, qo, none⟩) 1 nc) [.int .i64 2] :: M) qb (qo + 0) (.int .i64 2) := fun {M} => rd_vec (i := 0) .here rfl
 repeat (first | (apply wo_po; apply mo_indexAddr (r := qo + 0); exact rfl; exact rfl; omega; omega; omega; exact rfl) | (apply wo_po; apply mo_load; exact rfl; exact rq; exact rfl) | refine weqlT ?_ | refine we_seq ?_ | (refine wR ?_; try simp only [oS]) | refine wo_nil ?_ | refine wA ?_ | refine wK ?_)
 refine wo_ent [Z] (.drop (.drop (.drop (.drop (.drop (.drop (.drop (.drop (.drop .refl))))))))) ?_
 refine wo_call (.cons rfl .nil) trivial newS_tr ?_
 rintro v1 L1 x7 ⟨ro, rs, cs, rfl, rfl, rfl⟩
 repeat (first | refine we_seq ?_ | (refine wR ?_; try simp only [oS]) | refine wo_nil ?_ | refine wM ?_ | refine wA ?_)
 refine wo_star (arr rs 0 (onceL (.int .i64 (0 : Nat)) (.func (.func 30) #[] #[]) (.int .u64 0) (.int .u64 0) 0 0 (.chan (some cs)) (.string .empty) (.int .i64 0)) :: (fun _ => True) :: chC cs 0 #[] 0 0 :: arr ro 0 [.pointer (some ⟨rs, 0, none⟩)] :: shpC rs 151 10 :: [Z]) (fun h st => (Ent.take (.there (.there .here)) (.take .here (.take (.there (.there .here)) (.take .here (.take .here .refl))))).star (star_triv st)) ?_
 refine wo_call (.cons rfl (.cons rfl .nil)) trivial (getS_tr (co := 2) (va := .string ⟨#[110, 111, 116, 32, 116, 111, 108, 100]⟩) (R := fun L' x' => L' = arr rs 0 (onceL (.int .i64 (0 : Nat)) (.func (.func 30) #[] #[]) (.int .u64 (stOf 2 : Nat)) (.int .u64 1) 1 0 (.chan (some cs)) (.string ⟨#[110, 111, 116, 32, 116, 111, 108, 100]⟩) (.int .i64 2)) :: (fun _ => True) :: arr ro 0 [.pointer (some ⟨rs, 0, none⟩)] :: shpC rs 151 10 :: [Z] ∧ x' = x7) (.there (.there (.there (Rd.row0 rfl)))) (newNS_tr (m := 10) (by omega) (.there .here) mk_ks rfl rfl)) ?_
 rintro v1 L1 x8 ⟨rfl, rfl, rfl⟩
 rw [show toldS (.string ⟨#[110, 111, 116, 32, 116, 111, 108, 100]⟩) 2 = .tuple #[.string .empty, .int .i64 2] from rfl]
 repeat (first | refine we_seq ?_ | (refine wR ?_; try simp only [oS]) | refine wo_nil ?_ | refine wM ?_ | refine wA ?_ | (apply wo_po; apply mo_extract; exact rfl; exact rfl; exact gY))
 refine wo_call .nil rfl works_tr ?_
 rintro v1 L1 x9 ⟨rfl, rfl, rfl⟩
 repeat (first | (apply wo_po; apply mo_bin; exact rfl; exact rfl; apply bin_streq (r := true); exact beq_self_eq_true _; exact rfl) | refine weqlT ?_ | refine wM ?_ | refine wK ?_)
 refine wo_call (.cons rfl .nil) rfl (madeS_tr (n := 1) (r := rs) (.there (.there (Rd.row0 rfl))) (Rd.row0 rfl) (by decide)) ?_
 rintro v1 L1 x10 ⟨rfl, rfl, rfl⟩
 repeat (first | refine weqlT ?_ | refine wo_nil ?_ | refine wA ?_ | refine wK ?_ | refine we_ret ?_)
 (first | refine or1 Try.func4 Try.results4 hQ rfl ?_ | refine on1 Try.func4 Try.results4 hQ rfl ?_)
 exact ⟨rfl, rfl⟩
end
end
end Go.Proofs.Ytcladnioicackaa
namespace Go.Proofs.Ytcladnioicackaa
open Go Go.PB Go.ChangeShapes Go.WideShapes Go.RowKit
section
theorem own : ownKnob Try.prog.godebug = none := by kernel_rfl
theorem laidOut : laidOutB Try.prog = true := by kernel_rfl
theorem known0 {W : World} : Tr Try.prog solo0 4 [] [base W] () fun v L' x' => v = .bool true :=
 known_tr.mono fun v L x h => h.1
set_option maxRecDepth 100000 in
theorem onceKnown_lifted (os : Os) (started : os.Started) (H : Type) (enc : TypeId × Value → H) (Fi : Stop.Interp) :
  ReturnsInLeavingWide Rows.onceKnownRow.assume Try.checked os 4 .any (Rows.onceKnownSpec.pre6 enc Try.prog Try.f4 Rows.onceKnownRow.domain false) ((OpenSpec.ofChange Rows.onceKnownSpec).postWith enc Try.prog Try.f4 Fi (outsideKept [.timePasses]) false true false) := by
 refine returnsInLeavingWide_of_change_time (C := Try.checked) own started Try.func4
  (ChangeSpec.witness6c (enc := enc) (C := Try.checked) ⟨#[], #[], []⟩ 8 (by kernel_rfl) (by kernel_rfl) (by kernel_rfl) (by kernel_rfl)) ?_
 intro W base args ds gs before hval0 hW hcnd hsz _
 have hval : ∀ (j : Nat) t v, Try.f4.params[j]? = some t → args[j]? = some v → Value.okWide Try.prog W .any base t v := hval0
 have hW' := hW
 obtain ⟨p, q, hA0, hV, rfl, hfz, hnd⟩ := hW
 have hA : DataW.TrodAll enc Try.prog W 0 (fun _ => true) true Try.f4.params.toList args.toList ds p := hA0
 rw [Try.params4] at hA hval
 obtain ⟨rfl, rfl, rfl⟩ := trodAll_none hA
 refine good_of_tr (by kernel_rfl) (known0) fun v L' w' hv ha => ?_
 subst hv
 have hos : w'.os = W.os := ha.1.os
 have hww : ({ w' with os := W.os } : World) = w' := by rw [← hos]
 refine ⟨?_, by rw [hos]; exact Go.ConcM.OsLater.refl _⟩
 rw [hww]
 exact post_true laidOut (of_decide_eq_true (by kernel_rfl)) rfl (by kernel_rfl) rfl (fun ds hd => by match ds, hd with | [], _ => rfl) hW' ha
theorem onceKnown : Rows.OnceKnownSaid :=
 OpenClaim.holds_of_wide_leaving_time 4 Try.f4 rfl rfl rfl rfl rfl rfl rfl ⟨rfl, rfl, rfl, rfl, rfl⟩ rfl rfl rfl rfl rfl (by kernel_rfl) Try.func4 (by kernel_rfl)
  (of_decide_eq_true (by kernel_rfl)) (by unfold Func.isWrapper; first | (rw [if_pos (by decide +kernel)]; kernel_rfl) | (rw [if_neg (by decide +kernel)]; exact ⟨rfl, rfl⟩))
  (fun os started H enc _ F => onceKnown_lifted os started H enc F)
end
end Go.Proofs.Ytcladnioicackaa
