/-
  patchbaylaw23: MirrorNotes: the parts of a round.
-/
import Derived.Test.YtmkkanmkjfnpdaaMirror23o
import Derived.Test.YtmkkanmkjfnpdaaLaw23a
set_option linter.unusedVariables false
set_option linter.unusedSimpArgs false
namespace Go.Proofs.Ytmkkanmkjfnpdaa
open Go Go.PB
attribute [local irreducible] Mo Bin Eql Tr Wo Ap Wle

section
variable {B : Hand} [Lets B] [Chans B] {L F G : List HProp} {x : B.X} {mr r b n k nc nb u : Nat}

omit [Lets B] [Chans B] in
theorem call_ok {kd : Nat} (hn : n ≤ 1024) (hv : u < 18446744073709551616) : (callCl n kd u).ok = true := by
  unfold callCl
  split
  · simp [Mach.Cl.ok, Mach.rofferCl, Mach.rofferCode, Mach.qputCode, Mach.In.ok]; omega
  · split
    · simp [Mach.Cl.ok, Mach.rtakeCl, Mach.qtakeCode, Mach.In.ok]; omega
    · decide

omit [Lets B] [Chans B] in
theorem mirW_new : mirW n (seqs n) = ⟨[[0, 0, 0], qwords n], 2⟩ := by
  unfold mirW
  rw [seqs_row, show seqs n (2 * n + 2) = 0 from if_neg (by omega), show seqs n (2 * n + 3) = 0 from if_neg (by omega), show seqs n (2 * n + 4) = 0 from if_neg (by omega)]

/-- done with notes, and the machine's call -/
theorem done_n {f : Nat → Nat} {row : List Nat} (ap : Apart (maddr mr r b n) (2 * n + 5) (mK mr r b n nc)) (hn : n = 2 ^ k) (hk0 : 1 ≤ k) (hk : k ≤ 10) {kind : Int} {kd : Nat} (hr : -9223372036854775808 ≤ kind ∧ kind ≤ 9223372036854775807) (hkd : kind % 3 = kd) (hv : u < 18446744073709551616) (R : RowAt n f row) :
    Tr Try.prog B 13 [.pointer (some ⟨mr, 0, none⟩), .iface 34 (.pointer (some ⟨nb, 0, none⟩)), .agg #[.int .i64 kind, .int .u64 (u : Nat)]] (notesC nb [] :: wds (maddr mr r b n) (2 * n + 5) (mK mr r b n nc) f :: newsC nc :: F) x fun w L' x' => ∃ told f' row' ms bv, Mach.Comes 30 (ms.length + 1) (mirW n f) (callCl n kd u) (mirW n f') told ms ∧ ms.length ≤ 7 ∧ told.length ≤ 3 ∧ RowAt n f' row' ∧ w = .tuple #[bv, .int .i64 0] ∧ L' = vec 1 bv (told.map num) :: wds (maddr mr r b n) (2 * n + 5) (mK mr r b n nc) f' :: notesC nb (ms.map mkI) :: newsC nc :: F ∧ x' = x := by
  obtain ⟨told, f', row', ms, h1, h2, h3, h4, h5⟩ := done_comes (x := x) (nb := nb) (ap := ap) (kd := kd) (v := u) hn hk0 hk hv R
  refine tr_star ((mirNotes x mr r b n nc nb ap).C (f, []) :: F) (fun h st => star_shut (M := [_, _]) (star_shut (M := [_, _]) (star_swap st))) ?_
  refine (done_tr (A := mirNotes x mr r b n nc nb ap) (notes_at hn hk) hr hkd hv (done_with (A := notesAcc x (maddr mr r b n) (2 * n + 5) (mK mr r b n nc) ap nb) h1) .here).post ?_
  rintro w L' x' ⟨told', s', bv, ⟨rfl, rfl⟩, rfl, rfl, rfl⟩
  refine ⟨_, ⟨told', f', row', ms, bv, h2, h3, h4, h5, rfl, rfl, rfl⟩, fun h st => ?_⟩
  exact star_map st (fun _ y => y) (fun _ y => star_open (M := [_, _]) (star_open (M := [_, _]) y))
end
end Go.Proofs.Ytmkkanmkjfnpdaa
