/-
  patchbaylaw14: what the row asks: GaugeNews is true of every input; the input reads as it did.
-/
import Derived.Test.YtnnpdmhmpgmpnaaLaw14c
import Derived.Test.YtnnpdmhmpgmpnaaFp
import Derived.Test.YtnnpdmhmpgmpnaaRows
set_option linter.unusedVariables false
set_option linter.unusedSimpArgs false
namespace Go.Proofs.Ytnnpdmhmpgmpnaa
open Go Go.PB Go.ChangeShapes Go.WideShapes Go.RowKit

theorem own : ownKnob Try.prog.godebug = none := by kernel_rfl
theorem laidOut : laidOutB Try.prog = true := by kernel_rfl

theorem news0 {W : World} {limit fails wait : Nat} (h1 : limit < 18446744073709551616) (h2 : fails < 18446744073709551616) (h3 : wait < 18446744073709551616) :
    Tr Try.prog solo0 4 [.int .u64 (limit : Nat), .int .u64 (fails : Nat), .int .u64 (wait : Nat)] [base W] () fun v L' x' => v = .bool true :=
  (news_tr h1 h2 h3).mono fun v L x h => h.1

set_option maxRecDepth 100000 in
theorem gaugeNews_lifted (os : Os) (started : os.Started) (H : Type) (enc : TypeId × Value → H) :
    ReturnsInLeavingWide {} Try.checked os 4 .any (Rows.gaugeNewsSpec.pre6 enc Try.prog Try.f4 Rows.gaugeNewsRow.domain false) (Rows.gaugeNewsSpec.post enc Try.prog Try.f4 false true false false) := by
  refine returnsInLeavingWide_of_change_sized (C := Try.checked) own started Try.func4
    (ChangeSpec.witness6 (enc := enc) (C := Try.checked) false ⟨#[], #[.int .u64 0, .int .u64 0, .int .u64 0], []⟩ 8 (by kernel_rfl) (by kernel_rfl) (by kernel_rfl) (by kernel_rfl)) ?_
  intro W base args ds gs before hval0 hW hcnd _ _
  have hval : ∀ (j : Nat) t v, Try.f4.params[j]? = some t → args[j]? = some v → Value.okWide Try.prog W .any base t v := hval0
  have hW' := hW
  obtain ⟨p, q, hA0, hV, rfl, hfz, hnd⟩ := hW
  have hA : DataW.TrodAll enc Try.prog W 0 (fun _ => true) true Try.f4.params.toList args.toList ds p := hA0
  rw [Try.params4] at hA hval
  obtain ⟨v0, v1, v2, d0, d1, d2, p0, p1, p2, rfl, rfl, rfl, h0, h1, h2⟩ := trodAll_three hA
  obtain ⟨n0, rfl⟩ := okWide_int (k := .u64) (by kernel_rfl) (hval 0 _ v0 rfl rfl)
  obtain ⟨n1, rfl⟩ := okWide_int (k := .u64) (by kernel_rfl) (hval 1 _ v1 rfl rfl)
  obtain ⟨n2, rfl⟩ := okWide_int (k := .u64) (by kernel_rfl) (hval 2 _ v2 rfl rfl)
  obtain ⟨x0, e0, r0⟩ := arg_one (opens_u64 (by kernel_rfl) (by kernel_rfl)) h0
  cases e0
  obtain ⟨x1, e1, r1⟩ := arg_one (opens_u64 (by kernel_rfl) (by kernel_rfl)) h1
  cases e1
  obtain ⟨x2, e2, r2⟩ := arg_one (opens_u64 (by kernel_rfl) (by kernel_rfl)) h2
  cases e2
  refine good_of_tr (by kernel_rfl) (news0 r0 r1 r2) fun v L' w' hv ha => ?_
  subst hv
  exact post_true laidOut (of_decide_eq_true (by kernel_rfl)) rfl (by kernel_rfl) rfl (fun ds hd => by match ds, hd with | [_, _, _], _ => rfl) hW' ha

theorem gaugeNews : Rows.GaugeNewsSaid :=
  OpenClaim.holds_of_wide_leaving 4 Try.f4 rfl rfl rfl rfl rfl rfl rfl ⟨rfl, rfl, rfl, rfl, rfl⟩ rfl rfl rfl rfl rfl (by kernel_rfl) Try.func4 (by kernel_rfl)
    (of_decide_eq_true (by kernel_rfl)) (by unfold Func.isWrapper; first | (rw [if_pos (by decide +kernel)]; kernel_rfl) | (rw [if_neg (by decide +kernel)]; exact ⟨rfl, rfl⟩))
    (fun os started H enc _ => gaugeNews_lifted os started H enc)

end Go.Proofs.Ytnnpdmhmpgmpnaa
