/-
  patchbaylaw23: what the row asks: MirrorKnown is true of every input; the input reads as it did.
-/
import Derived.Test.YtmkkanmkjfnpdaaLaw23a
import Derived.Test.YtmkkanmkjfnpdaaFp
import Derived.Test.YtmkkanmkjfnpdaaRows
set_option linter.unusedVariables false
set_option linter.unusedSimpArgs false
namespace Go.Proofs.Ytmkkanmkjfnpdaa
open Go Go.PB Go.ChangeShapes Go.WideShapes Go.RowKit

theorem own : ownKnob Try.prog.godebug = none := by kernel_rfl
theorem laidOut : laidOutB Try.prog = true := by kernel_rfl

theorem known0 {W : World} : Tr Try.prog solo0 4 [] [base W] () fun v L' x' => v = .bool true := known_tr

set_option maxRecDepth 100000 in
theorem mirrorKnown_lifted (os : Os) (started : os.Started) (H : Type) (enc : TypeId × Value → H) :
    ReturnsInLeavingWide {} Try.checked os 4 .any (Rows.mirrorKnownSpec.pre6 enc Try.prog Try.f4 Rows.mirrorKnownRow.domain false) (Rows.mirrorKnownSpec.post enc Try.prog Try.f4 false true false false) := by
  refine returnsInLeavingWide_of_change_sized (C := Try.checked) own started Try.func4
    (ChangeSpec.witness6 (enc := enc) (C := Try.checked) false ⟨#[], #[], []⟩ 8 (by kernel_rfl) (by kernel_rfl) (by kernel_rfl) (by kernel_rfl)) ?_
  intro W base args ds gs before hval0 hW hcnd _ _
  have hval : ∀ (j : Nat) t v, Try.f4.params[j]? = some t → args[j]? = some v → Value.okWide Try.prog W .any base t v := hval0
  have hW' := hW
  obtain ⟨p, q, hA0, hV, rfl, hfz, hnd⟩ := hW
  have hA : DataW.TrodAll enc Try.prog W 0 (fun _ => true) true Try.f4.params.toList args.toList ds p := hA0
  rw [Try.params4] at hA hval
  obtain ⟨rfl, rfl, rfl⟩ := trodAll_none hA
  refine good_of_tr (by kernel_rfl) (known0) fun v L' w' hv ha => ?_
  subst hv
  exact post_true laidOut (of_decide_eq_true (by kernel_rfl)) rfl (by kernel_rfl) rfl (fun ds hd => by match ds, hd with | [], _ => rfl) hW' ha

theorem mirrorKnown : Rows.MirrorKnownSaid :=
  OpenClaim.holds_of_wide_leaving 4 Try.f4 rfl rfl rfl rfl rfl rfl rfl ⟨rfl, rfl, rfl, rfl, rfl⟩ rfl rfl rfl rfl rfl (by kernel_rfl) Try.func4 (by kernel_rfl)
    (of_decide_eq_true (by kernel_rfl)) (by unfold Func.isWrapper; first | (rw [if_pos (by decide +kernel)]; kernel_rfl) | (rw [if_neg (by decide +kernel)]; exact ⟨rfl, rfl⟩))
    (fun os started H enc _ => mirrorKnown_lifted os started H enc)

end Go.Proofs.Ytmkkanmkjfnpdaa
