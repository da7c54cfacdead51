/-
  patchbaylaw02: what the row asks: TurnAlone is true of every input; the input reads as it did.
-/
import Derived.Test.YtabbkjciifnehaaLaw2f
import Derived.Test.YtabbkjciifnehaaPlayC
import Derived.Test.YtabbkjciifnehaaWg
import Derived.Test.YtabbkjciifnehaaFp
import Derived.Test.YtabbkjciifnehaaRows
set_option linter.unusedVariables false
set_option linter.unusedSimpArgs false
namespace Go.Proofs.Ytabbkjciifnehaa
open Go Go.PB Go.ChangeShapes Go.WideShapes Go.RowKit

theorem own : ownKnob Try.prog.godebug = none := by kernel_rfl
theorem laidOut : laidOutB Try.prog = true := by kernel_rfl

theorem opens_ints : Opens Try.prog 22 (shSlice shI64) := opens_slice Try.underlying22 (by kernel_rfl) (opens_i64 (by kernel_rfl) (by kernel_rfl)) (by decide)

/-- numbers that an argument holds -/
theorem ints_at {W : World} {v : Value} {l : List Int} (h : (shSlice shI64).rel W [v] l) : ∃ a cap, v = .slice a l.length cap ∧ RdsO [base W] a l.length (ints l) ∧ (∀ v ∈ l, -9223372036854775808 ≤ v ∧ v ≤ 9223372036854775807) ∧ l.length ≤ cap ∧ cap ≤ maxLen := by
  obtain ⟨p, cap, h1, h3, h4, h2⟩ := h
  cases h1
  have key : ∀ i y, l[i]? = some y → (∃ b o, p = some ⟨b, o, none⟩ ∧ Rd [base W] b (o + i) (.int .i64 y)) ∧ (-9223372036854775808 ≤ y ∧ y ≤ 9223372036854775807) := by
    intro i y hy
    obtain ⟨b, o, vs, rfl, h5, h6, h7, h8, h9⟩ := h2 i y hy
    rw [h7] at h6
    have c0 := h6 0 _ rfl
    simp only [shI64, Nat.mul_one, Nat.add_zero] at c0
    exact ⟨⟨b, o, rfl, Rd.base c0⟩, h8, h9⟩
  refine ⟨p, cap, rfl, ⟨by simp, ?_⟩, fun v hv => ?_, h3, h4⟩
  · by_cases h0 : 0 < l.length
    · obtain ⟨⟨b, o, rfl, _⟩, _⟩ := key 0 l[0] (List.getElem?_eq_getElem h0)
      refine .inr ⟨b, o, rfl, fun i v hi => ?_⟩
      rw [List.getElem?_map] at hi
      cases hy : l[i]? with
      | none => rw [hy] at hi; cases hi
      | some y =>
        rw [hy] at hi; cases hi
        obtain ⟨⟨b2, o2, e, r⟩, _⟩ := key i y hy
        cases e; exact r
    · exact .inl (by omega)
  · obtain ⟨i, hi⟩ := List.mem_iff_getElem?.1 hv
    exact (key i v hi).2

set_option maxRecDepth 100000 in
theorem turnAlone_lifted (os : Os) (started : os.Started) (H : Type) (enc : TypeId × Value → H) :
    ReturnsInLeavingWide {} Try.checked os 6 .any (Rows.turnAloneSpec.pre6 enc Try.prog Try.f6 Rows.turnAloneRow.domain false) (Rows.turnAloneSpec.post enc Try.prog Try.f6 false true false false) := by
  refine returnsInLeavingWide_of_change_sized (C := Try.checked) own started Try.func6
    (ChangeSpec.witness6 (enc := enc) (C := Try.checked) false ⟨#[], #[.slice none 0 0, .int .i64 0], []⟩ 8 (by kernel_rfl) (by kernel_rfl) (by kernel_rfl) (by kernel_rfl)) ?_
  intro W base args ds gs before hval0 hW hcnd hsz _
  have hval : ∀ (j : Nat) t v, Try.f6.params[j]? = some t → args[j]? = some v → Value.okWide Try.prog W .any base t v := hval0
  have hW' := hW
  obtain ⟨p, q, hA0, hV, rfl, hfz, hnd⟩ := hW
  have hA : DataW.TrodAll enc Try.prog W 0 (fun _ => true) true Try.f6.params.toList args.toList ds p := hA0
  rw [Try.params6] at hA hval
  obtain ⟨v0, v1, d0, d1, p0, p1, rfl, rfl, rfl, h0, h1⟩ := trodAll_two hA
  obtain ⟨a0, l0, c0, rfl⟩ := okWide_slice Try.underlying22 (hval 0 _ v0 rfl rfl)
  obtain ⟨n1, rfl⟩ := okWide_int (k := .i64) (by kernel_rfl) (hval 1 _ v1 rfl rfl)
  obtain ⟨x0, e0⟩ := arg_one opens_ints h0
  obtain ⟨b0, k0, e0, s0⟩ := ints_at e0
  cases e0
  obtain ⟨x1, e1, r1⟩ := arg_one (opens_i64 (by kernel_rfl) (by kernel_rfl)) h1
  cases e1
  refine good_of_play (cv := cvT) (L := Try.link) Try.wgLib (by kernel_rfl) (tAlone_tr s0.1 (by have := s0.2.2; unfold maxLen at this; omega) s0.2.2.1 r1) (fun v L' x' h => h.2) fun v L' w' hv ha => ?_
  obtain ⟨rfl, -⟩ := hv
  exact post_true laidOut (of_decide_eq_true (by kernel_rfl)) rfl (by kernel_rfl) rfl (fun ds hd => by match ds, hd with | [_, _], _ => rfl) hW' ha

theorem turnAlone : Rows.TurnAloneSaid :=
  OpenClaim.holds_of_wide_leaving 6 Try.f6 rfl rfl rfl rfl rfl rfl rfl ⟨rfl, rfl, rfl, rfl, rfl⟩ rfl rfl rfl rfl rfl (by kernel_rfl) Try.func6 (by kernel_rfl)
    (of_decide_eq_true (by kernel_rfl)) (by unfold Func.isWrapper; first | (rw [if_pos (by decide +kernel)]; kernel_rfl) | (rw [if_neg (by decide +kernel)]; exact ⟨rfl, rfl⟩))
    (fun os started H enc _ => turnAlone_lifted os started H enc)

end Go.Proofs.Ytabbkjciifnehaa
