/-
  patchbaylaw14: what the row asks: GaugeBreakerAlone is true of every input; the input reads as it did.
-/
import Derived.Test.YtnnpdmhmpgmpnaaLaw14b
import Derived.Test.YtnnpdmhmpgmpnaaFp
import Derived.Test.YtnnpdmhmpgmpnaaRows
set_option linter.unusedVariables false
set_option linter.unusedSimpArgs false
namespace Go.Proofs.Ytnnpdmhmpgmpnaa
open Go Go.PB Go.ChangeShapes Go.WideShapes Go.RowKit

theorem own : ownKnob Try.prog.godebug = none := by kernel_rfl
theorem laidOut : laidOutB Try.prog = true := by kernel_rfl

def shStep : Sh (Nat × Bool × Bool × Unit) := shPair shU64 (shPair shBool (shPair shBool shUnit))

theorem opens_step : Opens Try.prog 28 shStep :=
  opens_struct (fs := #[_, _, _]) Try.underlying28 (by kernel_rfl) (opensF_cons rfl (opens_u64 (by kernel_rfl) (by kernel_rfl)) rfl (opensF_cons rfl (opens_bool (by kernel_rfl) (by kernel_rfl)) rfl (opensF_cons rfl (opens_bool (by kernel_rfl) (by kernel_rfl)) rfl opensF_nil)))
theorem opens_steps : Opens Try.prog 22 (shSlice shStep) := opens_slice Try.underlying22 (by kernel_rfl) opens_step (by decide)

/-- the row of Step that an argument holds -/
theorem st_at {W : World} {v : Value} {l : List (Nat × Bool × Bool × Unit)} (h : (shSlice shStep).rel W [v] l) : ∃ a cap, v = .slice a (l.map fun y => (y.1, y.2.1, y.2.2.1)).length cap ∧ StAt [base W] a (l.map fun y => (y.1, y.2.1, y.2.2.1)) := by
  obtain ⟨p, cap, h1, _, _, h2⟩ := h
  cases h1
  have key : ∀ i y, (l.map fun y => (y.1, y.2.1, y.2.2.1))[i]? = some y → (∃ b o, p = some ⟨b, o, none⟩ ∧ Rd [base W] b (o + 3 * i) (.int .u64 y.1) ∧ Rd [base W] b (o + 3 * i + 1) (.bool y.2.1) ∧ Rd [base W] b (o + 3 * i + 2) (.bool y.2.2)) ∧ y.1 < 18446744073709551616 := by
    intro i y hy
    simp only [List.getElem?_map, Option.map_eq_some_iff] at hy
    obtain ⟨y, hy, rfl⟩ := hy
    obtain ⟨b, o, vs, rfl, h3, h4, ⟨h5, h6⟩, h7, h8, h9⟩ := h2 i y hy
    match vs, h3 with
    | [v0, v1, v2], _ =>
      have e0 : v0 = .int .u64 (y.1 : Nat) := by simpa [shStep, shPair, shU64, shBool] using h5
      have e1 : v1 = .bool y.2.1 := by simpa [shStep, shPair, shU64, shBool] using h7
      have e2 : v2 = .bool y.2.2.1 := by simpa [shStep, shPair, shU64, shBool] using h8
      subst e0; subst e1; subst e2
      have c0 := h4 0 _ rfl
      have c1 := h4 1 _ rfl
      have c2 := h4 2 _ rfl
      simp only [shStep, shPair, shU64, shBool, shUnit, Nat.add_zero] at c0 c1 c2
      rw [Nat.mul_comm i] at c0 c1 c2
      exact ⟨⟨b, o, rfl, Rd.base c0, Rd.base c1, Rd.base c2⟩, h6⟩
  exact ⟨p, cap, by simp, ⟨fun y hy => by obtain ⟨i, hi⟩ := List.mem_iff_getElem?.1 hy; exact (key i y hi).2, fun i y hi => (key i y hi).1⟩⟩

set_option maxRecDepth 100000 in
theorem gaugeBreakerAlone_lifted (os : Os) (started : os.Started) (H : Type) (enc : TypeId × Value → H) :
    ReturnsInLeavingWide {} Try.checked os 3 .any (Rows.gaugeBreakerAloneSpec.pre6 enc Try.prog Try.f3 Rows.gaugeBreakerAloneRow.domain false) (Rows.gaugeBreakerAloneSpec.post enc Try.prog Try.f3 false true false false) := by
  refine returnsInLeavingWide_of_change_sized (C := Try.checked) own started Try.func3
    (ChangeSpec.witness6 (enc := enc) (C := Try.checked) false ⟨#[], #[.slice none 0 0, .int .u64 0, .int .u64 0], []⟩ 8 (by kernel_rfl) (by kernel_rfl) (by kernel_rfl) (by kernel_rfl)) ?_
  intro W base args ds gs before hval0 hW hcnd _ _
  have hval : ∀ (j : Nat) t v, Try.f3.params[j]? = some t → args[j]? = some v → Value.okWide Try.prog W .any base t v := hval0
  have hW' := hW
  obtain ⟨p, q, hA0, hV, rfl, hfz, hnd⟩ := hW
  have hA : DataW.TrodAll enc Try.prog W 0 (fun _ => true) true Try.f3.params.toList args.toList ds p := hA0
  rw [Try.params3] at hA hval
  obtain ⟨v0, v1, v2, d0, d1, d2, p0, p1, p2, rfl, rfl, rfl, h0, h1, h2⟩ := trodAll_three hA
  obtain ⟨a0, l0, c0, rfl⟩ := okWide_slice Try.underlying22 (hval 0 _ v0 rfl rfl)
  obtain ⟨n1, rfl⟩ := okWide_int (k := .u64) (by kernel_rfl) (hval 1 _ v1 rfl rfl)
  obtain ⟨n2, rfl⟩ := okWide_int (k := .u64) (by kernel_rfl) (hval 2 _ v2 rfl rfl)
  obtain ⟨x0, e0⟩ := arg_one opens_steps h0
  obtain ⟨b0, k0, e0, s0⟩ := st_at e0
  cases e0
  obtain ⟨x1, e1, r1⟩ := arg_one (opens_u64 (by kernel_rfl) (by kernel_rfl)) h1
  cases e1
  obtain ⟨x2, e2, r2⟩ := arg_one (opens_u64 (by kernel_rfl) (by kernel_rfl)) h2
  cases e2
  refine good_of_tr (by kernel_rfl) (alone_tr (x := ()) s0) fun v L' w' hv ha => ?_
  subst hv
  exact post_true laidOut (of_decide_eq_true (by kernel_rfl)) rfl (by kernel_rfl) rfl (fun ds hd => by match ds, hd with | [_, _, _], _ => rfl) hW' ha

theorem gaugeBreakerAlone : Rows.GaugeBreakerAloneSaid :=
  OpenClaim.holds_of_wide_leaving 3 Try.f3 rfl rfl rfl rfl rfl rfl rfl ⟨rfl, rfl, rfl, rfl, rfl⟩ rfl rfl rfl rfl rfl (by kernel_rfl) Try.func3 (by kernel_rfl)
    (of_decide_eq_true (by kernel_rfl)) (by unfold Func.isWrapper; first | (rw [if_pos (by decide +kernel)]; kernel_rfl) | (rw [if_neg (by decide +kernel)]; exact ⟨rfl, rfl⟩))
    (fun os started H enc _ => gaugeBreakerAlone_lifted os started H enc)

end Go.Proofs.Ytnnpdmhmpgmpnaa
