/-
  patchbaylaw23: what the row asks: MirrorNotes is true of every input; the input reads as it did.
-/
import Derived.Test.YtmkkanmkjfnpdaaLaw23o
import Derived.Test.YtmkkanmkjfnpdaaFp
import Derived.Test.YtmkkanmkjfnpdaaRows
set_option linter.unusedVariables false
set_option linter.unusedSimpArgs false
namespace Go.Proofs.Ytmkkanmkjfnpdaa
open Go Go.PB Go.ChangeShapes Go.WideShapes Go.RowKit

theorem own : ownKnob Try.prog.godebug = none := by kernel_rfl
theorem laidOut : laidOutB Try.prog = true := by kernel_rfl

def shDo : Sh (Int × Nat × Unit) := shPair shI64 (shPair shU64 shUnit)
theorem opens_do : Opens Try.prog 41 shDo :=
  opens_struct (fs := #[_, _]) Try.underlying41 (by kernel_rfl) (opensF_cons rfl (opens_i64 (by kernel_rfl) (by kernel_rfl)) rfl (opensF_cons rfl (opens_u64 (by kernel_rfl) (by kernel_rfl)) rfl opensF_nil))
theorem opens_dos : Opens Try.prog 22 (shSlice shDo) := opens_slice Try.underlying22 (by kernel_rfl) opens_do (by decide)

/-- the row of Do that an argument holds -/
theorem do_at {W : World} {v : Value} {l : List (Int × Nat × Unit)} (h : (shSlice shDo).rel W [v] l) : ∃ a cap, v = .slice a (l.map fun y => (y.1, y.2.1)).length cap ∧ DoAt [base W] a (l.map fun y => (y.1, y.2.1)) := by
  obtain ⟨p, cap, h1, _, _, h2⟩ := h
  cases h1
  have key : ∀ i y, (l.map fun y => (y.1, y.2.1))[i]? = some y → (∃ b o, p = some ⟨b, o, none⟩ ∧ Rd [base W] b (o + 2 * i) (.int .i64 y.1) ∧ Rd [base W] b (o + 2 * i + 1) (.int .u64 y.2)) ∧ (-9223372036854775808 ≤ y.1 ∧ y.1 ≤ 9223372036854775807) ∧ y.2 < 18446744073709551616 := by
    intro i y hy
    simp only [List.getElem?_map, Option.map_eq_some_iff] at hy
    obtain ⟨y, hy, rfl⟩ := hy
    obtain ⟨b, o, vs, rfl, h3, h4, ⟨h5, h6⟩, ⟨h7, h7'⟩, h9⟩ := h2 i y hy
    match vs, h3 with
    | [v0, v1], _ =>
      have e0 : v0 = .int .i64 y.1 := by simpa [shDo, shPair, shU64, shI64] using h5
      have e1 : v1 = .int .u64 (y.2.1 : Nat) := by simpa [shDo, shPair, shU64, shI64] using h7
      subst e0; subst e1
      have c0 := h4 0 _ rfl
      have c1 := h4 1 _ rfl
      simp only [shDo, shPair, shU64, shI64, shUnit, Nat.add_zero] at c0 c1
      rw [Nat.mul_comm i] at c0 c1
      exact ⟨⟨b, o, rfl, Rd.base c0, Rd.base c1⟩, h6, h7'⟩
  exact ⟨p, cap, by simp, ⟨fun y hy => by obtain ⟨i, hi⟩ := List.mem_iff_getElem?.1 hy; exact (key i y hi).2, fun i y hi => (key i y hi).1⟩⟩

set_option maxRecDepth 100000 in
theorem mirrorNotes_lifted (os : Os) (started : os.Started) (H : Type) (enc : TypeId × Value → H) :
    ReturnsInLeavingWide {} Try.checked os 3 .any (Rows.mirrorNotesSpec.pre6 enc Try.prog Try.f3 Rows.mirrorNotesRow.domain false) (Rows.mirrorNotesSpec.post enc Try.prog Try.f3 false true false false) := by
  refine returnsInLeavingWide_of_change_sized (C := Try.checked) own started Try.func3
    (ChangeSpec.witness6 (enc := enc) (C := Try.checked) false ⟨#[], #[.int .i64 0, .slice none 0 0], []⟩ 8 (by kernel_rfl) (by kernel_rfl) (by kernel_rfl) (by kernel_rfl)) ?_
  intro W base args ds gs before hval0 hW hcnd _ _
  have hval : ∀ (j : Nat) t v, Try.f3.params[j]? = some t → args[j]? = some v → Value.okWide Try.prog W .any base t v := hval0
  have hW' := hW
  obtain ⟨p, q, hA0, hV, rfl, hfz, hnd⟩ := hW
  have hA : DataW.TrodAll enc Try.prog W 0 (fun _ => true) true Try.f3.params.toList args.toList ds p := hA0
  rw [Try.params3] at hA hval
  obtain ⟨v0, v1, d0, d1, p0, p1, rfl, rfl, rfl, h0, h1⟩ := trodAll_two hA
  obtain ⟨n0, rfl⟩ := okWide_int (k := .i64) (by kernel_rfl) (hval 0 _ v0 rfl rfl)
  obtain ⟨a1, l1, c1, rfl⟩ := okWide_slice Try.underlying22 (hval 1 _ v1 rfl rfl)
  obtain ⟨x0, e0, r0⟩ := arg_one (opens_i64 (by kernel_rfl) (by kernel_rfl)) h0
  cases e0
  obtain ⟨x1, e1⟩ := arg_one opens_dos h1
  obtain ⟨b1, k1, e1, s1⟩ := do_at e1
  cases e1
  refine good_of_tr (by kernel_rfl) (notes_tr (x := ()) r0 s1) fun v L' w' hv ha => ?_
  subst hv
  exact post_true laidOut (of_decide_eq_true (by kernel_rfl)) rfl (by kernel_rfl) rfl (fun ds hd => by match ds, hd with | [_, _], _ => rfl) hW' ha

theorem mirrorNotes : Rows.MirrorNotesSaid :=
  OpenClaim.holds_of_wide_leaving 3 Try.f3 rfl rfl rfl rfl rfl rfl rfl ⟨rfl, rfl, rfl, rfl, rfl⟩ rfl rfl rfl rfl rfl (by kernel_rfl) Try.func3 (by kernel_rfl)
    (of_decide_eq_true (by kernel_rfl)) (by unfold Func.isWrapper; first | (rw [if_pos (by decide +kernel)]; kernel_rfl) | (rw [if_neg (by decide +kernel)]; exact ⟨rfl, rfl⟩))
    (fun os started H enc _ => mirrorNotes_lifted os started H enc)

end Go.Proofs.Ytmkkanmkjfnpdaa
