/-
  patchbaylaw03: what the row asks: CellNotes is true of every input; the input reads as it did.
-/
import Derived.Test.YtkgnkloonamheaaLaw3o
import Derived.Test.YtkgnkloonamheaaFp
import Derived.Test.YtkgnkloonamheaaRows
set_option linter.unusedVariables false
set_option linter.unusedSimpArgs false
namespace Go.Proofs.Ytkgnkloonamheaa
open Go Go.PB Go.ChangeShapes Go.WideShapes Go.RowKit

theorem own : ownKnob Try.prog.godebug = none := by kernel_rfl
theorem laidOut : laidOutB Try.prog = true := by kernel_rfl

def shU32 : Sh Nat := ⟨1, fun _ cs a => cs = [.int .u32 (a : Nat)] ∧ a < 4294967296⟩
theorem opens_u32 {P : Program} {t : TypeId} (ht : P.underlying t = some (.int .u32)) (hc : P.cellsOf t = 1) : Opens P t shU32 := ⟨hc, fun _ enc w fuel cs x h => by
  cases fuel with
  | zero => simp [DataW.trod] at h
  | succ n =>
    unfold DataW.trod at h
    rw [ht] at h
    simp only at h
    split at h <;> try contradiction
    all_goals (rename_i k n he; cases he)
    split at h
    · rename_i hw
      obtain ⟨rfl, hw⟩ := hw
      have hw' : 0 ≤ n ∧ n ≤ 4294967295 := by simpa [Lit.wf, IntKind.min, IntKind.max, IntKind.signed, IntKind.bits] using hw
      exact ⟨n.toNat, by rw [Int.toNat_of_nonneg hw'.1], by omega⟩
    · cases h⟩

abbrev Do4 := Int × Nat × Nat × Nat × Unit
def do4 (y : Do4) : Int × Nat × Nat × Nat := (y.1, y.2.1, y.2.2.1, y.2.2.2.1)
def shDo : Sh Do4 := shPair shI64 (shPair shU64 (shPair shU64 (shPair shU32 shUnit)))
theorem opens_do : Opens Try.prog 47 shDo :=
  opens_struct (fs := #[_, _, _, _]) Try.underlying47 (by kernel_rfl) (opensF_cons rfl (opens_i64 (by kernel_rfl) (by kernel_rfl)) rfl (opensF_cons rfl (opens_u64 (by kernel_rfl) (by kernel_rfl)) rfl (opensF_cons rfl (opens_u64 (by kernel_rfl) (by kernel_rfl)) rfl (opensF_cons rfl (opens_u32 (by kernel_rfl) (by kernel_rfl)) rfl opensF_nil))))
theorem opens_dos : Opens Try.prog 39 (shSlice shDo) := opens_slice Try.underlying39 (by kernel_rfl) opens_do (by decide)
theorem opens_ths : Opens Try.prog 24 (shSlice (shSlice shDo)) := opens_slice Try.underlying24 (by kernel_rfl) opens_dos (by decide)
def shCells : Sh (Nat × Nat × List (List Do4) × Unit) := shPair shU64 (shPair shU32 (shPair (shSlice (shSlice shDo)) shUnit))
theorem opens_cells : Opens Try.prog 26 shCells :=
  opens_struct (fs := #[_, _, _]) Try.underlying26 (by kernel_rfl) (opensF_cons rfl (opens_u64 (by kernel_rfl) (by kernel_rfl)) rfl (opensF_cons rfl (opens_u32 (by kernel_rfl) (by kernel_rfl)) rfl (opensF_cons rfl opens_ths rfl opensF_nil)))

/-- a row of Do -/
theorem do_at {W : World} {v : Value} {l : List Do4} (h : (shSlice shDo).rel W [v] l) : ∃ a cap, v = .slice a (l.map do4).length cap ∧ DoAt [base W] a (l.map do4) := by
  obtain ⟨p, cap, h1, _, _, h2⟩ := h
  cases h1
  have key : ∀ i y, (l.map do4)[i]? = some y → (∃ b o, p = some ⟨b, o, none⟩ ∧ Rd [base W] b (o + 4 * i) (.int .i64 y.1) ∧ Rd [base W] b (o + 4 * i + 1) (.int .u64 y.2.1) ∧ Rd [base W] b (o + 4 * i + 2) (.int .u64 y.2.2.1) ∧ Rd [base W] b (o + 4 * i + 3) (.int .u32 y.2.2.2)) ∧ (-9223372036854775808 ≤ y.1 ∧ y.1 ≤ 9223372036854775807) ∧ y.2.1 < 18446744073709551616 ∧ y.2.2.1 < 18446744073709551616 ∧ y.2.2.2 < 4294967296 := by
    intro i y hy
    simp only [List.getElem?_map, Option.map_eq_some_iff] at hy
    obtain ⟨y, hy, rfl⟩ := hy
    obtain ⟨b, o, vs, rfl, h3, h4, ⟨h5, h6⟩, ⟨h7, h7'⟩, ⟨h8, h8'⟩, ⟨h9, h9'⟩, _⟩ := h2 i y hy
    match vs, h3 with
    | [v0, v1, v2, v3], _ =>
      have e0 : v0 = .int .i64 y.1 := by simpa [shDo, shPair, shU64, shI64, shU32] using h5
      have e1 : v1 = .int .u64 (y.2.1 : Nat) := by simpa [shDo, shPair, shU64, shI64, shU32] using h7
      have e2 : v2 = .int .u64 (y.2.2.1 : Nat) := by simpa [shDo, shPair, shU64, shI64, shU32] using h8
      have e3 : v3 = .int .u32 (y.2.2.2.1 : Nat) := by simpa [shDo, shPair, shU64, shI64, shU32] using h9
      subst e0; subst e1; subst e2; subst e3
      have c0 := h4 0 _ rfl
      have c1 := h4 1 _ rfl
      have c2 := h4 2 _ rfl
      have c3 := h4 3 _ rfl
      simp only [shDo, shPair, shU64, shI64, shU32, shUnit, Nat.add_zero] at c0 c1 c2 c3
      rw [Nat.mul_comm i] at c0 c1 c2 c3
      exact ⟨⟨b, o, rfl, Rd.base c0, Rd.base c1, Rd.base c2, Rd.base c3⟩, h6, h7', h8', h9'⟩
  exact ⟨p, cap, by simp, ⟨fun y hy => by obtain ⟨i, hi⟩ := List.mem_iff_getElem?.1 hy; exact (key i y hi).2, fun i y hi => (key i y hi).1⟩⟩

/-- a row of threads -/
theorem th_at {W : World} {v : Value} {l : List (List Do4)} (h : (shSlice (shSlice shDo)).rel W [v] l) : ∃ a cap, v = .slice a (l.map fun t => t.map do4).length cap ∧ ThAt [base W] a (l.map fun t => t.map do4) := by
  obtain ⟨p, cap, h1, _, _, h2⟩ := h
  cases h1
  refine ⟨p, cap, by simp, ⟨fun i t ht => ?_⟩⟩
  simp only [List.getElem?_map, Option.map_eq_some_iff] at ht
  obtain ⟨t, ht, rfl⟩ := ht
  obtain ⟨b, o, vs, rfl, h3, h4, h5⟩ := h2 i t ht
  match vs, h3 with
  | [w], _ =>
    obtain ⟨d, dc, rfl, h6⟩ := do_at h5
    have c0 := h4 0 _ rfl
    simp only [shSlice, Nat.add_zero, Nat.mul_one] at c0
    exact ⟨b, o, d, dc, rfl, Rd.base c0, h6⟩

/-- what the argument holds -/
theorem cells_at {W : World} {cs : Array Value} {x : Nat × Nat × List (List Do4) × Unit} (h : shCells.rel W (Value.agg cs).cells.toList x) : ∃ (C V : Nat) (a : Option Addr) (ll : List (List (Int × Nat × Nat × Nat))) (cap : Nat), cs = #[.int .u64 (C : Nat), .int .u32 (V : Nat), .slice a ll.length cap] ∧ C < 18446744073709551616 ∧ V < 4294967296 ∧ ThAt [base W] a ll := by
  obtain ⟨l⟩ := cs
  replace h : shCells.rel W l x := h
  obtain ⟨⟨h1, h2⟩, ⟨h3, h4⟩, h5, h7⟩ := h
  have h5o := h5
  simp only [shPair, shU64, shU32, shSlice, shUnit] at h1 h3 h5 h7
  match l, h1, h3, h5, h7, h5o with
  | [v0, v1, v2], h1, h3, h5, _, h5o =>
    simp at h1 h3
    obtain ⟨a, cap, rfl, h8⟩ := th_at (v := v2) (l := x.2.2.1) h5o
    exact ⟨x.1, x.2.1, a, _, cap, by rw [h1, h3], h2, h4, h8⟩
  | [], h1, _, _, _, _ => simp at h1
  | [_], _, h3, _, _, _ => simp at h3
  | [_, _], _, _, h5, _, _ => simp at h5
  | _ :: _ :: _ :: _ :: _, _, _, _, h7, _ => simp at h7

set_option maxRecDepth 100000 in
theorem cellNotes_lifted (os : Os) (started : os.Started) (H : Type) (enc : TypeId × Value → H) :
    ReturnsInLeavingWide {} Try.checked os 3 .any (Rows.cellNotesSpec.pre6 enc Try.prog Try.f3 Rows.cellNotesRow.domain false) (Rows.cellNotesSpec.post enc Try.prog Try.f3 false true false false) := by
  refine returnsInLeavingWide_of_change_sized (C := Try.checked) own started Try.func3
    (ChangeSpec.witness6 (enc := enc) (C := Try.checked) false ⟨#[], #[.agg #[.int .u64 0, .int .u32 0, .slice none 0 0]], []⟩ 8 (by kernel_rfl) (by kernel_rfl) (by kernel_rfl) (by kernel_rfl)) ?_
  intro W base args ds gs before hval0 hW hcnd _ _
  have hval : ∀ (j : Nat) t v, Try.f3.params[j]? = some t → args[j]? = some v → Value.okWide Try.prog W .any base t v := hval0
  have hW' := hW
  obtain ⟨p, q, hA0, hV, rfl, hfz, hnd⟩ := hW
  have hA : DataW.TrodAll enc Try.prog W 0 (fun _ => true) true Try.f3.params.toList args.toList ds p := hA0
  rw [Try.params3] at hA hval
  obtain ⟨v0, d0, rfl, rfl, h0⟩ := trodAll_one hA
  obtain ⟨a0, rfl, z0⟩ := okWide_struct Try.underlying26 (hval 0 _ v0 rfl rfl)
  obtain ⟨x0, e0⟩ := arg_one opens_cells h0
  obtain ⟨c0, v0, a0, l0, k0, rfl, q0, r0, s0⟩ := cells_at e0
  refine good_of_tr (by kernel_rfl) (notes_tr (x := ()) q0 r0 s0) fun v L' w' hv ha => ?_
  subst hv
  exact post_true laidOut (of_decide_eq_true (by kernel_rfl)) rfl (by kernel_rfl) rfl (fun ds hd => by match ds, hd with | [_], _ => rfl) hW' ha

theorem cellNotes : Rows.CellNotesSaid :=
  OpenClaim.holds_of_wide_leaving 3 Try.f3 rfl rfl rfl rfl rfl rfl rfl ⟨rfl, rfl, rfl, rfl, rfl⟩ rfl rfl rfl rfl rfl (by kernel_rfl) Try.func3 (by kernel_rfl)
    (of_decide_eq_true (by kernel_rfl)) (by unfold Func.isWrapper; first | (rw [if_pos (by decide +kernel)]; kernel_rfl) | (rw [if_neg (by decide +kernel)]; exact ⟨rfl, rfl⟩))
    (fun os started H enc _ => cellNotes_lifted os started H enc)

end Go.Proofs.Ytkgnkloonamheaa
