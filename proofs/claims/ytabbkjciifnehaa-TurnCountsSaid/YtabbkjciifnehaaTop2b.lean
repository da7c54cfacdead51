/-
  patchbaylaw02: what the row asks: TurnCounts is true of every input; the input reads as it did.
-/
import Derived.Test.YtabbkjciifnehaaLaw2d
import Derived.Test.YtabbkjciifnehaaPlayC
import Derived.Test.YtabbkjciifnehaaWg
import Derived.Test.YtabbkjciifnehaaFp
import Derived.Test.YtabbkjciifnehaaRows
set_option linter.unusedVariables false
set_option linter.unusedSimpArgs false
namespace Go.Proofs.Ytabbkjciifnehaa
open Go Go.PB Go.ChangeShapes Go.WideShapes Go.RowKit

theorem own : ownKnob Try.prog.godebug = none := by kernel_rfl
theorem laidOut : laidOutB Try.prog = true := by kernel_rfl

theorem opens_ints : Opens Try.prog 22 (shSlice shI64) := opens_slice Try.underlying22 (by kernel_rfl) (opens_i64 (by kernel_rfl) (by kernel_rfl)) (by decide)

/-- numbers that an argument holds -/
theorem ints_at {W : World} {v : Value} {l : List Int} (h : (shSlice shI64).rel W [v] l) : ∃ a cap, v = .slice a l.length cap ∧ RdsO [base W] a l.length (ints l) ∧ (∀ v ∈ l, -9223372036854775808 ≤ v ∧ v ≤ 9223372036854775807) ∧ l.length ≤ cap ∧ cap ≤ maxLen := by
  obtain ⟨p, cap, h1, h3, h4, h2⟩ := h
  cases h1
  have key : ∀ i y, l[i]? = some y → (∃ b o, p = some ⟨b, o, none⟩ ∧ Rd [base W] b (o + i) (.int .i64 y)) ∧ (-9223372036854775808 ≤ y ∧ y ≤ 9223372036854775807) := by
    intro i y hy
    obtain ⟨b, o, vs, rfl, h5, h6, h7, h8, h9⟩ := h2 i y hy
    rw [h7] at h6
    have c0 := h6 0 _ rfl
    simp only [shI64, Nat.mul_one, Nat.add_zero] at c0
    exact ⟨⟨b, o, rfl, Rd.base c0⟩, h8, h9⟩
  refine ⟨p, cap, rfl, ⟨by simp, ?_⟩, fun v hv => ?_, h3, h4⟩
  · by_cases h0 : 0 < l.length
    · obtain ⟨⟨b, o, rfl, _⟩, _⟩ := key 0 l[0] (List.getElem?_eq_getElem h0)
      refine .inr ⟨b, o, rfl, fun i v hi => ?_⟩
      rw [List.getElem?_map] at hi
      cases hy : l[i]? with
      | none => rw [hy] at hi; cases hi
      | some y =>
        rw [hy] at hi; cases hi
        obtain ⟨⟨b2, o2, e, r⟩, _⟩ := key i y hy
        cases e; exact r
    · exact .inl (by omega)
  · obtain ⟨i, hi⟩ := List.mem_iff_getElem?.1 hv
    exact (key i v hi).2
/-- a slice that an argument is, as data: as long -/
theorem slice_data {P : Program} {t e : TypeId} (ht : P.underlying t = some (.slice e)) {H : Type} {enc : TypeId × Value → H} {w : World} {a : Option Addr} {n c : Nat} {d : DataW H} {ps : List MemPlace} (h : DataW.Trod enc P w 0 (fun _ => true) true t (.slice a n c) d ps) : n = 0 ∨ ∃ es sp, d = .slice es sp ∧ n ≤ es.length + sp.length := by
  obtain ⟨fuel, hf⟩ := h
  rcases Deep.open_slice ht hf with ⟨h1, _⟩ | ⟨a', len, cap, m, k, D, Pl, h1, _, hl, _, hm, h2, _⟩
  · simp [Value.cells] at h1; exact .inl h1.2.1
  · simp [Value.cells] at h1
    obtain ⟨_, rfl, rfl⟩ := h1
    cases h2
    exact .inr ⟨_, _, rfl, by simp⟩

/-- numbers of 64 bits: so many at most -/
theorem slice_room {P : Program} {t e : TypeId} (ht : P.underlying t = some (.slice e)) (he : P.bytesOf e = 8) {H : Type} {enc : TypeId × Value → H} {w : World} {a : Option Addr} {n c : Nat} {d : DataW H} {ps : List MemPlace} (h : DataW.Trod enc P w 0 (fun _ => true) true t (.slice a n c) d ps)
    {ts : List TypeId} {ds : List (DataW H)} (hsz : (DataW.weightsEach P ts ds).all (· ≤ reachBytes) = true) {j : Nat} (h1 : ts[j]? = some t) (h2 : ds[j]? = some d) : n ≤ 17592186043904 := by
  rcases slice_data ht h with h0 | ⟨es, sp, rfl, hn⟩
  · omega
  · have := sized_slice hsz h1 h2 ht
    rw [he] at this
    have hr : reachBytes = 140737488351232 := rfl
    omega

set_option maxRecDepth 100000 in
theorem turnCounts_lifted (os : Os) (started : os.Started) (H : Type) (enc : TypeId × Value → H) :
    ReturnsInLeavingWide {} Try.checked os 5 .any (Rows.turnCountsSpec.pre6 enc Try.prog Try.f5 Rows.turnCountsRow.domain false) (Rows.turnCountsSpec.post enc Try.prog Try.f5 false true false false) := by
  refine returnsInLeavingWide_of_change_sized (C := Try.checked) own started Try.func5
    (ChangeSpec.witness6 (enc := enc) (C := Try.checked) false ⟨#[], #[.slice none 0 0], []⟩ 8 (by kernel_rfl) (by kernel_rfl) (by kernel_rfl) (by kernel_rfl)) ?_
  intro W base args ds gs before hval0 hW hcnd hsz _
  have hval : ∀ (j : Nat) t v, Try.f5.params[j]? = some t → args[j]? = some v → Value.okWide Try.prog W .any base t v := hval0
  have hW' := hW
  obtain ⟨p, q, hA0, hV, rfl, hfz, hnd⟩ := hW
  have hA : DataW.TrodAll enc Try.prog W 0 (fun _ => true) true Try.f5.params.toList args.toList ds p := hA0
  rw [Try.params5] at hA hval
  obtain ⟨v0, d0, rfl, rfl, h0⟩ := trodAll_one hA
  obtain ⟨a0, l0, c0, rfl⟩ := okWide_slice Try.underlying22 (hval 0 _ v0 rfl rfl)
  obtain ⟨x0, e0⟩ := arg_one opens_ints h0
  obtain ⟨b0, k0, e0, s0⟩ := ints_at e0
  cases e0
  refine good_of_play (cv := cvT) (L := Try.link) Try.wgLib (by kernel_rfl) (counts_tr s0.1 (slice_room Try.underlying22 (by kernel_rfl) h0 hsz (j := 0) (by rw [Try.params5]; rfl) rfl)) (fun v L' x' h => h.2) fun v L' w' hv ha => ?_
  obtain ⟨rfl, -⟩ := hv
  exact post_true laidOut (of_decide_eq_true (by kernel_rfl)) rfl (by kernel_rfl) rfl (fun ds hd => by match ds, hd with | [_], _ => rfl) hW' ha

theorem turnCounts : Rows.TurnCountsSaid :=
  OpenClaim.holds_of_wide_leaving 5 Try.f5 rfl rfl rfl rfl rfl rfl rfl ⟨rfl, rfl, rfl, rfl, rfl⟩ rfl rfl rfl rfl rfl (by kernel_rfl) Try.func5 (by kernel_rfl)
    (of_decide_eq_true (by kernel_rfl)) (by unfold Func.isWrapper; first | (rw [if_pos (by decide +kernel)]; kernel_rfl) | (rw [if_neg (by decide +kernel)]; exact ⟨rfl, rfl⟩))
    (fun os started H enc _ => turnCounts_lifted os started H enc)

end Go.Proofs.Ytabbkjciifnehaa
