/-
  ACCESS WITH NOTES: words in memory of one's own, and a gate that writes down (turn.Notes).
-/
import Derived.Test.YtabbkjciifnehaaFo
import Derived.Test.YtabbkjciifnehaaTy
import Derived.Test.YtabbkjciifnehaaFp
import Derived.Test.YtabbkjciifnehaaFt
set_option linter.unusedVariables false
set_option linter.unusedSimpArgs false
namespace Go.Proofs.Ytabbkjciifnehaa
open Go Go.PB
attribute [local irreducible] Mo Bin Eql Tr Wo

variable {B : Hand} [Lets B]

/-- a mark's cells -/
def mark2 (m : Int × Nat) : List Value := [.int .u8 m.1, .int .i64 (m.2 : Nat)]

/-- notes in block nb: what they were told -/
def notesC (nb : Nat) (marks : List (Int × Nat)) : HProp := fun h => ∃ mv, all [arr nb 0 [.bool true, mv], vec 2 mv (marks.map mark2).flatten] h

section
variable {L F : List HProp} {x : B.X} {nb : Nat} {marks : List (Int × Nat)}

theorem flat2 (marks : List (Int × Nat)) : (marks.map mark2).flatten.length = marks.length * 2 := by
  induction marks with
  | nil => rfl
  | cons m l ih => simp only [List.map_cons, List.flatten_cons, List.length_append, ih, mark2, List.length_cons, List.length_nil]; omega

/-- Step writes a mark down -/
theorem notes_step_tr {op : Int} {w : Nat} (hl : marks.length < 1000000) (hh : Has L (notesC nb marks) F) :
    Tr Try.prog B 34 [.pointer (some ⟨nb, 0, none⟩), .agg #[.int .u8 op, .int .i64 (w : Nat)]] L x fun v L' x' => v = .tuple #[] ∧ L' = notesC nb (marks ++ [(op, w)]) :: F ∧ x' = x := by
  refine tr_ex hh fun mv => tr_star _ (fun h st => star_open st) ?_
  refine Tr.post (R := fun v L' x' => v = .tuple #[] ∧ x' = x ∧ ∃ v', ∀ h, Star L' h → Star (arr nb 0 [.bool true, v'] :: vec 2 v' ((marks ++ [(op, w)]).map mark2).flatten :: F) h) ?_
    (by
      rintro v L' x' ⟨rfl, rfl, v', hs⟩
      refine ⟨_, ⟨rfl, rfl, rfl⟩, fun h st => ?_⟩
      exact star_map (star_shut (M := [_, _]) (hs h st)) (fun _ y => ⟨v', y⟩) (fun _ y => y))
  refine tr_pure (of_has (.there .here) (vec_shape (by omega))) ?_
  rintro ⟨ra, rl, rc, rfl, hlen, hrc, hra, hra2⟩
  rw [flat2] at hlen
  have hrl : rl = marks.length := by omega
  subst hrl
  simp only [List.cons_append, List.nil_append]
  refine tr_of_body Try.func34 rfl Try.ntmps34 (by simp) fun um Q _ hQ => ?_
  simp only [argE, Nat.zero_add, Nat.reduceAdd]
  have hr0 : ∀ {c : HProp}, Rd (c :: arr nb 0 [.bool true, .slice ra marks.length rc] :: vec 2 (.slice ra marks.length rc) (marks.map mark2).flatten :: F) nb 0 (.bool true) := fun {c} => Rd.there (Rd.row (k := 0) rfl rfl)
  have hr1 : ∀ {c : HProp}, Rd (c :: arr nb 0 [.bool true, .slice ra marks.length rc] :: vec 2 (.slice ra marks.length rc) (marks.map mark2).flatten :: F) nb 1 (.slice ra marks.length rc) := fun {c} => Rd.there (Rd.row (k := 1) rfl rfl)
  repeat (first
    | (apply wo_mo; apply mo_box; exact rfl; exact trivial)
    | refine we_seq ?_
    | (refine we_region _ rfl rfl ?_; simp only [opsOf, List.map_cons, List.map_nil, Option.map_none, Option.map_some, List.getElem?_toArray, List.getElem?_cons_zero, List.getElem?_cons_succ, Option.bind_some, Option.getD_some]))
  rintro v' L' ⟨pb, rfl, rfl⟩
  have hrds : Rds (arr pb 0 (mark2 (op, w)) :: arr nb 0 [.bool true, .slice ra marks.length rc] :: vec 2 (.slice ra marks.length rc) (marks.map mark2).flatten :: F) pb 0 [.int .u8 op, .int .i64 (w : Nat)] := Rds.all (vs := mark2 (op, w)) .here
  refine wo_ent (arr pb 0 (mark2 (op, w)) :: arr nb 0 [.bool true, .slice ra marks.length rc] :: vec 2 (.slice ra marks.length rc) (marks.map mark2).flatten :: F) .refl ?_
  repeat (first
    | (apply wo_po; apply mo_load; exact rfl; exact hr0; (first | exact trivial | exact rfl))
    | refine we_seq ?_
    | (refine we_region _ rfl rfl ?_; simp only [opsOf, List.map_cons, List.map_nil, Option.map_none, Option.map_some, List.getElem?_toArray, List.getElem?_cons_zero, List.getElem?_cons_succ, Option.bind_some, Option.getD_some])
    | refine wo_nil ?_
    | (apply wo_po; apply mo_move; exact rfl; (first | exact trivial | exact rfl))
    | (apply wo_po; apply mo_pickT; exact rfl; exact rfl; exact rfl; (first | exact trivial | exact rfl))
    | (apply wo_po; apply mo_nilCheck; exact rfl; (first | exact trivial | exact rfl))
    | (apply wo_po; apply mo_fieldAddr; exact rfl; exact rfl; (first | exact Nat.zero_add _ | exact rfl); (first | exact trivial | exact rfl))
    | (apply wo_po; apply mo_bin; exact rfl; exact rfl; apply bin_ne; apply eql_ptr_nil; (first | exact trivial | exact rfl))
    | (apply we_condT; exact rfl; (first | exact rfl | (simp <;> omega) | omega)))
  have hr2 : ∀ {c d : HProp}, Rd (c :: d :: arr nb 0 [.bool true, .slice ra marks.length rc] :: vec 2 (.slice ra marks.length rc) (marks.map mark2).flatten :: F) nb 1 (.slice ra marks.length rc) := fun {c d} => Rd.there hr1
  refine we_draw [0, 1, 2, 3, 4, 5, 6, 7, 8, 9, 10] (by kernel_rfl) ?_
  repeat (first
    | (apply ap_read; exact rfl; exact rfl; exact trivial; apply mo_load; exact rfl; exact hr1)
    | (apply ap_read; exact rfl; exact rfl; exact trivial; apply mo_loadA (vs := [.int .u8 op, .int .i64 (w : Nat)]); exact rfl; exact rfl; exact hrds)
    | (apply ap_pure; exact rfl; exact rfl; (first | exact trivial | exact rfl); intro L; apply mo_move; exact rfl)
    | (apply ap_pure; exact rfl; exact rfl; (first | exact trivial | exact rfl); intro L; apply mo_nilCheck; exact rfl)
    | (apply ap_pure; exact rfl; exact rfl; (first | exact trivial | exact rfl); intro L; apply mo_fieldAddr; exact rfl; exact rfl; (first | exact Nat.zero_add _ | exact rfl)))
  refine ap_loudR rfl rfl rfl rfl trivial (mo_buildSlice (sz := 2) (vs := [.agg #[.int .u8 op, .int .i64 (w : Nat)]]) rfl (.cons rfl .nil) rfl (by intro v hv; cases (List.mem_singleton.1 hv); exact rfl) (by omega)) ?_ ?_
  · rintro v L' ⟨sb, rfl, rfl⟩ p hp
    replace hp := (List.mem_filter.1 hp).1
    simp only [List.mem_cons, List.not_mem_nil, or_false] at hp
    rcases hp with rfl | rfl | rfl | rfl | rfl | rfl <;> first | exact .inl rfl | exact .inr ⟨_, rfl, trivial, mo_load rfl hr2⟩ | exact .inr ⟨_, rfl, trivial, mo_loadA (vs := [.int .u8 op, .int .i64 (w : Nat)]) rfl rfl (fun i v hi => Rd.there (hrds i v hi))⟩
  rintro v L' ⟨sb, rfl, rfl⟩
  refine ap_loud rfl rfl rfl rfl rfl trivial (mo_append (sz := 2) (new := mark2 (op, w)) rfl rfl rfl rfl (.there (.there (.there .here))) rfl (.inr ⟨_, _, rfl, Rds.all .here⟩) (by intro v hv; simp [mark2] at hv; rcases hv with rfl | rfl <;> rfl) (by simp only [sliceLen]; omega)) ?_
  rintro v' L' rfl
  refine ap_know (of_has .here (vec_shape (by omega))) ?_
  rintro ⟨qa, ql, qc, rfl, _⟩
  repeat (first
    | (apply ap_pure; exact rfl; exact rfl; (first | exact trivial | exact rfl); intro L; apply mo_nilCheck; exact rfl)
    | (apply ap_pure; exact rfl; exact rfl; (first | exact trivial | exact rfl); intro L; apply mo_fieldAddr; exact rfl; exact rfl; (first | exact Nat.zero_add _ | exact rfl)))
  refine ap_loud rfl rfl rfl rfl rfl trivial (mo_store rfl rfl rfl (Wt.row (k := 1) (vs := [.bool true, .slice ra marks.length rc]) (Nat.lt_succ_self 1) rfl (.there (.there (.there .here))))) ?_
  rintro v' L' ⟨rfl, rfl⟩
  refine ap_end ?_
  (first | refine at_ret0 (ex := .ret) Try.func34 Try.results34 hQ (.inl rfl) ?_ | refine at_ret0 (ex := .normal) Try.func34 Try.results34 hQ (.inr rfl) ?_)
  refine ⟨rfl, rfl, .slice qa ql qc, fun h st => ?_⟩
  rw [show ((marks ++ [(op, w)]).map mark2).flatten = (marks.map mark2).flatten ++ mark2 (op, w) by simp]
  exact (Ent.take (.there (.there (.there .here))) (.take .here (.drop (.drop .refl)))).star st
end


end Go.Proofs.Ytabbkjciifnehaa
