/-
  WHAT THE '..Notes' SHARE: words as a row, a call out of the cells that were laid, Alone of a call that comes to something.
-/
import Derived.Test.YtmkkanmkjfnpdaaSolo
import Derived.Test.YtmkkanmkjfnpdaaMach18
import Derived.Test.YtmkkanmkjfnpdaaFt
import Derived.Test.YtmkkanmkjfnpdaaRef
import Derived.Test.YtmkkanmkjfnpdaaNotes2
set_option linter.unusedVariables false
set_option linter.unusedSimpArgs false
namespace Go.Proofs.Ytmkkanmkjfnpdaa
open Go Go.PB
attribute [local irreducible] Mo Bin Eql Tr Wo Ap

section
variable {B : Hand} [Lets B] {L F G : List HProp} {x : B.X} {n k v : Nat}

/-- the first N words -/
def rowOf (N : Nat) (f : Nat → Nat) : List Nat := (List.range N).map f

theorem rowOf_len {N : Nat} {f : Nat → Nat} : (rowOf N f).length = N := by simp [rowOf]
theorem rowOf_get {N i : Nat} {f : Nat → Nat} (h : i < N) : (rowOf N f)[i]? = some (f i) := by simp [rowOf, h]
theorem rowOf_set {N q v : Nat} {f : Nat → Nat} : (rowOf N f).set q v = rowOf N (upd f q v) := by
  apply List.ext_getElem?
  intro i
  rw [List.getElem?_set, rowOf_len]
  by_cases h : q = i
  · subst h
    by_cases hi : q < N
    · rw [if_pos rfl, if_pos hi, rowOf_get hi, upd_same]
    · rw [if_pos rfl, if_neg hi]; simp [rowOf, hi]
  · rw [if_neg h]
    by_cases hi : i < N
    · rw [rowOf_get hi, rowOf_get hi, upd_other (fun e => h e.symm)]
    · simp [rowOf, hi]

theorem row_set0 {N q v : Nat} {f : Nat → Nat} : [rowOf N f].set 0 ((rowOf N f).set q v) = [rowOf N (upd f q v)] := by
  rw [rowOf_set]; rfl

/-- a mark of the machine's, as the program tells it -/
def mkI (m : Nat × Nat) : Int × Nat := ((m.1 : Nat), m.2)

/-- a call, out of the cells that were laid -/
theorem cl_new {kb k : Nat} {cl : Mach.Cl} {cs : List Value} (hc : cs = (cl.code.map inC).flatten) (hk : k = cl.code.length) (hd : cl.data = []) {h : Hp} (s : Star (arr kb 0 cs :: L) h) : Star (clC (.slice (some ⟨kb, 0, none⟩) k k) (.slice none 0 0) cl :: L) h := by
  subst hc
  subst hk
  have s1 : Star (vec 7 (.slice (some ⟨kb, 0, none⟩) cl.code.length cl.code.length) (cl.code.map inC).flatten :: vec 1 (.slice none 0 0) [] :: L) h := by
    refine vec_new ?_ (star_swap (vec_nil s))
    exact flat_len (k := 7) (fun _ => rfl) _
  refine star_shut (M := [_, _]) ?_
  rw [hd]
  exact s1

theorem inC_one {l : List Mach.In} : ∀ w ∈ (l.map inC).flatten, one w = true := by
  intro w hw
  simp only [List.mem_flatten, List.mem_map] at hw
  obtain ⟨c, ⟨i, _, rfl⟩, hw⟩ := hw
  simp only [inC, List.mem_cons, List.not_mem_nil, or_false] at hw
  rcases hw with rfl | rfl | rfl | rfl | rfl | rfl | rfl <;> rfl

/-- a call, out of a list of instructions -/
theorem cl_shut {kv : Value} {cl : Mach.Cl} {cs : List Value} (hc : cs = (cl.code.map inC).flatten) (hd : cl.data = []) {h : Hp} (s : Star (vec 7 kv cs :: L) h) : Star (clC kv (.slice none 0 0) cl :: L) h := by
  subst hc
  refine star_shut (M := [_, _]) ?_
  rw [hd]
  exact star_swap (vec_nil s)

def yes (q : Bool) : Nat := if q then 1 else 0

theorem yes_tr {q : Bool} : Tr Try.prog B 38 [.bool q] L x fun v L' x' => v = num (yes q) ∧ L' = L ∧ x' = x := by
  cases q
  · refine tr_of_body Try.func38 rfl Try.ntmps38 (by simp) fun um Q hQ => ?_
    simp only [argE, Nat.zero_add, Nat.reduceAdd]
    repeat (first
      | refine we_seq ?_
      | (refine we_region _ rfl rfl ?_; simp only [opsOf, List.map_cons, List.map_nil, Option.map_none, Option.map_some, List.getElem?_toArray, List.getElem?_cons_zero, List.getElem?_cons_succ, Option.bind_some, Option.getD_some])
      | refine wo_nil ?_
      | (apply wo_po; apply mo_move; exact rfl; (first | exact trivial | exact rfl))
      | (apply wo_po; apply mo_assign; exact rfl; (first | exact trivial | exact rfl))
      | (apply we_condF; exact rfl; (first | exact rfl | (simp <;> omega) | omega))
      | refine we_ret ?_
      | refine we_skip ?_)
    (first | refine at_ret1 (ex := .ret) Try.func38 Try.results38 hQ (.inl rfl) rfl ?_ | refine at_ret1 (ex := .normal) Try.func38 Try.results38 hQ (.inr rfl) rfl ?_)
    exact ⟨rfl, rfl, rfl⟩
  · refine tr_of_body Try.func38 rfl Try.ntmps38 (by simp) fun um Q hQ => ?_
    simp only [argE, Nat.zero_add, Nat.reduceAdd]
    repeat (first
      | refine we_seq ?_
      | (refine we_region _ rfl rfl ?_; simp only [opsOf, List.map_cons, List.map_nil, Option.map_none, Option.map_some, List.getElem?_toArray, List.getElem?_cons_zero, List.getElem?_cons_succ, Option.bind_some, Option.getD_some])
      | refine wo_nil ?_
      | (apply wo_po; apply mo_move; exact rfl; (first | exact trivial | exact rfl))
      | (apply wo_po; apply mo_assign; exact rfl; (first | exact trivial | exact rfl))
      | (apply we_condT; exact rfl; (first | exact rfl | (simp <;> omega) | omega))
      | refine we_ret ?_)
    (first | refine at_ret1 (ex := .ret) Try.func38 Try.results38 hQ (.inl rfl) rfl ?_ | refine at_ret1 (ex := .normal) Try.func38 Try.results38 hQ (.inr rfl) rfl ?_)
    exact ⟨rfl, rfl, rfl⟩

/-- Alone, of a call that comes to something -/
theorem alone_comes {wv lv kv dv : Value} {w w' : Mach.Wd} {cl : Mach.Cl} {g : Nat} {told : List Nat} {ms : List (Nat × Nat)} (h : Mach.Comes 30 g w cl w' told ms) (hcl : cl.ok = true) (hl : ms.length ≤ 16384) (hh : Has L (wvC wv lv w) G) (hc : Has G (clC kv dv cl) F) :
    Tr Try.prog B 14 [.agg #[wv, lv], .agg #[kv, dv]] L x fun v L' x' => ∃ toldV wv' lv' marksV : Value, v = .tuple #[toldV, .agg #[wv', lv'], marksV] ∧ L' = vec 1 toldV (told.map num) :: wvC wv' lv' w' :: vec 2 marksV (ms.map mkC).flatten :: wvC wv lv w :: F ∧ x' = x := by
  obtain ⟨st, t, hp, rfl, h2, h3, h4⟩ := h
  have e : st.tr.map (·.2) = ms := by rw [h4]; simp [Function.comp_def]
  have hlen : st.tr.length = ms.length := by rw [h4]; simp
  exact (alone_tr hp (by omega) hcl (by omega) h2 h3 hh hc).mono fun v L' x' ⟨a, b, c, d, e1, e2, e3⟩ => ⟨a, b, c, d, e1, by rw [e2, e], e3⟩

theorem marks_flat (ms : List (Nat × Nat)) : (ms.map mkC).flatten = ((ms.map mkI).map mark2).flatten := by
  rw [List.map_map]; rfl

end
end Go.Proofs.Ytmkkanmkjfnpdaa
