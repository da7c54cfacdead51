/-
  patchbayref06: World, Put, Take, Len.
-/
import Derived.Test.YtdcbnbmahndecaaRing6m
import Derived.Test.YtdcbnbmahndecaaMach18
import Derived.Test.YtdcbnbmahndecaaFt
set_option linter.unusedVariables false
set_option linter.unusedSimpArgs false
namespace Go.PB
/-- a struct, by what is named of it -/
theorem mo_buildV {P : Program} {e : Env} {ty : TypeId} {L : List HProp} {t : TypeId} {parts : Array (Nat × Operand)} {vs : List Value} {ps : Array (Nat × Nat)} {z cells : Array Value} [p : StT P t ps z] (hv : EvL e (parts.toList.map (·.2)) vs) (hf : Instr.fill (ps[·]?) z ((parts.toList.map (·.1)).zip vs) = some cells) : Mo P e (.build t parts) ty L fun v' L' => v' = .agg cells ∧ L' = L := by
  have hl : ∀ {os : List Operand} {vs : List Value}, EvL e os vs → os.length = vs.length := by
    intro os vs h
    induction h with
    | nil => rfl
    | cons _ _ ih => simp [ih]
  have hlen := hl hv
  rw [List.length_map] at hlen
  refine mo_build (pv := (parts.toList.map (·.1)).zip vs) ?_ ?_ hf
  · rw [List.map_fst_zip]; simp [hlen]
  · rw [List.map_snd_zip]
    · exact hv
    · simp [hlen]
end Go.PB
namespace Go.Proofs.Ytdcbnbmahndecaa
open Go Go.PB
attribute [local irreducible] Mo Bin Eql Tr Wo Ap

section
variable {B : Hand} [Lets B] {L F : List HProp} {x : B.X} {n v : Nat}

/-- a call, out of the cells that were laid -/
theorem cl_new {kb k : Nat} {cl : Mach.Cl} {cs : List Value} (hc : cs = (cl.code.map inC).flatten) (hk : k = cl.code.length) (hd : cl.data = []) {h : Hp} (s : Star (arr kb 0 cs :: L) h) : Star (clC (.slice (some ⟨kb, 0, none⟩) k k) (.slice none 0 0) cl :: L) h := by
  subst hc
  subst hk
  have s1 : Star (vec 7 (.slice (some ⟨kb, 0, none⟩) cl.code.length cl.code.length) (cl.code.map inC).flatten :: vec 1 (.slice none 0 0) [] :: L) h := by
    refine vec_new ?_ (star_swap (vec_nil s))
    exact flat_len (k := 7) (fun _ => rfl) _
  refine star_shut (M := [_, _]) ?_
  rw [hd]
  exact s1

theorem ref_len_tr (hn : n ≤ 1024) : Tr Try.prog B 45 [.int .i64 (n : Nat)] L x fun w L' x' => ∃ kb m, w = .agg #[.slice (some ⟨kb, 0, none⟩) m m, .slice none 0 0] ∧ L' = clC (.slice (some ⟨kb, 0, none⟩) m m) (.slice none 0 0) (Mach.lenCl n) :: L ∧ x' = x := by
  refine Tr.post (R := fun v L' x' => ∃ kb m, v = .agg #[.slice (some ⟨kb, 0, none⟩) m m, .slice none 0 0] ∧ x' = x ∧ ∀ h, Star L' h → Star (clC (.slice (some ⟨kb, 0, none⟩) m m) (.slice none 0 0) (Mach.lenCl n) :: L) h) ?_
    (by rintro v L' x' ⟨kb, m, rfl, rfl, hs⟩; exact ⟨_, ⟨kb, m, rfl, rfl, rfl⟩, hs⟩)
  refine tr_of_body Try.func45 rfl Try.ntmps45 (by simp) fun um Q hQ => ?_
  simp only [argE, Nat.zero_add, Nat.reduceAdd]
  repeat (first
    | (apply wo_mo; apply mo_alloc; exact trivial)
    | refine we_seq ?_
    | (refine we_region _ rfl rfl ?_; simp only [opsOf, List.map_cons, List.map_nil, Option.map_none, Option.map_some, List.getElem?_toArray, List.getElem?_cons_zero, List.getElem?_cons_succ, Option.bind_some, Option.getD_some]))
  rintro v' L' ⟨cb, rfl, rfl⟩
  repeat (first
    | (apply wo_po; apply mo_buildV; (repeat (first | exact EvL.nil | apply EvL.cons rfl)); exact rfl; exact trivial)
    | (apply wo_mo; apply mo_buildSlice (sz := 7); exact rfl; (repeat (first | exact EvL.nil | apply EvL.cons rfl)); exact rfl; (intro v hv; simp only [List.mem_cons, List.not_mem_nil, or_false] at hv; rcases hv with rfl | rfl | rfl | rfl | rfl | rfl | rfl <;> rfl); omega; exact trivial)
    | refine we_seq ?_
    | (refine we_region _ rfl rfl ?_; simp only [opsOf, List.map_cons, List.map_nil, Option.map_none, Option.map_some, List.getElem?_toArray, List.getElem?_cons_zero, List.getElem?_cons_succ, Option.bind_some, Option.getD_some])
    | refine wo_nil ?_
    | (apply wo_po; apply mo_move; exact rfl; (first | exact trivial | exact rfl))
    | (apply wo_po; apply mo_conv; exact rfl; (first | exact wrap_i64 (by omega) (by omega) | exact wrap_u64 (by omega) (by omega)); (first | exact trivial | exact rfl)))
  rintro v' L' ⟨kb, rfl, rfl⟩
  repeat (first
    | (apply wo_po; apply mo_buildV; (repeat (first | exact EvL.nil | apply EvL.cons rfl)); exact rfl; exact trivial)
    | (apply wo_pm; apply mo_storeA (c := 0) (k := 0) (a := 0) (vs := [.slice none 0 0, .slice none 0 0]); exact rfl; exact rfl; exact rfl; (intro w hw; simp [Value.cells] at hw; rcases hw with rfl | rfl <;> rfl); exact rfl; exact Nat.le_refl 2; exact (.there .here); exact trivial)
    | refine wo_nil ?_
    | refine we_ret ?_)
  refine at_leaveM (rs := [.cell 2 57]) Try.func45 Try.results45 hQ (.inl rfl) (.cons (.cell (vs := [.slice (some ⟨kb, 0, none⟩) 7 7, .slice none 0 0]) rfl rfl (Rds.all (.there .here))) .nil) ?_
  refine ⟨_, _, rfl, rfl, fun h st => ?_⟩
  refine cl_new (cl := Mach.lenCl n) ?_ rfl rfl (Ent.star (.take .here (.drop .refl)) st)
  rfl

theorem ref_take_tr (h1 : 1 ≤ n) (hn : n ≤ 1024) : Tr Try.prog B 44 [.int .i64 (n : Nat)] L x fun w L' x' => ∃ kb m, w = .agg #[.slice (some ⟨kb, 0, none⟩) m m, .slice none 0 0] ∧ L' = clC (.slice (some ⟨kb, 0, none⟩) m m) (.slice none 0 0) (Mach.takeCl n) :: L ∧ x' = x := by
  refine Tr.post (R := fun v L' x' => ∃ kb m, v = .agg #[.slice (some ⟨kb, 0, none⟩) m m, .slice none 0 0] ∧ x' = x ∧ ∀ h, Star L' h → Star (clC (.slice (some ⟨kb, 0, none⟩) m m) (.slice none 0 0) (Mach.takeCl n) :: L) h) ?_
    (by rintro v L' x' ⟨kb, m, rfl, rfl, hs⟩; exact ⟨_, ⟨kb, m, rfl, rfl, rfl⟩, hs⟩)
  have hsub : IntKind.i64.wrap ((n : Int) - 1) = ((n - 1 : Nat) : Int) := (wrap_i64 (by omega) (by omega)).trans (by omega)
  refine tr_of_body Try.func44 rfl Try.ntmps44 (by simp) fun um Q hQ => ?_
  simp only [argE, Nat.zero_add, Nat.reduceAdd]
  repeat (first
    | (apply wo_mo; apply mo_alloc; exact trivial)
    | refine we_seq ?_
    | (refine we_region _ rfl rfl ?_; simp only [opsOf, List.map_cons, List.map_nil, Option.map_none, Option.map_some, List.getElem?_toArray, List.getElem?_cons_zero, List.getElem?_cons_succ, Option.bind_some, Option.getD_some]))
  rintro v' L' ⟨cb, rfl, rfl⟩
  repeat (first
    | (apply wo_po; apply mo_bin; exact rfl; exact rfl; apply bin_sub; exact hsub; exact trivial)
    | (apply wo_po; apply mo_buildV; (repeat (first | exact EvL.nil | apply EvL.cons rfl)); exact rfl; exact trivial)
    | (apply wo_mo; apply mo_buildSlice (sz := 7); exact rfl; (repeat (first | exact EvL.nil | apply EvL.cons rfl)); exact rfl; (intro v hv; simp only [List.mem_cons, List.not_mem_nil, or_false] at hv; rcases hv with rfl | rfl | rfl | rfl | rfl | rfl | rfl | rfl | rfl | rfl | rfl | rfl | rfl <;> rfl); omega; exact trivial)
    | refine we_seq ?_
    | (refine we_region _ rfl rfl ?_; simp only [opsOf, List.map_cons, List.map_nil, Option.map_none, Option.map_some, List.getElem?_toArray, List.getElem?_cons_zero, List.getElem?_cons_succ, Option.bind_some, Option.getD_some])
    | refine wo_nil ?_
    | (apply wo_po; apply mo_move; exact rfl; (first | exact trivial | exact rfl))
    | (apply wo_po; apply mo_conv; exact rfl; (first | exact wrap_i64 (by omega) (by omega) | exact wrap_u64 (by omega) (by omega)); (first | exact trivial | exact rfl)))
  rintro v' L' ⟨kb, rfl, rfl⟩
  repeat (first
    | (apply wo_po; apply mo_buildV; (repeat (first | exact EvL.nil | apply EvL.cons rfl)); exact rfl; exact trivial)
    | (apply wo_pm; apply mo_storeA (c := 0) (k := 0) (a := 0) (vs := [.slice none 0 0, .slice none 0 0]); exact rfl; exact rfl; exact rfl; (intro w hw; simp [Value.cells] at hw; rcases hw with rfl | rfl <;> rfl); exact rfl; exact Nat.le_refl 2; exact (.there .here); exact trivial)
    | refine wo_nil ?_
    | refine we_ret ?_)
  refine at_leaveM (rs := [.cell 2 57]) Try.func44 Try.results44 hQ (.inl rfl) (.cons (.cell (vs := [.slice (some ⟨kb, 0, none⟩) 13 13, .slice none 0 0]) rfl rfl (Rds.all (.there .here))) .nil) ?_
  refine ⟨_, _, rfl, rfl, fun h st => ?_⟩
  refine cl_new (cl := Mach.takeCl n) ?_ rfl rfl (Ent.star (.take .here (.drop .refl)) st)
  rfl

theorem ref_put_tr {u : Nat} (h1 : 1 ≤ n) (hn : n ≤ 1024) : Tr Try.prog B 43 [.int .i64 (n : Nat), .int .u64 (u : Nat)] L x fun w L' x' => ∃ kb m, w = .agg #[.slice (some ⟨kb, 0, none⟩) m m, .slice none 0 0] ∧ L' = clC (.slice (some ⟨kb, 0, none⟩) m m) (.slice none 0 0) (Mach.putCl n u) :: L ∧ x' = x := by
  refine Tr.post (R := fun v L' x' => ∃ kb m, v = .agg #[.slice (some ⟨kb, 0, none⟩) m m, .slice none 0 0] ∧ x' = x ∧ ∀ h, Star L' h → Star (clC (.slice (some ⟨kb, 0, none⟩) m m) (.slice none 0 0) (Mach.putCl n u) :: L) h) ?_
    (by rintro v L' x' ⟨kb, m, rfl, rfl, hs⟩; exact ⟨_, ⟨kb, m, rfl, rfl, rfl⟩, hs⟩)
  have hsub : IntKind.i64.wrap ((n : Int) - 1) = ((n - 1 : Nat) : Int) := (wrap_i64 (by omega) (by omega)).trans (by omega)
  refine tr_of_body Try.func43 rfl Try.ntmps43 (by simp) fun um Q hQ => ?_
  simp only [argE, Nat.zero_add, Nat.reduceAdd]
  repeat (first
    | (apply wo_mo; apply mo_alloc; exact trivial)
    | refine we_seq ?_
    | (refine we_region _ rfl rfl ?_; simp only [opsOf, List.map_cons, List.map_nil, Option.map_none, Option.map_some, List.getElem?_toArray, List.getElem?_cons_zero, List.getElem?_cons_succ, Option.bind_some, Option.getD_some]))
  rintro v' L' ⟨cb, rfl, rfl⟩
  repeat (first
    | (apply wo_po; apply mo_bin; exact rfl; exact rfl; apply bin_sub; exact hsub; exact trivial)
    | (apply wo_po; apply mo_buildV; (repeat (first | exact EvL.nil | apply EvL.cons rfl)); exact rfl; exact trivial)
    | (apply wo_mo; apply mo_buildSlice (sz := 7); exact rfl; (repeat (first | exact EvL.nil | apply EvL.cons rfl)); exact rfl; (intro v hv; simp only [List.mem_cons, List.not_mem_nil, or_false] at hv; rcases hv with rfl | rfl | rfl | rfl | rfl | rfl | rfl | rfl | rfl | rfl | rfl | rfl | rfl | rfl | rfl <;> rfl); omega; exact trivial)
    | refine we_seq ?_
    | (refine we_region _ rfl rfl ?_; simp only [opsOf, List.map_cons, List.map_nil, Option.map_none, Option.map_some, List.getElem?_toArray, List.getElem?_cons_zero, List.getElem?_cons_succ, Option.bind_some, Option.getD_some])
    | refine wo_nil ?_
    | (apply wo_po; apply mo_move; exact rfl; (first | exact trivial | exact rfl))
    | (apply wo_po; apply mo_conv; exact rfl; (first | exact wrap_i64 (by omega) (by omega) | exact wrap_u64 (by omega) (by omega)); (first | exact trivial | exact rfl)))
  rintro v' L' ⟨kb, rfl, rfl⟩
  repeat (first
    | (apply wo_po; apply mo_buildV; (repeat (first | exact EvL.nil | apply EvL.cons rfl)); exact rfl; exact trivial)
    | (apply wo_pm; apply mo_storeA (c := 0) (k := 0) (a := 0) (vs := [.slice none 0 0, .slice none 0 0]); exact rfl; exact rfl; exact rfl; (intro w hw; simp [Value.cells] at hw; rcases hw with rfl | rfl <;> rfl); exact rfl; exact Nat.le_refl 2; exact (.there .here); exact trivial)
    | refine wo_nil ?_
    | refine we_ret ?_)
  refine at_leaveM (rs := [.cell 4 57]) Try.func43 Try.results43 hQ (.inl rfl) (.cons (.cell (vs := [.slice (some ⟨kb, 0, none⟩) 15 15, .slice none 0 0]) rfl rfl (Rds.all (.there .here))) .nil) ?_
  refine ⟨_, _, rfl, rfl, fun h st => ?_⟩
  refine cl_new (cl := Mach.putCl n u) ?_ rfl rfl (Ent.star (.take .here (.drop .refl)) st)
  rfl


theorem world_tr (hn : n ≤ 1024) : Tr Try.prog B 17 [.int .i64 (n : Nat)] L x fun w L' x' => ∃ wv lv, w = .agg #[wv, lv] ∧ L' = wvC wv lv ⟨[List.replicate (n + 2) 0], 1⟩ :: L ∧ x' = x := by
  refine Tr.post (R := fun v L' x' => ∃ wv lv, v = .agg #[wv, lv] ∧ x' = x ∧ ∀ h, Star L' h → Star (wvC wv lv ⟨[List.replicate (n + 2) 0], 1⟩ :: L) h) ?_
    (by rintro v L' x' ⟨wv, lv, rfl, rfl, hs⟩; exact ⟨_, ⟨wv, lv, rfl, rfl, rfl⟩, hs⟩)
  have hadd : IntKind.i64.wrap ((2 : Int) + (n : Int)) = ((n + 2 : Nat) : Int) := (wrap_i64 (by omega) (by omega)).trans (by omega)
  refine tr_of_body Try.func17 rfl Try.ntmps17 (by simp) fun um Q hQ => ?_
  simp only [argE, Nat.zero_add, Nat.reduceAdd]
  repeat (first
    | (apply wo_mo; apply mo_alloc; exact trivial)
    | refine we_seq ?_
    | (refine we_region _ rfl rfl ?_; simp only [opsOf, List.map_cons, List.map_nil, Option.map_none, Option.map_some, List.getElem?_toArray, List.getElem?_cons_zero, List.getElem?_cons_succ, Option.bind_some, Option.getD_some]))
  rintro v' L' ⟨cb, rfl, rfl⟩
  repeat (first
    | (apply wo_po; apply mo_bin; exact rfl; exact rfl; apply bin_add; exact hadd; exact trivial)
    | (apply wo_mo; apply mo_make (n := n + 2); exact rfl; exact rfl; exact rfl; omega; omega; exact trivial)
    | refine we_seq ?_
    | (refine we_region _ rfl rfl ?_; simp only [opsOf, List.map_cons, List.map_nil, Option.map_none, Option.map_some, List.getElem?_toArray, List.getElem?_cons_zero, List.getElem?_cons_succ, Option.bind_some, Option.getD_some])
    | refine wo_nil ?_
    | (apply wo_po; apply mo_move; exact rfl; (first | exact trivial | exact rfl)))
  rintro v' L' ⟨wb, rfl, rfl⟩
  repeat (first
    | (apply wo_mo; apply mo_buildSlice (sz := 1) (vs := [.slice (some ⟨wb, 0, none⟩) (n + 2) (n + 2)]); exact rfl; exact .cons rfl .nil; exact rfl; (intro v hv; cases (List.mem_singleton.1 hv); exact rfl); omega; exact trivial))
  rintro v' L' ⟨rb, rfl, rfl⟩
  repeat (first
    | (apply wo_mo; apply mo_buildSlice (sz := 1) (vs := [.slice none 0 0]); exact rfl; exact .cons rfl .nil; exact rfl; (intro v hv; cases (List.mem_singleton.1 hv); exact rfl); omega; exact trivial))
  rintro v' L' ⟨lb, rfl, rfl⟩
  repeat (first
    | (apply wo_po; apply mo_build (pv := [(0, .slice (some ⟨rb, 0, none⟩) 1 1), (1, .slice (some ⟨lb, 0, none⟩) 1 1)]); exact rfl; exact .cons rfl (.cons rfl .nil); exact rfl; exact trivial)
    | (apply wo_pm; apply mo_storeA (c := 0) (k := 0) (a := 0) (vs := [.slice none 0 0, .slice none 0 0]); exact rfl; exact rfl; exact rfl; (intro w hw; simp [Value.cells] at hw; rcases hw with rfl | rfl <;> rfl); exact rfl; exact Nat.le_refl 2; exact (.there (.there (.there .here))); exact trivial)
    | refine wo_nil ?_
    | refine we_ret ?_)
  refine at_leaveM (rs := [.cell 2 46]) Try.func17 Try.results17 hQ (.inl rfl) (.cons (.cell (vs := [.slice (some ⟨rb, 0, none⟩) 1 1, .slice (some ⟨lb, 0, none⟩) 1 1]) rfl rfl (Rds.all (.there (.there (.there .here))))) .nil) ?_
  refine ⟨_, _, rfl, rfl, fun h st => ?_⟩
  have s1 : Star (arr lb 0 [.slice none 0 0] :: arr rb 0 [.slice (some ⟨wb, 0, none⟩) (n + 2) (n + 2)] :: arr wb 0 ((List.replicate (n + 2) 0).map num) :: L) h := by
    have e : zeros (n + 2) (Value.int .u64 0).cells.toList = (List.replicate (n + 2) 0).map num := by
      have : ∀ m : Nat, zeros m (Value.int .u64 0).cells.toList = (List.replicate m 0).map num := by
        intro m
        apply List.ext_getElem?
        intro i
        by_cases hi : i < m
        · rw [show (Value.int .u64 0).cells.toList = [Value.int .u64 0] from rfl, zeros_one hi]
          simp [hi, num]
        · rw [List.getElem?_eq_none, List.getElem?_eq_none]
          · simp; omega
          · rw [zeros_length]; simp [Value.cells]; omega
      exact this _
    rw [← e]
    exact Ent.star (.take .here (.take .here (.take .here (.drop .refl)))) st
  refine wv_shut (wl := [(.slice (some ⟨wb, 0, none⟩) (n + 2) (n + 2), List.replicate (n + 2) 0)]) (lw := [.slice none 0 0]) rfl ?_ rfl ?_
  · exact ⟨by show 1 < 1000000; omega, by show 1 < 1000000; omega, fun l hl => by cases (List.mem_singleton.1 hl); simp; omega, fun l hl v hv => by cases (List.mem_singleton.1 hl); have := List.eq_of_mem_replicate hv; omega⟩
  · refine star_map (vec_new (n := 1) (sz := 1) rfl s1) (fun _ y => y) fun _ y => ?_
    refine star_shut (M := [_]) (vec_nil ?_)
    refine star_map (vec_new (n := 1) (sz := 1) rfl y) (fun _ y => y) fun _ z => ?_
    exact star_shut (M := [_]) (vec_new (sz := 1) (by simp) z)

end
end Go.Proofs.Ytdcbnbmahndecaa
