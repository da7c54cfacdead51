/-
  patchbaylaw03: CellNotes' walk.
-/
import Derived.Test.YtkgnkloonamheaaLaw3a
import Derived.Test.YtkgnkloonamheaaLaw3n
import Derived.Test.YtkgnkloonamheaaFp
set_option linter.unusedVariables false
set_option linter.unusedSimpArgs false
namespace Go.Proofs.Ytkgnkloonamheaa
open Go Go.PB
attribute [local irreducible] Mo Bin Eql Tr Wo Ap Wle

/-- what a row of Do holds, in memory that is only read -/
structure DoAt (L : List HProp) (a : Option Addr) (l : List (Int × Nat × Nat × Nat)) : Prop where
  rng : ∀ y ∈ l, (-9223372036854775808 ≤ y.1 ∧ y.1 ≤ 9223372036854775807) ∧ y.2.1 < 18446744073709551616 ∧ y.2.2.1 < 18446744073709551616 ∧ y.2.2.2 < 4294967296
  at_ : ∀ i y, l[i]? = some y → ∃ b o, a = some ⟨b, o, none⟩ ∧ Rd L b (o + 4 * i) (.int .i64 y.1) ∧ Rd L b (o + 4 * i + 1) (.int .u64 y.2.1) ∧ Rd L b (o + 4 * i + 2) (.int .u64 y.2.2.1) ∧ Rd L b (o + 4 * i + 3) (.int .u32 y.2.2.2)

/-- what a row of threads holds -/
structure ThAt (L : List HProp) (a : Option Addr) (ll : List (List (Int × Nat × Nat × Nat))) : Prop where
  at_ : ∀ i l, ll[i]? = some l → ∃ b o d dc, a = some ⟨b, o, none⟩ ∧ Rd L b (o + i) (.slice d l.length dc) ∧ DoAt L d l

theorem COk_mono {k k' : Nat} {s : Mach.CSt} (h : Mach.COk k s) (hk : k ≤ k') : Mach.COk k' s := ⟨h.c, h.f, h.v, by have := h.num; omega⟩

def allL (cr fr r t1 t3 t4 C V : Nat) (a : Option Addr) (nn cap : Nat) (W : World) (s : Mach.CSt) (cb : Nat) (wv lv : Value) : List HProp := [arr cr 0 [.bool true, .int .u64 (s.c : Nat)], arr fr 0 [.bool true, .int .u64 (s.f : Nat)], arr r 0 [.pointer (some ⟨cb, 0, none⟩)], arr cb 0 [.int .u32 (s.v : Nat), .int .u64 (s.num : Nat)], shpC cb 158 2, arr t1 0 [.int .u64 (C : Nat), .int .u32 (V : Nat), .slice a nn cap], arr t3 0 [.pointer (some ⟨cr, 0, none⟩), .pointer (some ⟨fr, 0, none⟩), .pointer (some ⟨r, 0, none⟩)], arr t4 0 [wv, lv], wvC wv lv ⟨s.words, 3⟩, base W]

/-- behind the world's making -/
def startInv (x : solo0.X) (cr fr r t1 t3 C V : Nat) (a : Option Addr) (nn cap : Nat) (W : World) (cb : Nat) : Inv (Value × Value × Nat) solo0.X where
  e := fun i => [(1, .pointer (some ⟨t1, 0, none⟩)), (3, .pointer (some ⟨t3, 0, none⟩)), (4, .pointer (some ⟨i.2.2, 0, none⟩))]
  L := fun i => allL cr fr r t1 t3 i.2.2 C V a nn cap W ⟨C, 0, V, 0⟩ cb i.1 i.2.1
  x := fun _ => x
  ok := fun _ => True

/-- ahead of a thread -/
def thrInv (x : solo0.X) (cr fr r t1 t3 t4 C V : Nat) (a : Option Addr) (nn cap : Nat) (W : World) : Inv (Nat × Mach.CSt × Nat × Value × Value) solo0.X where
  e := fun i => [(1, .pointer (some ⟨t1, 0, none⟩)), (3, .pointer (some ⟨t3, 0, none⟩)), (4, .pointer (some ⟨t4, 0, none⟩)), (5, .int .i64 (i.1 : Nat))]
  L := fun i => allL cr fr r t1 t3 t4 C V a nn cap W i.2.1 i.2.2.1 i.2.2.2.1 i.2.2.2.2
  x := fun _ => x
  ok := fun i => i.1 ≤ 40 ∧ Mach.COk (40 * i.1) i.2.1

/-- ahead of a call -/
def callInv (x : solo0.X) (cr fr r t1 t3 t4 C V : Nat) (a : Option Addr) (nn cap : Nat) (W : World) (k : Nat) : Inv (Nat × Mach.CSt × Nat × Value × Value) solo0.X where
  e := fun i => [(1, .pointer (some ⟨t1, 0, none⟩)), (3, .pointer (some ⟨t3, 0, none⟩)), (4, .pointer (some ⟨t4, 0, none⟩)), (5, .int .i64 (k : Nat)), (6, .int .i64 (i.1 : Nat))]
  L := fun i => allL cr fr r t1 t3 t4 C V a nn cap W i.2.1 i.2.2.1 i.2.2.2.1 i.2.2.2.2
  x := fun _ => x
  ok := fun i => i.1 ≤ 40 ∧ Mach.COk (40 * k + i.1) i.2.1

/-- behind the machine's call -/
def notesMid (x : solo0.X) (cr fr r t1 t3 t4 C V : Nat) (a : Option Addr) (nn cap : Nat) (W : World) (k j nb : Nat) (st' : Mach.CSt) (cb' : Nat) (bv : Value) (told : List Nat) (ms : List (Nat × Nat)) (wv lv : Value) : Inv (Value × Value × Value × Value × Nat) solo0.X where
  e := fun y => [(1, .pointer (some ⟨t1, 0, none⟩)), (3, .pointer (some ⟨t3, 0, none⟩)), (4, .pointer (some ⟨t4, 0, none⟩)), (5, .int .i64 (k : Nat)), (6, .int .i64 (j : Nat)), (7, .pointer (some ⟨nb, 0, none⟩)), (8, bv), (9, .int .i64 0), (10, y.1), (11, .pointer (some ⟨y.2.2.2.2, 0, none⟩)), (12, y.2.1)]
  L := fun y => [vec 1 y.1 (told.map Go.PB.num), vec 2 y.2.1 (ms.map mkC).flatten, arr y.2.2.2.2 0 [y.2.2.1, y.2.2.2.1], wvC y.2.2.1 y.2.2.2.1 ⟨st'.words, 3⟩, vec 1 bv (told.map Go.PB.num), notesC nb (ms.map mkI), arr cr 0 [.bool true, .int .u64 (st'.c : Nat)], arr fr 0 [.bool true, .int .u64 (st'.f : Nat)], arr r 0 [.pointer (some ⟨cb', 0, none⟩)], arr cb' 0 [.int .u32 (st'.v : Nat), .int .u64 (st'.num : Nat)], shpC cb' 158 2, arr t1 0 [.int .u64 (C : Nat), .int .u32 (V : Nat), .slice a nn cap], arr t3 0 [.pointer (some ⟨cr, 0, none⟩), .pointer (some ⟨fr, 0, none⟩), .pointer (some ⟨r, 0, none⟩)], arr t4 0 [wv, lv], base W]
  x := fun _ => x
  ok := fun _ => True

section
variable {B : Hand} [Lets B] {x : B.X} {r nb cb cr fr N mo V k : Nat} {L F : List HProp} {st st' : Mach.CSt} {told : List Nat} {ms : List (Nat × Nat)} {kind : Int}
theorem done_n' {kd : Nat} (hF : Mach.cellF kd N mo V st = (st', told, ms)) (hk : -9223372036854775808 ≤ kind ∧ kind ≤ 9223372036854775807) (hkd : kind % 11 = kd) (hN : N < 18446744073709551616) (hm : mo < 18446744073709551616) (hV : V < 4294967296) (hkk : k < 4000000) (O : Mach.COk k st) (h10 : kd ≤ 10) : Tr Try.prog B 11 [.agg #[.pointer (some ⟨cr, 0, none⟩), .pointer (some ⟨fr, 0, none⟩), .pointer (some ⟨r, 0, none⟩)], .iface 40 (.pointer (some ⟨nb, 0, none⟩)), .agg #[.int .i64 kind, .int .u64 (N : Nat), .int .u64 (mo : Nat), .int .u32 (V : Nat)]] (notesC nb [] :: arr cr 0 [.bool true, .int .u64 (st.c : Nat)] :: arr fr 0 [.bool true, .int .u64 (st.f : Nat)] :: arr r 0 [.pointer (some ⟨cb, 0, none⟩)] :: arr cb 0 [.int .u32 (st.v : Nat), .int .u64 (st.num : Nat)] :: shpC cb 158 2 :: F) x fun w L' x' => ∃ bv cb', w = .tuple #[bv, .int .i64 0] ∧ L' = vec 1 bv (told.map num) :: notesC nb (ms.map mkI) :: arr cr 0 [.bool true, .int .u64 (st'.c : Nat)] :: arr fr 0 [.bool true, .int .u64 (st'.f : Nat)] :: arr r 0 [.pointer (some ⟨cb', 0, none⟩)] :: arr cb' 0 [.int .u32 (st'.v : Nat), .int .u64 (st'.num : Nat)] :: shpC cb' 158 2 :: F ∧ x' = x := by
  have := done_n (B := B) (x := x) (r := r) (nb := nb) (cb := cb) (cr := cr) (fr := fr) (F := F) hk hkd hN hm hV hkk O h10
  rw [hF] at this
  exact this
end

set_option maxHeartbeats 16000000 in
theorem notes_tr {x : solo0.X} {C V : Nat} (h1 : C < 18446744073709551616) (h2 : V < 4294967296) {a : Option Addr} {ll : List (List (Int × Nat × Nat × Nat))} {cap : Nat} {W : World} (hl : ThAt [base W] a ll) :
    Tr Try.prog solo0 3 [.agg #[.int .u64 (C : Nat), .int .u32 (V : Nat), .slice a ll.length cap]] [base W] x fun v L' x' => v = .bool true := by
  refine tr_of_body Try.func3 rfl Try.ntmps3 (by simp) fun um Q hQ => ?_
  simp only [argE, Nat.zero_add, Nat.reduceAdd]
  repeat (first
    | (apply wo_mo; apply mo_box; exact rfl; exact trivial)
    | refine we_seq ?_
    | (refine we_region _ rfl rfl ?_; simp only [opsOf, List.map_cons, List.map_nil, Option.map_none, Option.map_some, List.getElem?_toArray, List.getElem?_cons_zero, List.getElem?_cons_succ, Option.bind_some, Option.getD_some]))
  rintro v' L' ⟨t1, rfl, rfl⟩
  refine wo_ent (arr t1 0 [.int .u64 (C : Nat), .int .u32 (V : Nat), .slice a ll.length cap] :: [base W]) .refl ?_
  repeat (first
    | refine we_seq ?_
    | (refine we_region _ rfl rfl ?_; simp only [opsOf, List.map_cons, List.map_nil, Option.map_none, Option.map_some, List.getElem?_toArray, List.getElem?_cons_zero, List.getElem?_cons_succ, Option.bind_some, Option.getD_some])
    | refine wo_nil ?_
    | (apply wo_po; apply mo_assign; exact rfl; (first | exact trivial | exact rfl))
    | (apply wo_po; apply mo_fieldAddr; exact rfl; exact rfl; (first | exact Nat.zero_add _ | exact rfl); (first | exact trivial | exact rfl))
    | (apply wo_po; apply mo_load; exact rfl; (repeat (first | exact Rd.row0 rfl | exact Rd.row rfl rfl | exact Rd.still | apply Rd.there)); (first | exact trivial | exact rfl)))
  refine wo_call (.cons rfl (.cons rfl .nil)) trivial (made_tr h1) ?_
  rintro v' L' x' ⟨cr, fr, r, cb, rfl, rfl, rfl⟩
  repeat (first
    | (apply wo_mo; apply mo_alloc; exact trivial))
  rintro v' L' ⟨t3, rfl, rfl⟩
  repeat (first
    | (apply wo_pm; apply mo_storeA (b := t3) (c := 0) (k := 0) (a := 0) (vs := [.pointer none, .pointer none, .pointer none]); exact rfl; exact rfl; exact rfl; (intro w hw; simp [Value.cells] at hw; rcases hw with rfl | rfl | rfl <;> rfl); exact rfl; exact Nat.le_refl 3; exact .here; exact trivial)
    | refine we_seq ?_
    | refine wo_nil ?_)
  have e0 : (⟨[[C], [0], [V]], 3⟩ : Mach.Wd) = ⟨Mach.CSt.words ⟨C, 0, V, 0⟩, 3⟩ := by simp [Mach.CSt.words]
  have hws : ∀ w ∈ [C, 0, V], w < 18446744073709551616 := by
    intro w hw
    simp only [List.mem_cons, List.not_mem_nil, or_false] at hw
    rcases hw with rfl | rfl | rfl <;> omega
  have cvV : IntKind.u64.wrap (V : Int) = (V : Int) := wrap_u64 (by omega) (by omega)
  have hC : ∀ {F G : List HProp}, Has F (arr t1 0 [.int .u64 (C : Nat), .int .u32 (V : Nat), .slice a ll.length cap]) G → Rd F t1 0 (.int .u64 (C : Nat)) := fun hF => Rd.of hF (Rd.row0 rfl)
  have hV2 : ∀ {F G : List HProp}, Has F (arr t1 0 [.int .u64 (C : Nat), .int .u32 (V : Nat), .slice a ll.length cap]) G → Rd F t1 1 (.int .u32 (V : Nat)) := fun hF => Rd.of hF (Rd.row0 rfl)
  have htr : ∀ {F G : List HProp}, Has F (arr t1 0 [.int .u64 (C : Nat), .int .u32 (V : Nat), .slice a ll.length cap]) G → Rd F t1 2 (.slice a ll.length cap) := fun hF => Rd.of hF (Rd.row0 rfl)
  refine we_join (startInv () cr fr r t1 t3 C V a ll.length cap W cb) ?_ ?_
  · refine we_draw (List.range' 0 10) (by kernel_rfl) ?_
    repeat (first
      | (apply ap_pure; exact rfl; exact rfl; exact trivial; intro L; apply mo_conv; exact rfl; exact cvV)
      | (apply ap_pure; exact rfl; exact rfl; (first | exact trivial | exact rfl); intro L; apply mo_fieldAddr; exact rfl; exact rfl; (first | exact Nat.zero_add _ | exact rfl))
      | (apply ap_read; exact rfl; exact rfl; (first | exact trivial | exact rfl); apply mo_load; exact rfl; (repeat (first | exact Rd.row0 rfl | exact Rd.row rfl rfl | exact Rd.still | apply Rd.there))))
    refine ap_fork (f := 8) (ord' := [0, 1, 2, 3, 4, 8, 5, 6, 7, 9]) (by kernel_rfl) (by kernel_rfl) (by kernel_rfl) (by kernel_rfl) ?_ ?_
    · refine ap1_call rfl rfl trivial rfl rfl (.cons rfl (.cons rfl .nil)) (boxed_tr h2) ?_ ?_
      · rintro v L' x' ⟨rfl, rfl, rfl⟩ p hp
        replace hp := (List.mem_filter.1 hp).1
        simp only [List.mem_cons, List.not_mem_nil, or_false] at hp
        repeat (obtain rfl | hp := hp; (· first | exact .inl rfl | exact .inr ⟨_, rfl, trivial, mo_load rfl (hC (.there (.there (.there (.there (.there (.there .here)))))))⟩ | exact .inr ⟨_, rfl, trivial, mo_load rfl (hV2 (.there (.there (.there (.there (.there (.there .here)))))))⟩))
        all_goals (subst hp; first | exact .inl rfl | exact .inr ⟨_, rfl, trivial, mo_load rfl (hC (.there (.there (.there (.there (.there (.there .here)))))))⟩ | exact .inr ⟨_, rfl, trivial, mo_load rfl (hV2 (.there (.there (.there (.there (.there (.there .here)))))))⟩)
      rintro v L' x' ⟨rfl, rfl, rfl⟩
      refine ap_fork (f := 8) (ord' := [0, 1, 2, 3, 4, 5, 8, 6, 7, 9]) (by kernel_rfl) (by kernel_rfl) (by kernel_rfl) (by kernel_rfl) ?_ ?_
      · refine ap1_mo (Pd' := []) rfl rfl (by kernel_rfl) trivial (mo_buildSlice (sz := 1) (vs := [num C, num 0, num V]) rfl (.cons rfl (.cons rfl (.cons rfl .nil))) rfl (by intro w hw; simp only [List.mem_cons, List.not_mem_nil, or_false] at hw; rcases hw with rfl | rfl | rfl <;> rfl) (by omega)) (fun v L' _ p hp => by cases hp) ?_
        rintro v L' ⟨lb, rfl, rfl⟩
        refine ap_fork (f := 8) (ord' := [0, 1, 2, 3, 4, 5, 6, 8, 7, 9]) (by kernel_rfl) (by kernel_rfl) (by kernel_rfl) (by kernel_rfl) ?_ ?_
        · refine ap1_call (Pd' := []) rfl (by kernel_rfl) trivial rfl rfl (.cons rfl .nil) (world_tr (ws := [C, 0, V]) rfl hws .here) (fun v L' x' _ p hp => by cases hp) ?_
          rintro v L' x' ⟨wv, lv, rfl, rfl, rfl⟩
          refine ap_know (of_has .here wv_shape) ?_
          rintro ⟨⟨wa, wn, wc, rfl⟩, la, ln, lc, rfl⟩
          refine ap_loudR rfl rfl rfl rfl trivial mo_alloc ?_ ?_
          · rintro v L' ⟨t4, rfl, rfl⟩ p hp
            replace hp := (List.mem_filter.1 hp).1
            simp only [List.mem_cons, List.not_mem_nil, or_false] at hp
            repeat (obtain rfl | hp := hp; (· first | exact .inl rfl))
            all_goals (subst hp; first | exact .inl rfl)
          rintro v L' ⟨t4, rfl, rfl⟩
          refine ap_loud rfl rfl rfl rfl rfl trivial (mo_storeA (b := t4) (c := 0) (k := 0) (a := 0) (vs := [.slice none 0 0, .slice none 0 0]) rfl rfl rfl (by intro w hw; simp [Value.cells] at hw; rcases hw with rfl | rfl <;> rfl) rfl (Nat.le_refl 2) .here) ?_
          rintro v' L' ⟨rfl, rfl⟩
          repeat (first
            | refine ap_end ?_)
          refine at_midS (I := startInv () cr fr r t1 t3 C V a ll.length cap W cb) (.slice wa wn wc, .slice la ln lc, t4) trivial ⟨rfl, rfl, rfl, trivial⟩ (fun h st => ?_) rfl
          simp only [startInv, allL, ← e0]
          exact Ent.star (.take (.there (.there (.there (.there (.there (.there (.there .here))))))) (.take (.there (.there (.there (.there (.there (.there .here)))))) (.take (.there (.there (.there .here))) (.take (.there (.there (.there .here))) (.take (.there (.there (.there .here))) (.take (.there (.there (.there .here))) (.take (.there (.there .here)) .refl))))))) st
        · refine ap1_mo rfl rfl rfl trivial mo_alloc ?_ ?_
          · rintro v L' ⟨t4, rfl, rfl⟩ p hp
            replace hp := (List.mem_filter.1 hp).1
            simp only [List.mem_cons, List.not_mem_nil, or_false] at hp
            repeat (obtain rfl | hp := hp; (· first | exact .inl rfl))
            all_goals (subst hp; first | exact .inl rfl)
          rintro v L' ⟨t4, rfl, rfl⟩
          refine ap_callR (Pd' := []) rfl rfl (by kernel_rfl) trivial rfl rfl (.cons rfl .nil) (world_tr (ws := [C, 0, V]) rfl hws (.there .here)) (fun v L' x' _ p hp => by cases hp) ?_
          rintro v L' x' ⟨wv, lv, rfl, rfl, rfl⟩
          refine ap_know (of_has .here wv_shape) ?_
          rintro ⟨⟨wa, wn, wc, rfl⟩, la, ln, lc, rfl⟩
          refine ap_loud rfl rfl rfl rfl rfl trivial (mo_storeA (b := t4) (c := 0) (k := 0) (a := 0) (vs := [.slice none 0 0, .slice none 0 0]) rfl rfl rfl (by intro w hw; simp [Value.cells] at hw; rcases hw with rfl | rfl <;> rfl) rfl (Nat.le_refl 2) (.there .here)) ?_
          rintro v' L' ⟨rfl, rfl⟩
          repeat (first
            | refine ap_end ?_)
          refine at_midS (I := startInv () cr fr r t1 t3 C V a ll.length cap W cb) (.slice wa wn wc, .slice la ln lc, t4) trivial ⟨rfl, rfl, rfl, trivial⟩ (fun h st => ?_) rfl
          simp only [startInv, allL, ← e0]
          exact Ent.star (.take (.there (.there (.there (.there (.there (.there (.there .here))))))) (.take (.there (.there (.there (.there (.there (.there .here)))))) (.take (.there (.there (.there .here))) (.take (.there (.there (.there .here))) (.take (.there (.there (.there .here))) (.take (.there (.there (.there .here))) (.take (.there (.there .here)) (.take (.there .here) .refl)))))))) st
      · refine ap1_mo rfl rfl rfl trivial mo_alloc ?_ ?_
        · rintro v L' ⟨t4, rfl, rfl⟩ p hp
          replace hp := (List.mem_filter.1 hp).1
          replace hp := (List.mem_filter.1 hp).1
          simp only [List.mem_cons, List.not_mem_nil, or_false] at hp
          repeat (obtain rfl | hp := hp; (· first | exact .inl rfl | exact .inr ⟨_, rfl, trivial, mo_load rfl (hC (.there (.there (.there (.there (.there (.there (.there .here))))))))⟩ | exact .inr ⟨_, rfl, trivial, mo_load rfl (hV2 (.there (.there (.there (.there (.there (.there (.there .here))))))))⟩))
          all_goals (subst hp; first | exact .inl rfl | exact .inr ⟨_, rfl, trivial, mo_load rfl (hC (.there (.there (.there (.there (.there (.there (.there .here))))))))⟩ | exact .inr ⟨_, rfl, trivial, mo_load rfl (hV2 (.there (.there (.there (.there (.there (.there (.there .here))))))))⟩)
        rintro v L' ⟨t4, rfl, rfl⟩
        refine ap_loudR (Pd' := []) rfl rfl rfl (by kernel_rfl) trivial (mo_buildSlice (sz := 1) (vs := [num C, num 0, num V]) rfl (.cons rfl (.cons rfl (.cons rfl .nil))) rfl (by intro w hw; simp only [List.mem_cons, List.not_mem_nil, or_false] at hw; rcases hw with rfl | rfl | rfl <;> rfl) (by omega)) (fun v L' _ p hp => by cases hp) ?_
        rintro v L' ⟨lb, rfl, rfl⟩
        refine ap_callR (Pd' := []) rfl rfl (by kernel_rfl) trivial rfl rfl (.cons rfl .nil) (world_tr (ws := [C, 0, V]) rfl hws .here) (fun v L' x' _ p hp => by cases hp) ?_
        rintro v L' x' ⟨wv, lv, rfl, rfl, rfl⟩
        refine ap_know (of_has .here wv_shape) ?_
        rintro ⟨⟨wa, wn, wc, rfl⟩, la, ln, lc, rfl⟩
        refine ap_loud rfl rfl rfl rfl rfl trivial (mo_storeA (b := t4) (c := 0) (k := 0) (a := 0) (vs := [.slice none 0 0, .slice none 0 0]) rfl rfl rfl (by intro w hw; simp [Value.cells] at hw; rcases hw with rfl | rfl <;> rfl) rfl (Nat.le_refl 2) (.there .here)) ?_
        rintro v' L' ⟨rfl, rfl⟩
        repeat (first
          | refine ap_end ?_)
        refine at_midS (I := startInv () cr fr r t1 t3 C V a ll.length cap W cb) (.slice wa wn wc, .slice la ln lc, t4) trivial ⟨rfl, rfl, rfl, trivial⟩ (fun h st => ?_) rfl
        simp only [startInv, allL, ← e0]
        exact Ent.star (.take (.there (.there (.there (.there (.there (.there (.there .here))))))) (.take (.there (.there (.there (.there (.there (.there .here)))))) (.take (.there (.there (.there .here))) (.take (.there (.there (.there .here))) (.take (.there (.there (.there .here))) (.take (.there (.there (.there .here))) (.take (.there (.there .here)) (.take (.there .here) .refl)))))))) st
    · refine ap1_mo rfl rfl rfl trivial mo_alloc ?_ ?_
      · rintro v L' ⟨t4, rfl, rfl⟩ p hp
        replace hp := (List.mem_filter.1 hp).1
        simp only [List.mem_cons, List.not_mem_nil, or_false] at hp
        repeat (obtain rfl | hp := hp; (· first | exact .inl rfl | exact .inr ⟨_, rfl, trivial, mo_load rfl (hC (.there (.there (.there (.there (.there (.there (.there .here))))))))⟩ | exact .inr ⟨_, rfl, trivial, mo_load rfl (hV2 (.there (.there (.there (.there (.there (.there (.there .here))))))))⟩))
        all_goals (subst hp; first | exact .inl rfl | exact .inr ⟨_, rfl, trivial, mo_load rfl (hC (.there (.there (.there (.there (.there (.there (.there .here))))))))⟩ | exact .inr ⟨_, rfl, trivial, mo_load rfl (hV2 (.there (.there (.there (.there (.there (.there (.there .here))))))))⟩)
      rintro v L' ⟨t4, rfl, rfl⟩
      refine ap_callR rfl rfl rfl trivial rfl rfl (.cons rfl (.cons rfl .nil)) (boxed_tr h2) ?_ ?_
      · rintro v L' x' ⟨rfl, rfl, rfl⟩ p hp
        replace hp := (List.mem_filter.1 hp).1
        replace hp := (List.mem_filter.1 hp).1
        simp only [List.mem_cons, List.not_mem_nil, or_false] at hp
        repeat (obtain rfl | hp := hp; (· first | exact .inl rfl | exact .inr ⟨_, rfl, trivial, mo_load rfl (hC (.there (.there (.there (.there (.there (.there (.there .here))))))))⟩ | exact .inr ⟨_, rfl, trivial, mo_load rfl (hV2 (.there (.there (.there (.there (.there (.there (.there .here))))))))⟩))
        all_goals (subst hp; first | exact .inl rfl | exact .inr ⟨_, rfl, trivial, mo_load rfl (hC (.there (.there (.there (.there (.there (.there (.there .here))))))))⟩ | exact .inr ⟨_, rfl, trivial, mo_load rfl (hV2 (.there (.there (.there (.there (.there (.there (.there .here))))))))⟩)
      rintro v L' x' ⟨rfl, rfl, rfl⟩
      refine ap_loudR (Pd' := []) rfl rfl rfl (by kernel_rfl) trivial (mo_buildSlice (sz := 1) (vs := [num C, num 0, num V]) rfl (.cons rfl (.cons rfl (.cons rfl .nil))) rfl (by intro w hw; simp only [List.mem_cons, List.not_mem_nil, or_false] at hw; rcases hw with rfl | rfl | rfl <;> rfl) (by omega)) (fun v L' _ p hp => by cases hp) ?_
      rintro v L' ⟨lb, rfl, rfl⟩
      refine ap_callR (Pd' := []) rfl rfl (by kernel_rfl) trivial rfl rfl (.cons rfl .nil) (world_tr (ws := [C, 0, V]) rfl hws .here) (fun v L' x' _ p hp => by cases hp) ?_
      rintro v L' x' ⟨wv, lv, rfl, rfl, rfl⟩
      refine ap_know (of_has .here wv_shape) ?_
      rintro ⟨⟨wa, wn, wc, rfl⟩, la, ln, lc, rfl⟩
      refine ap_loud rfl rfl rfl rfl rfl trivial (mo_storeA (b := t4) (c := 0) (k := 0) (a := 0) (vs := [.slice none 0 0, .slice none 0 0]) rfl rfl rfl (by intro w hw; simp [Value.cells] at hw; rcases hw with rfl | rfl <;> rfl) rfl (Nat.le_refl 2) (.there .here)) ?_
      rintro v' L' ⟨rfl, rfl⟩
      repeat (first
        | refine ap_end ?_)
      refine at_midS (I := startInv () cr fr r t1 t3 C V a ll.length cap W cb) (.slice wa wn wc, .slice la ln lc, t4) trivial ⟨rfl, rfl, rfl, trivial⟩ (fun h st => ?_) rfl
      simp only [startInv, allL, ← e0]
      exact Ent.star (.take (.there (.there (.there (.there (.there (.there (.there .here))))))) (.take (.there (.there (.there (.there (.there (.there .here)))))) (.take (.there (.there (.there .here))) (.take (.there (.there (.there .here))) (.take (.there (.there (.there .here))) (.take (.there (.there (.there .here))) (.take (.there (.there .here)) (.take (.there .here) .refl)))))))) st
  · rintro ⟨wv, lv, t4⟩ _
    dsimp only [startInv]
    repeat (first
      | refine we_seq ?_
      | (refine we_region _ rfl rfl ?_; simp only [opsOf, List.map_cons, List.map_nil, Option.map_none, Option.map_some, List.getElem?_toArray, List.getElem?_cons_zero, List.getElem?_cons_succ, Option.bind_some, Option.getD_some])
      | refine wo_nil ?_
      | (apply wo_po; apply mo_assign; exact rfl; (first | exact trivial | exact rfl))
      | refine we_block ?_)
    refine we_loopN (thrInv () cr fr r t1 t3 t4 C V a ll.length cap W) (fun i => 41 - i.1) (0, ⟨C, 0, V, 0⟩, cb, wv, lv) ⟨by show 0 ≤ 40; omega, h1, by show 0 ≤ 1; omega, h2, Nat.le_refl 0⟩ ⟨rfl, rfl, rfl, rfl, trivial⟩ .refl rfl ?_
    clear e0 hws
    rintro ⟨i, st, cb, wv, lv⟩ ⟨hi, hst⟩
    dsimp only [thrInv] at hi hst ⊢
    by_cases hci : i < ll.length
    · by_cases hci2 : i < 40
      · obtain ⟨l, hlq⟩ : ∃ l, ll[i]? = some l := ⟨ll[i], by simp [hci]⟩
        obtain ⟨bb, oo, d, dc, rfl, hs0, hd⟩ := hl.at_ i l hlq
        have hsl : ∀ {F G : List HProp}, Has F (base W) G → Rd F bb (oo + i) (.slice d l.length dc) := fun hF => Rd.of hF hs0
        dsimp only [allL]
        repeat (first
          | (apply wo_po; apply mo_load; exact rfl; exact (htr (.there (.there (.there (.there (.there .here)))))); exact trivial)
          | (apply wo_po; apply mo_bin; exact rfl; exact rfl; apply bin_lssT; omega; (first | exact trivial | exact rfl))
          | refine we_seq ?_
          | (refine we_region _ rfl rfl ?_; simp only [opsOf, List.map_cons, List.map_nil, Option.map_none, Option.map_some, List.getElem?_toArray, List.getElem?_cons_zero, List.getElem?_cons_succ, Option.bind_some, Option.getD_some])
          | refine wo_nil ?_
          | (apply wo_po; apply mo_move; exact rfl; (first | exact trivial | exact rfl))
          | (apply wo_po; apply mo_assign; exact rfl; (first | exact trivial | exact rfl))
          | (apply wo_po; apply mo_pickT; exact rfl; exact rfl; exact rfl; (first | exact trivial | exact rfl))
          | (apply wo_po; apply mo_fieldAddr; exact rfl; exact rfl; (first | exact Nat.zero_add _ | exact rfl); (first | exact trivial | exact rfl))
          | (apply wo_po; apply mo_len; exact rfl; (first | exact trivial | exact rfl))
          | (apply we_condT; exact rfl; (first | exact rfl | (simp <;> omega) | omega))
          | refine we_skip ?_
          | refine we_block ?_)
        refine we_loopN (callInv () cr fr r t1 t3 t4 C V (some ⟨bb, oo, none⟩) ll.length cap W i) (fun i => 41 - i.1) (0, st, cb, wv, lv) ⟨by show 0 ≤ 40; omega, hst⟩ ⟨rfl, rfl, rfl, rfl, rfl, trivial⟩ .refl rfl ?_
        rintro ⟨j, st, cb, wv, lv⟩ ⟨hj, hst⟩
        dsimp only [callInv] at hj hst ⊢
        by_cases hcj : j < l.length
        · by_cases hcj2 : j < 40
          · obtain ⟨y, hy⟩ : ∃ y, l[j]? = some y := ⟨l[j], by simp [hcj]⟩
            obtain ⟨db, dO, rfl, r1, r2, r3, r4⟩ := hd.at_ j y hy
            obtain ⟨y1, y2, y3, y4⟩ := hd.rng y (List.mem_of_getElem? hy)
            have w1 := Int.emod_nonneg y.1 (by omega : (11 : Int) ≠ 0)
            have w2 := Int.emod_lt_of_pos y.1 (by omega : (0 : Int) < 11)
            obtain ⟨kd, hkd⟩ : ∃ kd : Nat, y.1 % 11 = kd := ⟨(y.1 % 11).toNat, by omega⟩
            have h10 : kd ≤ 10 := by omega
            have hdo0 : Rds [base W] db (dO + 4 * j) [.int .i64 y.1, .int .u64 (y.2.1 : Nat), .int .u64 (y.2.2.1 : Nat), .int .u32 (y.2.2.2 : Nat)] := by
              intro q v hq
              match q, hq with
              | 0, hq => cases hq; exact r1
              | 1, hq => cases hq; exact r2
              | 2, hq => cases hq; exact r3
              | 3, hq => cases hq; exact r4
            have hdo : ∀ {F G : List HProp}, Has F (base W) G → Rds F db (dO + 4 * j) [.int .i64 y.1, .int .u64 (y.2.1 : Nat), .int .u64 (y.2.2.1 : Nat), .int .u32 (y.2.2.2 : Nat)] := fun hF q v hq => Rd.of hF (hdo0 q v hq)
            have hcomes := Mach.cell_comes (kd := kd) y2 y3 y4 (by omega) hst
            have hok' := Mach.cellF_ok y2 y3 y4 hst (kd := kd)
            have hms := Mach.cellF_ms (kd := kd) (N := y.2.1) (mo := y.2.2.1) (V := y.2.2.2) (s := st)
            rcases hF : Mach.cellF kd y.2.1 y.2.2.1 y.2.2.2 st with ⟨st', told, ms⟩
            rw [hF] at hcomes hok' hms
            obtain ⟨hms1, hms2⟩ := hms
            dsimp only at hcomes hok' hms1 hms2
            dsimp only [allL]
            repeat (first
              | (apply wo_po; apply mo_load; exact rfl; exact (htr (.there (.there (.there (.there (.there .here)))))); exact trivial)
              | (apply wo_po; apply mo_load; exact rfl; exact (hsl (.there (.there (.there (.there (.there (.there (.there (.there (.there .here)))))))))); exact trivial)
              | (apply wo_po; apply mo_indexAddr (r := oo + i); exact rfl; exact rfl; omega; omega; omega; exact trivial)
              | (apply wo_po; apply mo_bin; exact rfl; exact rfl; apply bin_lssT; omega; (first | exact trivial | exact rfl))
              | refine we_seq ?_
              | (refine we_region _ rfl rfl ?_; simp only [opsOf, List.map_cons, List.map_nil, Option.map_none, Option.map_some, List.getElem?_toArray, List.getElem?_cons_zero, List.getElem?_cons_succ, Option.bind_some, Option.getD_some])
              | refine wo_nil ?_
              | (apply wo_po; apply mo_move; exact rfl; (first | exact trivial | exact rfl))
              | (apply wo_po; apply mo_pickT; exact rfl; exact rfl; exact rfl; (first | exact trivial | exact rfl))
              | (apply wo_po; apply mo_fieldAddr; exact rfl; exact rfl; (first | exact Nat.zero_add _ | exact rfl); (first | exact trivial | exact rfl))
              | (apply wo_po; apply mo_len; exact rfl; (first | exact trivial | exact rfl))
              | (apply we_condT; exact rfl; (first | exact rfl | (simp <;> omega) | omega))
              | refine we_skip ?_
              | refine we_block ?_)
            refine wo_call .nil trivial new_notes_tr ?_
            rintro v L' x1 ⟨nb, rfl, rfl, rfl⟩
            repeat (first
              | refine we_seq ?_
              | refine wo_nil ?_
              | (apply wo_po; apply mo_assign; exact rfl; (first | exact trivial | exact rfl)))
            refine we_draw (List.range' 0 17) (by kernel_rfl) ?_
            repeat (first
              | (apply ap_pure; exact rfl; exact rfl; exact trivial; intro L; apply mo_makeInterface; exact rfl)
              | (apply ap_pure; exact rfl; exact rfl; exact trivial; intro L; apply mo_indexAddr (r := oo + i); exact rfl; exact rfl; omega; omega; omega)
              | (apply ap_pure; exact rfl; exact rfl; exact trivial; intro L; apply mo_indexAddr (r := dO + 4 * j); exact rfl; exact rfl; omega; omega; omega)
              | (apply ap_read; exact rfl; exact rfl; exact trivial; apply mo_loadA (vs := [.pointer (some ⟨cr, 0, none⟩), .pointer (some ⟨fr, 0, none⟩), .pointer (some ⟨r, 0, none⟩)]); exact rfl; exact rfl; exact Rds.all (.there (.there (.there (.there (.there (.there (.there .here))))))))
              | (apply ap_read; exact rfl; exact rfl; exact trivial; apply mo_load; exact rfl; exact htr (.there (.there (.there (.there (.there (.there .here)))))))
              | (apply ap_read; exact rfl; exact rfl; exact trivial; apply mo_load; exact rfl; exact hsl (.there (.there (.there (.there (.there (.there (.there (.there (.there (.there .here)))))))))))
              | (apply ap_read; exact rfl; exact rfl; exact trivial; apply mo_loadA (vs := [.int .i64 y.1, .int .u64 (y.2.1 : Nat), .int .u64 (y.2.2.1 : Nat), .int .u32 (y.2.2.2 : Nat)]); exact rfl; exact rfl; exact hdo (.there (.there (.there (.there (.there (.there (.there (.there (.there (.there .here)))))))))))
              | (apply ap_pure; exact rfl; exact rfl; (first | exact trivial | exact rfl); intro L; apply mo_move; exact rfl)
              | (apply ap_pure; exact rfl; exact rfl; (first | exact trivial | exact rfl); intro L; apply mo_fieldAddr; exact rfl; exact rfl; (first | exact Nat.zero_add _ | exact rfl)))
            refine ap_callR (Pd' := []) rfl rfl (by kernel_rfl) trivial rfl rfl (.cons rfl (.cons rfl (.cons rfl .nil))) (done_n' hF y1 hkd y2 y3 y4 (by omega) hst h10) (fun v L' x' _ p hp => by cases hp) ?_
            rintro bv0 L' x2 ⟨bv, cb', rfl, rfl, rfl⟩
            repeat (first
              | (apply ap_pure; exact rfl; exact rfl; (first | exact trivial | exact rfl); intro L; apply mo_move; exact rfl)
              | (apply ap_pure; exact rfl; exact rfl; (first | exact trivial | exact rfl); intro L; apply mo_assign; exact rfl)
              | (apply ap_pure; exact rfl; exact rfl; (first | exact trivial | exact rfl); intro L; apply mo_extract; exact rfl; exact rfl)
              | refine ap_end ?_)
            repeat (first
              | refine we_seq ?_)
            refine we_join (notesMid () cr fr r t1 t3 t4 C V (some ⟨bb, oo, none⟩) ll.length cap W i j nb st' cb' bv told ms wv lv) ?_ ?_
            · refine we_draw (List.range' 0 19) (by kernel_rfl) ?_
              repeat (first
                | (apply ap_pure; exact rfl; exact rfl; exact trivial; intro L; apply mo_indexAddr (r := oo + i); exact rfl; exact rfl; omega; omega; omega)
                | (apply ap_pure; exact rfl; exact rfl; exact trivial; intro L; apply mo_indexAddr (r := dO + 4 * j); exact rfl; exact rfl; omega; omega; omega)
                | (apply ap_read; exact rfl; exact rfl; exact trivial; apply mo_loadA (vs := [wv, lv]); exact rfl; exact rfl; exact Rds.all (.there (.there (.there (.there (.there (.there (.there (.there (.there .here))))))))))
                | (apply ap_read; exact rfl; exact rfl; exact trivial; apply mo_load; exact rfl; exact htr (.there (.there (.there (.there (.there (.there (.there .here))))))))
                | (apply ap_read; exact rfl; exact rfl; exact trivial; apply mo_load; exact rfl; exact hsl (.there (.there (.there (.there (.there (.there (.there (.there (.there (.there (.there .here))))))))))))
                | (apply ap_read; exact rfl; exact rfl; exact trivial; apply mo_loadA (vs := [.int .i64 y.1, .int .u64 (y.2.1 : Nat), .int .u64 (y.2.2.1 : Nat), .int .u32 (y.2.2.2 : Nat)]); exact rfl; exact rfl; exact hdo (.there (.there (.there (.there (.there (.there (.there (.there (.there (.there (.there .here))))))))))))
                | (apply ap_pure; exact rfl; exact rfl; (first | exact trivial | exact rfl); intro L; apply mo_move; exact rfl)
                | (apply ap_pure; exact rfl; exact rfl; (first | exact trivial | exact rfl); intro L; apply mo_fieldAddr; exact rfl; exact rfl; (first | exact Nat.zero_add _ | exact rfl)))
              refine ap_fork (f := 15) (ord' := [0, 1, 2, 3, 4, 5, 6, 7, 8, 15, 9, 10, 11, 12, 13, 14, 16, 17, 18]) (by kernel_rfl) (by kernel_rfl) (by kernel_rfl) (by kernel_rfl) ?_ ?_
              · refine ap1_call rfl rfl trivial rfl rfl (.cons rfl .nil) (call_tr y1 hkd h10 y4) ?_ ?_
                · rintro v L' x' ⟨qa, qm, qc, rfl, rfl, rfl⟩ p hp
                  replace hp := (List.mem_filter.1 hp).1
                  simp only [List.mem_cons, List.not_mem_nil, or_false] at hp
                  repeat (obtain rfl | hp := hp; (· first | exact .inl rfl | exact .inr ⟨_, rfl, trivial, mo_loadA (vs := [wv, lv]) rfl rfl (Rds.all (.there (.there (.there (.there (.there (.there (.there (.there (.there (.there .here)))))))))))⟩ | exact .inr ⟨_, rfl, trivial, mo_load rfl (htr (.there (.there (.there (.there (.there (.there (.there (.there .here)))))))))⟩ | exact .inr ⟨_, rfl, trivial, mo_load rfl (hsl (.there (.there (.there (.there (.there (.there (.there (.there (.there (.there (.there (.there .here)))))))))))))⟩ | exact .inr ⟨_, rfl, trivial, mo_loadA (vs := [.int .i64 y.1, .int .u64 (y.2.1 : Nat), .int .u64 (y.2.2.1 : Nat), .int .u32 (y.2.2.2 : Nat)]) rfl rfl (hdo (.there (.there (.there (.there (.there (.there (.there (.there (.there (.there (.there (.there .here)))))))))))))⟩))
                  all_goals (subst hp; first | exact .inl rfl | exact .inr ⟨_, rfl, trivial, mo_loadA (vs := [wv, lv]) rfl rfl (Rds.all (.there (.there (.there (.there (.there (.there (.there (.there (.there (.there .here)))))))))))⟩ | exact .inr ⟨_, rfl, trivial, mo_load rfl (htr (.there (.there (.there (.there (.there (.there (.there (.there .here)))))))))⟩ | exact .inr ⟨_, rfl, trivial, mo_load rfl (hsl (.there (.there (.there (.there (.there (.there (.there (.there (.there (.there (.there (.there .here)))))))))))))⟩ | exact .inr ⟨_, rfl, trivial, mo_loadA (vs := [.int .i64 y.1, .int .u64 (y.2.1 : Nat), .int .u64 (y.2.2.1 : Nat), .int .u32 (y.2.2.2 : Nat)]) rfl rfl (hdo (.there (.there (.there (.there (.there (.there (.there (.there (.there (.there (.there (.there .here)))))))))))))⟩)
                rintro v L' x' ⟨qa, qm, qc, rfl, rfl, rfl⟩
                refine ap_fork (f := 15) (ord' := [0, 1, 2, 3, 4, 5, 6, 7, 8, 9, 15, 10, 11, 12, 13, 14, 16, 17, 18]) (by kernel_rfl) (by kernel_rfl) (by kernel_rfl) (by kernel_rfl) ?_ ?_
                · refine ap1_call (Pd' := []) rfl (by kernel_rfl) trivial rfl rfl (.cons rfl (.cons rfl .nil)) (alone_comes hcomes (Mach.cellCl_ok y2 y3 y4) (by omega) (.there (.there (.there (.there (.there (.there (.there (.there (.there (.there (.there .here))))))))))) .here) (fun v L' x' _ p hp => by cases hp) ?_
                  rintro v L' x' ⟨tv, wv', lv', mv, rfl, rfl, rfl⟩
                  repeat (first
                    | (apply ap_pure; exact rfl; exact rfl; (first | exact trivial | exact rfl); intro L; apply mo_move; exact rfl)
                    | (apply ap_pure; exact rfl; exact rfl; (first | exact trivial | exact rfl); intro L; apply mo_extract; exact rfl; exact rfl))
                  refine ap_know (of_has (.there .here) wv_shape) ?_
                  rintro ⟨⟨wa', wn', wc', rfl⟩, la', ln', lc', rfl⟩
                  refine ap_loudR rfl rfl rfl rfl trivial mo_alloc ?_ ?_
                  · rintro v L' ⟨nb2, rfl, rfl⟩ p hp
                    replace hp := (List.mem_filter.1 hp).1
                    simp only [List.mem_cons, List.not_mem_nil, or_false] at hp
                    repeat (obtain rfl | hp := hp; (· first | exact .inl rfl))
                    all_goals (subst hp; first | exact .inl rfl)
                  rintro v L' ⟨nb2, rfl, rfl⟩
                  repeat (first
                    | (apply ap_pure; exact rfl; exact rfl; (first | exact trivial | exact rfl); intro L; apply mo_assign; exact rfl))
                  refine ap_loud rfl rfl rfl rfl rfl trivial (mo_storeA (b := nb2) (c := 0) (k := 0) (a := 0) (vs := [.slice none 0 0, .slice none 0 0]) rfl rfl rfl (by intro w hw; simp [Value.cells] at hw; rcases hw with rfl | rfl <;> rfl) rfl (Nat.le_refl 2) .here) ?_
                  rintro v' L' ⟨rfl, rfl⟩
                  repeat (first
                    | (apply ap_pure; exact rfl; exact rfl; (first | exact trivial | exact rfl); intro L; apply mo_assign; exact rfl)
                    | refine ap_end ?_)
                  refine at_midS (I := notesMid () cr fr r t1 t3 t4 C V (some ⟨bb, oo, none⟩) ll.length cap W i j nb st' cb' bv told ms wv lv) (tv, mv, .slice wa' wn' wc', .slice la' ln' lc', nb2) trivial ⟨rfl, rfl, rfl, rfl, rfl, rfl, rfl, rfl, rfl, rfl, rfl, trivial⟩ (fun h st => ?_) rfl
                  dsimp only [notesMid]
                  exact Ent.star (.take (.there .here) (.take (.there (.there .here)) (.take .here (.take .here (.take (.there .here) (.take (.there .here) (.take (.there .here) (.take (.there .here) (.take (.there .here) (.take (.there .here) (.take (.there .here) (.take (.there .here) (.take (.there .here) (.take (.there .here) (.drop .refl))))))))))))))) st
                · refine ap1_mo rfl rfl rfl trivial mo_alloc ?_ ?_
                  · rintro v L' ⟨nb2, rfl, rfl⟩ p hp
                    replace hp := (List.mem_filter.1 hp).1
                    replace hp := (List.mem_filter.1 hp).1
                    simp only [List.mem_cons, List.not_mem_nil, or_false] at hp
                    repeat (obtain rfl | hp := hp; (· first | exact .inl rfl | exact .inr ⟨_, rfl, trivial, mo_loadA (vs := [wv, lv]) rfl rfl (Rds.all (.there (.there (.there (.there (.there (.there (.there (.there (.there (.there (.there .here))))))))))))⟩ | exact .inr ⟨_, rfl, trivial, mo_load rfl (htr (.there (.there (.there (.there (.there (.there (.there (.there (.there .here))))))))))⟩ | exact .inr ⟨_, rfl, trivial, mo_load rfl (hsl (.there (.there (.there (.there (.there (.there (.there (.there (.there (.there (.there (.there (.there .here))))))))))))))⟩ | exact .inr ⟨_, rfl, trivial, mo_loadA (vs := [.int .i64 y.1, .int .u64 (y.2.1 : Nat), .int .u64 (y.2.2.1 : Nat), .int .u32 (y.2.2.2 : Nat)]) rfl rfl (hdo (.there (.there (.there (.there (.there (.there (.there (.there (.there (.there (.there (.there (.there .here))))))))))))))⟩))
                    all_goals (subst hp; first | exact .inl rfl | exact .inr ⟨_, rfl, trivial, mo_loadA (vs := [wv, lv]) rfl rfl (Rds.all (.there (.there (.there (.there (.there (.there (.there (.there (.there (.there (.there .here))))))))))))⟩ | exact .inr ⟨_, rfl, trivial, mo_load rfl (htr (.there (.there (.there (.there (.there (.there (.there (.there (.there .here))))))))))⟩ | exact .inr ⟨_, rfl, trivial, mo_load rfl (hsl (.there (.there (.there (.there (.there (.there (.there (.there (.there (.there (.there (.there (.there .here))))))))))))))⟩ | exact .inr ⟨_, rfl, trivial, mo_loadA (vs := [.int .i64 y.1, .int .u64 (y.2.1 : Nat), .int .u64 (y.2.2.1 : Nat), .int .u32 (y.2.2.2 : Nat)]) rfl rfl (hdo (.there (.there (.there (.there (.there (.there (.there (.there (.there (.there (.there (.there (.there .here))))))))))))))⟩)
                  rintro v L' ⟨nb2, rfl, rfl⟩
                  refine ap_callR (Pd' := []) rfl rfl (by kernel_rfl) trivial rfl rfl (.cons rfl (.cons rfl .nil)) (alone_comes hcomes (Mach.cellCl_ok y2 y3 y4) (by omega) (.there (.there (.there (.there (.there (.there (.there (.there (.there (.there (.there (.there .here)))))))))))) (.there .here)) (fun v L' x' _ p hp => by cases hp) ?_
                  rintro v L' x' ⟨tv, wv', lv', mv, rfl, rfl, rfl⟩
                  refine ap_star (L' := _) (fun h st => Ent.star (.take (.there (.there (.there (.there .here)))) (.take .here (.take .here (.take .here (.take .here .refl))))) st) (fun p hp => by cases hp) ?_
                  repeat (first
                    | (apply ap_pure; exact rfl; exact rfl; (first | exact trivial | exact rfl); intro L; apply mo_move; exact rfl)
                    | (apply ap_pure; exact rfl; exact rfl; (first | exact trivial | exact rfl); intro L; apply mo_assign; exact rfl)
                    | (apply ap_pure; exact rfl; exact rfl; (first | exact trivial | exact rfl); intro L; apply mo_extract; exact rfl; exact rfl))
                  refine ap_know (of_has (.there (.there .here)) wv_shape) ?_
                  rintro ⟨⟨wa', wn', wc', rfl⟩, la', ln', lc', rfl⟩
                  skip
                  refine ap_loud rfl rfl rfl rfl rfl trivial (mo_storeA (b := nb2) (c := 0) (k := 0) (a := 0) (vs := [.slice none 0 0, .slice none 0 0]) rfl rfl rfl (by intro w hw; simp [Value.cells] at hw; rcases hw with rfl | rfl <;> rfl) rfl (Nat.le_refl 2) .here) ?_
                  rintro v' L' ⟨rfl, rfl⟩
                  repeat (first
                    | (apply ap_pure; exact rfl; exact rfl; (first | exact trivial | exact rfl); intro L; apply mo_assign; exact rfl)
                    | refine ap_end ?_)
                  refine at_midS (I := notesMid () cr fr r t1 t3 t4 C V (some ⟨bb, oo, none⟩) ll.length cap W i j nb st' cb' bv told ms wv lv) (tv, mv, .slice wa' wn' wc', .slice la' ln' lc', nb2) trivial ⟨rfl, rfl, rfl, rfl, rfl, rfl, rfl, rfl, rfl, rfl, rfl, trivial⟩ (fun h st => ?_) rfl
                  dsimp only [notesMid]
                  exact Ent.star (.take (.there .here) (.take (.there (.there .here)) (.take .here (.take .here (.take (.there .here) (.take (.there .here) (.take (.there .here) (.take (.there .here) (.take (.there .here) (.take (.there .here) (.take (.there .here) (.take (.there .here) (.take (.there .here) (.take (.there .here) (.drop .refl))))))))))))))) st
              · refine ap1_mo rfl rfl rfl trivial mo_alloc ?_ ?_
                · rintro v L' ⟨nb2, rfl, rfl⟩ p hp
                  replace hp := (List.mem_filter.1 hp).1
                  simp only [List.mem_cons, List.not_mem_nil, or_false] at hp
                  repeat (obtain rfl | hp := hp; (· first | exact .inl rfl | exact .inr ⟨_, rfl, trivial, mo_loadA (vs := [wv, lv]) rfl rfl (Rds.all (.there (.there (.there (.there (.there (.there (.there (.there (.there (.there .here)))))))))))⟩ | exact .inr ⟨_, rfl, trivial, mo_load rfl (htr (.there (.there (.there (.there (.there (.there (.there (.there .here)))))))))⟩ | exact .inr ⟨_, rfl, trivial, mo_load rfl (hsl (.there (.there (.there (.there (.there (.there (.there (.there (.there (.there (.there (.there .here)))))))))))))⟩ | exact .inr ⟨_, rfl, trivial, mo_loadA (vs := [.int .i64 y.1, .int .u64 (y.2.1 : Nat), .int .u64 (y.2.2.1 : Nat), .int .u32 (y.2.2.2 : Nat)]) rfl rfl (hdo (.there (.there (.there (.there (.there (.there (.there (.there (.there (.there (.there (.there .here)))))))))))))⟩))
                  all_goals (subst hp; first | exact .inl rfl | exact .inr ⟨_, rfl, trivial, mo_loadA (vs := [wv, lv]) rfl rfl (Rds.all (.there (.there (.there (.there (.there (.there (.there (.there (.there (.there .here)))))))))))⟩ | exact .inr ⟨_, rfl, trivial, mo_load rfl (htr (.there (.there (.there (.there (.there (.there (.there (.there .here)))))))))⟩ | exact .inr ⟨_, rfl, trivial, mo_load rfl (hsl (.there (.there (.there (.there (.there (.there (.there (.there (.there (.there (.there (.there .here)))))))))))))⟩ | exact .inr ⟨_, rfl, trivial, mo_loadA (vs := [.int .i64 y.1, .int .u64 (y.2.1 : Nat), .int .u64 (y.2.2.1 : Nat), .int .u32 (y.2.2.2 : Nat)]) rfl rfl (hdo (.there (.there (.there (.there (.there (.there (.there (.there (.there (.there (.there (.there .here)))))))))))))⟩)
                rintro v L' ⟨nb2, rfl, rfl⟩
                refine ap_callR rfl rfl rfl trivial rfl rfl (.cons rfl .nil) (call_tr y1 hkd h10 y4) ?_ ?_
                · rintro v L' x' ⟨qa, qm, qc, rfl, rfl, rfl⟩ p hp
                  replace hp := (List.mem_filter.1 hp).1
                  replace hp := (List.mem_filter.1 hp).1
                  simp only [List.mem_cons, List.not_mem_nil, or_false] at hp
                  repeat (obtain rfl | hp := hp; (· first | exact .inl rfl | exact .inr ⟨_, rfl, trivial, mo_loadA (vs := [wv, lv]) rfl rfl (Rds.all (.there (.there (.there (.there (.there (.there (.there (.there (.there (.there (.there .here))))))))))))⟩ | exact .inr ⟨_, rfl, trivial, mo_load rfl (htr (.there (.there (.there (.there (.there (.there (.there (.there (.there .here))))))))))⟩ | exact .inr ⟨_, rfl, trivial, mo_load rfl (hsl (.there (.there (.there (.there (.there (.there (.there (.there (.there (.there (.there (.there (.there .here))))))))))))))⟩ | exact .inr ⟨_, rfl, trivial, mo_loadA (vs := [.int .i64 y.1, .int .u64 (y.2.1 : Nat), .int .u64 (y.2.2.1 : Nat), .int .u32 (y.2.2.2 : Nat)]) rfl rfl (hdo (.there (.there (.there (.there (.there (.there (.there (.there (.there (.there (.there (.there (.there .here))))))))))))))⟩))
                  all_goals (subst hp; first | exact .inl rfl | exact .inr ⟨_, rfl, trivial, mo_loadA (vs := [wv, lv]) rfl rfl (Rds.all (.there (.there (.there (.there (.there (.there (.there (.there (.there (.there (.there .here))))))))))))⟩ | exact .inr ⟨_, rfl, trivial, mo_load rfl (htr (.there (.there (.there (.there (.there (.there (.there (.there (.there .here))))))))))⟩ | exact .inr ⟨_, rfl, trivial, mo_load rfl (hsl (.there (.there (.there (.there (.there (.there (.there (.there (.there (.there (.there (.there (.there .here))))))))))))))⟩ | exact .inr ⟨_, rfl, trivial, mo_loadA (vs := [.int .i64 y.1, .int .u64 (y.2.1 : Nat), .int .u64 (y.2.2.1 : Nat), .int .u32 (y.2.2.2 : Nat)]) rfl rfl (hdo (.there (.there (.there (.there (.there (.there (.there (.there (.there (.there (.there (.there (.there .here))))))))))))))⟩)
                rintro v L' x' ⟨qa, qm, qc, rfl, rfl, rfl⟩
                refine ap_callR (Pd' := []) rfl rfl (by kernel_rfl) trivial rfl rfl (.cons rfl (.cons rfl .nil)) (alone_comes hcomes (Mach.cellCl_ok y2 y3 y4) (by omega) (.there (.there (.there (.there (.there (.there (.there (.there (.there (.there (.there (.there .here)))))))))))) .here) (fun v L' x' _ p hp => by cases hp) ?_
                rintro v L' x' ⟨tv, wv', lv', mv, rfl, rfl, rfl⟩
                refine ap_star (L' := _) (fun h st => Ent.star (.take (.there (.there (.there (.there .here)))) (.take .here (.take .here (.take .here (.take .here .refl))))) st) (fun p hp => by cases hp) ?_
                repeat (first
                  | (apply ap_pure; exact rfl; exact rfl; (first | exact trivial | exact rfl); intro L; apply mo_move; exact rfl)
                  | (apply ap_pure; exact rfl; exact rfl; (first | exact trivial | exact rfl); intro L; apply mo_assign; exact rfl)
                  | (apply ap_pure; exact rfl; exact rfl; (first | exact trivial | exact rfl); intro L; apply mo_extract; exact rfl; exact rfl))
                refine ap_know (of_has (.there (.there .here)) wv_shape) ?_
                rintro ⟨⟨wa', wn', wc', rfl⟩, la', ln', lc', rfl⟩
                skip
                refine ap_loud rfl rfl rfl rfl rfl trivial (mo_storeA (b := nb2) (c := 0) (k := 0) (a := 0) (vs := [.slice none 0 0, .slice none 0 0]) rfl rfl rfl (by intro w hw; simp [Value.cells] at hw; rcases hw with rfl | rfl <;> rfl) rfl (Nat.le_refl 2) .here) ?_
                rintro v' L' ⟨rfl, rfl⟩
                repeat (first
                  | (apply ap_pure; exact rfl; exact rfl; (first | exact trivial | exact rfl); intro L; apply mo_assign; exact rfl)
                  | refine ap_end ?_)
                refine at_midS (I := notesMid () cr fr r t1 t3 t4 C V (some ⟨bb, oo, none⟩) ll.length cap W i j nb st' cb' bv told ms wv lv) (tv, mv, .slice wa' wn' wc', .slice la' ln' lc', nb2) trivial ⟨rfl, rfl, rfl, rfl, rfl, rfl, rfl, rfl, rfl, rfl, rfl, trivial⟩ (fun h st => ?_) rfl
                dsimp only [notesMid]
                exact Ent.star (.take (.there .here) (.take (.there (.there .here)) (.take .here (.take .here (.take (.there .here) (.take (.there .here) (.take (.there .here) (.take (.there .here) (.take (.there .here) (.take (.there .here) (.take (.there .here) (.take (.there .here) (.take (.there .here) (.take (.there .here) (.drop .refl))))))))))))))) st
            · rintro ⟨tv, mv, wv', lv', nb2⟩ _
              dsimp only [notesMid]
              refine we_pure (of_has .here (vec_shape (by omega))) ?_
              rintro ⟨ta, tn, tc, rfl, htn, _, hta, hta2⟩
              refine we_pure (of_has (.there .here) (vec_shape (by omega))) ?_
              rintro ⟨ma, mn, mc, rfl, hmn, _, hma, hma2⟩
              refine we_pure (of_has (.there (.there (.there (.there .here)))) (vec_shape (by omega))) ?_
              rintro ⟨ba, bn, bc, rfl, hbn, _, hba, hba2⟩
              refine we_pure (of_has (.there (.there (.there .here))) wv_shape) ?_
              rintro ⟨⟨wa', wn', wc', rfl⟩, la', ln', lc', rfl⟩
              have htn' : tn = told.length := by simp at htn; omega
              have hbn' : bn = told.length := by simp at hbn; omega
              have hmn' : mn = (ms.map mkI).length := by rw [flat_len (k := 2) (fun _ => rfl)] at hmn; simp; omega
              repeat (first
                | (apply wo_po; apply mo_bin; exact rfl; exact rfl; apply bin_neqF; omega; (first | exact trivial | exact rfl))
                | refine we_seq ?_
                | (refine we_region _ rfl rfl ?_; simp only [opsOf, List.map_cons, List.map_nil, Option.map_none, Option.map_some, List.getElem?_toArray, List.getElem?_cons_zero, List.getElem?_cons_succ, Option.bind_some, Option.getD_some])
                | (apply wo_po; apply mo_move; exact rfl; (first | exact trivial | exact rfl)))
              refine wo_call (.cons rfl (.cons rfl .nil)) rfl (same_words_tr (l := told) (l' := told) hbn' htn' (by omega) (RdV.vec (.there (.there (.there (.there .here)))) hba2 (fun h => List.length_eq_zero_iff.1 (by rw [← hbn']; exact hba h))) (RdV.vec .here hta2 (fun h => List.length_eq_zero_iff.1 (by rw [← htn']; exact hta h)))) ?_
              rintro v L' x' ⟨rfl, rfl, rfl⟩
              rw [decide_eq_true (rfl : told = told)]
              repeat (first
                | (apply wo_po; apply mo_move; exact rfl; (first | exact trivial | exact rfl))
                | (apply wo_po; apply mo_pickF; exact rfl; exact rfl; exact rfl; (first | exact trivial | exact rfl))
                | (apply wo_po; apply mo_not; exact rfl; (first | exact trivial | exact rfl)))
              refine wo_call (.cons rfl .nil) rfl (marks_tr (by simp; omega) (.there (.there (.there (.there (.there .here)))))) ?_
              rintro v L' x' ⟨rfl, rfl⟩
              refine wo_pure (of_has .here (vec_shape (by omega))) ?_
              rintro ⟨na, nn, nc, rfl, hnn, _, hna, hna2⟩
              have hnn' : nn = (ms.map mkI).length := by rw [flat2] at hnn; omega
              repeat (first
                | (apply wo_po; apply mo_move; exact rfl; (first | exact trivial | exact rfl)))
              refine wo_call (.cons rfl (.cons rfl .nil)) rfl (same_marks_tr (l := ms.map mkI) (l' := ms.map mkI) hnn' hmn' (by simp at hnn'; omega) (RdM.vec .here hna2 (fun h => List.length_eq_zero_iff.1 (by rw [← hnn']; exact hna h))) (RdM.vec (n := mn) (c := mc) (by rw [← marks_flat]; exact (.there (.there (.there .here)))) hma2 (fun h => List.length_eq_zero_iff.1 (by rw [← hmn']; exact hma h)))) ?_
              rintro v L' x' ⟨rfl, rfl, rfl⟩
              rw [decide_eq_true (rfl : ms.map mkI = ms.map mkI)]
              repeat (first
                | (apply wo_po; apply mo_loadA (vs := [.slice wa' wn' wc', .slice la' ln' lc']); exact rfl; exact rfl; exact Rds.all (.there (.there (.there (.there .here)))); exact trivial)
                | (apply wo_pm; apply mo_storeA (b := t4) (c := 0) (k := 0) (a := 0) (vs := [wv, lv]); exact rfl; exact rfl; exact rfl; (intro w hw; simp [Value.cells] at hw; rcases hw with rfl | rfl <;> rfl); exact rfl; exact Nat.le_refl 2; exact (.there (.there (.there (.there (.there (.there (.there (.there (.there (.there (.there (.there (.there (.there .here)))))))))))))); exact trivial)
                | (refine we_region _ rfl rfl ?_; simp only [opsOf, List.map_cons, List.map_nil, Option.map_none, Option.map_some, List.getElem?_toArray, List.getElem?_cons_zero, List.getElem?_cons_succ, Option.bind_some, Option.getD_some])
                | refine wo_nil ?_
                | (apply wo_po; apply mo_move; exact rfl; (first | exact trivial | exact rfl))
                | (apply wo_po; apply mo_assign; exact rfl; (first | exact trivial | exact rfl))
                | (apply wo_po; apply mo_pickF; exact rfl; exact rfl; exact rfl; (first | exact trivial | exact rfl))
                | (apply wo_po; apply mo_not; exact rfl; (first | exact trivial | exact rfl))
                | (apply wo_po; apply mo_bin; exact rfl; exact rfl; apply bin_add; exact wrap_i64 (by omega) (by omega); (first | exact trivial | exact rfl))
                | (apply we_condF; exact rfl; (first | exact rfl | (simp <;> omega) | omega))
                | refine we_skip ?_)
              refine at_roundS (I := callInv _ cr fr r t1 t3 t4 C V (some ⟨bb, oo, none⟩) ll.length cap W i) (R := fun i' => 41 - i'.1 < 41 - j) (j + 1, st', cb', .slice wa' wn' wc', .slice la' ln' lc') (by show 41 - (j + 1) < 41 - j; omega) ⟨by show j + 1 ≤ 40; omega, hok'⟩ ⟨rfl, rfl, rfl, rfl, rfl, trivial⟩ (fun h st => ?_) rfl
              exact Ent.star (.take (.there (.there (.there (.there (.there (.there (.there .here))))))) (.take (.there (.there (.there (.there (.there (.there (.there .here))))))) (.take (.there (.there (.there (.there (.there (.there (.there .here))))))) (.take (.there (.there (.there (.there (.there (.there (.there .here))))))) (.take (.there (.there (.there (.there (.there (.there (.there .here))))))) (.take (.there (.there (.there (.there (.there (.there (.there .here))))))) (.take (.there (.there (.there (.there (.there (.there (.there .here))))))) (.take (.there (.there (.there (.there (.there (.there (.there .here))))))) (.take (.there (.there (.there (.there (.there .here))))) (.drop (.drop (.drop (.drop (.drop (.drop .refl))))))))))))))) st
          · dsimp only [allL]
            repeat (first
              | (apply wo_po; apply mo_load; exact rfl; exact (htr (.there (.there (.there (.there (.there .here)))))); exact trivial)
              | (apply wo_po; apply mo_load; exact rfl; exact (hsl (.there (.there (.there (.there (.there (.there (.there (.there (.there .here)))))))))); exact trivial)
              | (apply wo_po; apply mo_indexAddr (r := oo + i); exact rfl; exact rfl; omega; omega; omega; exact trivial)
              | (apply wo_po; apply mo_bin; exact rfl; exact rfl; apply bin_lssT; omega; (first | exact trivial | exact rfl))
              | (apply wo_po; apply mo_bin; exact rfl; exact rfl; apply bin_lssF; omega; (first | exact trivial | exact rfl))
              | refine we_seq ?_
              | (refine we_region _ rfl rfl ?_; simp only [opsOf, List.map_cons, List.map_nil, Option.map_none, Option.map_some, List.getElem?_toArray, List.getElem?_cons_zero, List.getElem?_cons_succ, Option.bind_some, Option.getD_some])
              | refine wo_nil ?_
              | (apply wo_po; apply mo_move; exact rfl; (first | exact trivial | exact rfl))
              | (apply wo_po; apply mo_assign; exact rfl; (first | exact trivial | exact rfl))
              | (apply wo_po; apply mo_pickT; exact rfl; exact rfl; exact rfl; (first | exact trivial | exact rfl))
              | (apply wo_po; apply mo_fieldAddr; exact rfl; exact rfl; (first | exact Nat.zero_add _ | exact rfl); (first | exact trivial | exact rfl))
              | (apply wo_po; apply mo_bin; exact rfl; exact rfl; apply bin_add; exact wrap_i64 (by omega) (by omega); (first | exact trivial | exact rfl))
              | (apply wo_po; apply mo_len; exact rfl; (first | exact trivial | exact rfl))
              | (apply we_condF; exact rfl; (first | exact rfl | (simp <;> omega) | omega))
              | refine we_exit ?_)
            refine at_roundS (I := thrInv _ cr fr r t1 t3 t4 C V (some ⟨bb, oo, none⟩) ll.length cap W) (R := fun i' => 41 - i'.1 < 41 - i) (i + 1, st, cb, wv, lv) (by show 41 - (i + 1) < 41 - i; omega) ⟨by show i + 1 ≤ 40; omega, COk_mono hst (by omega)⟩ ⟨rfl, rfl, rfl, rfl, trivial⟩ (fun h st => st) rfl
        · dsimp only [allL]
          repeat (first
            | (apply wo_po; apply mo_load; exact rfl; exact (htr (.there (.there (.there (.there (.there .here)))))); exact trivial)
            | (apply wo_po; apply mo_load; exact rfl; exact (hsl (.there (.there (.there (.there (.there (.there (.there (.there (.there .here)))))))))); exact trivial)
            | (apply wo_po; apply mo_indexAddr (r := oo + i); exact rfl; exact rfl; omega; omega; omega; exact trivial)
            | (apply wo_po; apply mo_bin; exact rfl; exact rfl; apply bin_lssF; omega; (first | exact trivial | exact rfl))
            | refine we_seq ?_
            | (refine we_region _ rfl rfl ?_; simp only [opsOf, List.map_cons, List.map_nil, Option.map_none, Option.map_some, List.getElem?_toArray, List.getElem?_cons_zero, List.getElem?_cons_succ, Option.bind_some, Option.getD_some])
            | refine wo_nil ?_
            | (apply wo_po; apply mo_move; exact rfl; (first | exact trivial | exact rfl))
            | (apply wo_po; apply mo_assign; exact rfl; (first | exact trivial | exact rfl))
            | (apply wo_no; exact rfl)
            | (apply wo_po; apply mo_pickF; exact rfl; exact rfl; exact rfl; (first | exact trivial | exact rfl))
            | (apply wo_po; apply mo_fieldAddr; exact rfl; exact rfl; (first | exact Nat.zero_add _ | exact rfl); (first | exact trivial | exact rfl))
            | (apply wo_po; apply mo_bin; exact rfl; exact rfl; apply bin_add; exact wrap_i64 (by omega) (by omega); (first | exact trivial | exact rfl))
            | (apply wo_po; apply mo_len; exact rfl; (first | exact trivial | exact rfl))
            | (apply we_condF; exact rfl; (first | exact rfl | (simp <;> omega) | omega))
            | refine we_exit ?_)
          refine at_roundS (I := thrInv _ cr fr r t1 t3 t4 C V (some ⟨bb, oo, none⟩) ll.length cap W) (R := fun i' => 41 - i'.1 < 41 - i) (i + 1, st, cb, wv, lv) (by show 41 - (i + 1) < 41 - i; omega) ⟨by show i + 1 ≤ 40; omega, COk_mono hst (by omega)⟩ ⟨rfl, rfl, rfl, rfl, trivial⟩ (fun h st => st) rfl
      · dsimp only [allL]
        repeat (first
          | (apply wo_po; apply mo_load; exact rfl; exact (htr (.there (.there (.there (.there (.there .here)))))); exact trivial)
          | (apply wo_po; apply mo_bin; exact rfl; exact rfl; apply bin_lssT; omega; (first | exact trivial | exact rfl))
          | (apply wo_po; apply mo_bin; exact rfl; exact rfl; apply bin_lssF; omega; (first | exact trivial | exact rfl))
          | refine we_seq ?_
          | (refine we_region _ rfl rfl ?_; simp only [opsOf, List.map_cons, List.map_nil, Option.map_none, Option.map_some, List.getElem?_toArray, List.getElem?_cons_zero, List.getElem?_cons_succ, Option.bind_some, Option.getD_some])
          | refine wo_nil ?_
          | (apply wo_po; apply mo_move; exact rfl; (first | exact trivial | exact rfl))
          | (apply wo_po; apply mo_pickT; exact rfl; exact rfl; exact rfl; (first | exact trivial | exact rfl))
          | (apply wo_po; apply mo_fieldAddr; exact rfl; exact rfl; (first | exact Nat.zero_add _ | exact rfl); (first | exact trivial | exact rfl))
          | (apply wo_po; apply mo_len; exact rfl; (first | exact trivial | exact rfl))
          | (apply we_condF; exact rfl; (first | exact rfl | (simp <;> omega) | omega))
          | refine we_exit ?_)
        refine wo_call .nil trivial works_tr ?_
        rintro v L' x' ⟨rfl, rfl, rfl⟩
        repeat (first
          | refine wo_nil ?_
          | (apply wo_po; apply mo_assign; exact rfl; (first | exact trivial | exact rfl))
          | refine we_ret ?_)
        (first | refine at_ret1 (ex := .ret) Try.func3 Try.results3 hQ (.inl rfl) rfl ?_ | refine at_ret1 (ex := .normal) Try.func3 Try.results3 hQ (.inr rfl) rfl ?_)
        rfl
    · dsimp only [allL]
      repeat (first
        | (apply wo_po; apply mo_load; exact rfl; exact (htr (.there (.there (.there (.there (.there .here)))))); exact trivial)
        | (apply wo_po; apply mo_bin; exact rfl; exact rfl; apply bin_lssF; omega; (first | exact trivial | exact rfl))
        | refine we_seq ?_
        | (refine we_region _ rfl rfl ?_; simp only [opsOf, List.map_cons, List.map_nil, Option.map_none, Option.map_some, List.getElem?_toArray, List.getElem?_cons_zero, List.getElem?_cons_succ, Option.bind_some, Option.getD_some])
        | refine wo_nil ?_
        | (apply wo_po; apply mo_move; exact rfl; (first | exact trivial | exact rfl))
        | (apply wo_no; exact rfl)
        | (apply wo_po; apply mo_pickF; exact rfl; exact rfl; exact rfl; (first | exact trivial | exact rfl))
        | (apply wo_po; apply mo_fieldAddr; exact rfl; exact rfl; (first | exact Nat.zero_add _ | exact rfl); (first | exact trivial | exact rfl))
        | (apply wo_po; apply mo_len; exact rfl; (first | exact trivial | exact rfl))
        | (apply we_condF; exact rfl; (first | exact rfl | (simp <;> omega) | omega))
        | refine we_exit ?_)
      refine wo_call .nil trivial works_tr ?_
      rintro v L' x' ⟨rfl, rfl, rfl⟩
      repeat (first
        | refine wo_nil ?_
        | (apply wo_po; apply mo_assign; exact rfl; (first | exact trivial | exact rfl))
        | refine we_ret ?_)
      (first | refine at_ret1 (ex := .ret) Try.func3 Try.results3 hQ (.inl rfl) rfl ?_ | refine at_ret1 (ex := .normal) Try.func3 Try.results3 hQ (.inr rfl) rfl ?_)
      rfl
end Go.Proofs.Ytkgnkloonamheaa
