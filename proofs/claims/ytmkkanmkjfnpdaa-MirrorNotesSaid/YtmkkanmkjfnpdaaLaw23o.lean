/-
  patchbaylaw23: MirrorNotes' walk.
-/
import Derived.Test.YtmkkanmkjfnpdaaLaw23n
import Derived.Test.YtmkkanmkjfnpdaaFp
set_option linter.unusedVariables false
set_option linter.unusedSimpArgs false
namespace Go.Proofs.Ytmkkanmkjfnpdaa
open Go Go.PB
attribute [local irreducible] Mo Bin Eql Tr Wo Ap Wle

/-- what a row of Do holds, in memory that is only read -/
structure DoAt (L : List HProp) (a : Option Addr) (l : List (Int × Nat)) : Prop where
  rng : ∀ y ∈ l, (-9223372036854775808 ≤ y.1 ∧ y.1 ≤ 9223372036854775807) ∧ y.2 < 18446744073709551616
  at_ : ∀ i y, l[i]? = some y → ∃ b o, a = some ⟨b, o, none⟩ ∧ Rd L b (o + 2 * i) (.int .i64 y.1) ∧ Rd L b (o + 2 * i + 1) (.int .u64 y.2)

/-- ahead of a round -/
def notesInv (x : solo0.X) (mr r b n nc t7 : Nat) (a : Option Addr) (l : List (Int × Nat)) (cap : Nat) (W : World) : Inv (Nat × (Nat → Nat) × Value × Value) solo0.X where
  e := fun i => [(0, .int .i64 (n : Nat)), (1, .slice a l.length cap), (5, .pointer (some ⟨mr, 0, none⟩)), (7, .pointer (some ⟨t7, 0, none⟩)), (8, .int .i64 (i.1 : Nat))]
  L := fun i => [wds (maddr mr r b n) (2 * n + 5) (mK mr r b n nc) i.2.1, newsC nc, arr t7 0 [i.2.2.1, i.2.2.2], wvC i.2.2.1 i.2.2.2 (mirW n i.2.1), base W]
  x := fun _ => x
  ok := fun i => i.1 ≤ 40 ∧ ∃ row, RowAt n i.2.1 row

/-- behind the machine's call -/
def notesMid (x : solo0.X) (mr r b n nc t7 nb i : Nat) (a : Option Addr) (l : List (Int × Nat)) (cap : Nat) (W : World) (f' : Nat → Nat) (bv : Value) (told : List Nat) (ms : List (Nat × Nat)) (wv lv : Value) : Inv (Value × Value × Value × Value × Nat) solo0.X where
  e := fun y => [(0, .int .i64 (n : Nat)), (1, .slice a l.length cap), (5, .pointer (some ⟨mr, 0, none⟩)), (7, .pointer (some ⟨t7, 0, none⟩)), (8, .int .i64 (i : Nat)), (9, .pointer (some ⟨nb, 0, none⟩)), (10, bv), (11, .int .i64 0), (12, y.1), (13, .pointer (some ⟨y.2.2.2.2, 0, none⟩)), (14, y.2.1)]
  L := fun y => [vec 1 y.1 (told.map Go.PB.num), vec 2 y.2.1 (ms.map mkC).flatten, arr y.2.2.2.2 0 [y.2.2.1, y.2.2.2.1], wvC y.2.2.1 y.2.2.2.1 (mirW n f'), vec 1 bv (told.map Go.PB.num), wds (maddr mr r b n) (2 * n + 5) (mK mr r b n nc) f', notesC nb (ms.map mkI), newsC nc, arr t7 0 [wv, lv], base W]
  x := fun _ => x
  ok := fun _ => True

set_option maxHeartbeats 16000000 in
theorem notes_tr {x : solo0.X} {room : Int} (hroom : -9223372036854775808 ≤ room ∧ room ≤ 9223372036854775807) {a : Option Addr} {l : List (Int × Nat)} {cap : Nat} {W : World} (hl : DoAt [base W] a l) :
    Tr Try.prog solo0 3 [.int .i64 room, .slice a l.length cap] [base W] x fun v L' x' => v = .bool true := by
  by_cases O : ∃ k : Nat, 1 ≤ k ∧ k ≤ 10 ∧ room = ((2 ^ k : Nat) : Int)
  · obtain ⟨k, hk0, hk, rfl⟩ := O
    obtain ⟨n, hn⟩ : ∃ n, n = 2 ^ k := ⟨_, rfl⟩
    rw [← hn]
    have hle : n ≤ 1024 := by rw [hn]; exact pow_le hk
    have hpos : 2 ≤ n := by have := Nat.pow_le_pow_right (n := 2) (by omega) hk0; omega
    refine tr_of_body Try.func3 rfl Try.ntmps3 (by simp) fun um Q hQ => ?_
    simp only [argE, Nat.zero_add, Nat.reduceAdd]
    repeat (first
      | refine we_seq ?_
      | (refine we_region _ rfl rfl ?_; simp only [opsOf, List.map_cons, List.map_nil, Option.map_none, Option.map_some, List.getElem?_toArray, List.getElem?_cons_zero, List.getElem?_cons_succ, Option.bind_some, Option.getD_some])
      | refine wo_nil ?_
      | (apply wo_po; apply mo_move; exact rfl; (first | exact trivial | exact rfl))
      | (apply wo_po; apply mo_assign; exact rfl; (first | exact trivial | exact rfl)))
    refine wo_call (.cons rfl .nil) trivial (mnew_tr hn hk0 hk) ?_
    rintro v' L' x' ⟨mr, r, b, nc, hrb, hmr, hmb, rfl, rfl, rfl⟩
    repeat (first
      | refine we_seq ?_
      | (refine we_region _ rfl rfl ?_; simp only [opsOf, List.map_cons, List.map_nil, Option.map_none, Option.map_some, List.getElem?_toArray, List.getElem?_cons_zero, List.getElem?_cons_succ, Option.bind_some, Option.getD_some])
      | refine wo_nil ?_
      | (apply wo_po; apply mo_move; exact rfl; (first | exact trivial | exact rfl))
      | (apply wo_po; apply mo_assign; exact rfl; (first | exact trivial | exact rfl))
      | (apply wo_po; apply mo_extract; exact rfl; exact rfl; (first | exact trivial | exact rfl)))
    refine wo_call (.cons rfl .nil) trivial (may_tr (q := true) ⟨fun _ => ⟨k, hk0, hk, by rw [hn]⟩, fun _ => rfl⟩) ?_
    rintro v' L' x' ⟨rfl, rfl, rfl⟩
    repeat (first
      | (apply wo_po; apply mo_bin; exact rfl; exact rfl; apply bin_neqF; omega; (first | exact trivial | exact rfl))
      | refine we_seq ?_
      | (refine we_region _ rfl rfl ?_; simp only [opsOf, List.map_cons, List.map_nil, Option.map_none, Option.map_some, List.getElem?_toArray, List.getElem?_cons_zero, List.getElem?_cons_succ, Option.bind_some, Option.getD_some])
      | refine wo_nil ?_
      | (apply wo_po; apply mo_move; exact rfl; (first | exact trivial | exact rfl))
      | (apply wo_po; apply mo_pickF; exact rfl; exact rfl; exact rfl; (first | exact trivial | exact rfl))
      | (apply wo_po; apply mo_not; exact rfl; (first | exact trivial | exact rfl))
      | (apply wo_po; apply mo_bin; exact rfl; exact rfl; apply bin_eq; apply eql_ptr_nil; (first | exact trivial | exact rfl))
      | (apply we_condF; exact rfl; (first | exact rfl | (simp <;> omega) | omega))
      | refine we_skip ?_)
    refine wo_call (.cons rfl .nil) trivial (mworld_tr hle) ?_
    rintro v' L' x' ⟨wv, lv, rfl, rfl, rfl⟩
    refine wo_pure (of_has .here wv_shape) ?_
    rintro ⟨⟨wa, wn, wc, rfl⟩, la, ln, lc, rfl⟩
    repeat (first
      | (apply wo_mo; apply mo_alloc; exact trivial))
    rintro v' L' ⟨t7, rfl, rfl⟩
    repeat (first
      | (apply wo_pm; apply mo_storeA (b := t7) (c := 0) (k := 0) (a := 0) (vs := [.slice none 0 0, .slice none 0 0]); exact rfl; exact rfl; exact rfl; (intro w hw; simp [Value.cells] at hw; rcases hw with rfl | rfl <;> rfl); exact rfl; exact Nat.le_refl 2; exact .here; exact trivial)
      | refine we_seq ?_
      | (refine we_region _ rfl rfl ?_; simp only [opsOf, List.map_cons, List.map_nil, Option.map_none, Option.map_some, List.getElem?_toArray, List.getElem?_cons_zero, List.getElem?_cons_succ, Option.bind_some, Option.getD_some])
      | refine wo_nil ?_
      | (apply wo_po; apply mo_assign; exact rfl; (first | exact trivial | exact rfl)))
    refine we_block ?_
    refine we_star ((notesInv () mr r b n nc t7 a l cap W).L (0, seqs n, .slice wa wn wc, .slice la ln lc)) (fun h st => ?_) ?_
    · dsimp only [notesInv]
      rw [mirW_new]
      exact Ent.star (.take (.there (.there .here)) (.take (.there (.there .here)) (.take .here (.take .here .refl)))) st
    refine we_loopN (notesInv () mr r b n nc t7 a l cap W) (fun i => 41 - i.1) (0, seqs n, _, _) ⟨by show 0 ≤ 40; omega, [], RowAt.seqs hpos hle⟩ ⟨rfl, rfl, rfl, rfl, rfl, trivial⟩ .refl rfl ?_
    rintro ⟨i, f, wv, lv⟩ ⟨hi, row, hf⟩
    dsimp only [notesInv] at hi hf ⊢
    by_cases hci : i < l.length
    · by_cases hci2 : i < 40
      · obtain ⟨y, hy⟩ : ∃ y, l[i]? = some y := ⟨l[i], by simp [hci]⟩
        obtain ⟨bb, oo, rfl, r1, r2⟩ := hl.at_ i y hy
        obtain ⟨y1, y2⟩ := hl.rng y (List.mem_of_getElem? hy)
        have w1 := Int.emod_nonneg y.1 (by omega : (3 : Int) ≠ 0)
        obtain ⟨kd, hkd⟩ : ∃ kd : Nat, y.1 % 3 = kd := ⟨(y.1 % 3).toNat, by omega⟩
        have hdo0 : Rds [base W] bb (oo + 2 * i) [.int .i64 y.1, .int .u64 (y.2 : Nat)] := by
          intro j v hj
          match j, hj with
          | 0, hj => cases hj; exact r1
          | 1, hj => cases hj; exact r2
        have hdo : ∀ {F G : List HProp}, Has F (base W) G → Rds F bb (oo + 2 * i) [.int .i64 y.1, .int .u64 (y.2 : Nat)] := fun hF j v hj => Rd.of hF (hdo0 j v hj)
        repeat (first
          | (apply wo_po; apply mo_bin; exact rfl; exact rfl; apply bin_lssT; omega; (first | exact trivial | exact rfl))
          | refine we_seq ?_
          | (refine we_region _ rfl rfl ?_; simp only [opsOf, List.map_cons, List.map_nil, Option.map_none, Option.map_some, List.getElem?_toArray, List.getElem?_cons_zero, List.getElem?_cons_succ, Option.bind_some, Option.getD_some])
          | refine wo_nil ?_
          | (apply wo_po; apply mo_move; exact rfl; (first | exact trivial | exact rfl))
          | (apply wo_po; apply mo_pickT; exact rfl; exact rfl; exact rfl; (first | exact trivial | exact rfl))
          | (apply wo_po; apply mo_len; exact rfl; (first | exact trivial | exact rfl))
          | (apply we_condT; exact rfl; (first | exact rfl | (simp <;> omega) | omega))
          | refine we_skip ?_
          | refine we_block ?_)
        refine wo_call .nil trivial new_notes_tr ?_
        rintro v L' x1 ⟨nb, rfl, rfl, rfl⟩
        repeat (first
          | (apply wo_po; apply mo_makeInterface; exact rfl; exact trivial)
          | (apply wo_po; apply mo_indexAddr (r := oo + 2 * i); exact rfl; exact rfl; omega; omega; omega; exact trivial)
          | (apply wo_po; apply mo_loadA (vs := [.int .i64 y.1, .int .u64 (y.2 : Nat)]); exact rfl; exact rfl; exact (hdo (.there (.there (.there (.there (.there .here)))))); exact trivial)
          | refine we_seq ?_
          | (refine we_region _ rfl rfl ?_; simp only [opsOf, List.map_cons, List.map_nil, Option.map_none, Option.map_some, List.getElem?_toArray, List.getElem?_cons_zero, List.getElem?_cons_succ, Option.bind_some, Option.getD_some])
          | refine wo_nil ?_
          | (apply wo_po; apply mo_move; exact rfl; (first | exact trivial | exact rfl))
          | (apply wo_po; apply mo_assign; exact rfl; (first | exact trivial | exact rfl)))
        refine wo_call (.cons rfl (.cons rfl (.cons rfl .nil))) trivial (done_n (m_apart hrb hmr hmb) hn hk0 hk y1 hkd y2 hf) ?_
        rintro bv0 L' x2 ⟨told, f', row', ms, bv, hcomes, hms, htold, hf', rfl, rfl, rfl⟩
        repeat (first
          | refine we_seq ?_
          | refine wo_nil ?_
          | (apply wo_po; apply mo_move; exact rfl; (first | exact trivial | exact rfl))
          | (apply wo_po; apply mo_assign; exact rfl; (first | exact trivial | exact rfl))
          | (apply wo_po; apply mo_extract; exact rfl; exact rfl; (first | exact trivial | exact rfl)))
        refine we_join (notesMid () mr r b n nc t7 nb i (some ⟨bb, oo, none⟩) l cap W f' bv told ms wv lv) ?_ ?_
        · refine we_draw (List.range' 0 16) (by kernel_rfl) ?_
          repeat (first
            | (apply ap_pure; exact rfl; exact rfl; exact trivial; intro L; apply mo_indexAddr (r := oo + 2 * i); exact rfl; exact rfl; omega; omega; omega)
            | (apply ap_read; exact rfl; exact rfl; exact trivial; apply mo_loadA (vs := [wv, lv]); exact rfl; exact rfl; exact Rds.all (.there (.there (.there (.there .here)))))
            | (apply ap_read; exact rfl; exact rfl; exact trivial; apply mo_loadA (vs := [.int .i64 y.1, .int .u64 (y.2 : Nat)]); exact rfl; exact rfl; exact hdo (.there (.there (.there (.there (.there (.there .here)))))))
            | (apply ap_pure; exact rfl; exact rfl; (first | exact trivial | exact rfl); intro L; apply mo_move; exact rfl))
          refine ap_fork (f := 12) (ord' := [0, 1, 2, 3, 4, 5, 12, 6, 7, 8, 9, 10, 11, 13, 14, 15]) (by kernel_rfl) (by kernel_rfl) (by kernel_rfl) (by kernel_rfl) ?_ ?_
          · refine ap1_call rfl rfl trivial rfl rfl (.cons rfl (.cons rfl .nil)) (call_tr (by omega) hle y1 hkd) ?_ ?_
            · rintro v L' x' ⟨qa, qm, qc, rfl, rfl, rfl⟩ p hp
              replace hp := (List.mem_filter.1 hp).1
              simp only [List.mem_cons, List.not_mem_nil, or_false] at hp
              repeat (obtain rfl | hp := hp; (· first | exact .inl rfl | exact .inr ⟨_, rfl, trivial, mo_loadA (vs := [wv, lv]) rfl rfl (Rds.all (.there (.there (.there (.there (.there .here))))))⟩ | exact .inr ⟨_, rfl, trivial, mo_loadA (vs := [.int .i64 y.1, .int .u64 (y.2 : Nat)]) rfl rfl (hdo (.there (.there (.there (.there (.there (.there (.there .here))))))))⟩))
              all_goals (subst hp; first | exact .inl rfl | exact .inr ⟨_, rfl, trivial, mo_loadA (vs := [wv, lv]) rfl rfl (Rds.all (.there (.there (.there (.there (.there .here))))))⟩ | exact .inr ⟨_, rfl, trivial, mo_loadA (vs := [.int .i64 y.1, .int .u64 (y.2 : Nat)]) rfl rfl (hdo (.there (.there (.there (.there (.there (.there (.there .here))))))))⟩)
            rintro v L' x' ⟨qa, qm, qc, rfl, rfl, rfl⟩
            refine ap_fork (f := 12) (ord' := [0, 1, 2, 3, 4, 5, 6, 12, 7, 8, 9, 10, 11, 13, 14, 15]) (by kernel_rfl) (by kernel_rfl) (by kernel_rfl) (by kernel_rfl) ?_ ?_
            · refine ap1_call (Pd' := []) rfl (by kernel_rfl) trivial rfl rfl (.cons rfl (.cons rfl .nil)) (alone_comes hcomes (call_ok hle y2) (by omega) (.there (.there (.there (.there (.there (.there .here)))))) .here) (fun v L' x' _ p hp => by cases hp) ?_
              rintro v L' x' ⟨tv, wv', lv', mv, rfl, rfl, rfl⟩
              repeat (first
                | (apply ap_pure; exact rfl; exact rfl; (first | exact trivial | exact rfl); intro L; apply mo_move; exact rfl)
                | (apply ap_pure; exact rfl; exact rfl; (first | exact trivial | exact rfl); intro L; apply mo_extract; exact rfl; exact rfl))
              refine ap_know (of_has (.there .here) wv_shape) ?_
              rintro ⟨⟨wa', wn', wc', rfl⟩, la', ln', lc', rfl⟩
              refine ap_loudR rfl rfl rfl rfl trivial mo_alloc ?_ ?_
              · rintro v L' ⟨nb2, rfl, rfl⟩ p hp
                replace hp := (List.mem_filter.1 hp).1
                simp only [List.mem_cons, List.not_mem_nil, or_false] at hp
                repeat (obtain rfl | hp := hp; (· first | exact .inl rfl))
                all_goals (subst hp; first | exact .inl rfl)
              rintro v L' ⟨nb2, rfl, rfl⟩
              repeat (first
                | (apply ap_pure; exact rfl; exact rfl; (first | exact trivial | exact rfl); intro L; apply mo_assign; exact rfl))
              refine ap_loud rfl rfl rfl rfl rfl trivial (mo_storeA (b := nb2) (c := 0) (k := 0) (a := 0) (vs := [.slice none 0 0, .slice none 0 0]) rfl rfl rfl (by intro w hw; simp [Value.cells] at hw; rcases hw with rfl | rfl <;> rfl) rfl (Nat.le_refl 2) .here) ?_
              rintro v' L' ⟨rfl, rfl⟩
              repeat (first
                | (apply ap_pure; exact rfl; exact rfl; (first | exact trivial | exact rfl); intro L; apply mo_assign; exact rfl)
                | refine ap_end ?_)
              refine at_midS (I := notesMid () mr r b n nc t7 nb i (some ⟨bb, oo, none⟩) l cap W f' bv told ms wv lv) (tv, mv, .slice wa' wn' wc', .slice la' ln' lc', nb2) trivial ⟨rfl, rfl, rfl, rfl, rfl, rfl, rfl, rfl, rfl, rfl, rfl, trivial⟩ (fun h st => ?_) rfl
              dsimp only [notesMid]
              exact Ent.star (.take (.there .here) (.take (.there (.there .here)) (.take .here (.take .here (.take (.there .here) (.take (.there .here) (.take (.there .here) (.take (.there .here) (.take (.there .here) (.drop .refl)))))))))) st
            · refine ap1_mo rfl rfl rfl trivial mo_alloc ?_ ?_
              · rintro v L' ⟨nb2, rfl, rfl⟩ p hp
                replace hp := (List.mem_filter.1 hp).1
                replace hp := (List.mem_filter.1 hp).1
                simp only [List.mem_cons, List.not_mem_nil, or_false] at hp
                repeat (obtain rfl | hp := hp; (· first | exact .inl rfl | exact .inr ⟨_, rfl, trivial, mo_loadA (vs := [wv, lv]) rfl rfl (Rds.all (.there (.there (.there (.there (.there (.there .here)))))))⟩ | exact .inr ⟨_, rfl, trivial, mo_loadA (vs := [.int .i64 y.1, .int .u64 (y.2 : Nat)]) rfl rfl (hdo (.there (.there (.there (.there (.there (.there (.there (.there .here)))))))))⟩))
                all_goals (subst hp; first | exact .inl rfl | exact .inr ⟨_, rfl, trivial, mo_loadA (vs := [wv, lv]) rfl rfl (Rds.all (.there (.there (.there (.there (.there (.there .here)))))))⟩ | exact .inr ⟨_, rfl, trivial, mo_loadA (vs := [.int .i64 y.1, .int .u64 (y.2 : Nat)]) rfl rfl (hdo (.there (.there (.there (.there (.there (.there (.there (.there .here)))))))))⟩)
              rintro v L' ⟨nb2, rfl, rfl⟩
              refine ap_callR (Pd' := []) rfl rfl (by kernel_rfl) trivial rfl rfl (.cons rfl (.cons rfl .nil)) (alone_comes hcomes (call_ok hle y2) (by omega) (.there (.there (.there (.there (.there (.there (.there .here))))))) (.there .here)) (fun v L' x' _ p hp => by cases hp) ?_
              rintro v L' x' ⟨tv, wv', lv', mv, rfl, rfl, rfl⟩
              refine ap_star (L' := _) (fun h st => Ent.star (.take (.there (.there (.there (.there .here)))) (.take .here (.take .here (.take .here (.take .here .refl))))) st) (fun p hp => by cases hp) ?_
              repeat (first
                | (apply ap_pure; exact rfl; exact rfl; (first | exact trivial | exact rfl); intro L; apply mo_move; exact rfl)
                | (apply ap_pure; exact rfl; exact rfl; (first | exact trivial | exact rfl); intro L; apply mo_assign; exact rfl)
                | (apply ap_pure; exact rfl; exact rfl; (first | exact trivial | exact rfl); intro L; apply mo_extract; exact rfl; exact rfl))
              refine ap_know (of_has (.there (.there .here)) wv_shape) ?_
              rintro ⟨⟨wa', wn', wc', rfl⟩, la', ln', lc', rfl⟩
              skip
              refine ap_loud rfl rfl rfl rfl rfl trivial (mo_storeA (b := nb2) (c := 0) (k := 0) (a := 0) (vs := [.slice none 0 0, .slice none 0 0]) rfl rfl rfl (by intro w hw; simp [Value.cells] at hw; rcases hw with rfl | rfl <;> rfl) rfl (Nat.le_refl 2) .here) ?_
              rintro v' L' ⟨rfl, rfl⟩
              repeat (first
                | (apply ap_pure; exact rfl; exact rfl; (first | exact trivial | exact rfl); intro L; apply mo_assign; exact rfl)
                | refine ap_end ?_)
              refine at_midS (I := notesMid () mr r b n nc t7 nb i (some ⟨bb, oo, none⟩) l cap W f' bv told ms wv lv) (tv, mv, .slice wa' wn' wc', .slice la' ln' lc', nb2) trivial ⟨rfl, rfl, rfl, rfl, rfl, rfl, rfl, rfl, rfl, rfl, rfl, trivial⟩ (fun h st => ?_) rfl
              dsimp only [notesMid]
              exact Ent.star (.take (.there .here) (.take (.there (.there .here)) (.take .here (.take .here (.take (.there .here) (.take (.there .here) (.take (.there .here) (.take (.there .here) (.take (.there .here) (.drop .refl)))))))))) st
          · refine ap1_mo rfl rfl rfl trivial mo_alloc ?_ ?_
            · rintro v L' ⟨nb2, rfl, rfl⟩ p hp
              replace hp := (List.mem_filter.1 hp).1
              simp only [List.mem_cons, List.not_mem_nil, or_false] at hp
              repeat (obtain rfl | hp := hp; (· first | exact .inl rfl | exact .inr ⟨_, rfl, trivial, mo_loadA (vs := [wv, lv]) rfl rfl (Rds.all (.there (.there (.there (.there (.there .here))))))⟩ | exact .inr ⟨_, rfl, trivial, mo_loadA (vs := [.int .i64 y.1, .int .u64 (y.2 : Nat)]) rfl rfl (hdo (.there (.there (.there (.there (.there (.there (.there .here))))))))⟩))
              all_goals (subst hp; first | exact .inl rfl | exact .inr ⟨_, rfl, trivial, mo_loadA (vs := [wv, lv]) rfl rfl (Rds.all (.there (.there (.there (.there (.there .here))))))⟩ | exact .inr ⟨_, rfl, trivial, mo_loadA (vs := [.int .i64 y.1, .int .u64 (y.2 : Nat)]) rfl rfl (hdo (.there (.there (.there (.there (.there (.there (.there .here))))))))⟩)
            rintro v L' ⟨nb2, rfl, rfl⟩
            refine ap_callR rfl rfl rfl trivial rfl rfl (.cons rfl (.cons rfl .nil)) (call_tr (by omega) hle y1 hkd) ?_ ?_
            · rintro v L' x' ⟨qa, qm, qc, rfl, rfl, rfl⟩ p hp
              replace hp := (List.mem_filter.1 hp).1
              replace hp := (List.mem_filter.1 hp).1
              simp only [List.mem_cons, List.not_mem_nil, or_false] at hp
              repeat (obtain rfl | hp := hp; (· first | exact .inl rfl | exact .inr ⟨_, rfl, trivial, mo_loadA (vs := [wv, lv]) rfl rfl (Rds.all (.there (.there (.there (.there (.there (.there .here)))))))⟩ | exact .inr ⟨_, rfl, trivial, mo_loadA (vs := [.int .i64 y.1, .int .u64 (y.2 : Nat)]) rfl rfl (hdo (.there (.there (.there (.there (.there (.there (.there (.there .here)))))))))⟩))
              all_goals (subst hp; first | exact .inl rfl | exact .inr ⟨_, rfl, trivial, mo_loadA (vs := [wv, lv]) rfl rfl (Rds.all (.there (.there (.there (.there (.there (.there .here)))))))⟩ | exact .inr ⟨_, rfl, trivial, mo_loadA (vs := [.int .i64 y.1, .int .u64 (y.2 : Nat)]) rfl rfl (hdo (.there (.there (.there (.there (.there (.there (.there (.there .here)))))))))⟩)
            rintro v L' x' ⟨qa, qm, qc, rfl, rfl, rfl⟩
            refine ap_callR (Pd' := []) rfl rfl (by kernel_rfl) trivial rfl rfl (.cons rfl (.cons rfl .nil)) (alone_comes hcomes (call_ok hle y2) (by omega) (.there (.there (.there (.there (.there (.there (.there .here))))))) .here) (fun v L' x' _ p hp => by cases hp) ?_
            rintro v L' x' ⟨tv, wv', lv', mv, rfl, rfl, rfl⟩
            refine ap_star (L' := _) (fun h st => Ent.star (.take (.there (.there (.there (.there .here)))) (.take .here (.take .here (.take .here (.take .here .refl))))) st) (fun p hp => by cases hp) ?_
            repeat (first
              | (apply ap_pure; exact rfl; exact rfl; (first | exact trivial | exact rfl); intro L; apply mo_move; exact rfl)
              | (apply ap_pure; exact rfl; exact rfl; (first | exact trivial | exact rfl); intro L; apply mo_assign; exact rfl)
              | (apply ap_pure; exact rfl; exact rfl; (first | exact trivial | exact rfl); intro L; apply mo_extract; exact rfl; exact rfl))
            refine ap_know (of_has (.there (.there .here)) wv_shape) ?_
            rintro ⟨⟨wa', wn', wc', rfl⟩, la', ln', lc', rfl⟩
            skip
            refine ap_loud rfl rfl rfl rfl rfl trivial (mo_storeA (b := nb2) (c := 0) (k := 0) (a := 0) (vs := [.slice none 0 0, .slice none 0 0]) rfl rfl rfl (by intro w hw; simp [Value.cells] at hw; rcases hw with rfl | rfl <;> rfl) rfl (Nat.le_refl 2) .here) ?_
            rintro v' L' ⟨rfl, rfl⟩
            repeat (first
              | (apply ap_pure; exact rfl; exact rfl; (first | exact trivial | exact rfl); intro L; apply mo_assign; exact rfl)
              | refine ap_end ?_)
            refine at_midS (I := notesMid () mr r b n nc t7 nb i (some ⟨bb, oo, none⟩) l cap W f' bv told ms wv lv) (tv, mv, .slice wa' wn' wc', .slice la' ln' lc', nb2) trivial ⟨rfl, rfl, rfl, rfl, rfl, rfl, rfl, rfl, rfl, rfl, rfl, trivial⟩ (fun h st => ?_) rfl
            dsimp only [notesMid]
            exact Ent.star (.take (.there .here) (.take (.there (.there .here)) (.take .here (.take .here (.take (.there .here) (.take (.there .here) (.take (.there .here) (.take (.there .here) (.take (.there .here) (.drop .refl)))))))))) st
        · rintro ⟨tv, mv, wv', lv', nb2⟩ _
          dsimp only [notesMid]
          refine we_pure (of_has .here (vec_shape (by omega))) ?_
          rintro ⟨ta, tn, tc, rfl, htn, _, hta, hta2⟩
          refine we_pure (of_has (.there .here) (vec_shape (by omega))) ?_
          rintro ⟨ma, mn, mc, rfl, hmn, _, hma, hma2⟩
          refine we_pure (of_has (.there (.there (.there (.there .here)))) (vec_shape (by omega))) ?_
          rintro ⟨ba, bn, bc, rfl, hbn, _, hba, hba2⟩
          refine we_pure (of_has (.there (.there (.there .here))) wv_shape) ?_
          rintro ⟨⟨wa', wn', wc', rfl⟩, la', ln', lc', rfl⟩
          have htn' : tn = told.length := by simp at htn; omega
          have hbn' : bn = told.length := by simp at hbn; omega
          have hmn' : mn = (ms.map mkI).length := by rw [flat_len (k := 2) (fun _ => rfl)] at hmn; simp; omega
          repeat (first
            | (apply wo_po; apply mo_bin; exact rfl; exact rfl; apply bin_neqF; omega; (first | exact trivial | exact rfl))
            | refine we_seq ?_
            | (refine we_region _ rfl rfl ?_; simp only [opsOf, List.map_cons, List.map_nil, Option.map_none, Option.map_some, List.getElem?_toArray, List.getElem?_cons_zero, List.getElem?_cons_succ, Option.bind_some, Option.getD_some])
            | (apply wo_po; apply mo_move; exact rfl; (first | exact trivial | exact rfl)))
          refine wo_call (.cons rfl (.cons rfl .nil)) rfl (same_words_tr (l := told) (l' := told) hbn' htn' (by omega) (RdV.vec (.there (.there (.there (.there .here)))) hba2 (fun h => List.length_eq_zero_iff.1 (by rw [← hbn']; exact hba h))) (RdV.vec .here hta2 (fun h => List.length_eq_zero_iff.1 (by rw [← htn']; exact hta h)))) ?_
          rintro v L' x' ⟨rfl, rfl, rfl⟩
          rw [decide_eq_true (rfl : told = told)]
          repeat (first
            | (apply wo_po; apply mo_move; exact rfl; (first | exact trivial | exact rfl))
            | (apply wo_po; apply mo_pickF; exact rfl; exact rfl; exact rfl; (first | exact trivial | exact rfl))
            | (apply wo_po; apply mo_not; exact rfl; (first | exact trivial | exact rfl)))
          refine wo_call (.cons rfl .nil) rfl (marks_tr (by simp; omega) (.there (.there (.there (.there (.there (.there .here))))))) ?_
          rintro v L' x' ⟨rfl, rfl⟩
          refine wo_pure (of_has .here (vec_shape (by omega))) ?_
          rintro ⟨na, nn, nc', rfl, hnn, _, hna, hna2⟩
          have hnn' : nn = (ms.map mkI).length := by rw [flat2] at hnn; omega
          repeat (first
            | (apply wo_po; apply mo_move; exact rfl; (first | exact trivial | exact rfl)))
          refine wo_call (.cons rfl (.cons rfl .nil)) rfl (same_marks_tr (l := ms.map mkI) (l' := ms.map mkI) hnn' hmn' (by simp at hnn'; omega) (RdM.vec .here hna2 (fun h => List.length_eq_zero_iff.1 (by rw [← hnn']; exact hna h))) (RdM.vec (n := mn) (c := mc) (by rw [← marks_flat]; exact (.there (.there (.there .here)))) hma2 (fun h => List.length_eq_zero_iff.1 (by rw [← hmn']; exact hma h)))) ?_
          rintro v L' x' ⟨rfl, rfl, rfl⟩
          rw [decide_eq_true (rfl : ms.map mkI = ms.map mkI)]
          repeat (first
            | (apply wo_po; apply mo_loadA (vs := [.slice wa' wn' wc', .slice la' ln' lc']); exact rfl; exact rfl; exact Rds.all (.there (.there (.there (.there .here)))); exact trivial)
            | (apply wo_pm; apply mo_storeA (b := t7) (c := 0) (k := 0) (a := 0) (vs := [wv, lv]); exact rfl; exact rfl; exact rfl; (intro w hw; simp [Value.cells] at hw; rcases hw with rfl | rfl <;> rfl); exact rfl; exact Nat.le_refl 2; exact (.there (.there (.there (.there (.there (.there (.there (.there (.there .here))))))))); exact trivial)
            | (refine we_region _ rfl rfl ?_; simp only [opsOf, List.map_cons, List.map_nil, Option.map_none, Option.map_some, List.getElem?_toArray, List.getElem?_cons_zero, List.getElem?_cons_succ, Option.bind_some, Option.getD_some])
            | refine wo_nil ?_
            | (apply wo_po; apply mo_move; exact rfl; (first | exact trivial | exact rfl))
            | (apply wo_po; apply mo_assign; exact rfl; (first | exact trivial | exact rfl))
            | (apply wo_po; apply mo_pickF; exact rfl; exact rfl; exact rfl; (first | exact trivial | exact rfl))
            | (apply wo_po; apply mo_not; exact rfl; (first | exact trivial | exact rfl))
            | (apply wo_po; apply mo_bin; exact rfl; exact rfl; apply bin_add; exact wrap_i64 (by omega) (by omega); (first | exact trivial | exact rfl))
            | (apply we_condF; exact rfl; (first | exact rfl | (simp <;> omega) | omega))
            | refine we_skip ?_)
          refine at_roundS (I := notesInv () mr r b n nc t7 (some ⟨bb, oo, none⟩) l cap W) (R := fun i' => 41 - i'.1 < 41 - i) (i + 1, f', .slice wa' wn' wc', .slice la' ln' lc') (by show 41 - (i + 1) < 41 - i; omega) ⟨by show i + 1 ≤ 40; omega, row', hf'⟩ ⟨rfl, rfl, rfl, rfl, rfl, trivial⟩ (fun h st => ?_) rfl
          exact Ent.star (.take (.there (.there (.there (.there (.there (.there (.there .here))))))) (.take (.there (.there (.there (.there (.there (.there (.there .here))))))) (.take (.there (.there (.there (.there (.there (.there (.there .here))))))) (.take (.there (.there (.there (.there (.there .here))))) (.drop (.drop (.drop (.drop (.drop (.drop .refl)))))))))) st
      · repeat (first
          | (apply wo_po; apply mo_bin; exact rfl; exact rfl; apply bin_lssT; omega; (first | exact trivial | exact rfl))
          | (apply wo_po; apply mo_bin; exact rfl; exact rfl; apply bin_lssF; omega; (first | exact trivial | exact rfl))
          | refine we_seq ?_
          | (refine we_region _ rfl rfl ?_; simp only [opsOf, List.map_cons, List.map_nil, Option.map_none, Option.map_some, List.getElem?_toArray, List.getElem?_cons_zero, List.getElem?_cons_succ, Option.bind_some, Option.getD_some])
          | refine wo_nil ?_
          | (apply wo_po; apply mo_move; exact rfl; (first | exact trivial | exact rfl))
          | (apply wo_po; apply mo_pickT; exact rfl; exact rfl; exact rfl; (first | exact trivial | exact rfl))
          | (apply wo_po; apply mo_len; exact rfl; (first | exact trivial | exact rfl))
          | (apply we_condF; exact rfl; (first | exact rfl | (simp <;> omega) | omega))
          | refine we_exit ?_)
        refine wo_call .nil trivial works_tr ?_
        rintro v L' x' ⟨rfl, rfl, rfl⟩
        repeat (first
          | refine wo_nil ?_
          | (apply wo_po; apply mo_assign; exact rfl; (first | exact trivial | exact rfl))
          | refine we_ret ?_)
        (first | refine at_ret1 (ex := .ret) Try.func3 Try.results3 hQ (.inl rfl) rfl ?_ | refine at_ret1 (ex := .normal) Try.func3 Try.results3 hQ (.inr rfl) rfl ?_)
        rfl
    · repeat (first
        | (apply wo_po; apply mo_bin; exact rfl; exact rfl; apply bin_lssF; omega; (first | exact trivial | exact rfl))
        | refine we_seq ?_
        | (refine we_region _ rfl rfl ?_; simp only [opsOf, List.map_cons, List.map_nil, Option.map_none, Option.map_some, List.getElem?_toArray, List.getElem?_cons_zero, List.getElem?_cons_succ, Option.bind_some, Option.getD_some])
        | refine wo_nil ?_
        | (apply wo_po; apply mo_move; exact rfl; (first | exact trivial | exact rfl))
        | (apply wo_no; exact rfl)
        | (apply wo_po; apply mo_pickF; exact rfl; exact rfl; exact rfl; (first | exact trivial | exact rfl))
        | (apply wo_po; apply mo_len; exact rfl; (first | exact trivial | exact rfl))
        | (apply we_condF; exact rfl; (first | exact rfl | (simp <;> omega) | omega))
        | refine we_exit ?_)
      refine wo_call .nil trivial works_tr ?_
      rintro v L' x' ⟨rfl, rfl, rfl⟩
      repeat (first
        | refine wo_nil ?_
        | (apply wo_po; apply mo_assign; exact rfl; (first | exact trivial | exact rfl))
        | refine we_ret ?_)
      (first | refine at_ret1 (ex := .ret) Try.func3 Try.results3 hQ (.inl rfl) rfl ?_ | refine at_ret1 (ex := .normal) Try.func3 Try.results3 hQ (.inr rfl) rfl ?_)
      rfl
  · refine tr_of_body Try.func3 rfl Try.ntmps3 (by simp) fun um Q hQ => ?_
    simp only [argE, Nat.zero_add, Nat.reduceAdd]
    repeat (first
      | refine we_seq ?_
      | (refine we_region _ rfl rfl ?_; simp only [opsOf, List.map_cons, List.map_nil, Option.map_none, Option.map_some, List.getElem?_toArray, List.getElem?_cons_zero, List.getElem?_cons_succ, Option.bind_some, Option.getD_some])
      | refine wo_nil ?_
      | (apply wo_po; apply mo_move; exact rfl; (first | exact trivial | exact rfl))
      | (apply wo_po; apply mo_assign; exact rfl; (first | exact trivial | exact rfl)))
    refine wo_call (.cons rfl .nil) trivial (mnew_no O) ?_
    rintro v' L' x' ⟨rfl, rfl, rfl⟩
    repeat (first
      | refine we_seq ?_
      | (refine we_region _ rfl rfl ?_; simp only [opsOf, List.map_cons, List.map_nil, Option.map_none, Option.map_some, List.getElem?_toArray, List.getElem?_cons_zero, List.getElem?_cons_succ, Option.bind_some, Option.getD_some])
      | refine wo_nil ?_
      | (apply wo_po; apply mo_move; exact rfl; (first | exact trivial | exact rfl))
      | (apply wo_po; apply mo_assign; exact rfl; (first | exact trivial | exact rfl))
      | (apply wo_po; apply mo_extract; exact rfl; exact rfl; (first | exact trivial | exact rfl)))
    refine wo_call (.cons rfl .nil) trivial (may_tr (q := false) ⟨(fun e => by cases e), fun e => absurd e O⟩) ?_
    rintro v' L' x' ⟨rfl, rfl, rfl⟩
    repeat (first
      | (apply wo_po; apply mo_bin; exact rfl; exact rfl; apply bin_eqlT; omega; (first | exact trivial | exact rfl))
      | refine we_seq ?_
      | (refine we_region _ rfl rfl ?_; simp only [opsOf, List.map_cons, List.map_nil, Option.map_none, Option.map_some, List.getElem?_toArray, List.getElem?_cons_zero, List.getElem?_cons_succ, Option.bind_some, Option.getD_some])
      | refine wo_nil ?_
      | (apply wo_po; apply mo_move; exact rfl; (first | exact trivial | exact rfl))
      | (apply wo_po; apply mo_pickT; exact rfl; exact rfl; exact rfl; (first | exact trivial | exact rfl))
      | (apply wo_po; apply mo_not; exact rfl; (first | exact trivial | exact rfl))
      | (apply wo_po; apply mo_bin; exact rfl; exact rfl; apply bin_eq; apply eql_ptr_nil; (first | exact trivial | exact rfl))
      | (apply we_condT; exact rfl; (first | exact rfl | (simp <;> omega) | omega)))
    refine wo_call .nil rfl works_tr ?_
    rintro v' L' x' ⟨rfl, rfl, rfl⟩
    repeat (first
      | refine wo_nil ?_
      | (apply wo_po; apply mo_assign; exact rfl; (first | exact trivial | exact rfl))
      | (apply wo_po; apply mo_pickT; exact rfl; exact rfl; exact rfl; (first | exact trivial | exact rfl))
      | refine we_ret ?_)
    (first | refine at_ret1 (ex := .ret) Try.func3 Try.results3 hQ (.inl rfl) rfl ?_ | refine at_ret1 (ex := .normal) Try.func3 Try.results3 hQ (.inr rfl) rfl ?_)
    rfl
end Go.Proofs.Ytmkkanmkjfnpdaa
