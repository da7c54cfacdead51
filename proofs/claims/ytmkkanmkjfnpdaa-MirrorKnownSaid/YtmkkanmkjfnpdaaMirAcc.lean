/-
  A MIRROR's accesses (alone; with notes); mirror.New; mirrors that are not there.
-/
import Derived.Test.YtmkkanmkjfnpdaaMirror
import Derived.Test.YtmkkanmkjfnpdaaQueueT
import Derived.Test.YtmkkanmkjfnpdaaRowS
import Derived.Test.YtmkkanmkjfnpdaaMirror23n
import Derived.Test.YtmkkanmkjfnpdaaNotes
set_option linter.unusedVariables false
set_option linter.unusedSimpArgs false
namespace Go.Proofs.Ytmkkanmkjfnpdaa
open Go Go.PB
attribute [local irreducible] Mo Bin Eql Tr Wo Ap Wle

/-- where a mirror's words lie: the queue's, then the counts -/
def maddr (mr r b n : Nat) (w : Nat) : Nat × Nat := if w < 2 * n + 2 then twoAddr r b w else (mr, w - (2 * n + 2))
def mK (mr r b n nc : Nat) : List (Nat × Nat × Value) := [(r, 2, .slice (some ⟨b, 0, none⟩) n n), (mr, 3, .pointer (some ⟨r, 0, none⟩)), (mr, 4, .chan (some nc))]

theorem two_blk {r b : Nat} : ∀ i, (twoAddr r b i).1 = r ∨ (twoAddr r b i).1 = b
  | 0 => .inl rfl
  | 1 => .inl rfl
  | _ + 2 => .inr rfl

theorem m_apart {mr r b n nc : Nat} (h1 : r ≠ b) (h2 : mr ≠ r) (h3 : mr ≠ b) : Apart (maddr mr r b n) (2 * n + 5) (mK mr r b n nc) where
  inj := fun i j hi hj e => by
    unfold maddr at e
    split at e <;> split at e
    · exact (two_apart (N := i + j + 1) h1 .nilIface).inj i j (by omega) (by omega) e
    · have := congrArg Prod.fst e
      simp only at this
      rcases two_blk (r := r) (b := b) i with h | h <;> omega
    · have := congrArg Prod.fst e
      simp only at this
      rcases two_blk (r := r) (b := b) j with h | h <;> omega
    · have := congrArg Prod.snd e
      simp only at this
      omega
  fix := fun i hi k hk => by
    unfold maddr
    simp only [mK, List.mem_cons, List.not_mem_nil, or_false] at hk
    split
    · rcases hk with rfl | rfl | rfl
      · exact (two_apart (N := i + 1) h1 (.slice (some ⟨b, 0, none⟩) n n)).fix i (by omega) _ (List.mem_singleton.2 rfl)
      · intro e
        have := congrArg Prod.fst e
        simp only at this
        rcases two_blk (r := r) (b := b) i with h | h <;> omega
      · intro e
        have := congrArg Prod.fst e
        simp only at this
        rcases two_blk (r := r) (b := b) i with h | h <;> omega
    · rcases hk with rfl | rfl | rfl <;> (intro e; have e1 := congrArg Prod.fst e; have e2 := congrArg Prod.snd e; simp only at e1 e2; omega)

theorem rd_with {c R : HProp} {b o : Nat} {v : Value} (r : Rd [c] b o v) : Rd [all [c, R]] b o v := fun h st => Rd.of (L := [c, R]) .here r h (star_open (M := [c, R]) (L := []) st)

section
variable {B : Hand} {gv : Value} {A : Acc B gv} {R : HProp} {n k v : Nat} {s : A.S}
theorem offer_with {G : Bool → A.S → Prop} (h : OfferT A n v s G) : OfferT (accWith A R) n v s G := h
theorem mtake_with {G : Option Nat → A.S → Prop} (h : MTakeT A n s G) : MTakeT (accWith A R) n s G := h
theorem counts_with {G : Nat → Nat → Nat → A.S → Prop} (h : CountsT A n s G) : CountsT (accWith A R) n s G := h
theorem done_with {G : List Nat → A.S → Prop} (h : DoneT A n k v s G) : DoneT (accWith A R) n k v s G := h
end

section
variable {B : Hand} [Lets B] {gv : Value} {x : B.X} {mr r b n k nc nb : Nat} {L F : List HProp}

omit [Lets B] in
theorem mir_at (A : Acc B gv) (ha : A.addr = maddr mr r b n) (hK : ∀ s, ∀ y ∈ mK mr r b n nc, Rd [A.C s] y.1 y.2.1 y.2.2) (hn : n = 2 ^ k) (hk : k ≤ 10) : MirAt (accWith A (newsC nc)) mr r b n k nc where
  q := { hn := hn, hk := hk, hdr := fun s => rd_with (hK s (r, 2, .slice (some ⟨b, 0, none⟩) n n) (by simp [mK])), a0 := by show A.addr 0 = _; rw [ha]; unfold maddr; rw [if_pos (by omega)]; rfl, a1 := by show A.addr 1 = _; rw [ha]; unfold maddr; rw [if_pos (by omega)]; rfl,
         a2 := fun i hi => by show A.addr (2 + i) = _; rw [ha]; unfold maddr; rw [if_pos (by omega), Nat.add_comm]; rfl }
  hq := fun s => rd_with (hK s (mr, 3, .pointer (some ⟨r, 0, none⟩)) (by simp [mK]))
  hc := fun s => rd_with (hK s (mr, 4, .chan (some nc)) (by simp [mK]))
  a := fun j hj => by show A.addr _ = _; rw [ha]; unfold maddr; rw [if_neg (by omega), Nat.add_sub_cancel_left]
  news := ⟨fun s => A.C s, fun s h st => star_swap st, fun s h st => star_swap st⟩

theorem rd_K {addr : Nat → Nat × Nat} {N : Nat} {K : List (Nat × Nat × Value)} {s : Nat → Nat} : ∀ y ∈ K, Rd [wds addr N K s] y.1 y.2.1 y.2.2 := fun y hy h hs => by
  obtain ⟨h1, h2, s1, hc, _⟩ := hs
  exact ⟨rfl, .inl (s1.o1 _ _ _ (hc.2 y hy))⟩

/-- a mirror of one's own; with notes -/
def mirLone (x : B.X) (mr r b n nc : Nat) (ap : Apart (maddr mr r b n) (2 * n + 5) (mK mr r b n nc)) : Acc B .nilIface := accWith (loneAcc x (maddr mr r b n) (2 * n + 5) (mK mr r b n nc) ap) (newsC nc)
def mirNotes (x : B.X) (mr r b n nc nb : Nat) (ap : Apart (maddr mr r b n) (2 * n + 5) (mK mr r b n nc)) : Acc B (.iface 34 (.pointer (some ⟨nb, 0, none⟩))) := accWith (notesAcc x (maddr mr r b n) (2 * n + 5) (mK mr r b n nc) ap nb) (newsC nc)

theorem lone_at {ap : Apart (maddr mr r b n) (2 * n + 5) (mK mr r b n nc)} (hn : n = 2 ^ k) (hk : k ≤ 10) : MirAt (mirLone x mr r b n nc ap) mr r b n k nc := mir_at _ rfl (fun s => rd_K) hn hk
theorem notes_at {ap : Apart (maddr mr r b n) (2 * n + 5) (mK mr r b n nc)} (hn : n = 2 ^ k) (hk : k ≤ 10) : MirAt (mirNotes x mr r b n nc nb ap) mr r b n k nc := mir_at _ rfl (fun s y hy => rd_with (rd_K y hy)) hn hk

theorem arr_ne_wds {v : Value} {vs : List Value} {c : HProp} {addr : Nat → Nat × Nat} {N w : Nat} {K : List (Nat × Nat × Value)} {s : Nat → Nat} {h : Hp} (st : Star (arr mr 0 (v :: vs) :: c :: wds addr N K s :: L) h) (hw : w < N) : addr w ≠ (mr, 0) := by
  obtain ⟨h1, h2, s1, ha, h3, h4, s2, _, h5, h6, s3, hb, _⟩ := st
  intro e
  have e1 := ha 0 v rfl
  have e2 := s2.o2 _ _ _ (s3.o1 _ _ _ (hb.1 w hw).2)
  rw [e] at e2
  rcases s1.od mr 0 with d | d
  · rw [Nat.zero_add] at e1; rw [e1] at d; cases d
  · simp only at e2; rw [e2] at d; cases d

theorem mir_wds {h : Hp} (st : Star (arr mr 0 [.int .u64 0, .int .u64 0, .int .u64 0, .pointer (some ⟨r, 0, none⟩), .chan (some nc)] :: chC nc 1 #[] 0 0 :: wds (twoAddr r b) (2 * n + 2) [(r, 2, .slice (some ⟨b, 0, none⟩) n n)] (seqs n) :: L) h) : Star (wds (maddr mr r b n) (2 * n + 5) (mK mr r b n nc) (seqs n) :: newsC nc :: L) h := by
  have st1 : Star (arr mr 0 [.int .u64 0, .int .u64 0, .int .u64 0, .pointer (some ⟨r, 0, none⟩), .chan (some nc)] :: wds (twoAddr r b) (2 * n + 2) [(r, 2, .slice (some ⟨b, 0, none⟩) n n)] (seqs n) :: chC nc 1 #[] 0 0 :: L) h := Ent.star (.take .here (.take (.there .here) (.take .here .refl))) st
  refine star_map (star_shut (M := [_, _]) st1) (fun h a => ?_) (fun h y => star_map y (fun _ z => ⟨(#[], 0, 0), z⟩) (fun _ z => z))
  obtain ⟨h1, h2, s1, ha, h3, h4, s2, hb, _⟩ := a
  refine ⟨fun w hw => ?_, fun y hy => ?_⟩
  · by_cases c : w < 2 * n + 2
    · have e : maddr mr r b n w = twoAddr r b w := if_pos c
      rw [e]
      exact ⟨(hb.1 w c).1, s1.o2 _ _ _ (s2.o1 _ _ _ (hb.1 w c).2)⟩
    · have e : maddr mr r b n w = (mr, w - (2 * n + 2)) := if_neg c
      have e0 : seqs n w = 0 := if_neg (by omega)
      rw [e, e0]
      refine ⟨by omega, s1.o1 _ _ _ ?_⟩
      have hc : w - (2 * n + 2) = 0 ∨ w - (2 * n + 2) = 1 ∨ w - (2 * n + 2) = 2 := by omega
      rcases hc with e2 | e2 | e2 <;> (rw [e2]; simpa using ha _ _ rfl)
  · simp only [mK, List.mem_cons, List.not_mem_nil, or_false] at hy
    rcases hy with rfl | rfl | rfl
    · exact s1.o2 _ _ _ (s2.o1 _ _ _ (hb.2 _ (List.mem_singleton.2 rfl)))
    · exact s1.o1 _ _ _ (by simpa using ha 3 _ rfl)
    · exact s1.o1 _ _ _ (by simpa using ha 4 _ rfl)

theorem mnew_tr (hn : n = 2 ^ k) (hk0 : 1 ≤ k) (hk : k ≤ 10) : Tr Try.prog B 8 [.int .i64 n] L x fun v L' x' => ∃ mr r b nc, r ≠ b ∧ mr ≠ r ∧ mr ≠ b ∧ v = .tuple #[.pointer (some ⟨mr, 0, none⟩), .int .i64 0] ∧ L' = wds (maddr mr r b n) (2 * n + 5) (mK mr r b n nc) (seqs n) :: newsC nc :: L ∧ x' = x := by
  refine Tr.post (R := fun v L' x' => ∃ mr r b nc, r ≠ b ∧ mr ≠ r ∧ mr ≠ b ∧ v = .tuple #[.pointer (some ⟨mr, 0, none⟩), .int .i64 0] ∧ x' = x ∧ ∀ h, Star L' h → Star (wds (maddr mr r b n) (2 * n + 5) (mK mr r b n nc) (seqs n) :: newsC nc :: L) h) ?_
    (by rintro v L' x' ⟨mr, r, b, nc, h1, h2, h3, rfl, rfl, h4⟩; exact ⟨_, ⟨mr, r, b, nc, h1, h2, h3, rfl, rfl, rfl⟩, h4⟩)
  refine tr_of_body Try.func8 rfl Try.ntmps8 (by simp) fun um Q hQ => ?_
  simp only [argE, Nat.zero_add, Nat.reduceAdd]
  repeat (first
    | refine we_seq ?_
    | (refine we_region _ rfl rfl ?_; simp only [opsOf, List.map_cons, List.map_nil, Option.map_none, Option.map_some, List.getElem?_toArray, List.getElem?_cons_zero, List.getElem?_cons_succ, Option.bind_some, Option.getD_some])
    | refine wo_nil ?_
    | (apply wo_po; apply mo_move; exact rfl; (first | exact trivial | exact rfl))
    | (apply wo_po; apply mo_assign; exact rfl; (first | exact trivial | exact rfl)))
  refine wo_call (.cons rfl .nil) trivial (new_tr hn hk0 hk) ?_
  rintro v' L' x' ⟨r, b, rfl, hrb, rfl, rfl⟩
  repeat (first
    | (apply wo_mo; apply mo_makeChan (m := 1); exact rfl; omega; omega; exact trivial)
    | (apply wo_po; apply mo_bin; exact rfl; exact rfl; apply bin_neqF; omega; (first | exact trivial | exact rfl))
    | refine we_seq ?_
    | (refine we_region _ rfl rfl ?_; simp only [opsOf, List.map_cons, List.map_nil, Option.map_none, Option.map_some, List.getElem?_toArray, List.getElem?_cons_zero, List.getElem?_cons_succ, Option.bind_some, Option.getD_some])
    | refine wo_nil ?_
    | (apply wo_po; apply mo_move; exact rfl; (first | exact trivial | exact rfl))
    | (apply wo_po; apply mo_assign; exact rfl; (first | exact trivial | exact rfl))
    | (apply wo_po; apply mo_extract; exact rfl; exact rfl; (first | exact trivial | exact rfl))
    | (apply we_condF; exact rfl; (first | exact rfl | (simp <;> omega) | omega))
    | refine we_skip ?_)
  rintro v' L' ⟨nc, rfl, rfl⟩
  repeat (first
    | (apply wo_po; apply mo_build (pv := [(1, _), (2, _)]); exact rfl; exact .cons rfl (.cons rfl .nil); exact rfl; exact trivial)
    | (apply wo_mo; apply mo_box; exact rfl; exact trivial))
  rintro v' L' ⟨mr, rfl, rfl⟩
  refine wo_ent (arr mr 0 [.int .u64 0, .int .u64 0, .int .u64 0, .pointer (some ⟨r, 0, none⟩), .chan (some nc)] :: chC nc 1 #[] 0 0 :: wds (twoAddr r b) (2 * n + 2) [(r, 2, .slice (some ⟨b, 0, none⟩) n n)] (seqs n) :: L) .refl ?_
  refine wo_pure (p := mr ≠ r ∧ mr ≠ b) (fun h st => ⟨fun e => arr_ne_wds st (w := 0) (by omega) (by rw [e]; rfl), fun e => arr_ne_wds st (w := 2) (by rw [hn]; have := Nat.one_le_two_pow (n := k); omega) (by rw [e]; rfl)⟩) fun hne => ?_
  repeat (first
    | refine wo_nil ?_
    | (apply wo_po; apply mo_assign; exact rfl; (first | exact trivial | exact rfl))
    | refine we_ret ?_)
  (first | refine at_ret2 (ex := .ret) Try.func8 Try.results8 hQ (.inl rfl) rfl rfl ?_ | refine at_ret2 (ex := .normal) Try.func8 Try.results8 hQ (.inr rfl) rfl rfl ?_)
  exact ⟨mr, r, b, nc, hrb, hne.1, hne.2, rfl, rfl, fun h st => mir_wds st⟩

theorem mnew_no {n : Int} (h : ¬ ∃ k : Nat, 1 ≤ k ∧ k ≤ 10 ∧ n = ((2 ^ k : Nat) : Int)) : Tr Try.prog B 8 [.int .i64 n] L x fun v L' x' => v = .tuple #[.pointer none, .int .i64 2] ∧ L' = L ∧ x' = x := by
  refine tr_of_body Try.func8 rfl Try.ntmps8 (by simp) fun um Q hQ => ?_
  simp only [argE, Nat.zero_add, Nat.reduceAdd]
  repeat (first
    | refine we_seq ?_
    | (refine we_region _ rfl rfl ?_; simp only [opsOf, List.map_cons, List.map_nil, Option.map_none, Option.map_some, List.getElem?_toArray, List.getElem?_cons_zero, List.getElem?_cons_succ, Option.bind_some, Option.getD_some])
    | refine wo_nil ?_
    | (apply wo_po; apply mo_move; exact rfl; (first | exact trivial | exact rfl))
    | (apply wo_po; apply mo_assign; exact rfl; (first | exact trivial | exact rfl)))
  refine wo_call (.cons rfl .nil) trivial (new_nopow h) ?_
  rintro v' L' x' ⟨rfl, rfl, rfl⟩
  repeat (first
    | (apply wo_po; apply mo_bin; exact rfl; exact rfl; apply bin_neqT; omega; (first | exact trivial | exact rfl))
    | refine we_seq ?_
    | (refine we_region _ rfl rfl ?_; simp only [opsOf, List.map_cons, List.map_nil, Option.map_none, Option.map_some, List.getElem?_toArray, List.getElem?_cons_zero, List.getElem?_cons_succ, Option.bind_some, Option.getD_some])
    | refine wo_nil ?_
    | (apply wo_po; apply mo_move; exact rfl; (first | exact trivial | exact rfl))
    | (apply wo_po; apply mo_assign; exact rfl; (first | exact trivial | exact rfl))
    | (apply wo_po; apply mo_extract; exact rfl; exact rfl; (first | exact trivial | exact rfl))
    | (apply we_condT; exact rfl; (first | exact rfl | (simp <;> omega) | omega))
    | refine we_ret ?_)
  (first | refine at_ret2 (ex := .ret) Try.func8 Try.results8 hQ (.inl rfl) rfl rfl ?_ | refine at_ret2 (ex := .normal) Try.func8 Try.results8 hQ (.inr rfl) rfl rfl ?_)
  exact ⟨rfl, rfl, rfl⟩

variable {f : Nat → Nat} {row : List Nat} {ap : Apart (maddr mr r b n) (2 * n + 5) (mK mr r b n nc)}
theorem offer_lone {v : Nat} (hn : n = 2 ^ k) (hk0 : 1 ≤ k) (hk : k ≤ 10) (R : RowAt n f row) {G : Bool → (Nat → Nat) → Prop}
    (g : ∀ f', RowAt n f' (if row.length < n then row ++ [v] else row) → f' (2 * n + 2) = (f (2 * n + 2) + 1) % 18446744073709551616 → f' (2 * n + 3) = (if row.length < n then f (2 * n + 3) else (f (2 * n + 3) + 1) % 18446744073709551616) → f' (2 * n + 4) = f (2 * n + 4) → G (decide (row.length < n)) f') :
    OfferT (mirLone x mr r b n nc ap) n v f G := by
  have hpos : 2 ≤ n := by have := Nat.pow_le_pow_right (n := 2) (by omega) hk0; omega
  refine offer_with (A := loneAcc x (maddr mr r b n) (2 * n + 5) (mK mr r b n nc) ap) ?_
  refine ⟨by show 2 * n + 2 + 0 < 2 * n + 5; omega, ?_⟩
  refine put_rowG (x := x) (ap := ap) (N := 2 * n + 5) (by omega) hn hk0 hk (rowAt_same (q := 2 * n + 2) (by omega) (Nat.le_refl _) R) fun f' R' hs => ?_
  have e0 := hs (2 * n + 2) (by omega)
  have e1 := hs (2 * n + 3) (by omega)
  have e2 := hs (2 * n + 4) (by omega)
  rw [upd_same] at e0
  rw [upd_other (by omega)] at e1 e2
  by_cases c : row.length < n
  · rw [if_pos c] at R' g
    rw [decide_eq_true c] at g ⊢
    rw [if_pos rfl]
    exact g f' R' e0 (by rw [if_pos c]; exact e1) e2
  · rw [if_neg c] at R' g
    rw [decide_eq_false c] at g ⊢
    rw [if_neg (by decide)]
    refine ⟨by show 2 * n + 2 + 1 < 2 * n + 5; omega, ?_⟩
    refine g _ (rowAt_same (by omega) (by omega) R') ?_ ?_ ?_
    · rw [upd_other (by omega)]; exact e0
    · rw [if_neg c, upd_same, show 2 * n + 2 + 1 = 2 * n + 3 from rfl, e1]
    · rw [upd_other (by omega)]; exact e2
theorem take_lone (hn : n = 2 ^ k) (hk0 : 1 ≤ k) (hk : k ≤ 10) (R : RowAt n f row) {G : Option Nat → (Nat → Nat) → Prop}
    (g : ∀ f', RowAt n f' row.tail → f' (2 * n + 2) = f (2 * n + 2) → f' (2 * n + 3) = f (2 * n + 3) → f' (2 * n + 4) = (if row = [] then f (2 * n + 4) else (f (2 * n + 4) + 1) % 18446744073709551616) → G row.head? f') :
    MTakeT (mirLone x mr r b n nc ap) n f G := by
  have hpos : 2 ≤ n := by have := Nat.pow_le_pow_right (n := 2) (by omega) hk0; omega
  refine mtake_with (A := loneAcc x (maddr mr r b n) (2 * n + 5) (mK mr r b n nc) ap) ?_
  refine take_rowG (x := x) (ap := ap) (N := 2 * n + 5) (by omega) hn hk0 hk R fun f' R' hs => ?_
  have e0 := hs (2 * n + 2) (by omega)
  have e1 := hs (2 * n + 3) (by omega)
  have e2 := hs (2 * n + 4) (by omega)
  cases row with
  | nil => exact g f' R' e0 e1 (by rw [if_pos rfl]; exact e2)
  | cons y l =>
    refine ⟨by show 2 * n + 2 + 2 < 2 * n + 5; omega, ?_⟩
    refine g _ (rowAt_same (by omega) (by omega) R') ?_ ?_ ?_
    · rw [upd_other (by omega)]; exact e0
    · rw [upd_other (by omega)]; exact e1
    · rw [if_neg (by simp), upd_same, show 2 * n + 2 + 2 = 2 * n + 4 from rfl, e2]
theorem counts_lone {G : Nat → Nat → Nat → (Nat → Nat) → Prop} (g : G (f (2 * n + 2)) (f (2 * n + 3)) (f (2 * n + 4)) f) : CountsT (mirLone x mr r b n nc ap) n f G :=
  ⟨by show 2 * n + 2 + 0 < 2 * n + 5; omega, by show 2 * n + 2 + 1 < 2 * n + 5; omega, by show 2 * n + 2 + 2 < 2 * n + 5; omega, g⟩
end
end Go.Proofs.Ytmkkanmkjfnpdaa
