/-
  A CELL's calls with notes; patchbaylaw03: done, call.
-/
import Derived.Test.YtkgnkloonamheaaRef03
import Derived.Test.YtkgnkloonamheaaCellB
set_option linter.unusedVariables false
set_option linter.unusedSimpArgs false
namespace Go.Proofs.Ytkgnkloonamheaa
open Go Go.PB
attribute [local irreducible] Mo Bin Eql Tr Wo Ap Wle

section
variable {B : Hand} [Lets B] {x : B.X} {r nb c n mo cb v u nm : Nat} {L F : List HProp} {s : Nat → Nat} {ms : List (Int × Nat)}

def cAddr (r : Nat) (_ : Nat) : Nat × Nat := (r, 1)
def cK (r : Nat) : List (Nat × Nat × Value) := [(r, 0, .bool true)]
theorem c_apart (r : Nat) : Apart (cAddr r) 1 (cK r) where
  inj := fun i j hi hj _ => by omega
  fix := fun i _ k hk => by simp only [cK, List.mem_singleton] at hk; subst hk; simp [cAddr]
def cNotes (x : B.X) (r nb : Nat) : Acc B (.iface 40 (.pointer (some ⟨nb, 0, none⟩))) := notesAcc x (cAddr r) 1 (cK r) (c_apart r) nb

theorem cn_at : CntAt (cNotes x r nb) r := ⟨fun s h st => by
    have st2 := star_open st
    obtain ⟨h1, h2, s1, hc, _⟩ := st2
    exact ⟨rfl, .inl (s1.o1 _ _ _ (hc.2 (r, 0, .bool true) (List.mem_singleton.2 rfl)))⟩, rfl⟩

theorem acc_in (hc : c < 18446744073709551616) {h : Hp} (st : Star (arr r 0 [.bool true, .int .u64 (c : Nat)] :: notesC nb ms :: F) h) : Star ((cNotes x r nb).C (fun _ => c, ms) :: F) h := by
  refine star_shut (M := [_, _]) (star_map st (fun h a => ⟨fun w hw => ⟨hc, a 1 _ rfl⟩, fun k hk => ?_⟩) (fun _ y => y))
  simp only [cK, List.mem_singleton] at hk
  subst hk
  exact a 0 _ rfl

theorem acc_out {h : Hp} (st : Star ((cNotes x r nb).C (s, ms) :: F) h) : Star (arr r 0 [.bool true, .int .u64 (s 0 : Nat)] :: notesC nb ms :: F) h := by
  refine star_map (star_open (M := [_, _]) st) (fun h a i v hv => ?_) (fun _ y => y)
  match i, hv with
  | 0, hv => cases hv; exact a.2 (r, 0, .bool true) (List.mem_singleton.2 rfl)
  | 1, hv => cases hv; exact (a.1 0 (by omega)).2

/-- a gate, and no word -/
def gOnly (x : B.X) (nb : Nat) : Acc B (.iface 40 (.pointer (some ⟨nb, 0, none⟩))) := notesAcc x (fun _ => (0, 0)) 0 [] ⟨fun i j hi _ _ => by omega, fun i hi _ _ => by omega⟩ nb
theorem g_in {h : Hp} (st : Star (notesC nb ms :: F) h) : Star ((gOnly x nb).C (fun _ => 0, ms) :: F) h :=
  star_shut (M := [_, _]) (star_map (vec_nil (sz := 1) st) (fun _ _ => ⟨fun w hw => by omega, fun k hk => by cases hk⟩) (fun _ y => y))
theorem g_out {h : Hp} (st : Star ((gOnly x nb).C (s, ms) :: F) h) : Star (notesC nb ms :: F) h := star_drop (star_open (M := [_, _]) st)

theorem get_n (hc : c < 18446744073709551616) : Tr Try.prog B 26 [.pointer (some ⟨r, 0, none⟩), .iface 40 (.pointer (some ⟨nb, 0, none⟩))] (arr r 0 [.bool true, .int .u64 (c : Nat)] :: notesC nb [] :: F) x fun w L' x' => w = .tuple #[.int .u64 (c : Nat), .int .i64 0] ∧ L' = arr r 0 [.bool true, .int .u64 (c : Nat)] :: notesC nb [(1, 0)] :: F ∧ x' = x := by
  refine tr_star ((cNotes x r nb).C (fun _ => c, []) :: F) (fun h st => acc_in hc st) ?_
  refine (cget_tr (A := cNotes x r nb) cn_at (s := (fun _ => c, [])) (Q := fun o s' => o = c ∧ s' = (fun _ => c, [(1, 0)])) ⟨by show 0 < _; omega, by show 0 < 1; omega, rfl, rfl⟩ .here).post ?_
  · rintro w L' x' ⟨o, s', _, ⟨rfl, rfl⟩, rfl, rfl, rfl⟩
    exact ⟨_, ⟨rfl, rfl, rfl⟩, fun h st => acc_out st⟩

theorem add_n (hc : c < 18446744073709551616) (hn : n < 18446744073709551616) : Tr Try.prog B 35 [.pointer (some ⟨r, 0, none⟩), .iface 40 (.pointer (some ⟨nb, 0, none⟩)), .int .u64 (n : Nat)] (arr r 0 [.bool true, .int .u64 (c : Nat)] :: notesC nb [] :: F) x fun w L' x' => w = .tuple #[.int .u64 ((c + n) % 18446744073709551616 : Nat), .int .i64 0] ∧ L' = arr r 0 [.bool true, .int .u64 ((c + n) % 18446744073709551616 : Nat)] :: notesC nb [(3, 0)] :: F ∧ x' = x := by
  refine tr_star ((cNotes x r nb).C (fun _ => c, []) :: F) (fun h st => acc_in hc st) ?_
  refine (cadd_tr (A := cNotes x r nb) cn_at hn (s := (fun _ => c, [])) (Q := fun o s' => o = (c + n) % 18446744073709551616 ∧ s' = (upd (fun _ => c) 0 ((c + n) % 18446744073709551616), [(3, 0)])) ⟨by show 0 < _; omega, by show 0 < 1; omega, rfl, rfl⟩ .here).post ?_
  · rintro w L' x' ⟨o, s', _, ⟨rfl, rfl⟩, rfl, rfl, rfl⟩
    exact ⟨_, ⟨rfl, rfl, rfl⟩, fun h st => acc_out st⟩

theorem fget_n (hc : c < 18446744073709551616) : Tr Try.prog B 30 [.pointer (some ⟨r, 0, none⟩), .iface 40 (.pointer (some ⟨nb, 0, none⟩))] (arr r 0 [.bool true, .int .u64 (c : Nat)] :: notesC nb [] :: F) x fun w L' x' => w = .tuple #[.bool (decide (((c : Nat) : Int) = 1)), .int .i64 0] ∧ L' = arr r 0 [.bool true, .int .u64 (c : Nat)] :: notesC nb [(1, 0)] :: F ∧ x' = x := by
  refine tr_star ((cNotes x r nb).C (fun _ => c, []) :: F) (fun h st => acc_in hc st) ?_
  refine (fget_tr (A := cNotes x r nb) cn_at (s := (fun _ => c, [])) (Q := fun o s' => o = c ∧ s' = (fun _ => c, [(1, 0)])) ⟨by show 0 < _; omega, by show 0 < 1; omega, rfl, rfl⟩ .here).post ?_
  · rintro w L' x' ⟨o, s', _, ⟨rfl, rfl⟩, rfl, rfl, rfl⟩
    exact ⟨_, ⟨rfl, rfl, rfl⟩, fun h st => acc_out st⟩

theorem fset_n (hc : c < 18446744073709551616) : Tr Try.prog B 28 [.pointer (some ⟨r, 0, none⟩), .iface 40 (.pointer (some ⟨nb, 0, none⟩))] (arr r 0 [.bool true, .int .u64 (c : Nat)] :: notesC nb [] :: F) x fun w L' x' => w = .tuple #[.bool (!decide (((c : Nat) : Int) = 1)), .int .i64 0] ∧ L' = arr r 0 [.bool true, .int .u64 (1 : Nat)] :: notesC nb [(4, 0)] :: F ∧ x' = x := by
  refine tr_star ((cNotes x r nb).C (fun _ => c, []) :: F) (fun h st => acc_in hc st) ?_
  refine (fset_tr (A := cNotes x r nb) cn_at (s := (fun _ => c, [])) (Q := fun o s' => o = c ∧ s' = (upd (fun _ => c) 0 1, [(4, 0)])) ⟨by show 0 < _; omega, by show 0 < 1; omega, rfl, rfl⟩ .here).post ?_
  · rintro w L' x' ⟨o, s', _, ⟨rfl, rfl⟩, rfl, rfl, rfl⟩
    exact ⟨_, ⟨rfl, rfl, rfl⟩, fun h st => acc_out st⟩

theorem fclear_n (hc : c < 18446744073709551616) : Tr Try.prog B 70 [.pointer (some ⟨r, 0, none⟩), .iface 40 (.pointer (some ⟨nb, 0, none⟩))] (arr r 0 [.bool true, .int .u64 (c : Nat)] :: notesC nb [] :: F) x fun w L' x' => w = .tuple #[.bool (!decide (((c : Nat) : Int) = 0)), .int .i64 0] ∧ L' = arr r 0 [.bool true, .int .u64 (0 : Nat)] :: notesC nb [(4, 0)] :: F ∧ x' = x := by
  refine tr_star ((cNotes x r nb).C (fun _ => c, []) :: F) (fun h st => acc_in hc st) ?_
  refine (fclear_tr (A := cNotes x r nb) cn_at (s := (fun _ => c, [])) (Q := fun o s' => o = c ∧ s' = (upd (fun _ => c) 0 0, [(4, 0)])) ⟨by show 0 < _; omega, by show 0 < 1; omega, rfl, rfl⟩ .here).post ?_
  · rintro w L' x' ⟨o, s', _, ⟨rfl, rfl⟩, rfl, rfl, rfl⟩
    exact ⟨_, ⟨rfl, rfl, rfl⟩, fun h st => acc_out st⟩

theorem changeT_n {G : Nat → Nat × Bool} {T : Nat → Bool → (cNotes x r nb).S → Prop} (h : if (G c).2 = true then T (G c).1 true (upd (fun _ => c) 0 (G c).1, [(1, 0), (5, 0)]) else T c false (fun _ => c, [(1, 0)])) : ChangeT (cNotes x r nb) G (fun _ => c, []) T := by
  intro X hX
  refine hX _ ⟨by show 0 < _; omega, by show 0 < 1; omega, ?_⟩
  show if (G c).2 = true then _ else _
  by_cases g : (G c).2 = true
  · rw [if_pos g] at h ⊢
    refine ⟨by show 1 < _; omega, by show 0 < 1; omega, ?_⟩
    rw [if_pos rfl]
    exact (iff_of_eq (if_pos rfl)).mpr h
  · rw [if_neg g] at h ⊢
    exact h

theorem up_yes (hc : c < 18446744073709551616) (hn : n < 18446744073709551616) (hm : mo < 18446744073709551616) (hq : n ≤ mo ∧ c ≤ mo - n) : Tr Try.prog B 25 [.pointer (some ⟨r, 0, none⟩), .iface 40 (.pointer (some ⟨nb, 0, none⟩)), .int .u64 (n : Nat), .int .u64 (mo : Nat)] (arr r 0 [.bool true, .int .u64 (c : Nat)] :: notesC nb [] :: F) x fun w L' x' => w = .tuple #[.int .u64 ((c + n : Nat) : Int), .bool true, .int .i64 0] ∧ L' = arr r 0 [.bool true, .int .u64 (c + n : Nat)] :: notesC nb [(1, 0), (5, 0)] :: F ∧ x' = x := by
  refine tr_star ((cNotes x r nb).C (fun _ => c, []) :: F) (fun h st => acc_in hc st) ?_
  have hG : upG n mo c = (c + n, true) := by
    refine Prod.ext ?_ (decide_eq_true hq)
    simp only [upG, downG, maxG]
    try omega
  refine (cup_tr (A := cNotes x r nb) cn_at hn hm (s := (fun _ => c, [])) (Q := fun o q s' => o = c + n ∧ q = true ∧ s' = (upd (fun _ => c) 0 (c + n), [(1, 0), (5, 0)])) (changeT_n (by rw [hG]; exact ⟨rfl, rfl, rfl⟩)) .here).post ?_
  rintro w L' x' ⟨o, q, s', ⟨rfl, rfl, rfl⟩, rfl, rfl, rfl⟩
  exact ⟨_, ⟨rfl, rfl, rfl⟩, fun h st => acc_out st⟩

theorem up_no (hc : c < 18446744073709551616) (hn : n < 18446744073709551616) (hm : mo < 18446744073709551616) (hq : ¬ (n ≤ mo ∧ c ≤ mo - n)) : Tr Try.prog B 25 [.pointer (some ⟨r, 0, none⟩), .iface 40 (.pointer (some ⟨nb, 0, none⟩)), .int .u64 (n : Nat), .int .u64 (mo : Nat)] (arr r 0 [.bool true, .int .u64 (c : Nat)] :: notesC nb [] :: F) x fun w L' x' => w = .tuple #[.int .u64 ((c : Nat) : Int), .bool false, .int .i64 0] ∧ L' = arr r 0 [.bool true, .int .u64 (c : Nat)] :: notesC nb [(1, 0)] :: F ∧ x' = x := by
  refine tr_star ((cNotes x r nb).C (fun _ => c, []) :: F) (fun h st => acc_in hc st) ?_
  have hG : (upG n mo c).2 = false := decide_eq_false hq
  refine (cup_tr (A := cNotes x r nb) cn_at hn hm (s := (fun _ => c, [])) (Q := fun o q s' => o = c ∧ q = false ∧ s' = (fun _ => c, [(1, 0)])) (changeT_n (by rw [hG]; exact ⟨rfl, rfl, rfl⟩)) .here).post ?_
  rintro w L' x' ⟨o, q, s', ⟨rfl, rfl, rfl⟩, rfl, rfl, rfl⟩
  exact ⟨_, ⟨rfl, rfl, rfl⟩, fun h st => acc_out st⟩

theorem down_yes (hc : c < 18446744073709551616) (hn : n < 18446744073709551616) (hq : n ≤ c) : Tr Try.prog B 24 [.pointer (some ⟨r, 0, none⟩), .iface 40 (.pointer (some ⟨nb, 0, none⟩)), .int .u64 (n : Nat)] (arr r 0 [.bool true, .int .u64 (c : Nat)] :: notesC nb [] :: F) x fun w L' x' => w = .tuple #[.int .u64 ((c - n : Nat) : Int), .bool true, .int .i64 0] ∧ L' = arr r 0 [.bool true, .int .u64 (c - n : Nat)] :: notesC nb [(1, 0), (5, 0)] :: F ∧ x' = x := by
  refine tr_star ((cNotes x r nb).C (fun _ => c, []) :: F) (fun h st => acc_in hc st) ?_
  have hG : downG n c = (c - n, true) := by
    refine Prod.ext ?_ (decide_eq_true hq)
    simp only [upG, downG, maxG]
    try omega
  refine (cdown_tr (A := cNotes x r nb) cn_at hn (s := (fun _ => c, [])) (Q := fun o q s' => o = c - n ∧ q = true ∧ s' = (upd (fun _ => c) 0 (c - n), [(1, 0), (5, 0)])) (changeT_n (by rw [hG]; exact ⟨rfl, rfl, rfl⟩)) .here).post ?_
  rintro w L' x' ⟨o, q, s', ⟨rfl, rfl, rfl⟩, rfl, rfl, rfl⟩
  exact ⟨_, ⟨rfl, rfl, rfl⟩, fun h st => acc_out st⟩

theorem down_no (hc : c < 18446744073709551616) (hn : n < 18446744073709551616) (hq : ¬ (n ≤ c)) : Tr Try.prog B 24 [.pointer (some ⟨r, 0, none⟩), .iface 40 (.pointer (some ⟨nb, 0, none⟩)), .int .u64 (n : Nat)] (arr r 0 [.bool true, .int .u64 (c : Nat)] :: notesC nb [] :: F) x fun w L' x' => w = .tuple #[.int .u64 ((c : Nat) : Int), .bool false, .int .i64 0] ∧ L' = arr r 0 [.bool true, .int .u64 (c : Nat)] :: notesC nb [(1, 0)] :: F ∧ x' = x := by
  refine tr_star ((cNotes x r nb).C (fun _ => c, []) :: F) (fun h st => acc_in hc st) ?_
  have hG : (downG n c).2 = false := decide_eq_false hq
  refine (cdown_tr (A := cNotes x r nb) cn_at hn (s := (fun _ => c, [])) (Q := fun o q s' => o = c ∧ q = false ∧ s' = (fun _ => c, [(1, 0)])) (changeT_n (by rw [hG]; exact ⟨rfl, rfl, rfl⟩)) .here).post ?_
  rintro w L' x' ⟨o, q, s', ⟨rfl, rfl, rfl⟩, rfl, rfl, rfl⟩
  exact ⟨_, ⟨rfl, rfl, rfl⟩, fun h st => acc_out st⟩

theorem max_yes (hc : c < 18446744073709551616) (hn : n < 18446744073709551616) (hq : c < n) : Tr Try.prog B 29 [.pointer (some ⟨r, 0, none⟩), .iface 40 (.pointer (some ⟨nb, 0, none⟩)), .int .u64 (n : Nat)] (arr r 0 [.bool true, .int .u64 (c : Nat)] :: notesC nb [] :: F) x fun w L' x' => w = .tuple #[.bool true, .int .i64 0] ∧ L' = arr r 0 [.bool true, .int .u64 (n : Nat)] :: notesC nb [(1, 0), (5, 0)] :: F ∧ x' = x := by
  refine tr_star ((cNotes x r nb).C (fun _ => c, []) :: F) (fun h st => acc_in hc st) ?_
  have hG : maxG n c = (n, true) := by
    refine Prod.ext ?_ (decide_eq_true hq)
    simp only [upG, downG, maxG]
    try omega
  refine (cmax_tr (A := cNotes x r nb) cn_at hn (s := (fun _ => c, [])) (Q := fun o q s' => o = n ∧ q = true ∧ s' = (upd (fun _ => c) 0 (n), [(1, 0), (5, 0)])) (changeT_n (by rw [hG]; exact ⟨rfl, rfl, rfl⟩)) .here).post ?_
  rintro w L' x' ⟨o, q, s', ⟨rfl, rfl, rfl⟩, rfl, rfl, rfl⟩
  exact ⟨_, ⟨rfl, rfl, rfl⟩, fun h st => acc_out st⟩

theorem max_no (hc : c < 18446744073709551616) (hn : n < 18446744073709551616) (hq : ¬ (c < n)) : Tr Try.prog B 29 [.pointer (some ⟨r, 0, none⟩), .iface 40 (.pointer (some ⟨nb, 0, none⟩)), .int .u64 (n : Nat)] (arr r 0 [.bool true, .int .u64 (c : Nat)] :: notesC nb [] :: F) x fun w L' x' => w = .tuple #[.bool false, .int .i64 0] ∧ L' = arr r 0 [.bool true, .int .u64 (c : Nat)] :: notesC nb [(1, 0)] :: F ∧ x' = x := by
  refine tr_star ((cNotes x r nb).C (fun _ => c, []) :: F) (fun h st => acc_in hc st) ?_
  have hG : (maxG n c).2 = false := decide_eq_false hq
  refine (cmax_tr (A := cNotes x r nb) cn_at hn (s := (fun _ => c, [])) (Q := fun o q s' => o = c ∧ q = false ∧ s' = (fun _ => c, [(1, 0)])) (changeT_n (by rw [hG]; exact ⟨rfl, rfl, rfl⟩)) .here).post ?_
  rintro w L' x' ⟨o, q, s', ⟨rfl, rfl, rfl⟩, rfl, rfl, rfl⟩
  exact ⟨_, ⟨rfl, rfl, rfl⟩, fun h st => acc_out st⟩

theorem bget_n : Tr Try.prog B 50 [.pointer (some ⟨r, 0, none⟩), .iface 40 (.pointer (some ⟨nb, 0, none⟩))] (notesC nb [] :: arr r 0 [.pointer (some ⟨cb, 0, none⟩)] :: arr cb 0 [.int .u32 (v : Nat), .int .u64 ((nm : Nat) : Int)] :: shpC cb 158 2 :: F) x fun w L' x' => w = .tuple #[.int .u32 (v : Nat), .int .u64 (nm : Nat), .int .i64 0] ∧ L' = notesC nb [(1, 0)] :: arr r 0 [.pointer (some ⟨cb, 0, none⟩)] :: arr cb 0 [.int .u32 (v : Nat), .int .u64 ((nm : Nat) : Int)] :: shpC cb 158 2 :: F ∧ x' = x := by
  refine tr_star ((gOnly x nb).C (fun _ => 0, []) :: arr r 0 [.pointer (some ⟨cb, 0, none⟩)] :: arr cb 0 [.int .u32 (v : Nat), .int .u64 ((nm : Nat) : Int)] :: shpC cb 158 2 :: F) (fun h st => g_in st) ?_
  refine (bget_tr (A := gOnly x nb) (cb := cb) (v := v) (num := nm) (F := F) (s := (fun _ => 0, [])) (Q := fun s' => s' = (fun _ => 0, [(1, 0)])) ⟨by show 0 < _; omega, rfl⟩).post ?_
  rintro w L' x' ⟨s', rfl, rfl, rfl, rfl⟩
  exact ⟨_, ⟨rfl, rfl, rfl⟩, fun h st => g_out st⟩

theorem bput_n (hn : nm + 1 < 18446744073709551616) : Tr Try.prog B 49 [.pointer (some ⟨r, 0, none⟩), .iface 40 (.pointer (some ⟨nb, 0, none⟩)), .int .u32 (u : Nat)] (notesC nb [] :: arr r 0 [.pointer (some ⟨cb, 0, none⟩)] :: arr cb 0 [.int .u32 (v : Nat), .int .u64 ((nm : Nat) : Int)] :: shpC cb 158 2 :: F) x fun w L' x' => ∃ cb', w = .tuple #[.int .u64 ((nm + 1 : Nat) : Int), .int .i64 0] ∧ L' = notesC nb [(1, 0), (5, 0)] :: arr r 0 [.pointer (some ⟨cb', 0, none⟩)] :: arr cb' 0 [.int .u32 (u : Nat), .int .u64 ((nm + 1 : Nat) : Int)] :: shpC cb' 158 2 :: F ∧ x' = x := by
  refine tr_star ((gOnly x nb).C (fun _ => 0, []) :: arr r 0 [.pointer (some ⟨cb, 0, none⟩)] :: arr cb 0 [.int .u32 (v : Nat), .int .u64 ((nm : Nat) : Int)] :: shpC cb 158 2 :: F) (fun h st => g_in st) ?_
  refine (bput_tr (A := gOnly x nb) (cb := cb) (v := v) (num := nm) (F := F) hn (s := (fun _ => 0, [])) (Q := fun s' => s' = (fun _ => 0, [(1, 0), (5, 0)])) ⟨by show 0 < _; omega, by show 1 < _; omega, rfl⟩).post ?_
  rintro w L' x' ⟨s', cb', rfl, rfl, rfl, rfl⟩
  exact ⟨_, ⟨cb', rfl, rfl, rfl⟩, fun h st => g_out st⟩

theorem btry_n_yes (hn : nm + 1 < 18446744073709551616) : Tr Try.prog B 71 [.pointer (some ⟨r, 0, none⟩), .iface 40 (.pointer (some ⟨nb, 0, none⟩)), .int .u64 (nm : Nat), .int .u32 (u : Nat)] (notesC nb [] :: arr r 0 [.pointer (some ⟨cb, 0, none⟩)] :: arr cb 0 [.int .u32 (v : Nat), .int .u64 ((nm : Nat) : Int)] :: shpC cb 158 2 :: F) x fun w L' x' => ∃ cb', w = .tuple #[.bool true, .int .i64 0] ∧ L' = notesC nb [(1, 0), (5, 0)] :: arr r 0 [.pointer (some ⟨cb', 0, none⟩)] :: arr cb' 0 [.int .u32 (u : Nat), .int .u64 ((nm + 1 : Nat) : Int)] :: shpC cb' 158 2 :: F ∧ x' = x := by
  refine tr_star ((gOnly x nb).C (fun _ => 0, []) :: arr r 0 [.pointer (some ⟨cb, 0, none⟩)] :: arr cb 0 [.int .u32 (v : Nat), .int .u64 ((nm : Nat) : Int)] :: shpC cb 158 2 :: F) (fun h st => g_in st) ?_
  refine (btry_yes (A := gOnly x nb) (cb := cb) (v := v) (num := nm) (F := F) hn (s := (fun _ => 0, [])) (Q := fun s' => s' = (fun _ => 0, [(1, 0), (5, 0)])) ⟨by show 0 < _; omega, by show 1 < _; omega, rfl⟩).post ?_
  rintro w L' x' ⟨s', cb', rfl, rfl, rfl, rfl⟩
  exact ⟨_, ⟨cb', rfl, rfl, rfl⟩, fun h st => g_out st⟩

theorem btry_n_no (hn : ¬ nm = n) : Tr Try.prog B 71 [.pointer (some ⟨r, 0, none⟩), .iface 40 (.pointer (some ⟨nb, 0, none⟩)), .int .u64 (n : Nat), .int .u32 (u : Nat)] (notesC nb [] :: arr r 0 [.pointer (some ⟨cb, 0, none⟩)] :: arr cb 0 [.int .u32 (v : Nat), .int .u64 ((nm : Nat) : Int)] :: shpC cb 158 2 :: F) x fun w L' x' => w = .tuple #[.bool false, .int .i64 0] ∧ L' = notesC nb [(1, 0)] :: arr r 0 [.pointer (some ⟨cb, 0, none⟩)] :: arr cb 0 [.int .u32 (v : Nat), .int .u64 ((nm : Nat) : Int)] :: shpC cb 158 2 :: F ∧ x' = x := by
  refine tr_star ((gOnly x nb).C (fun _ => 0, []) :: arr r 0 [.pointer (some ⟨cb, 0, none⟩)] :: arr cb 0 [.int .u32 (v : Nat), .int .u64 ((nm : Nat) : Int)] :: shpC cb 158 2 :: F) (fun h st => g_in st) ?_
  refine (btry_no (A := gOnly x nb) (cb := cb) (v := v) (num := nm) (F := F) hn (s := (fun _ => 0, [])) (Q := fun s' => s' = (fun _ => 0, [(1, 0)])) ⟨by show 0 < _; omega, rfl⟩).post ?_
  rintro w L' x' ⟨s', rfl, rfl, rfl, rfl⟩
  exact ⟨_, ⟨rfl, rfl, rfl⟩, fun h st => g_out st⟩
end

/-- the cells' memory -/
def cellsL (cr fr r cb : Nat) (s : Mach.CSt) : List HProp := [arr cr 0 [.bool true, .int .u64 (s.c : Nat)], arr fr 0 [.bool true, .int .u64 (s.f : Nat)], arr r 0 [.pointer (some ⟨cb, 0, none⟩)], arr cb 0 [.int .u32 (s.v : Nat), .int .u64 (s.num : Nat)], shpC cb 158 2]

section
variable {B : Hand} [Lets B] {x : B.X} {cr fr r cb nb N mo V k : Nat} {L F : List HProp} {kind : Int} {st : Mach.CSt}

set_option maxHeartbeats 16000000 in
theorem other_n (hk : -9223372036854775808 ≤ kind ∧ kind ≤ 9223372036854775807) {kd : Nat} (hkd : kind % 11 = kd) (hN : N < 18446744073709551616) (hm : mo < 18446744073709551616) (hV : V < 4294967296) (hkk : k < 4000000) (O : Mach.COk k st) (h5 : 5 ≤ kd) (h10 : kd ≤ 10) : Tr Try.prog B 37 [.agg #[.pointer (some ⟨cr, 0, none⟩), .pointer (some ⟨fr, 0, none⟩), .pointer (some ⟨r, 0, none⟩)], .iface 40 (.pointer (some ⟨nb, 0, none⟩)), .agg #[.int .i64 kind, .int .u64 (N : Nat), .int .u64 (mo : Nat), .int .u32 (V : Nat)]] (notesC nb [] :: arr cr 0 [.bool true, .int .u64 (st.c : Nat)] :: arr fr 0 [.bool true, .int .u64 (st.f : Nat)] :: arr r 0 [.pointer (some ⟨cb, 0, none⟩)] :: arr cb 0 [.int .u32 (st.v : Nat), .int .u64 (st.num : Nat)] :: shpC cb 158 2 :: F) x fun w L' x' => ∃ bv cb', w = .tuple #[bv, .int .i64 0] ∧ L' = vec 1 bv ((Mach.cellF kd N mo V st).2.1.map num) :: notesC nb ((Mach.cellF kd N mo V st).2.2.map mkI) :: (cellsL cr fr r cb' (Mach.cellF kd N mo V st).1 ++ F) ∧ x' = x := by
  have h1 := O.c
  have h2 := O.f
  have h3 := O.v
  have h4 := O.num
  have cv : IntKind.u64.wrap (st.v : Int) = (st.v : Int) := wrap_u64 (by omega) (by omega)
  have hc : kd = 5 ∨ kd = 6 ∨ kd = 7 ∨ kd = 8 ∨ kd = 9 ∨ kd = 10 := by omega
  rcases hc with rfl | rfl | rfl | rfl | rfl | rfl
  · have hy : yes (decide (((st.f : Nat) : Int) = 1)) = st.f := by
      rcases (show st.f = 0 ∨ st.f = 1 by omega) with e | e <;> rw [e] <;> rfl
    have e : Mach.cellF 5 N mo V st = (st, [st.f], [(1, 0)]) := rfl
    rw [e]
    dsimp only
    refine Tr.post (R := fun w L' x' => ∃ bv cb', w = .tuple #[bv, .int .i64 0] ∧ x' = x ∧ ∀ h, Star L' h → Star (vec 1 bv ([st.f].map num) :: notesC nb (([(1, 0)] : List (Nat × Nat)).map mkI) :: (cellsL cr fr r cb' st ++ F)) h) ?_ (by rintro w L' x' ⟨bv, cb', rfl, rfl, hs⟩; exact ⟨_, ⟨bv, cb', rfl, rfl, rfl⟩, hs⟩)
    refine tr_of_body Try.func37 rfl Try.ntmps37 (by simp) fun um Q hQ => ?_
    simp only [argE, Nat.zero_add, Nat.reduceAdd]
    repeat (first
      | (apply wo_mo; apply mo_box; exact rfl; exact trivial)
      | refine we_seq ?_
      | (refine we_region _ rfl rfl ?_; simp only [opsOf, List.map_cons, List.map_nil, Option.map_none, Option.map_some, List.getElem?_toArray, List.getElem?_cons_zero, List.getElem?_cons_succ, Option.bind_some, Option.getD_some]))
    rintro v' L' ⟨xb, rfl, rfl⟩
    refine wo_ent (arr xb 0 [.pointer (some ⟨cr, 0, none⟩), .pointer (some ⟨fr, 0, none⟩), .pointer (some ⟨r, 0, none⟩)] :: notesC nb [] :: arr cr 0 [.bool true, .int .u64 (st.c : Nat)] :: arr fr 0 [.bool true, .int .u64 (st.f : Nat)] :: arr r 0 [.pointer (some ⟨cb, 0, none⟩)] :: arr cb 0 [.int .u32 (st.v : Nat), .int .u64 (st.num : Nat)] :: shpC cb 158 2 :: F) .refl ?_
    repeat (first
      | (apply wo_mo; apply mo_box; exact rfl; exact trivial))
    rintro v' L' ⟨db, rfl, rfl⟩
    refine wo_ent (arr db 0 [.int .i64 kind, .int .u64 (N : Nat), .int .u64 (mo : Nat), .int .u32 (V : Nat)] :: arr xb 0 [.pointer (some ⟨cr, 0, none⟩), .pointer (some ⟨fr, 0, none⟩), .pointer (some ⟨r, 0, none⟩)] :: notesC nb [] :: arr cr 0 [.bool true, .int .u64 (st.c : Nat)] :: arr fr 0 [.bool true, .int .u64 (st.f : Nat)] :: arr r 0 [.pointer (some ⟨cb, 0, none⟩)] :: arr cb 0 [.int .u32 (st.v : Nat), .int .u64 (st.num : Nat)] :: shpC cb 158 2 :: F) .refl ?_
    repeat (first
      | refine we_seq ?_
      | (refine we_region _ rfl rfl ?_; simp only [opsOf, List.map_cons, List.map_nil, Option.map_none, Option.map_some, List.getElem?_toArray, List.getElem?_cons_zero, List.getElem?_cons_succ, Option.bind_some, Option.getD_some])
      | refine wo_nil ?_
      | (apply wo_po; apply mo_assign; exact rfl; (first | exact trivial | exact rfl))
      | (apply wo_po; apply mo_fieldAddr; exact rfl; exact rfl; (first | exact Nat.zero_add _ | exact rfl); (first | exact trivial | exact rfl))
      | (apply wo_po; apply mo_load; exact rfl; (repeat (first | exact Rd.row0 rfl | exact Rd.row rfl rfl | exact Rd.still | apply Rd.there)); (first | exact trivial | exact rfl)))
    refine wo_call (.cons rfl (.cons rfl .nil)) trivial (within_tr hk (by omega)) ?_
    rintro v' L' x' ⟨rfl, rfl, rfl⟩
    rw [hkd]
    repeat (first
      | (apply wo_po; apply mo_bin; exact rfl; exact rfl; apply bin_eqlT; omega; (first | exact trivial | exact rfl))
      | refine we_seq ?_
      | (refine we_region _ rfl rfl ?_; simp only [opsOf, List.map_cons, List.map_nil, Option.map_none, Option.map_some, List.getElem?_toArray, List.getElem?_cons_zero, List.getElem?_cons_succ, Option.bind_some, Option.getD_some])
      | refine wo_nil ?_
      | (apply wo_po; apply mo_move; exact rfl; (first | exact trivial | exact rfl))
      | (apply wo_po; apply mo_assign; exact rfl; (first | exact trivial | exact rfl))
      | (apply wo_po; apply mo_fieldAddr; exact rfl; exact rfl; (first | exact Nat.zero_add _ | exact rfl); (first | exact trivial | exact rfl))
      | (apply wo_po; apply mo_load; exact rfl; (repeat (first | exact Rd.row0 rfl | exact Rd.row rfl rfl | exact Rd.still | apply Rd.there)); (first | exact trivial | exact rfl))
      | (apply we_condT; exact rfl; (first | exact rfl | (simp <;> omega) | omega))
      | refine we_block ?_)
    refine wo_star (arr fr 0 [.bool true, .int .u64 (st.f : Nat)] :: notesC nb [] :: arr db 0 [.int .i64 kind, .int .u64 (N : Nat), .int .u64 (mo : Nat), .int .u32 (V : Nat)] :: arr xb 0 [.pointer (some ⟨cr, 0, none⟩), .pointer (some ⟨fr, 0, none⟩), .pointer (some ⟨r, 0, none⟩)] :: arr cr 0 [.bool true, .int .u64 (st.c : Nat)] :: arr r 0 [.pointer (some ⟨cb, 0, none⟩)] :: arr cb 0 [.int .u32 (st.v : Nat), .int .u64 (st.num : Nat)] :: shpC cb 158 2 :: F) (fun h st => Ent.star (.take (.there (.there (.there (.there .here)))) (.take (.there (.there .here)) .refl)) st) ?_
    skip
    refine wo_call (.cons rfl (.cons rfl .nil)) trivial (fget_n (by omega)) ?_
    rintro v' L' x' ⟨rfl, rfl, rfl⟩
    repeat (first
      | refine we_seq ?_
      | (refine we_region _ rfl rfl ?_; simp only [opsOf, List.map_cons, List.map_nil, Option.map_none, Option.map_some, List.getElem?_toArray, List.getElem?_cons_zero, List.getElem?_cons_succ, Option.bind_some, Option.getD_some])
      | refine wo_nil ?_
      | (apply wo_po; apply mo_move; exact rfl; (first | exact trivial | exact rfl))
      | (apply wo_po; apply mo_assign; exact rfl; (first | exact trivial | exact rfl))
      | (apply wo_po; apply mo_extract; exact rfl; exact rfl; (first | exact trivial | exact rfl)))
    refine wo_call (.cons rfl .nil) trivial yes_tr ?_
    rintro v' L' x' ⟨rfl, rfl, rfl⟩
    repeat (first
      | (apply wo_mo; apply mo_buildSlice (sz := 1) (vs := [num (yes (decide (((st.f : Nat) : Int) = 1)))]); exact rfl; (repeat (first | exact EvL.nil | apply EvL.cons rfl)); exact rfl; (repeat (first | exact List.forall_mem_nil _ | refine List.forall_mem_cons.2 ⟨rfl, ?_⟩)); omega; exact trivial))
    rintro v' L' ⟨vb, rfl, rfl⟩
    repeat (first
      | refine wo_nil ?_
      | (apply wo_po; apply mo_move; exact rfl; (first | exact trivial | exact rfl))
      | (apply wo_po; apply mo_assign; exact rfl; (first | exact trivial | exact rfl))
      | refine we_ret ?_)
    (first | refine at_ret2 (ex := .ret) Try.func37 Try.results37 hQ (.inl rfl) rfl rfl ?_ | refine at_ret2 (ex := .normal) Try.func37 Try.results37 hQ (.inr rfl) rfl rfl ?_)
    refine ⟨_, cb, rfl, rfl, fun h st => ?_⟩
    rw [hy] at st
    exact vec_new (n := 1) rfl (Ent.star (.take .here (.take (.there .here) (.take (.there (.there (.there .here))) (.take .here (.take (.there (.there .here)) (.take (.there (.there .here)) (.take (.there (.there .here)) (.drop (.drop .refl))))))))) st)
  · have hy : yes (!decide (((st.f : Nat) : Int) = 1)) = 1 - st.f := by
      rcases (show st.f = 0 ∨ st.f = 1 by omega) with e | e <;> rw [e] <;> rfl
    have e : Mach.cellF 6 N mo V st = ({ st with f := 1 }, [1 - st.f], [(4, 0)]) := rfl
    rw [e]
    dsimp only
    refine Tr.post (R := fun w L' x' => ∃ bv cb', w = .tuple #[bv, .int .i64 0] ∧ x' = x ∧ ∀ h, Star L' h → Star (vec 1 bv ([1 - st.f].map num) :: notesC nb (([(4, 0)] : List (Nat × Nat)).map mkI) :: (cellsL cr fr r cb' { st with f := 1 } ++ F)) h) ?_ (by rintro w L' x' ⟨bv, cb', rfl, rfl, hs⟩; exact ⟨_, ⟨bv, cb', rfl, rfl, rfl⟩, hs⟩)
    refine tr_of_body Try.func37 rfl Try.ntmps37 (by simp) fun um Q hQ => ?_
    simp only [argE, Nat.zero_add, Nat.reduceAdd]
    repeat (first
      | (apply wo_mo; apply mo_box; exact rfl; exact trivial)
      | refine we_seq ?_
      | (refine we_region _ rfl rfl ?_; simp only [opsOf, List.map_cons, List.map_nil, Option.map_none, Option.map_some, List.getElem?_toArray, List.getElem?_cons_zero, List.getElem?_cons_succ, Option.bind_some, Option.getD_some]))
    rintro v' L' ⟨xb, rfl, rfl⟩
    refine wo_ent (arr xb 0 [.pointer (some ⟨cr, 0, none⟩), .pointer (some ⟨fr, 0, none⟩), .pointer (some ⟨r, 0, none⟩)] :: notesC nb [] :: arr cr 0 [.bool true, .int .u64 (st.c : Nat)] :: arr fr 0 [.bool true, .int .u64 (st.f : Nat)] :: arr r 0 [.pointer (some ⟨cb, 0, none⟩)] :: arr cb 0 [.int .u32 (st.v : Nat), .int .u64 (st.num : Nat)] :: shpC cb 158 2 :: F) .refl ?_
    repeat (first
      | (apply wo_mo; apply mo_box; exact rfl; exact trivial))
    rintro v' L' ⟨db, rfl, rfl⟩
    refine wo_ent (arr db 0 [.int .i64 kind, .int .u64 (N : Nat), .int .u64 (mo : Nat), .int .u32 (V : Nat)] :: arr xb 0 [.pointer (some ⟨cr, 0, none⟩), .pointer (some ⟨fr, 0, none⟩), .pointer (some ⟨r, 0, none⟩)] :: notesC nb [] :: arr cr 0 [.bool true, .int .u64 (st.c : Nat)] :: arr fr 0 [.bool true, .int .u64 (st.f : Nat)] :: arr r 0 [.pointer (some ⟨cb, 0, none⟩)] :: arr cb 0 [.int .u32 (st.v : Nat), .int .u64 (st.num : Nat)] :: shpC cb 158 2 :: F) .refl ?_
    repeat (first
      | refine we_seq ?_
      | (refine we_region _ rfl rfl ?_; simp only [opsOf, List.map_cons, List.map_nil, Option.map_none, Option.map_some, List.getElem?_toArray, List.getElem?_cons_zero, List.getElem?_cons_succ, Option.bind_some, Option.getD_some])
      | refine wo_nil ?_
      | (apply wo_po; apply mo_assign; exact rfl; (first | exact trivial | exact rfl))
      | (apply wo_po; apply mo_fieldAddr; exact rfl; exact rfl; (first | exact Nat.zero_add _ | exact rfl); (first | exact trivial | exact rfl))
      | (apply wo_po; apply mo_load; exact rfl; (repeat (first | exact Rd.row0 rfl | exact Rd.row rfl rfl | exact Rd.still | apply Rd.there)); (first | exact trivial | exact rfl)))
    refine wo_call (.cons rfl (.cons rfl .nil)) trivial (within_tr hk (by omega)) ?_
    rintro v' L' x' ⟨rfl, rfl, rfl⟩
    rw [hkd]
    repeat (first
      | (apply wo_po; apply mo_bin; exact rfl; exact rfl; apply bin_eqlT; omega; (first | exact trivial | exact rfl))
      | (apply wo_po; apply mo_bin; exact rfl; exact rfl; apply bin_eqlF; omega; (first | exact trivial | exact rfl))
      | refine we_seq ?_
      | (refine we_region _ rfl rfl ?_; simp only [opsOf, List.map_cons, List.map_nil, Option.map_none, Option.map_some, List.getElem?_toArray, List.getElem?_cons_zero, List.getElem?_cons_succ, Option.bind_some, Option.getD_some])
      | refine wo_nil ?_
      | (apply wo_po; apply mo_move; exact rfl; (first | exact trivial | exact rfl))
      | (apply wo_po; apply mo_assign; exact rfl; (first | exact trivial | exact rfl))
      | (apply wo_po; apply mo_fieldAddr; exact rfl; exact rfl; (first | exact Nat.zero_add _ | exact rfl); (first | exact trivial | exact rfl))
      | (apply wo_po; apply mo_load; exact rfl; (repeat (first | exact Rd.row0 rfl | exact Rd.row rfl rfl | exact Rd.still | apply Rd.there)); (first | exact trivial | exact rfl))
      | (apply we_condT; exact rfl; (first | exact rfl | (simp <;> omega) | omega))
      | (apply we_condF; exact rfl; (first | exact rfl | (simp <;> omega) | omega))
      | refine we_block ?_)
    refine wo_star (arr fr 0 [.bool true, .int .u64 (st.f : Nat)] :: notesC nb [] :: arr db 0 [.int .i64 kind, .int .u64 (N : Nat), .int .u64 (mo : Nat), .int .u32 (V : Nat)] :: arr xb 0 [.pointer (some ⟨cr, 0, none⟩), .pointer (some ⟨fr, 0, none⟩), .pointer (some ⟨r, 0, none⟩)] :: arr cr 0 [.bool true, .int .u64 (st.c : Nat)] :: arr r 0 [.pointer (some ⟨cb, 0, none⟩)] :: arr cb 0 [.int .u32 (st.v : Nat), .int .u64 (st.num : Nat)] :: shpC cb 158 2 :: F) (fun h st => Ent.star (.take (.there (.there (.there (.there .here)))) (.take (.there (.there .here)) .refl)) st) ?_
    skip
    refine wo_call (.cons rfl (.cons rfl .nil)) trivial (fset_n (by omega)) ?_
    rintro v' L' x' ⟨rfl, rfl, rfl⟩
    repeat (first
      | refine we_seq ?_
      | (refine we_region _ rfl rfl ?_; simp only [opsOf, List.map_cons, List.map_nil, Option.map_none, Option.map_some, List.getElem?_toArray, List.getElem?_cons_zero, List.getElem?_cons_succ, Option.bind_some, Option.getD_some])
      | refine wo_nil ?_
      | (apply wo_po; apply mo_move; exact rfl; (first | exact trivial | exact rfl))
      | (apply wo_po; apply mo_assign; exact rfl; (first | exact trivial | exact rfl))
      | (apply wo_po; apply mo_extract; exact rfl; exact rfl; (first | exact trivial | exact rfl)))
    refine wo_call (.cons rfl .nil) trivial yes_tr ?_
    rintro v' L' x' ⟨rfl, rfl, rfl⟩
    repeat (first
      | (apply wo_mo; apply mo_buildSlice (sz := 1) (vs := [num (yes (!decide (((st.f : Nat) : Int) = 1)))]); exact rfl; (repeat (first | exact EvL.nil | apply EvL.cons rfl)); exact rfl; (repeat (first | exact List.forall_mem_nil _ | refine List.forall_mem_cons.2 ⟨rfl, ?_⟩)); omega; exact trivial))
    rintro v' L' ⟨vb, rfl, rfl⟩
    repeat (first
      | refine wo_nil ?_
      | (apply wo_po; apply mo_move; exact rfl; (first | exact trivial | exact rfl))
      | (apply wo_po; apply mo_assign; exact rfl; (first | exact trivial | exact rfl))
      | refine we_ret ?_)
    (first | refine at_ret2 (ex := .ret) Try.func37 Try.results37 hQ (.inl rfl) rfl rfl ?_ | refine at_ret2 (ex := .normal) Try.func37 Try.results37 hQ (.inr rfl) rfl rfl ?_)
    refine ⟨_, cb, rfl, rfl, fun h st => ?_⟩
    rw [hy] at st
    exact vec_new (n := 1) rfl (Ent.star (.take .here (.take (.there .here) (.take (.there (.there (.there .here))) (.take .here (.take (.there (.there .here)) (.take (.there (.there .here)) (.take (.there (.there .here)) (.drop (.drop .refl))))))))) st)
  · have hy : yes (!decide (((st.f : Nat) : Int) = 0)) = st.f := by
      rcases (show st.f = 0 ∨ st.f = 1 by omega) with e | e <;> rw [e] <;> rfl
    have e : Mach.cellF 7 N mo V st = ({ st with f := 0 }, [st.f], [(4, 0)]) := rfl
    rw [e]
    dsimp only
    refine Tr.post (R := fun w L' x' => ∃ bv cb', w = .tuple #[bv, .int .i64 0] ∧ x' = x ∧ ∀ h, Star L' h → Star (vec 1 bv ([st.f].map num) :: notesC nb (([(4, 0)] : List (Nat × Nat)).map mkI) :: (cellsL cr fr r cb' { st with f := 0 } ++ F)) h) ?_ (by rintro w L' x' ⟨bv, cb', rfl, rfl, hs⟩; exact ⟨_, ⟨bv, cb', rfl, rfl, rfl⟩, hs⟩)
    refine tr_of_body Try.func37 rfl Try.ntmps37 (by simp) fun um Q hQ => ?_
    simp only [argE, Nat.zero_add, Nat.reduceAdd]
    repeat (first
      | (apply wo_mo; apply mo_box; exact rfl; exact trivial)
      | refine we_seq ?_
      | (refine we_region _ rfl rfl ?_; simp only [opsOf, List.map_cons, List.map_nil, Option.map_none, Option.map_some, List.getElem?_toArray, List.getElem?_cons_zero, List.getElem?_cons_succ, Option.bind_some, Option.getD_some]))
    rintro v' L' ⟨xb, rfl, rfl⟩
    refine wo_ent (arr xb 0 [.pointer (some ⟨cr, 0, none⟩), .pointer (some ⟨fr, 0, none⟩), .pointer (some ⟨r, 0, none⟩)] :: notesC nb [] :: arr cr 0 [.bool true, .int .u64 (st.c : Nat)] :: arr fr 0 [.bool true, .int .u64 (st.f : Nat)] :: arr r 0 [.pointer (some ⟨cb, 0, none⟩)] :: arr cb 0 [.int .u32 (st.v : Nat), .int .u64 (st.num : Nat)] :: shpC cb 158 2 :: F) .refl ?_
    repeat (first
      | (apply wo_mo; apply mo_box; exact rfl; exact trivial))
    rintro v' L' ⟨db, rfl, rfl⟩
    refine wo_ent (arr db 0 [.int .i64 kind, .int .u64 (N : Nat), .int .u64 (mo : Nat), .int .u32 (V : Nat)] :: arr xb 0 [.pointer (some ⟨cr, 0, none⟩), .pointer (some ⟨fr, 0, none⟩), .pointer (some ⟨r, 0, none⟩)] :: notesC nb [] :: arr cr 0 [.bool true, .int .u64 (st.c : Nat)] :: arr fr 0 [.bool true, .int .u64 (st.f : Nat)] :: arr r 0 [.pointer (some ⟨cb, 0, none⟩)] :: arr cb 0 [.int .u32 (st.v : Nat), .int .u64 (st.num : Nat)] :: shpC cb 158 2 :: F) .refl ?_
    repeat (first
      | refine we_seq ?_
      | (refine we_region _ rfl rfl ?_; simp only [opsOf, List.map_cons, List.map_nil, Option.map_none, Option.map_some, List.getElem?_toArray, List.getElem?_cons_zero, List.getElem?_cons_succ, Option.bind_some, Option.getD_some])
      | refine wo_nil ?_
      | (apply wo_po; apply mo_assign; exact rfl; (first | exact trivial | exact rfl))
      | (apply wo_po; apply mo_fieldAddr; exact rfl; exact rfl; (first | exact Nat.zero_add _ | exact rfl); (first | exact trivial | exact rfl))
      | (apply wo_po; apply mo_load; exact rfl; (repeat (first | exact Rd.row0 rfl | exact Rd.row rfl rfl | exact Rd.still | apply Rd.there)); (first | exact trivial | exact rfl)))
    refine wo_call (.cons rfl (.cons rfl .nil)) trivial (within_tr hk (by omega)) ?_
    rintro v' L' x' ⟨rfl, rfl, rfl⟩
    rw [hkd]
    repeat (first
      | (apply wo_po; apply mo_bin; exact rfl; exact rfl; apply bin_eqlT; omega; (first | exact trivial | exact rfl))
      | (apply wo_po; apply mo_bin; exact rfl; exact rfl; apply bin_eqlF; omega; (first | exact trivial | exact rfl))
      | refine we_seq ?_
      | (refine we_region _ rfl rfl ?_; simp only [opsOf, List.map_cons, List.map_nil, Option.map_none, Option.map_some, List.getElem?_toArray, List.getElem?_cons_zero, List.getElem?_cons_succ, Option.bind_some, Option.getD_some])
      | refine wo_nil ?_
      | (apply wo_po; apply mo_move; exact rfl; (first | exact trivial | exact rfl))
      | (apply wo_po; apply mo_assign; exact rfl; (first | exact trivial | exact rfl))
      | (apply wo_po; apply mo_fieldAddr; exact rfl; exact rfl; (first | exact Nat.zero_add _ | exact rfl); (first | exact trivial | exact rfl))
      | (apply wo_po; apply mo_load; exact rfl; (repeat (first | exact Rd.row0 rfl | exact Rd.row rfl rfl | exact Rd.still | apply Rd.there)); (first | exact trivial | exact rfl))
      | (apply we_condT; exact rfl; (first | exact rfl | (simp <;> omega) | omega))
      | (apply we_condF; exact rfl; (first | exact rfl | (simp <;> omega) | omega))
      | refine we_block ?_)
    refine wo_star (arr fr 0 [.bool true, .int .u64 (st.f : Nat)] :: notesC nb [] :: arr db 0 [.int .i64 kind, .int .u64 (N : Nat), .int .u64 (mo : Nat), .int .u32 (V : Nat)] :: arr xb 0 [.pointer (some ⟨cr, 0, none⟩), .pointer (some ⟨fr, 0, none⟩), .pointer (some ⟨r, 0, none⟩)] :: arr cr 0 [.bool true, .int .u64 (st.c : Nat)] :: arr r 0 [.pointer (some ⟨cb, 0, none⟩)] :: arr cb 0 [.int .u32 (st.v : Nat), .int .u64 (st.num : Nat)] :: shpC cb 158 2 :: F) (fun h st => Ent.star (.take (.there (.there (.there (.there .here)))) (.take (.there (.there .here)) .refl)) st) ?_
    skip
    refine wo_call (.cons rfl (.cons rfl .nil)) trivial (fclear_n (by omega)) ?_
    rintro v' L' x' ⟨rfl, rfl, rfl⟩
    repeat (first
      | refine we_seq ?_
      | (refine we_region _ rfl rfl ?_; simp only [opsOf, List.map_cons, List.map_nil, Option.map_none, Option.map_some, List.getElem?_toArray, List.getElem?_cons_zero, List.getElem?_cons_succ, Option.bind_some, Option.getD_some])
      | refine wo_nil ?_
      | (apply wo_po; apply mo_move; exact rfl; (first | exact trivial | exact rfl))
      | (apply wo_po; apply mo_assign; exact rfl; (first | exact trivial | exact rfl))
      | (apply wo_po; apply mo_extract; exact rfl; exact rfl; (first | exact trivial | exact rfl)))
    refine wo_call (.cons rfl .nil) trivial yes_tr ?_
    rintro v' L' x' ⟨rfl, rfl, rfl⟩
    repeat (first
      | (apply wo_mo; apply mo_buildSlice (sz := 1) (vs := [num (yes (!decide (((st.f : Nat) : Int) = 0)))]); exact rfl; (repeat (first | exact EvL.nil | apply EvL.cons rfl)); exact rfl; (repeat (first | exact List.forall_mem_nil _ | refine List.forall_mem_cons.2 ⟨rfl, ?_⟩)); omega; exact trivial))
    rintro v' L' ⟨vb, rfl, rfl⟩
    repeat (first
      | refine wo_nil ?_
      | (apply wo_po; apply mo_move; exact rfl; (first | exact trivial | exact rfl))
      | (apply wo_po; apply mo_assign; exact rfl; (first | exact trivial | exact rfl))
      | refine we_ret ?_)
    (first | refine at_ret2 (ex := .ret) Try.func37 Try.results37 hQ (.inl rfl) rfl rfl ?_ | refine at_ret2 (ex := .normal) Try.func37 Try.results37 hQ (.inr rfl) rfl rfl ?_)
    refine ⟨_, cb, rfl, rfl, fun h st => ?_⟩
    rw [hy] at st
    exact vec_new (n := 1) rfl (Ent.star (.take .here (.take (.there .here) (.take (.there (.there (.there .here))) (.take .here (.take (.there (.there .here)) (.take (.there (.there .here)) (.take (.there (.there .here)) (.drop (.drop .refl))))))))) st)
  · skip
    have e : Mach.cellF 8 N mo V st = (st, [st.v, st.num], [(1, 0)]) := rfl
    rw [e]
    dsimp only
    refine Tr.post (R := fun w L' x' => ∃ bv cb', w = .tuple #[bv, .int .i64 0] ∧ x' = x ∧ ∀ h, Star L' h → Star (vec 1 bv ([st.v, st.num].map num) :: notesC nb (([(1, 0)] : List (Nat × Nat)).map mkI) :: (cellsL cr fr r cb' st ++ F)) h) ?_ (by rintro w L' x' ⟨bv, cb', rfl, rfl, hs⟩; exact ⟨_, ⟨bv, cb', rfl, rfl, rfl⟩, hs⟩)
    refine tr_of_body Try.func37 rfl Try.ntmps37 (by simp) fun um Q hQ => ?_
    simp only [argE, Nat.zero_add, Nat.reduceAdd]
    repeat (first
      | (apply wo_mo; apply mo_box; exact rfl; exact trivial)
      | refine we_seq ?_
      | (refine we_region _ rfl rfl ?_; simp only [opsOf, List.map_cons, List.map_nil, Option.map_none, Option.map_some, List.getElem?_toArray, List.getElem?_cons_zero, List.getElem?_cons_succ, Option.bind_some, Option.getD_some]))
    rintro v' L' ⟨xb, rfl, rfl⟩
    refine wo_ent (arr xb 0 [.pointer (some ⟨cr, 0, none⟩), .pointer (some ⟨fr, 0, none⟩), .pointer (some ⟨r, 0, none⟩)] :: notesC nb [] :: arr cr 0 [.bool true, .int .u64 (st.c : Nat)] :: arr fr 0 [.bool true, .int .u64 (st.f : Nat)] :: arr r 0 [.pointer (some ⟨cb, 0, none⟩)] :: arr cb 0 [.int .u32 (st.v : Nat), .int .u64 (st.num : Nat)] :: shpC cb 158 2 :: F) .refl ?_
    repeat (first
      | (apply wo_mo; apply mo_box; exact rfl; exact trivial))
    rintro v' L' ⟨db, rfl, rfl⟩
    refine wo_ent (arr db 0 [.int .i64 kind, .int .u64 (N : Nat), .int .u64 (mo : Nat), .int .u32 (V : Nat)] :: arr xb 0 [.pointer (some ⟨cr, 0, none⟩), .pointer (some ⟨fr, 0, none⟩), .pointer (some ⟨r, 0, none⟩)] :: notesC nb [] :: arr cr 0 [.bool true, .int .u64 (st.c : Nat)] :: arr fr 0 [.bool true, .int .u64 (st.f : Nat)] :: arr r 0 [.pointer (some ⟨cb, 0, none⟩)] :: arr cb 0 [.int .u32 (st.v : Nat), .int .u64 (st.num : Nat)] :: shpC cb 158 2 :: F) .refl ?_
    repeat (first
      | refine we_seq ?_
      | (refine we_region _ rfl rfl ?_; simp only [opsOf, List.map_cons, List.map_nil, Option.map_none, Option.map_some, List.getElem?_toArray, List.getElem?_cons_zero, List.getElem?_cons_succ, Option.bind_some, Option.getD_some])
      | refine wo_nil ?_
      | (apply wo_po; apply mo_assign; exact rfl; (first | exact trivial | exact rfl))
      | (apply wo_po; apply mo_fieldAddr; exact rfl; exact rfl; (first | exact Nat.zero_add _ | exact rfl); (first | exact trivial | exact rfl))
      | (apply wo_po; apply mo_load; exact rfl; (repeat (first | exact Rd.row0 rfl | exact Rd.row rfl rfl | exact Rd.still | apply Rd.there)); (first | exact trivial | exact rfl)))
    refine wo_call (.cons rfl (.cons rfl .nil)) trivial (within_tr hk (by omega)) ?_
    rintro v' L' x' ⟨rfl, rfl, rfl⟩
    rw [hkd]
    repeat (first
      | (apply wo_po; apply mo_bin; exact rfl; exact rfl; apply bin_eqlT; omega; (first | exact trivial | exact rfl))
      | (apply wo_po; apply mo_bin; exact rfl; exact rfl; apply bin_eqlF; omega; (first | exact trivial | exact rfl))
      | refine we_seq ?_
      | (refine we_region _ rfl rfl ?_; simp only [opsOf, List.map_cons, List.map_nil, Option.map_none, Option.map_some, List.getElem?_toArray, List.getElem?_cons_zero, List.getElem?_cons_succ, Option.bind_some, Option.getD_some])
      | refine wo_nil ?_
      | (apply wo_po; apply mo_move; exact rfl; (first | exact trivial | exact rfl))
      | (apply wo_po; apply mo_assign; exact rfl; (first | exact trivial | exact rfl))
      | (apply wo_po; apply mo_fieldAddr; exact rfl; exact rfl; (first | exact Nat.zero_add _ | exact rfl); (first | exact trivial | exact rfl))
      | (apply wo_po; apply mo_load; exact rfl; (repeat (first | exact Rd.row0 rfl | exact Rd.row rfl rfl | exact Rd.still | apply Rd.there)); (first | exact trivial | exact rfl))
      | (apply we_condT; exact rfl; (first | exact rfl | (simp <;> omega) | omega))
      | (apply we_condF; exact rfl; (first | exact rfl | (simp <;> omega) | omega))
      | refine we_block ?_)
    refine wo_star (notesC nb [] :: arr r 0 [.pointer (some ⟨cb, 0, none⟩)] :: arr cb 0 [.int .u32 (st.v : Nat), .int .u64 (st.num : Nat)] :: shpC cb 158 2 :: arr db 0 [.int .i64 kind, .int .u64 (N : Nat), .int .u64 (mo : Nat), .int .u32 (V : Nat)] :: arr xb 0 [.pointer (some ⟨cr, 0, none⟩), .pointer (some ⟨fr, 0, none⟩), .pointer (some ⟨r, 0, none⟩)] :: arr cr 0 [.bool true, .int .u64 (st.c : Nat)] :: arr fr 0 [.bool true, .int .u64 (st.f : Nat)] :: F) (fun h st => Ent.star (.take (.there (.there .here)) (.take (.there (.there (.there (.there .here)))) (.take (.there (.there (.there (.there .here)))) (.take (.there (.there (.there (.there .here)))) .refl)))) st) ?_
    skip
    refine wo_call (.cons rfl (.cons rfl .nil)) trivial (bget_n) ?_
    rintro v' L' x' ⟨rfl, rfl, rfl⟩
    repeat (first
      | (apply wo_po; apply mo_conv; exact rfl; exact cv; exact trivial)
      | (apply wo_mo; apply mo_buildSlice (sz := 1) (vs := [num (st.v), num (st.num)]); exact rfl; (repeat (first | exact EvL.nil | apply EvL.cons rfl)); exact rfl; (repeat (first | exact List.forall_mem_nil _ | refine List.forall_mem_cons.2 ⟨rfl, ?_⟩)); omega; exact trivial)
      | refine we_seq ?_
      | (refine we_region _ rfl rfl ?_; simp only [opsOf, List.map_cons, List.map_nil, Option.map_none, Option.map_some, List.getElem?_toArray, List.getElem?_cons_zero, List.getElem?_cons_succ, Option.bind_some, Option.getD_some])
      | refine wo_nil ?_
      | (apply wo_po; apply mo_move; exact rfl; (first | exact trivial | exact rfl))
      | (apply wo_po; apply mo_assign; exact rfl; (first | exact trivial | exact rfl))
      | (apply wo_po; apply mo_extract; exact rfl; exact rfl; (first | exact trivial | exact rfl)))
    rintro v' L' ⟨vb, rfl, rfl⟩
    repeat (first
      | refine wo_nil ?_
      | (apply wo_po; apply mo_move; exact rfl; (first | exact trivial | exact rfl))
      | (apply wo_po; apply mo_assign; exact rfl; (first | exact trivial | exact rfl))
      | refine we_ret ?_)
    (first | refine at_ret2 (ex := .ret) Try.func37 Try.results37 hQ (.inl rfl) rfl rfl ?_ | refine at_ret2 (ex := .normal) Try.func37 Try.results37 hQ (.inr rfl) rfl rfl ?_)
    refine ⟨_, cb, rfl, rfl, fun h st => ?_⟩
    exact vec_new (n := 2) rfl (Ent.star (.take .here (.take .here (.take (.there (.there (.there (.there (.there .here))))) (.take (.there (.there (.there (.there (.there .here))))) (.take .here (.take .here (.take .here (.drop (.drop .refl))))))))) st)
  · skip
    have e : Mach.cellF 9 N mo V st = ({ st with v := V, num := st.num + 1 }, [st.num + 1], [(1, 0), (5, 0)]) := rfl
    rw [e]
    dsimp only
    refine Tr.post (R := fun w L' x' => ∃ bv cb', w = .tuple #[bv, .int .i64 0] ∧ x' = x ∧ ∀ h, Star L' h → Star (vec 1 bv ([st.num + 1].map num) :: notesC nb (([(1, 0), (5, 0)] : List (Nat × Nat)).map mkI) :: (cellsL cr fr r cb' { st with v := V, num := st.num + 1 } ++ F)) h) ?_ (by rintro w L' x' ⟨bv, cb', rfl, rfl, hs⟩; exact ⟨_, ⟨bv, cb', rfl, rfl, rfl⟩, hs⟩)
    refine tr_of_body Try.func37 rfl Try.ntmps37 (by simp) fun um Q hQ => ?_
    simp only [argE, Nat.zero_add, Nat.reduceAdd]
    repeat (first
      | (apply wo_mo; apply mo_box; exact rfl; exact trivial)
      | refine we_seq ?_
      | (refine we_region _ rfl rfl ?_; simp only [opsOf, List.map_cons, List.map_nil, Option.map_none, Option.map_some, List.getElem?_toArray, List.getElem?_cons_zero, List.getElem?_cons_succ, Option.bind_some, Option.getD_some]))
    rintro v' L' ⟨xb, rfl, rfl⟩
    refine wo_ent (arr xb 0 [.pointer (some ⟨cr, 0, none⟩), .pointer (some ⟨fr, 0, none⟩), .pointer (some ⟨r, 0, none⟩)] :: notesC nb [] :: arr cr 0 [.bool true, .int .u64 (st.c : Nat)] :: arr fr 0 [.bool true, .int .u64 (st.f : Nat)] :: arr r 0 [.pointer (some ⟨cb, 0, none⟩)] :: arr cb 0 [.int .u32 (st.v : Nat), .int .u64 (st.num : Nat)] :: shpC cb 158 2 :: F) .refl ?_
    repeat (first
      | (apply wo_mo; apply mo_box; exact rfl; exact trivial))
    rintro v' L' ⟨db, rfl, rfl⟩
    refine wo_ent (arr db 0 [.int .i64 kind, .int .u64 (N : Nat), .int .u64 (mo : Nat), .int .u32 (V : Nat)] :: arr xb 0 [.pointer (some ⟨cr, 0, none⟩), .pointer (some ⟨fr, 0, none⟩), .pointer (some ⟨r, 0, none⟩)] :: notesC nb [] :: arr cr 0 [.bool true, .int .u64 (st.c : Nat)] :: arr fr 0 [.bool true, .int .u64 (st.f : Nat)] :: arr r 0 [.pointer (some ⟨cb, 0, none⟩)] :: arr cb 0 [.int .u32 (st.v : Nat), .int .u64 (st.num : Nat)] :: shpC cb 158 2 :: F) .refl ?_
    repeat (first
      | refine we_seq ?_
      | (refine we_region _ rfl rfl ?_; simp only [opsOf, List.map_cons, List.map_nil, Option.map_none, Option.map_some, List.getElem?_toArray, List.getElem?_cons_zero, List.getElem?_cons_succ, Option.bind_some, Option.getD_some])
      | refine wo_nil ?_
      | (apply wo_po; apply mo_assign; exact rfl; (first | exact trivial | exact rfl))
      | (apply wo_po; apply mo_fieldAddr; exact rfl; exact rfl; (first | exact Nat.zero_add _ | exact rfl); (first | exact trivial | exact rfl))
      | (apply wo_po; apply mo_load; exact rfl; (repeat (first | exact Rd.row0 rfl | exact Rd.row rfl rfl | exact Rd.still | apply Rd.there)); (first | exact trivial | exact rfl)))
    refine wo_call (.cons rfl (.cons rfl .nil)) trivial (within_tr hk (by omega)) ?_
    rintro v' L' x' ⟨rfl, rfl, rfl⟩
    rw [hkd]
    repeat (first
      | (apply wo_po; apply mo_bin; exact rfl; exact rfl; apply bin_eqlT; omega; (first | exact trivial | exact rfl))
      | (apply wo_po; apply mo_bin; exact rfl; exact rfl; apply bin_eqlF; omega; (first | exact trivial | exact rfl))
      | refine we_seq ?_
      | (refine we_region _ rfl rfl ?_; simp only [opsOf, List.map_cons, List.map_nil, Option.map_none, Option.map_some, List.getElem?_toArray, List.getElem?_cons_zero, List.getElem?_cons_succ, Option.bind_some, Option.getD_some])
      | refine wo_nil ?_
      | (apply wo_po; apply mo_move; exact rfl; (first | exact trivial | exact rfl))
      | (apply wo_po; apply mo_assign; exact rfl; (first | exact trivial | exact rfl))
      | (apply wo_po; apply mo_fieldAddr; exact rfl; exact rfl; (first | exact Nat.zero_add _ | exact rfl); (first | exact trivial | exact rfl))
      | (apply wo_po; apply mo_load; exact rfl; (repeat (first | exact Rd.row0 rfl | exact Rd.row rfl rfl | exact Rd.still | apply Rd.there)); (first | exact trivial | exact rfl))
      | (apply we_condT; exact rfl; (first | exact rfl | (simp <;> omega) | omega))
      | (apply we_condF; exact rfl; (first | exact rfl | (simp <;> omega) | omega))
      | refine we_block ?_)
    refine wo_star (notesC nb [] :: arr r 0 [.pointer (some ⟨cb, 0, none⟩)] :: arr cb 0 [.int .u32 (st.v : Nat), .int .u64 (st.num : Nat)] :: shpC cb 158 2 :: arr db 0 [.int .i64 kind, .int .u64 (N : Nat), .int .u64 (mo : Nat), .int .u32 (V : Nat)] :: arr xb 0 [.pointer (some ⟨cr, 0, none⟩), .pointer (some ⟨fr, 0, none⟩), .pointer (some ⟨r, 0, none⟩)] :: arr cr 0 [.bool true, .int .u64 (st.c : Nat)] :: arr fr 0 [.bool true, .int .u64 (st.f : Nat)] :: F) (fun h st => Ent.star (.take (.there (.there .here)) (.take (.there (.there (.there (.there .here)))) (.take (.there (.there (.there (.there .here)))) (.take (.there (.there (.there (.there .here)))) .refl)))) st) ?_
    skip
    refine wo_call (.cons rfl (.cons rfl (.cons rfl .nil))) trivial (bput_n (by omega)) ?_
    rintro v' L' x' ⟨cb', rfl, rfl, rfl⟩
    repeat (first
      | (apply wo_mo; apply mo_buildSlice (sz := 1) (vs := [num (st.num + 1)]); exact rfl; (repeat (first | exact EvL.nil | apply EvL.cons rfl)); exact rfl; (repeat (first | exact List.forall_mem_nil _ | refine List.forall_mem_cons.2 ⟨rfl, ?_⟩)); omega; exact trivial)
      | refine we_seq ?_
      | (refine we_region _ rfl rfl ?_; simp only [opsOf, List.map_cons, List.map_nil, Option.map_none, Option.map_some, List.getElem?_toArray, List.getElem?_cons_zero, List.getElem?_cons_succ, Option.bind_some, Option.getD_some])
      | refine wo_nil ?_
      | (apply wo_po; apply mo_move; exact rfl; (first | exact trivial | exact rfl))
      | (apply wo_po; apply mo_assign; exact rfl; (first | exact trivial | exact rfl))
      | (apply wo_po; apply mo_extract; exact rfl; exact rfl; (first | exact trivial | exact rfl)))
    rintro v' L' ⟨vb, rfl, rfl⟩
    repeat (first
      | refine wo_nil ?_
      | (apply wo_po; apply mo_move; exact rfl; (first | exact trivial | exact rfl))
      | (apply wo_po; apply mo_assign; exact rfl; (first | exact trivial | exact rfl))
      | refine we_ret ?_)
    (first | refine at_ret2 (ex := .ret) Try.func37 Try.results37 hQ (.inl rfl) rfl rfl ?_ | refine at_ret2 (ex := .normal) Try.func37 Try.results37 hQ (.inr rfl) rfl rfl ?_)
    refine ⟨_, cb', rfl, rfl, fun h st => ?_⟩
    exact vec_new (n := 1) rfl (Ent.star (.take .here (.take .here (.take (.there (.there (.there (.there (.there .here))))) (.take (.there (.there (.there (.there (.there .here))))) (.take .here (.take .here (.take .here (.drop (.drop .refl))))))))) st)
  · by_cases c : st.num = N
    · have hN2 := c
      subst hN2
      have e : Mach.cellF 10 st.num mo V st = ({ st with v := V, num := st.num + 1 }, [1], [(1, 0), (5, 0)]) := if_pos rfl
      rw [e]
      dsimp only
      refine Tr.post (R := fun w L' x' => ∃ bv cb', w = .tuple #[bv, .int .i64 0] ∧ x' = x ∧ ∀ h, Star L' h → Star (vec 1 bv ([1].map num) :: notesC nb (([(1, 0), (5, 0)] : List (Nat × Nat)).map mkI) :: (cellsL cr fr r cb' { st with v := V, num := st.num + 1 } ++ F)) h) ?_ (by rintro w L' x' ⟨bv, cb', rfl, rfl, hs⟩; exact ⟨_, ⟨bv, cb', rfl, rfl, rfl⟩, hs⟩)
      refine tr_of_body Try.func37 rfl Try.ntmps37 (by simp) fun um Q hQ => ?_
      simp only [argE, Nat.zero_add, Nat.reduceAdd]
      repeat (first
        | (apply wo_mo; apply mo_box; exact rfl; exact trivial)
        | refine we_seq ?_
        | (refine we_region _ rfl rfl ?_; simp only [opsOf, List.map_cons, List.map_nil, Option.map_none, Option.map_some, List.getElem?_toArray, List.getElem?_cons_zero, List.getElem?_cons_succ, Option.bind_some, Option.getD_some]))
      rintro v' L' ⟨xb, rfl, rfl⟩
      refine wo_ent (arr xb 0 [.pointer (some ⟨cr, 0, none⟩), .pointer (some ⟨fr, 0, none⟩), .pointer (some ⟨r, 0, none⟩)] :: notesC nb [] :: arr cr 0 [.bool true, .int .u64 (st.c : Nat)] :: arr fr 0 [.bool true, .int .u64 (st.f : Nat)] :: arr r 0 [.pointer (some ⟨cb, 0, none⟩)] :: arr cb 0 [.int .u32 (st.v : Nat), .int .u64 (st.num : Nat)] :: shpC cb 158 2 :: F) .refl ?_
      repeat (first
        | (apply wo_mo; apply mo_box; exact rfl; exact trivial))
      rintro v' L' ⟨db, rfl, rfl⟩
      refine wo_ent (arr db 0 [.int .i64 kind, .int .u64 (st.num : Nat), .int .u64 (mo : Nat), .int .u32 (V : Nat)] :: arr xb 0 [.pointer (some ⟨cr, 0, none⟩), .pointer (some ⟨fr, 0, none⟩), .pointer (some ⟨r, 0, none⟩)] :: notesC nb [] :: arr cr 0 [.bool true, .int .u64 (st.c : Nat)] :: arr fr 0 [.bool true, .int .u64 (st.f : Nat)] :: arr r 0 [.pointer (some ⟨cb, 0, none⟩)] :: arr cb 0 [.int .u32 (st.v : Nat), .int .u64 (st.num : Nat)] :: shpC cb 158 2 :: F) .refl ?_
      repeat (first
        | refine we_seq ?_
        | (refine we_region _ rfl rfl ?_; simp only [opsOf, List.map_cons, List.map_nil, Option.map_none, Option.map_some, List.getElem?_toArray, List.getElem?_cons_zero, List.getElem?_cons_succ, Option.bind_some, Option.getD_some])
        | refine wo_nil ?_
        | (apply wo_po; apply mo_assign; exact rfl; (first | exact trivial | exact rfl))
        | (apply wo_po; apply mo_fieldAddr; exact rfl; exact rfl; (first | exact Nat.zero_add _ | exact rfl); (first | exact trivial | exact rfl))
        | (apply wo_po; apply mo_load; exact rfl; (repeat (first | exact Rd.row0 rfl | exact Rd.row rfl rfl | exact Rd.still | apply Rd.there)); (first | exact trivial | exact rfl)))
      refine wo_call (.cons rfl (.cons rfl .nil)) trivial (within_tr hk (by omega)) ?_
      rintro v' L' x' ⟨rfl, rfl, rfl⟩
      rw [hkd]
      repeat (first
        | (apply wo_po; apply mo_bin; exact rfl; exact rfl; apply bin_eqlF; omega; (first | exact trivial | exact rfl))
        | refine we_seq ?_
        | (refine we_region _ rfl rfl ?_; simp only [opsOf, List.map_cons, List.map_nil, Option.map_none, Option.map_some, List.getElem?_toArray, List.getElem?_cons_zero, List.getElem?_cons_succ, Option.bind_some, Option.getD_some])
        | refine wo_nil ?_
        | (apply wo_po; apply mo_move; exact rfl; (first | exact trivial | exact rfl))
        | (apply wo_po; apply mo_assign; exact rfl; (first | exact trivial | exact rfl))
        | (apply wo_po; apply mo_fieldAddr; exact rfl; exact rfl; (first | exact Nat.zero_add _ | exact rfl); (first | exact trivial | exact rfl))
        | (apply wo_po; apply mo_load; exact rfl; (repeat (first | exact Rd.row0 rfl | exact Rd.row rfl rfl | exact Rd.still | apply Rd.there)); (first | exact trivial | exact rfl))
        | (apply we_condF; exact rfl; (first | exact rfl | (simp <;> omega) | omega))
        | refine we_skip ?_
        | refine we_block ?_)
      refine wo_star (notesC nb [] :: arr r 0 [.pointer (some ⟨cb, 0, none⟩)] :: arr cb 0 [.int .u32 (st.v : Nat), .int .u64 (st.num : Nat)] :: shpC cb 158 2 :: arr db 0 [.int .i64 kind, .int .u64 (st.num : Nat), .int .u64 (mo : Nat), .int .u32 (V : Nat)] :: arr xb 0 [.pointer (some ⟨cr, 0, none⟩), .pointer (some ⟨fr, 0, none⟩), .pointer (some ⟨r, 0, none⟩)] :: arr cr 0 [.bool true, .int .u64 (st.c : Nat)] :: arr fr 0 [.bool true, .int .u64 (st.f : Nat)] :: F) (fun h st => Ent.star (.take (.there (.there .here)) (.take (.there (.there (.there (.there .here)))) (.take (.there (.there (.there (.there .here)))) (.take (.there (.there (.there (.there .here)))) .refl)))) st) ?_
      skip
      refine wo_call (.cons rfl (.cons rfl (.cons rfl (.cons rfl .nil)))) trivial (btry_n_yes (by omega)) ?_
      rintro v' L' x' ⟨cb', rfl, rfl, rfl⟩
      repeat (first
        | refine we_seq ?_
        | (refine we_region _ rfl rfl ?_; simp only [opsOf, List.map_cons, List.map_nil, Option.map_none, Option.map_some, List.getElem?_toArray, List.getElem?_cons_zero, List.getElem?_cons_succ, Option.bind_some, Option.getD_some])
        | refine wo_nil ?_
        | (apply wo_po; apply mo_move; exact rfl; (first | exact trivial | exact rfl))
        | (apply wo_po; apply mo_assign; exact rfl; (first | exact trivial | exact rfl))
        | (apply wo_po; apply mo_extract; exact rfl; exact rfl; (first | exact trivial | exact rfl)))
      refine wo_call (.cons rfl .nil) trivial yes_tr ?_
      rintro v' L' x' ⟨rfl, rfl, rfl⟩
      repeat (first
        | (apply wo_mo; apply mo_buildSlice (sz := 1) (vs := [num (yes true)]); exact rfl; (repeat (first | exact EvL.nil | apply EvL.cons rfl)); exact rfl; (repeat (first | exact List.forall_mem_nil _ | refine List.forall_mem_cons.2 ⟨rfl, ?_⟩)); omega; exact trivial))
      rintro v' L' ⟨vb, rfl, rfl⟩
      repeat (first
        | refine wo_nil ?_
        | (apply wo_po; apply mo_move; exact rfl; (first | exact trivial | exact rfl))
        | (apply wo_po; apply mo_assign; exact rfl; (first | exact trivial | exact rfl))
        | refine we_ret ?_)
      (first | refine at_ret2 (ex := .ret) Try.func37 Try.results37 hQ (.inl rfl) rfl rfl ?_ | refine at_ret2 (ex := .normal) Try.func37 Try.results37 hQ (.inr rfl) rfl rfl ?_)
      refine ⟨_, cb', rfl, rfl, fun h st => ?_⟩
      exact vec_new (n := 1) rfl (Ent.star (.take .here (.take .here (.take (.there (.there (.there (.there (.there .here))))) (.take (.there (.there (.there (.there (.there .here))))) (.take .here (.take .here (.take .here (.drop (.drop .refl))))))))) st)
    · skip
      have e : Mach.cellF 10 N mo V st = (st, [0], [(1, 0)]) := if_neg c
      rw [e]
      dsimp only
      refine Tr.post (R := fun w L' x' => ∃ bv cb', w = .tuple #[bv, .int .i64 0] ∧ x' = x ∧ ∀ h, Star L' h → Star (vec 1 bv ([0].map num) :: notesC nb (([(1, 0)] : List (Nat × Nat)).map mkI) :: (cellsL cr fr r cb' st ++ F)) h) ?_ (by rintro w L' x' ⟨bv, cb', rfl, rfl, hs⟩; exact ⟨_, ⟨bv, cb', rfl, rfl, rfl⟩, hs⟩)
      refine tr_of_body Try.func37 rfl Try.ntmps37 (by simp) fun um Q hQ => ?_
      simp only [argE, Nat.zero_add, Nat.reduceAdd]
      repeat (first
        | (apply wo_mo; apply mo_box; exact rfl; exact trivial)
        | refine we_seq ?_
        | (refine we_region _ rfl rfl ?_; simp only [opsOf, List.map_cons, List.map_nil, Option.map_none, Option.map_some, List.getElem?_toArray, List.getElem?_cons_zero, List.getElem?_cons_succ, Option.bind_some, Option.getD_some]))
      rintro v' L' ⟨xb, rfl, rfl⟩
      refine wo_ent (arr xb 0 [.pointer (some ⟨cr, 0, none⟩), .pointer (some ⟨fr, 0, none⟩), .pointer (some ⟨r, 0, none⟩)] :: notesC nb [] :: arr cr 0 [.bool true, .int .u64 (st.c : Nat)] :: arr fr 0 [.bool true, .int .u64 (st.f : Nat)] :: arr r 0 [.pointer (some ⟨cb, 0, none⟩)] :: arr cb 0 [.int .u32 (st.v : Nat), .int .u64 (st.num : Nat)] :: shpC cb 158 2 :: F) .refl ?_
      repeat (first
        | (apply wo_mo; apply mo_box; exact rfl; exact trivial))
      rintro v' L' ⟨db, rfl, rfl⟩
      refine wo_ent (arr db 0 [.int .i64 kind, .int .u64 (N : Nat), .int .u64 (mo : Nat), .int .u32 (V : Nat)] :: arr xb 0 [.pointer (some ⟨cr, 0, none⟩), .pointer (some ⟨fr, 0, none⟩), .pointer (some ⟨r, 0, none⟩)] :: notesC nb [] :: arr cr 0 [.bool true, .int .u64 (st.c : Nat)] :: arr fr 0 [.bool true, .int .u64 (st.f : Nat)] :: arr r 0 [.pointer (some ⟨cb, 0, none⟩)] :: arr cb 0 [.int .u32 (st.v : Nat), .int .u64 (st.num : Nat)] :: shpC cb 158 2 :: F) .refl ?_
      repeat (first
        | refine we_seq ?_
        | (refine we_region _ rfl rfl ?_; simp only [opsOf, List.map_cons, List.map_nil, Option.map_none, Option.map_some, List.getElem?_toArray, List.getElem?_cons_zero, List.getElem?_cons_succ, Option.bind_some, Option.getD_some])
        | refine wo_nil ?_
        | (apply wo_po; apply mo_assign; exact rfl; (first | exact trivial | exact rfl))
        | (apply wo_po; apply mo_fieldAddr; exact rfl; exact rfl; (first | exact Nat.zero_add _ | exact rfl); (first | exact trivial | exact rfl))
        | (apply wo_po; apply mo_load; exact rfl; (repeat (first | exact Rd.row0 rfl | exact Rd.row rfl rfl | exact Rd.still | apply Rd.there)); (first | exact trivial | exact rfl)))
      refine wo_call (.cons rfl (.cons rfl .nil)) trivial (within_tr hk (by omega)) ?_
      rintro v' L' x' ⟨rfl, rfl, rfl⟩
      rw [hkd]
      repeat (first
        | (apply wo_po; apply mo_bin; exact rfl; exact rfl; apply bin_eqlF; omega; (first | exact trivial | exact rfl))
        | refine we_seq ?_
        | (refine we_region _ rfl rfl ?_; simp only [opsOf, List.map_cons, List.map_nil, Option.map_none, Option.map_some, List.getElem?_toArray, List.getElem?_cons_zero, List.getElem?_cons_succ, Option.bind_some, Option.getD_some])
        | refine wo_nil ?_
        | (apply wo_po; apply mo_move; exact rfl; (first | exact trivial | exact rfl))
        | (apply wo_po; apply mo_assign; exact rfl; (first | exact trivial | exact rfl))
        | (apply wo_po; apply mo_fieldAddr; exact rfl; exact rfl; (first | exact Nat.zero_add _ | exact rfl); (first | exact trivial | exact rfl))
        | (apply wo_po; apply mo_load; exact rfl; (repeat (first | exact Rd.row0 rfl | exact Rd.row rfl rfl | exact Rd.still | apply Rd.there)); (first | exact trivial | exact rfl))
        | (apply we_condF; exact rfl; (first | exact rfl | (simp <;> omega) | omega))
        | refine we_skip ?_
        | refine we_block ?_)
      refine wo_star (notesC nb [] :: arr r 0 [.pointer (some ⟨cb, 0, none⟩)] :: arr cb 0 [.int .u32 (st.v : Nat), .int .u64 (st.num : Nat)] :: shpC cb 158 2 :: arr db 0 [.int .i64 kind, .int .u64 (N : Nat), .int .u64 (mo : Nat), .int .u32 (V : Nat)] :: arr xb 0 [.pointer (some ⟨cr, 0, none⟩), .pointer (some ⟨fr, 0, none⟩), .pointer (some ⟨r, 0, none⟩)] :: arr cr 0 [.bool true, .int .u64 (st.c : Nat)] :: arr fr 0 [.bool true, .int .u64 (st.f : Nat)] :: F) (fun h st => Ent.star (.take (.there (.there .here)) (.take (.there (.there (.there (.there .here)))) (.take (.there (.there (.there (.there .here)))) (.take (.there (.there (.there (.there .here)))) .refl)))) st) ?_
      skip
      refine wo_call (.cons rfl (.cons rfl (.cons rfl (.cons rfl .nil)))) trivial (btry_n_no c) ?_
      rintro v' L' x' ⟨rfl, rfl, rfl⟩
      repeat (first
        | refine we_seq ?_
        | (refine we_region _ rfl rfl ?_; simp only [opsOf, List.map_cons, List.map_nil, Option.map_none, Option.map_some, List.getElem?_toArray, List.getElem?_cons_zero, List.getElem?_cons_succ, Option.bind_some, Option.getD_some])
        | refine wo_nil ?_
        | (apply wo_po; apply mo_move; exact rfl; (first | exact trivial | exact rfl))
        | (apply wo_po; apply mo_assign; exact rfl; (first | exact trivial | exact rfl))
        | (apply wo_po; apply mo_extract; exact rfl; exact rfl; (first | exact trivial | exact rfl)))
      refine wo_call (.cons rfl .nil) trivial yes_tr ?_
      rintro v' L' x' ⟨rfl, rfl, rfl⟩
      repeat (first
        | (apply wo_mo; apply mo_buildSlice (sz := 1) (vs := [num (yes false)]); exact rfl; (repeat (first | exact EvL.nil | apply EvL.cons rfl)); exact rfl; (repeat (first | exact List.forall_mem_nil _ | refine List.forall_mem_cons.2 ⟨rfl, ?_⟩)); omega; exact trivial))
      rintro v' L' ⟨vb, rfl, rfl⟩
      repeat (first
        | refine wo_nil ?_
        | (apply wo_po; apply mo_move; exact rfl; (first | exact trivial | exact rfl))
        | (apply wo_po; apply mo_assign; exact rfl; (first | exact trivial | exact rfl))
        | refine we_ret ?_)
      (first | refine at_ret2 (ex := .ret) Try.func37 Try.results37 hQ (.inl rfl) rfl rfl ?_ | refine at_ret2 (ex := .normal) Try.func37 Try.results37 hQ (.inr rfl) rfl rfl ?_)
      refine ⟨_, cb, rfl, rfl, fun h st => ?_⟩
      exact vec_new (n := 1) rfl (Ent.star (.take .here (.take .here (.take (.there (.there (.there (.there (.there .here))))) (.take (.there (.there (.there (.there (.there .here))))) (.take .here (.take .here (.take .here (.drop (.drop .refl))))))))) st)

set_option maxHeartbeats 16000000 in
theorem done_n (hk : -9223372036854775808 ≤ kind ∧ kind ≤ 9223372036854775807) {kd : Nat} (hkd : kind % 11 = kd) (hN : N < 18446744073709551616) (hm : mo < 18446744073709551616) (hV : V < 4294967296) (hkk : k < 4000000) (O : Mach.COk k st) (h10 : kd ≤ 10) : Tr Try.prog B 11 [.agg #[.pointer (some ⟨cr, 0, none⟩), .pointer (some ⟨fr, 0, none⟩), .pointer (some ⟨r, 0, none⟩)], .iface 40 (.pointer (some ⟨nb, 0, none⟩)), .agg #[.int .i64 kind, .int .u64 (N : Nat), .int .u64 (mo : Nat), .int .u32 (V : Nat)]] (notesC nb [] :: arr cr 0 [.bool true, .int .u64 (st.c : Nat)] :: arr fr 0 [.bool true, .int .u64 (st.f : Nat)] :: arr r 0 [.pointer (some ⟨cb, 0, none⟩)] :: arr cb 0 [.int .u32 (st.v : Nat), .int .u64 (st.num : Nat)] :: shpC cb 158 2 :: F) x fun w L' x' => ∃ bv cb', w = .tuple #[bv, .int .i64 0] ∧ L' = vec 1 bv ((Mach.cellF kd N mo V st).2.1.map num) :: notesC nb ((Mach.cellF kd N mo V st).2.2.map mkI) :: (cellsL cr fr r cb' (Mach.cellF kd N mo V st).1 ++ F) ∧ x' = x := by
  have h1 := O.c
  have h2 := O.f
  have h3 := O.v
  have h4 := O.num
  by_cases h5 : 5 ≤ kd
  · refine Tr.post (R := fun w L' x' => ∃ bv cb', w = .tuple #[bv, .int .i64 0] ∧ x' = x ∧ ∀ h, Star L' h → Star (vec 1 bv ((Mach.cellF kd N mo V st).2.1.map num) :: notesC nb ((Mach.cellF kd N mo V st).2.2.map mkI) :: (cellsL cr fr r cb' (Mach.cellF kd N mo V st).1 ++ F)) h) ?_ (by rintro w L' x' ⟨bv, cb', rfl, rfl, hs⟩; exact ⟨_, ⟨bv, cb', rfl, rfl, rfl⟩, hs⟩)
    refine tr_of_body Try.func11 rfl Try.ntmps11 (by simp) fun um Q hQ => ?_
    simp only [argE, Nat.zero_add, Nat.reduceAdd]
    repeat (first
      | (apply wo_mo; apply mo_box; exact rfl; exact trivial)
      | refine we_seq ?_
      | (refine we_region _ rfl rfl ?_; simp only [opsOf, List.map_cons, List.map_nil, Option.map_none, Option.map_some, List.getElem?_toArray, List.getElem?_cons_zero, List.getElem?_cons_succ, Option.bind_some, Option.getD_some]))
    rintro v' L' ⟨xb, rfl, rfl⟩
    refine wo_ent (arr xb 0 [.pointer (some ⟨cr, 0, none⟩), .pointer (some ⟨fr, 0, none⟩), .pointer (some ⟨r, 0, none⟩)] :: notesC nb [] :: arr cr 0 [.bool true, .int .u64 (st.c : Nat)] :: arr fr 0 [.bool true, .int .u64 (st.f : Nat)] :: arr r 0 [.pointer (some ⟨cb, 0, none⟩)] :: arr cb 0 [.int .u32 (st.v : Nat), .int .u64 (st.num : Nat)] :: shpC cb 158 2 :: F) .refl ?_
    repeat (first
      | (apply wo_mo; apply mo_box; exact rfl; exact trivial))
    rintro v' L' ⟨db, rfl, rfl⟩
    refine wo_ent (arr db 0 [.int .i64 kind, .int .u64 (N : Nat), .int .u64 (mo : Nat), .int .u32 (V : Nat)] :: arr xb 0 [.pointer (some ⟨cr, 0, none⟩), .pointer (some ⟨fr, 0, none⟩), .pointer (some ⟨r, 0, none⟩)] :: notesC nb [] :: arr cr 0 [.bool true, .int .u64 (st.c : Nat)] :: arr fr 0 [.bool true, .int .u64 (st.f : Nat)] :: arr r 0 [.pointer (some ⟨cb, 0, none⟩)] :: arr cb 0 [.int .u32 (st.v : Nat), .int .u64 (st.num : Nat)] :: shpC cb 158 2 :: F) .refl ?_
    repeat (first
      | refine we_seq ?_
      | (refine we_region _ rfl rfl ?_; simp only [opsOf, List.map_cons, List.map_nil, Option.map_none, Option.map_some, List.getElem?_toArray, List.getElem?_cons_zero, List.getElem?_cons_succ, Option.bind_some, Option.getD_some])
      | refine wo_nil ?_
      | (apply wo_po; apply mo_assign; exact rfl; (first | exact trivial | exact rfl))
      | (apply wo_po; apply mo_fieldAddr; exact rfl; exact rfl; (first | exact Nat.zero_add _ | exact rfl); (first | exact trivial | exact rfl))
      | (apply wo_po; apply mo_load; exact rfl; (repeat (first | exact Rd.row0 rfl | exact Rd.row rfl rfl | exact Rd.still | apply Rd.there)); (first | exact trivial | exact rfl)))
    refine wo_call (.cons rfl (.cons rfl .nil)) trivial (within_tr hk (by omega)) ?_
    rintro v' L' x' ⟨rfl, rfl, rfl⟩
    rw [hkd]
    repeat (first
      | (apply wo_po; apply mo_loadA (vs := [.pointer (some ⟨cr, 0, none⟩), .pointer (some ⟨fr, 0, none⟩), .pointer (some ⟨r, 0, none⟩)]); exact rfl; exact rfl; exact Rds.all (.there .here); exact trivial)
      | (apply wo_po; apply mo_loadA (vs := [.int .i64 kind, .int .u64 (N : Nat), .int .u64 (mo : Nat), .int .u32 (V : Nat)]); exact rfl; exact rfl; exact Rds.all .here; exact trivial)
      | (apply wo_po; apply mo_bin; exact rfl; exact rfl; apply bin_eqlF; omega; (first | exact trivial | exact rfl))
      | refine we_seq ?_
      | (refine we_region _ rfl rfl ?_; simp only [opsOf, List.map_cons, List.map_nil, Option.map_none, Option.map_some, List.getElem?_toArray, List.getElem?_cons_zero, List.getElem?_cons_succ, Option.bind_some, Option.getD_some])
      | refine wo_nil ?_
      | (apply wo_po; apply mo_move; exact rfl; (first | exact trivial | exact rfl))
      | (apply wo_po; apply mo_assign; exact rfl; (first | exact trivial | exact rfl))
      | (apply we_condF; exact rfl; (first | exact rfl | (simp <;> omega) | omega))
      | refine we_skip ?_
      | refine we_block ?_)
    refine wo_star (notesC nb [] :: arr cr 0 [.bool true, .int .u64 (st.c : Nat)] :: arr fr 0 [.bool true, .int .u64 (st.f : Nat)] :: arr r 0 [.pointer (some ⟨cb, 0, none⟩)] :: arr cb 0 [.int .u32 (st.v : Nat), .int .u64 (st.num : Nat)] :: shpC cb 158 2 :: arr db 0 [.int .i64 kind, .int .u64 (N : Nat), .int .u64 (mo : Nat), .int .u32 (V : Nat)] :: arr xb 0 [.pointer (some ⟨cr, 0, none⟩), .pointer (some ⟨fr, 0, none⟩), .pointer (some ⟨r, 0, none⟩)] :: F) (fun h st => Ent.star (.take (.there (.there .here)) (.take (.there (.there .here)) (.take (.there (.there .here)) (.take (.there (.there .here)) (.take (.there (.there .here)) (.take (.there (.there .here)) .refl)))))) st) ?_
    refine wo_call (.cons rfl (.cons rfl (.cons rfl .nil))) trivial (other_n (F := arr db 0 [.int .i64 kind, .int .u64 (N : Nat), .int .u64 (mo : Nat), .int .u32 (V : Nat)] :: arr xb 0 [.pointer (some ⟨cr, 0, none⟩), .pointer (some ⟨fr, 0, none⟩), .pointer (some ⟨r, 0, none⟩)] :: F) hk hkd hN hm hV hkk O h5 h10) ?_
    rintro v' L' x' ⟨bv, cb', rfl, rfl, rfl⟩
    repeat (first
      | refine wo_nil ?_
      | (apply wo_po; apply mo_assign; exact rfl; (first | exact trivial | exact rfl))
      | (apply wo_po; apply mo_extract; exact rfl; exact rfl; (first | exact trivial | exact rfl))
      | refine we_ret ?_)
    (first | refine at_ret2 (ex := .ret) Try.func11 Try.results11 hQ (.inl rfl) rfl rfl ?_ | refine at_ret2 (ex := .normal) Try.func11 Try.results11 hQ (.inr rfl) rfl rfl ?_)
    exact ⟨bv, cb', rfl, rfl, fun h st => Ent.star (.take .here (.take .here (.take .here (.take .here (.take .here (.take .here (.take .here (.drop (.drop .refl))))))))) st⟩
  have hc : kd = 0 ∨ kd = 1 ∨ kd = 2 ∨ kd = 3 ∨ kd = 4 := by omega
  rcases hc with rfl | rfl | rfl | rfl | rfl
  · skip
    have e : Mach.cellF 0 N mo V st = (st, [st.c], [(1, 0)]) := rfl
    rw [e]
    dsimp only
    refine Tr.post (R := fun w L' x' => ∃ bv cb', w = .tuple #[bv, .int .i64 0] ∧ x' = x ∧ ∀ h, Star L' h → Star (vec 1 bv ([st.c].map num) :: notesC nb (([(1, 0)] : List (Nat × Nat)).map mkI) :: (cellsL cr fr r cb' st ++ F)) h) ?_ (by rintro w L' x' ⟨bv, cb', rfl, rfl, hs⟩; exact ⟨_, ⟨bv, cb', rfl, rfl, rfl⟩, hs⟩)
    refine tr_of_body Try.func11 rfl Try.ntmps11 (by simp) fun um Q hQ => ?_
    simp only [argE, Nat.zero_add, Nat.reduceAdd]
    repeat (first
      | (apply wo_mo; apply mo_box; exact rfl; exact trivial)
      | refine we_seq ?_
      | (refine we_region _ rfl rfl ?_; simp only [opsOf, List.map_cons, List.map_nil, Option.map_none, Option.map_some, List.getElem?_toArray, List.getElem?_cons_zero, List.getElem?_cons_succ, Option.bind_some, Option.getD_some]))
    rintro v' L' ⟨xb, rfl, rfl⟩
    refine wo_ent (arr xb 0 [.pointer (some ⟨cr, 0, none⟩), .pointer (some ⟨fr, 0, none⟩), .pointer (some ⟨r, 0, none⟩)] :: notesC nb [] :: arr cr 0 [.bool true, .int .u64 (st.c : Nat)] :: arr fr 0 [.bool true, .int .u64 (st.f : Nat)] :: arr r 0 [.pointer (some ⟨cb, 0, none⟩)] :: arr cb 0 [.int .u32 (st.v : Nat), .int .u64 (st.num : Nat)] :: shpC cb 158 2 :: F) .refl ?_
    repeat (first
      | (apply wo_mo; apply mo_box; exact rfl; exact trivial))
    rintro v' L' ⟨db, rfl, rfl⟩
    refine wo_ent (arr db 0 [.int .i64 kind, .int .u64 (N : Nat), .int .u64 (mo : Nat), .int .u32 (V : Nat)] :: arr xb 0 [.pointer (some ⟨cr, 0, none⟩), .pointer (some ⟨fr, 0, none⟩), .pointer (some ⟨r, 0, none⟩)] :: notesC nb [] :: arr cr 0 [.bool true, .int .u64 (st.c : Nat)] :: arr fr 0 [.bool true, .int .u64 (st.f : Nat)] :: arr r 0 [.pointer (some ⟨cb, 0, none⟩)] :: arr cb 0 [.int .u32 (st.v : Nat), .int .u64 (st.num : Nat)] :: shpC cb 158 2 :: F) .refl ?_
    repeat (first
      | refine we_seq ?_
      | (refine we_region _ rfl rfl ?_; simp only [opsOf, List.map_cons, List.map_nil, Option.map_none, Option.map_some, List.getElem?_toArray, List.getElem?_cons_zero, List.getElem?_cons_succ, Option.bind_some, Option.getD_some])
      | refine wo_nil ?_
      | (apply wo_po; apply mo_assign; exact rfl; (first | exact trivial | exact rfl))
      | (apply wo_po; apply mo_fieldAddr; exact rfl; exact rfl; (first | exact Nat.zero_add _ | exact rfl); (first | exact trivial | exact rfl))
      | (apply wo_po; apply mo_load; exact rfl; (repeat (first | exact Rd.row0 rfl | exact Rd.row rfl rfl | exact Rd.still | apply Rd.there)); (first | exact trivial | exact rfl)))
    refine wo_call (.cons rfl (.cons rfl .nil)) trivial (within_tr hk (by omega)) ?_
    rintro v' L' x' ⟨rfl, rfl, rfl⟩
    rw [hkd]
    repeat (first
      | (apply wo_po; apply mo_bin; exact rfl; exact rfl; apply bin_eqlT; omega; (first | exact trivial | exact rfl))
      | refine we_seq ?_
      | (refine we_region _ rfl rfl ?_; simp only [opsOf, List.map_cons, List.map_nil, Option.map_none, Option.map_some, List.getElem?_toArray, List.getElem?_cons_zero, List.getElem?_cons_succ, Option.bind_some, Option.getD_some])
      | refine wo_nil ?_
      | (apply wo_po; apply mo_move; exact rfl; (first | exact trivial | exact rfl))
      | (apply wo_po; apply mo_assign; exact rfl; (first | exact trivial | exact rfl))
      | (apply wo_po; apply mo_fieldAddr; exact rfl; exact rfl; (first | exact Nat.zero_add _ | exact rfl); (first | exact trivial | exact rfl))
      | (apply wo_po; apply mo_load; exact rfl; (repeat (first | exact Rd.row0 rfl | exact Rd.row rfl rfl | exact Rd.still | apply Rd.there)); (first | exact trivial | exact rfl))
      | (apply we_condT; exact rfl; (first | exact rfl | (simp <;> omega) | omega))
      | refine we_block ?_)
    refine wo_star (arr cr 0 [.bool true, .int .u64 (st.c : Nat)] :: notesC nb [] :: arr db 0 [.int .i64 kind, .int .u64 (N : Nat), .int .u64 (mo : Nat), .int .u32 (V : Nat)] :: arr xb 0 [.pointer (some ⟨cr, 0, none⟩), .pointer (some ⟨fr, 0, none⟩), .pointer (some ⟨r, 0, none⟩)] :: arr fr 0 [.bool true, .int .u64 (st.f : Nat)] :: arr r 0 [.pointer (some ⟨cb, 0, none⟩)] :: arr cb 0 [.int .u32 (st.v : Nat), .int .u64 (st.num : Nat)] :: shpC cb 158 2 :: F) (fun h st => Ent.star (.take (.there (.there (.there .here))) (.take (.there (.there .here)) .refl)) st) ?_
    skip
    refine wo_call (.cons rfl (.cons rfl .nil)) trivial (get_n h1) ?_
    rintro v' L' x' ⟨rfl, rfl, rfl⟩
    repeat (first
      | (apply wo_mo; apply mo_buildSlice (sz := 1) (vs := [num (st.c)]); exact rfl; (repeat (first | exact EvL.nil | apply EvL.cons rfl)); exact rfl; (repeat (first | exact List.forall_mem_nil _ | refine List.forall_mem_cons.2 ⟨rfl, ?_⟩)); omega; exact trivial)
      | refine we_seq ?_
      | (refine we_region _ rfl rfl ?_; simp only [opsOf, List.map_cons, List.map_nil, Option.map_none, Option.map_some, List.getElem?_toArray, List.getElem?_cons_zero, List.getElem?_cons_succ, Option.bind_some, Option.getD_some])
      | refine wo_nil ?_
      | (apply wo_po; apply mo_move; exact rfl; (first | exact trivial | exact rfl))
      | (apply wo_po; apply mo_assign; exact rfl; (first | exact trivial | exact rfl))
      | (apply wo_po; apply mo_extract; exact rfl; exact rfl; (first | exact trivial | exact rfl)))
    rintro v' L' ⟨vb, rfl, rfl⟩
    repeat (first
      | refine wo_nil ?_
      | (apply wo_po; apply mo_move; exact rfl; (first | exact trivial | exact rfl))
      | (apply wo_po; apply mo_assign; exact rfl; (first | exact trivial | exact rfl))
      | refine we_ret ?_)
    (first | refine at_ret2 (ex := .ret) Try.func11 Try.results11 hQ (.inl rfl) rfl rfl ?_ | refine at_ret2 (ex := .normal) Try.func11 Try.results11 hQ (.inr rfl) rfl rfl ?_)
    refine ⟨_, cb, rfl, rfl, fun h st => ?_⟩
    exact vec_new (n := 1) rfl (Ent.star (.take .here (.take (.there .here) (.take .here (.take (.there (.there .here)) (.take (.there (.there .here)) (.take (.there (.there .here)) (.take (.there (.there .here)) (.drop (.drop .refl))))))))) st)
  · skip
    have e : Mach.cellF 1 N mo V st = ({ st with c := (st.c + N) % 18446744073709551616 }, [(st.c + N) % 18446744073709551616], [(3, 0)]) := rfl
    rw [e]
    dsimp only
    refine Tr.post (R := fun w L' x' => ∃ bv cb', w = .tuple #[bv, .int .i64 0] ∧ x' = x ∧ ∀ h, Star L' h → Star (vec 1 bv ([(st.c + N) % 18446744073709551616].map num) :: notesC nb (([(3, 0)] : List (Nat × Nat)).map mkI) :: (cellsL cr fr r cb' { st with c := (st.c + N) % 18446744073709551616 } ++ F)) h) ?_ (by rintro w L' x' ⟨bv, cb', rfl, rfl, hs⟩; exact ⟨_, ⟨bv, cb', rfl, rfl, rfl⟩, hs⟩)
    refine tr_of_body Try.func11 rfl Try.ntmps11 (by simp) fun um Q hQ => ?_
    simp only [argE, Nat.zero_add, Nat.reduceAdd]
    repeat (first
      | (apply wo_mo; apply mo_box; exact rfl; exact trivial)
      | refine we_seq ?_
      | (refine we_region _ rfl rfl ?_; simp only [opsOf, List.map_cons, List.map_nil, Option.map_none, Option.map_some, List.getElem?_toArray, List.getElem?_cons_zero, List.getElem?_cons_succ, Option.bind_some, Option.getD_some]))
    rintro v' L' ⟨xb, rfl, rfl⟩
    refine wo_ent (arr xb 0 [.pointer (some ⟨cr, 0, none⟩), .pointer (some ⟨fr, 0, none⟩), .pointer (some ⟨r, 0, none⟩)] :: notesC nb [] :: arr cr 0 [.bool true, .int .u64 (st.c : Nat)] :: arr fr 0 [.bool true, .int .u64 (st.f : Nat)] :: arr r 0 [.pointer (some ⟨cb, 0, none⟩)] :: arr cb 0 [.int .u32 (st.v : Nat), .int .u64 (st.num : Nat)] :: shpC cb 158 2 :: F) .refl ?_
    repeat (first
      | (apply wo_mo; apply mo_box; exact rfl; exact trivial))
    rintro v' L' ⟨db, rfl, rfl⟩
    refine wo_ent (arr db 0 [.int .i64 kind, .int .u64 (N : Nat), .int .u64 (mo : Nat), .int .u32 (V : Nat)] :: arr xb 0 [.pointer (some ⟨cr, 0, none⟩), .pointer (some ⟨fr, 0, none⟩), .pointer (some ⟨r, 0, none⟩)] :: notesC nb [] :: arr cr 0 [.bool true, .int .u64 (st.c : Nat)] :: arr fr 0 [.bool true, .int .u64 (st.f : Nat)] :: arr r 0 [.pointer (some ⟨cb, 0, none⟩)] :: arr cb 0 [.int .u32 (st.v : Nat), .int .u64 (st.num : Nat)] :: shpC cb 158 2 :: F) .refl ?_
    repeat (first
      | refine we_seq ?_
      | (refine we_region _ rfl rfl ?_; simp only [opsOf, List.map_cons, List.map_nil, Option.map_none, Option.map_some, List.getElem?_toArray, List.getElem?_cons_zero, List.getElem?_cons_succ, Option.bind_some, Option.getD_some])
      | refine wo_nil ?_
      | (apply wo_po; apply mo_assign; exact rfl; (first | exact trivial | exact rfl))
      | (apply wo_po; apply mo_fieldAddr; exact rfl; exact rfl; (first | exact Nat.zero_add _ | exact rfl); (first | exact trivial | exact rfl))
      | (apply wo_po; apply mo_load; exact rfl; (repeat (first | exact Rd.row0 rfl | exact Rd.row rfl rfl | exact Rd.still | apply Rd.there)); (first | exact trivial | exact rfl)))
    refine wo_call (.cons rfl (.cons rfl .nil)) trivial (within_tr hk (by omega)) ?_
    rintro v' L' x' ⟨rfl, rfl, rfl⟩
    rw [hkd]
    repeat (first
      | (apply wo_po; apply mo_bin; exact rfl; exact rfl; apply bin_eqlT; omega; (first | exact trivial | exact rfl))
      | (apply wo_po; apply mo_bin; exact rfl; exact rfl; apply bin_eqlF; omega; (first | exact trivial | exact rfl))
      | refine we_seq ?_
      | (refine we_region _ rfl rfl ?_; simp only [opsOf, List.map_cons, List.map_nil, Option.map_none, Option.map_some, List.getElem?_toArray, List.getElem?_cons_zero, List.getElem?_cons_succ, Option.bind_some, Option.getD_some])
      | refine wo_nil ?_
      | (apply wo_po; apply mo_move; exact rfl; (first | exact trivial | exact rfl))
      | (apply wo_po; apply mo_assign; exact rfl; (first | exact trivial | exact rfl))
      | (apply wo_po; apply mo_fieldAddr; exact rfl; exact rfl; (first | exact Nat.zero_add _ | exact rfl); (first | exact trivial | exact rfl))
      | (apply wo_po; apply mo_load; exact rfl; (repeat (first | exact Rd.row0 rfl | exact Rd.row rfl rfl | exact Rd.still | apply Rd.there)); (first | exact trivial | exact rfl))
      | (apply we_condT; exact rfl; (first | exact rfl | (simp <;> omega) | omega))
      | (apply we_condF; exact rfl; (first | exact rfl | (simp <;> omega) | omega))
      | refine we_block ?_)
    refine wo_star (arr cr 0 [.bool true, .int .u64 (st.c : Nat)] :: notesC nb [] :: arr db 0 [.int .i64 kind, .int .u64 (N : Nat), .int .u64 (mo : Nat), .int .u32 (V : Nat)] :: arr xb 0 [.pointer (some ⟨cr, 0, none⟩), .pointer (some ⟨fr, 0, none⟩), .pointer (some ⟨r, 0, none⟩)] :: arr fr 0 [.bool true, .int .u64 (st.f : Nat)] :: arr r 0 [.pointer (some ⟨cb, 0, none⟩)] :: arr cb 0 [.int .u32 (st.v : Nat), .int .u64 (st.num : Nat)] :: shpC cb 158 2 :: F) (fun h st => Ent.star (.take (.there (.there (.there .here))) (.take (.there (.there .here)) .refl)) st) ?_
    skip
    refine wo_call (.cons rfl (.cons rfl (.cons rfl .nil))) trivial (add_n h1 hN) ?_
    rintro v' L' x' ⟨rfl, rfl, rfl⟩
    repeat (first
      | (apply wo_mo; apply mo_buildSlice (sz := 1) (vs := [num ((st.c + N) % 18446744073709551616)]); exact rfl; (repeat (first | exact EvL.nil | apply EvL.cons rfl)); exact rfl; (repeat (first | exact List.forall_mem_nil _ | refine List.forall_mem_cons.2 ⟨rfl, ?_⟩)); omega; exact trivial)
      | refine we_seq ?_
      | (refine we_region _ rfl rfl ?_; simp only [opsOf, List.map_cons, List.map_nil, Option.map_none, Option.map_some, List.getElem?_toArray, List.getElem?_cons_zero, List.getElem?_cons_succ, Option.bind_some, Option.getD_some])
      | refine wo_nil ?_
      | (apply wo_po; apply mo_move; exact rfl; (first | exact trivial | exact rfl))
      | (apply wo_po; apply mo_assign; exact rfl; (first | exact trivial | exact rfl))
      | (apply wo_po; apply mo_extract; exact rfl; exact rfl; (first | exact trivial | exact rfl)))
    rintro v' L' ⟨vb, rfl, rfl⟩
    repeat (first
      | refine wo_nil ?_
      | (apply wo_po; apply mo_move; exact rfl; (first | exact trivial | exact rfl))
      | (apply wo_po; apply mo_assign; exact rfl; (first | exact trivial | exact rfl))
      | refine we_ret ?_)
    (first | refine at_ret2 (ex := .ret) Try.func11 Try.results11 hQ (.inl rfl) rfl rfl ?_ | refine at_ret2 (ex := .normal) Try.func11 Try.results11 hQ (.inr rfl) rfl rfl ?_)
    refine ⟨_, cb, rfl, rfl, fun h st => ?_⟩
    exact vec_new (n := 1) rfl (Ent.star (.take .here (.take (.there .here) (.take .here (.take (.there (.there .here)) (.take (.there (.there .here)) (.take (.there (.there .here)) (.take (.there (.there .here)) (.drop (.drop .refl))))))))) st)
  · by_cases c : N ≤ mo ∧ st.c ≤ mo - N
    · skip
      have e : Mach.cellF 2 N mo V st = ({ st with c := st.c + N }, [st.c + N, 1], [(1, 0), (5, 0)]) := if_pos c
      rw [e]
      dsimp only
      refine Tr.post (R := fun w L' x' => ∃ bv cb', w = .tuple #[bv, .int .i64 0] ∧ x' = x ∧ ∀ h, Star L' h → Star (vec 1 bv ([st.c + N, 1].map num) :: notesC nb (([(1, 0), (5, 0)] : List (Nat × Nat)).map mkI) :: (cellsL cr fr r cb' { st with c := st.c + N } ++ F)) h) ?_ (by rintro w L' x' ⟨bv, cb', rfl, rfl, hs⟩; exact ⟨_, ⟨bv, cb', rfl, rfl, rfl⟩, hs⟩)
      refine tr_of_body Try.func11 rfl Try.ntmps11 (by simp) fun um Q hQ => ?_
      simp only [argE, Nat.zero_add, Nat.reduceAdd]
      repeat (first
        | (apply wo_mo; apply mo_box; exact rfl; exact trivial)
        | refine we_seq ?_
        | (refine we_region _ rfl rfl ?_; simp only [opsOf, List.map_cons, List.map_nil, Option.map_none, Option.map_some, List.getElem?_toArray, List.getElem?_cons_zero, List.getElem?_cons_succ, Option.bind_some, Option.getD_some]))
      rintro v' L' ⟨xb, rfl, rfl⟩
      refine wo_ent (arr xb 0 [.pointer (some ⟨cr, 0, none⟩), .pointer (some ⟨fr, 0, none⟩), .pointer (some ⟨r, 0, none⟩)] :: notesC nb [] :: arr cr 0 [.bool true, .int .u64 (st.c : Nat)] :: arr fr 0 [.bool true, .int .u64 (st.f : Nat)] :: arr r 0 [.pointer (some ⟨cb, 0, none⟩)] :: arr cb 0 [.int .u32 (st.v : Nat), .int .u64 (st.num : Nat)] :: shpC cb 158 2 :: F) .refl ?_
      repeat (first
        | (apply wo_mo; apply mo_box; exact rfl; exact trivial))
      rintro v' L' ⟨db, rfl, rfl⟩
      refine wo_ent (arr db 0 [.int .i64 kind, .int .u64 (N : Nat), .int .u64 (mo : Nat), .int .u32 (V : Nat)] :: arr xb 0 [.pointer (some ⟨cr, 0, none⟩), .pointer (some ⟨fr, 0, none⟩), .pointer (some ⟨r, 0, none⟩)] :: notesC nb [] :: arr cr 0 [.bool true, .int .u64 (st.c : Nat)] :: arr fr 0 [.bool true, .int .u64 (st.f : Nat)] :: arr r 0 [.pointer (some ⟨cb, 0, none⟩)] :: arr cb 0 [.int .u32 (st.v : Nat), .int .u64 (st.num : Nat)] :: shpC cb 158 2 :: F) .refl ?_
      repeat (first
        | refine we_seq ?_
        | (refine we_region _ rfl rfl ?_; simp only [opsOf, List.map_cons, List.map_nil, Option.map_none, Option.map_some, List.getElem?_toArray, List.getElem?_cons_zero, List.getElem?_cons_succ, Option.bind_some, Option.getD_some])
        | refine wo_nil ?_
        | (apply wo_po; apply mo_assign; exact rfl; (first | exact trivial | exact rfl))
        | (apply wo_po; apply mo_fieldAddr; exact rfl; exact rfl; (first | exact Nat.zero_add _ | exact rfl); (first | exact trivial | exact rfl))
        | (apply wo_po; apply mo_load; exact rfl; (repeat (first | exact Rd.row0 rfl | exact Rd.row rfl rfl | exact Rd.still | apply Rd.there)); (first | exact trivial | exact rfl)))
      refine wo_call (.cons rfl (.cons rfl .nil)) trivial (within_tr hk (by omega)) ?_
      rintro v' L' x' ⟨rfl, rfl, rfl⟩
      rw [hkd]
      repeat (first
        | (apply wo_po; apply mo_bin; exact rfl; exact rfl; apply bin_eqlT; omega; (first | exact trivial | exact rfl))
        | (apply wo_po; apply mo_bin; exact rfl; exact rfl; apply bin_eqlF; omega; (first | exact trivial | exact rfl))
        | refine we_seq ?_
        | (refine we_region _ rfl rfl ?_; simp only [opsOf, List.map_cons, List.map_nil, Option.map_none, Option.map_some, List.getElem?_toArray, List.getElem?_cons_zero, List.getElem?_cons_succ, Option.bind_some, Option.getD_some])
        | refine wo_nil ?_
        | (apply wo_po; apply mo_move; exact rfl; (first | exact trivial | exact rfl))
        | (apply wo_po; apply mo_assign; exact rfl; (first | exact trivial | exact rfl))
        | (apply wo_po; apply mo_fieldAddr; exact rfl; exact rfl; (first | exact Nat.zero_add _ | exact rfl); (first | exact trivial | exact rfl))
        | (apply wo_po; apply mo_load; exact rfl; (repeat (first | exact Rd.row0 rfl | exact Rd.row rfl rfl | exact Rd.still | apply Rd.there)); (first | exact trivial | exact rfl))
        | (apply we_condT; exact rfl; (first | exact rfl | (simp <;> omega) | omega))
        | (apply we_condF; exact rfl; (first | exact rfl | (simp <;> omega) | omega))
        | refine we_block ?_)
      refine wo_star (arr cr 0 [.bool true, .int .u64 (st.c : Nat)] :: notesC nb [] :: arr db 0 [.int .i64 kind, .int .u64 (N : Nat), .int .u64 (mo : Nat), .int .u32 (V : Nat)] :: arr xb 0 [.pointer (some ⟨cr, 0, none⟩), .pointer (some ⟨fr, 0, none⟩), .pointer (some ⟨r, 0, none⟩)] :: arr fr 0 [.bool true, .int .u64 (st.f : Nat)] :: arr r 0 [.pointer (some ⟨cb, 0, none⟩)] :: arr cb 0 [.int .u32 (st.v : Nat), .int .u64 (st.num : Nat)] :: shpC cb 158 2 :: F) (fun h st => Ent.star (.take (.there (.there (.there .here))) (.take (.there (.there .here)) .refl)) st) ?_
      skip
      refine wo_call (.cons rfl (.cons rfl (.cons rfl (.cons rfl .nil)))) trivial (up_yes h1 hN hm c) ?_
      rintro v' L' x' ⟨rfl, rfl, rfl⟩
      repeat (first
        | refine we_seq ?_
        | (refine we_region _ rfl rfl ?_; simp only [opsOf, List.map_cons, List.map_nil, Option.map_none, Option.map_some, List.getElem?_toArray, List.getElem?_cons_zero, List.getElem?_cons_succ, Option.bind_some, Option.getD_some])
        | refine wo_nil ?_
        | (apply wo_po; apply mo_move; exact rfl; (first | exact trivial | exact rfl))
        | (apply wo_po; apply mo_assign; exact rfl; (first | exact trivial | exact rfl))
        | (apply wo_po; apply mo_extract; exact rfl; exact rfl; (first | exact trivial | exact rfl)))
      refine wo_call (.cons rfl .nil) trivial yes_tr ?_
      rintro v' L' x' ⟨rfl, rfl, rfl⟩
      repeat (first
        | (apply wo_mo; apply mo_buildSlice (sz := 1) (vs := [num (st.c + N), num (yes true)]); exact rfl; (repeat (first | exact EvL.nil | apply EvL.cons rfl)); exact rfl; (repeat (first | exact List.forall_mem_nil _ | refine List.forall_mem_cons.2 ⟨rfl, ?_⟩)); omega; exact trivial))
      rintro v' L' ⟨vb, rfl, rfl⟩
      repeat (first
        | refine wo_nil ?_
        | (apply wo_po; apply mo_move; exact rfl; (first | exact trivial | exact rfl))
        | (apply wo_po; apply mo_assign; exact rfl; (first | exact trivial | exact rfl))
        | refine we_ret ?_)
      (first | refine at_ret2 (ex := .ret) Try.func11 Try.results11 hQ (.inl rfl) rfl rfl ?_ | refine at_ret2 (ex := .normal) Try.func11 Try.results11 hQ (.inr rfl) rfl rfl ?_)
      refine ⟨_, cb, rfl, rfl, fun h st => ?_⟩
      exact vec_new (n := 2) rfl (Ent.star (.take .here (.take (.there .here) (.take .here (.take (.there (.there .here)) (.take (.there (.there .here)) (.take (.there (.there .here)) (.take (.there (.there .here)) (.drop (.drop .refl))))))))) st)
    · skip
      have e : Mach.cellF 2 N mo V st = (st, [st.c, 0], [(1, 0)]) := if_neg c
      rw [e]
      dsimp only
      refine Tr.post (R := fun w L' x' => ∃ bv cb', w = .tuple #[bv, .int .i64 0] ∧ x' = x ∧ ∀ h, Star L' h → Star (vec 1 bv ([st.c, 0].map num) :: notesC nb (([(1, 0)] : List (Nat × Nat)).map mkI) :: (cellsL cr fr r cb' st ++ F)) h) ?_ (by rintro w L' x' ⟨bv, cb', rfl, rfl, hs⟩; exact ⟨_, ⟨bv, cb', rfl, rfl, rfl⟩, hs⟩)
      refine tr_of_body Try.func11 rfl Try.ntmps11 (by simp) fun um Q hQ => ?_
      simp only [argE, Nat.zero_add, Nat.reduceAdd]
      repeat (first
        | (apply wo_mo; apply mo_box; exact rfl; exact trivial)
        | refine we_seq ?_
        | (refine we_region _ rfl rfl ?_; simp only [opsOf, List.map_cons, List.map_nil, Option.map_none, Option.map_some, List.getElem?_toArray, List.getElem?_cons_zero, List.getElem?_cons_succ, Option.bind_some, Option.getD_some]))
      rintro v' L' ⟨xb, rfl, rfl⟩
      refine wo_ent (arr xb 0 [.pointer (some ⟨cr, 0, none⟩), .pointer (some ⟨fr, 0, none⟩), .pointer (some ⟨r, 0, none⟩)] :: notesC nb [] :: arr cr 0 [.bool true, .int .u64 (st.c : Nat)] :: arr fr 0 [.bool true, .int .u64 (st.f : Nat)] :: arr r 0 [.pointer (some ⟨cb, 0, none⟩)] :: arr cb 0 [.int .u32 (st.v : Nat), .int .u64 (st.num : Nat)] :: shpC cb 158 2 :: F) .refl ?_
      repeat (first
        | (apply wo_mo; apply mo_box; exact rfl; exact trivial))
      rintro v' L' ⟨db, rfl, rfl⟩
      refine wo_ent (arr db 0 [.int .i64 kind, .int .u64 (N : Nat), .int .u64 (mo : Nat), .int .u32 (V : Nat)] :: arr xb 0 [.pointer (some ⟨cr, 0, none⟩), .pointer (some ⟨fr, 0, none⟩), .pointer (some ⟨r, 0, none⟩)] :: notesC nb [] :: arr cr 0 [.bool true, .int .u64 (st.c : Nat)] :: arr fr 0 [.bool true, .int .u64 (st.f : Nat)] :: arr r 0 [.pointer (some ⟨cb, 0, none⟩)] :: arr cb 0 [.int .u32 (st.v : Nat), .int .u64 (st.num : Nat)] :: shpC cb 158 2 :: F) .refl ?_
      repeat (first
        | refine we_seq ?_
        | (refine we_region _ rfl rfl ?_; simp only [opsOf, List.map_cons, List.map_nil, Option.map_none, Option.map_some, List.getElem?_toArray, List.getElem?_cons_zero, List.getElem?_cons_succ, Option.bind_some, Option.getD_some])
        | refine wo_nil ?_
        | (apply wo_po; apply mo_assign; exact rfl; (first | exact trivial | exact rfl))
        | (apply wo_po; apply mo_fieldAddr; exact rfl; exact rfl; (first | exact Nat.zero_add _ | exact rfl); (first | exact trivial | exact rfl))
        | (apply wo_po; apply mo_load; exact rfl; (repeat (first | exact Rd.row0 rfl | exact Rd.row rfl rfl | exact Rd.still | apply Rd.there)); (first | exact trivial | exact rfl)))
      refine wo_call (.cons rfl (.cons rfl .nil)) trivial (within_tr hk (by omega)) ?_
      rintro v' L' x' ⟨rfl, rfl, rfl⟩
      rw [hkd]
      repeat (first
        | (apply wo_po; apply mo_bin; exact rfl; exact rfl; apply bin_eqlT; omega; (first | exact trivial | exact rfl))
        | (apply wo_po; apply mo_bin; exact rfl; exact rfl; apply bin_eqlF; omega; (first | exact trivial | exact rfl))
        | refine we_seq ?_
        | (refine we_region _ rfl rfl ?_; simp only [opsOf, List.map_cons, List.map_nil, Option.map_none, Option.map_some, List.getElem?_toArray, List.getElem?_cons_zero, List.getElem?_cons_succ, Option.bind_some, Option.getD_some])
        | refine wo_nil ?_
        | (apply wo_po; apply mo_move; exact rfl; (first | exact trivial | exact rfl))
        | (apply wo_po; apply mo_assign; exact rfl; (first | exact trivial | exact rfl))
        | (apply wo_po; apply mo_fieldAddr; exact rfl; exact rfl; (first | exact Nat.zero_add _ | exact rfl); (first | exact trivial | exact rfl))
        | (apply wo_po; apply mo_load; exact rfl; (repeat (first | exact Rd.row0 rfl | exact Rd.row rfl rfl | exact Rd.still | apply Rd.there)); (first | exact trivial | exact rfl))
        | (apply we_condT; exact rfl; (first | exact rfl | (simp <;> omega) | omega))
        | (apply we_condF; exact rfl; (first | exact rfl | (simp <;> omega) | omega))
        | refine we_block ?_)
      refine wo_star (arr cr 0 [.bool true, .int .u64 (st.c : Nat)] :: notesC nb [] :: arr db 0 [.int .i64 kind, .int .u64 (N : Nat), .int .u64 (mo : Nat), .int .u32 (V : Nat)] :: arr xb 0 [.pointer (some ⟨cr, 0, none⟩), .pointer (some ⟨fr, 0, none⟩), .pointer (some ⟨r, 0, none⟩)] :: arr fr 0 [.bool true, .int .u64 (st.f : Nat)] :: arr r 0 [.pointer (some ⟨cb, 0, none⟩)] :: arr cb 0 [.int .u32 (st.v : Nat), .int .u64 (st.num : Nat)] :: shpC cb 158 2 :: F) (fun h st => Ent.star (.take (.there (.there (.there .here))) (.take (.there (.there .here)) .refl)) st) ?_
      skip
      refine wo_call (.cons rfl (.cons rfl (.cons rfl (.cons rfl .nil)))) trivial (up_no h1 hN hm c) ?_
      rintro v' L' x' ⟨rfl, rfl, rfl⟩
      repeat (first
        | refine we_seq ?_
        | (refine we_region _ rfl rfl ?_; simp only [opsOf, List.map_cons, List.map_nil, Option.map_none, Option.map_some, List.getElem?_toArray, List.getElem?_cons_zero, List.getElem?_cons_succ, Option.bind_some, Option.getD_some])
        | refine wo_nil ?_
        | (apply wo_po; apply mo_move; exact rfl; (first | exact trivial | exact rfl))
        | (apply wo_po; apply mo_assign; exact rfl; (first | exact trivial | exact rfl))
        | (apply wo_po; apply mo_extract; exact rfl; exact rfl; (first | exact trivial | exact rfl)))
      refine wo_call (.cons rfl .nil) trivial yes_tr ?_
      rintro v' L' x' ⟨rfl, rfl, rfl⟩
      repeat (first
        | (apply wo_mo; apply mo_buildSlice (sz := 1) (vs := [num (st.c), num (yes false)]); exact rfl; (repeat (first | exact EvL.nil | apply EvL.cons rfl)); exact rfl; (repeat (first | exact List.forall_mem_nil _ | refine List.forall_mem_cons.2 ⟨rfl, ?_⟩)); omega; exact trivial))
      rintro v' L' ⟨vb, rfl, rfl⟩
      repeat (first
        | refine wo_nil ?_
        | (apply wo_po; apply mo_move; exact rfl; (first | exact trivial | exact rfl))
        | (apply wo_po; apply mo_assign; exact rfl; (first | exact trivial | exact rfl))
        | refine we_ret ?_)
      (first | refine at_ret2 (ex := .ret) Try.func11 Try.results11 hQ (.inl rfl) rfl rfl ?_ | refine at_ret2 (ex := .normal) Try.func11 Try.results11 hQ (.inr rfl) rfl rfl ?_)
      refine ⟨_, cb, rfl, rfl, fun h st => ?_⟩
      exact vec_new (n := 2) rfl (Ent.star (.take .here (.take (.there .here) (.take .here (.take (.there (.there .here)) (.take (.there (.there .here)) (.take (.there (.there .here)) (.take (.there (.there .here)) (.drop (.drop .refl))))))))) st)
  · by_cases c : N ≤ st.c
    · skip
      have e : Mach.cellF 3 N mo V st = ({ st with c := st.c - N }, [st.c - N, 1], [(1, 0), (5, 0)]) := if_pos c
      rw [e]
      dsimp only
      refine Tr.post (R := fun w L' x' => ∃ bv cb', w = .tuple #[bv, .int .i64 0] ∧ x' = x ∧ ∀ h, Star L' h → Star (vec 1 bv ([st.c - N, 1].map num) :: notesC nb (([(1, 0), (5, 0)] : List (Nat × Nat)).map mkI) :: (cellsL cr fr r cb' { st with c := st.c - N } ++ F)) h) ?_ (by rintro w L' x' ⟨bv, cb', rfl, rfl, hs⟩; exact ⟨_, ⟨bv, cb', rfl, rfl, rfl⟩, hs⟩)
      refine tr_of_body Try.func11 rfl Try.ntmps11 (by simp) fun um Q hQ => ?_
      simp only [argE, Nat.zero_add, Nat.reduceAdd]
      repeat (first
        | (apply wo_mo; apply mo_box; exact rfl; exact trivial)
        | refine we_seq ?_
        | (refine we_region _ rfl rfl ?_; simp only [opsOf, List.map_cons, List.map_nil, Option.map_none, Option.map_some, List.getElem?_toArray, List.getElem?_cons_zero, List.getElem?_cons_succ, Option.bind_some, Option.getD_some]))
      rintro v' L' ⟨xb, rfl, rfl⟩
      refine wo_ent (arr xb 0 [.pointer (some ⟨cr, 0, none⟩), .pointer (some ⟨fr, 0, none⟩), .pointer (some ⟨r, 0, none⟩)] :: notesC nb [] :: arr cr 0 [.bool true, .int .u64 (st.c : Nat)] :: arr fr 0 [.bool true, .int .u64 (st.f : Nat)] :: arr r 0 [.pointer (some ⟨cb, 0, none⟩)] :: arr cb 0 [.int .u32 (st.v : Nat), .int .u64 (st.num : Nat)] :: shpC cb 158 2 :: F) .refl ?_
      repeat (first
        | (apply wo_mo; apply mo_box; exact rfl; exact trivial))
      rintro v' L' ⟨db, rfl, rfl⟩
      refine wo_ent (arr db 0 [.int .i64 kind, .int .u64 (N : Nat), .int .u64 (mo : Nat), .int .u32 (V : Nat)] :: arr xb 0 [.pointer (some ⟨cr, 0, none⟩), .pointer (some ⟨fr, 0, none⟩), .pointer (some ⟨r, 0, none⟩)] :: notesC nb [] :: arr cr 0 [.bool true, .int .u64 (st.c : Nat)] :: arr fr 0 [.bool true, .int .u64 (st.f : Nat)] :: arr r 0 [.pointer (some ⟨cb, 0, none⟩)] :: arr cb 0 [.int .u32 (st.v : Nat), .int .u64 (st.num : Nat)] :: shpC cb 158 2 :: F) .refl ?_
      repeat (first
        | refine we_seq ?_
        | (refine we_region _ rfl rfl ?_; simp only [opsOf, List.map_cons, List.map_nil, Option.map_none, Option.map_some, List.getElem?_toArray, List.getElem?_cons_zero, List.getElem?_cons_succ, Option.bind_some, Option.getD_some])
        | refine wo_nil ?_
        | (apply wo_po; apply mo_assign; exact rfl; (first | exact trivial | exact rfl))
        | (apply wo_po; apply mo_fieldAddr; exact rfl; exact rfl; (first | exact Nat.zero_add _ | exact rfl); (first | exact trivial | exact rfl))
        | (apply wo_po; apply mo_load; exact rfl; (repeat (first | exact Rd.row0 rfl | exact Rd.row rfl rfl | exact Rd.still | apply Rd.there)); (first | exact trivial | exact rfl)))
      refine wo_call (.cons rfl (.cons rfl .nil)) trivial (within_tr hk (by omega)) ?_
      rintro v' L' x' ⟨rfl, rfl, rfl⟩
      rw [hkd]
      repeat (first
        | (apply wo_po; apply mo_bin; exact rfl; exact rfl; apply bin_eqlT; omega; (first | exact trivial | exact rfl))
        | (apply wo_po; apply mo_bin; exact rfl; exact rfl; apply bin_eqlF; omega; (first | exact trivial | exact rfl))
        | refine we_seq ?_
        | (refine we_region _ rfl rfl ?_; simp only [opsOf, List.map_cons, List.map_nil, Option.map_none, Option.map_some, List.getElem?_toArray, List.getElem?_cons_zero, List.getElem?_cons_succ, Option.bind_some, Option.getD_some])
        | refine wo_nil ?_
        | (apply wo_po; apply mo_move; exact rfl; (first | exact trivial | exact rfl))
        | (apply wo_po; apply mo_assign; exact rfl; (first | exact trivial | exact rfl))
        | (apply wo_po; apply mo_fieldAddr; exact rfl; exact rfl; (first | exact Nat.zero_add _ | exact rfl); (first | exact trivial | exact rfl))
        | (apply wo_po; apply mo_load; exact rfl; (repeat (first | exact Rd.row0 rfl | exact Rd.row rfl rfl | exact Rd.still | apply Rd.there)); (first | exact trivial | exact rfl))
        | (apply we_condT; exact rfl; (first | exact rfl | (simp <;> omega) | omega))
        | (apply we_condF; exact rfl; (first | exact rfl | (simp <;> omega) | omega))
        | refine we_block ?_)
      refine wo_star (arr cr 0 [.bool true, .int .u64 (st.c : Nat)] :: notesC nb [] :: arr db 0 [.int .i64 kind, .int .u64 (N : Nat), .int .u64 (mo : Nat), .int .u32 (V : Nat)] :: arr xb 0 [.pointer (some ⟨cr, 0, none⟩), .pointer (some ⟨fr, 0, none⟩), .pointer (some ⟨r, 0, none⟩)] :: arr fr 0 [.bool true, .int .u64 (st.f : Nat)] :: arr r 0 [.pointer (some ⟨cb, 0, none⟩)] :: arr cb 0 [.int .u32 (st.v : Nat), .int .u64 (st.num : Nat)] :: shpC cb 158 2 :: F) (fun h st => Ent.star (.take (.there (.there (.there .here))) (.take (.there (.there .here)) .refl)) st) ?_
      skip
      refine wo_call (.cons rfl (.cons rfl (.cons rfl .nil))) trivial (down_yes h1 hN c) ?_
      rintro v' L' x' ⟨rfl, rfl, rfl⟩
      repeat (first
        | refine we_seq ?_
        | (refine we_region _ rfl rfl ?_; simp only [opsOf, List.map_cons, List.map_nil, Option.map_none, Option.map_some, List.getElem?_toArray, List.getElem?_cons_zero, List.getElem?_cons_succ, Option.bind_some, Option.getD_some])
        | refine wo_nil ?_
        | (apply wo_po; apply mo_move; exact rfl; (first | exact trivial | exact rfl))
        | (apply wo_po; apply mo_assign; exact rfl; (first | exact trivial | exact rfl))
        | (apply wo_po; apply mo_extract; exact rfl; exact rfl; (first | exact trivial | exact rfl)))
      refine wo_call (.cons rfl .nil) trivial yes_tr ?_
      rintro v' L' x' ⟨rfl, rfl, rfl⟩
      repeat (first
        | (apply wo_mo; apply mo_buildSlice (sz := 1) (vs := [num (st.c - N), num (yes true)]); exact rfl; (repeat (first | exact EvL.nil | apply EvL.cons rfl)); exact rfl; (repeat (first | exact List.forall_mem_nil _ | refine List.forall_mem_cons.2 ⟨rfl, ?_⟩)); omega; exact trivial))
      rintro v' L' ⟨vb, rfl, rfl⟩
      repeat (first
        | refine wo_nil ?_
        | (apply wo_po; apply mo_move; exact rfl; (first | exact trivial | exact rfl))
        | (apply wo_po; apply mo_assign; exact rfl; (first | exact trivial | exact rfl))
        | refine we_ret ?_)
      (first | refine at_ret2 (ex := .ret) Try.func11 Try.results11 hQ (.inl rfl) rfl rfl ?_ | refine at_ret2 (ex := .normal) Try.func11 Try.results11 hQ (.inr rfl) rfl rfl ?_)
      refine ⟨_, cb, rfl, rfl, fun h st => ?_⟩
      exact vec_new (n := 2) rfl (Ent.star (.take .here (.take (.there .here) (.take .here (.take (.there (.there .here)) (.take (.there (.there .here)) (.take (.there (.there .here)) (.take (.there (.there .here)) (.drop (.drop .refl))))))))) st)
    · skip
      have e : Mach.cellF 3 N mo V st = (st, [st.c, 0], [(1, 0)]) := if_neg c
      rw [e]
      dsimp only
      refine Tr.post (R := fun w L' x' => ∃ bv cb', w = .tuple #[bv, .int .i64 0] ∧ x' = x ∧ ∀ h, Star L' h → Star (vec 1 bv ([st.c, 0].map num) :: notesC nb (([(1, 0)] : List (Nat × Nat)).map mkI) :: (cellsL cr fr r cb' st ++ F)) h) ?_ (by rintro w L' x' ⟨bv, cb', rfl, rfl, hs⟩; exact ⟨_, ⟨bv, cb', rfl, rfl, rfl⟩, hs⟩)
      refine tr_of_body Try.func11 rfl Try.ntmps11 (by simp) fun um Q hQ => ?_
      simp only [argE, Nat.zero_add, Nat.reduceAdd]
      repeat (first
        | (apply wo_mo; apply mo_box; exact rfl; exact trivial)
        | refine we_seq ?_
        | (refine we_region _ rfl rfl ?_; simp only [opsOf, List.map_cons, List.map_nil, Option.map_none, Option.map_some, List.getElem?_toArray, List.getElem?_cons_zero, List.getElem?_cons_succ, Option.bind_some, Option.getD_some]))
      rintro v' L' ⟨xb, rfl, rfl⟩
      refine wo_ent (arr xb 0 [.pointer (some ⟨cr, 0, none⟩), .pointer (some ⟨fr, 0, none⟩), .pointer (some ⟨r, 0, none⟩)] :: notesC nb [] :: arr cr 0 [.bool true, .int .u64 (st.c : Nat)] :: arr fr 0 [.bool true, .int .u64 (st.f : Nat)] :: arr r 0 [.pointer (some ⟨cb, 0, none⟩)] :: arr cb 0 [.int .u32 (st.v : Nat), .int .u64 (st.num : Nat)] :: shpC cb 158 2 :: F) .refl ?_
      repeat (first
        | (apply wo_mo; apply mo_box; exact rfl; exact trivial))
      rintro v' L' ⟨db, rfl, rfl⟩
      refine wo_ent (arr db 0 [.int .i64 kind, .int .u64 (N : Nat), .int .u64 (mo : Nat), .int .u32 (V : Nat)] :: arr xb 0 [.pointer (some ⟨cr, 0, none⟩), .pointer (some ⟨fr, 0, none⟩), .pointer (some ⟨r, 0, none⟩)] :: notesC nb [] :: arr cr 0 [.bool true, .int .u64 (st.c : Nat)] :: arr fr 0 [.bool true, .int .u64 (st.f : Nat)] :: arr r 0 [.pointer (some ⟨cb, 0, none⟩)] :: arr cb 0 [.int .u32 (st.v : Nat), .int .u64 (st.num : Nat)] :: shpC cb 158 2 :: F) .refl ?_
      repeat (first
        | refine we_seq ?_
        | (refine we_region _ rfl rfl ?_; simp only [opsOf, List.map_cons, List.map_nil, Option.map_none, Option.map_some, List.getElem?_toArray, List.getElem?_cons_zero, List.getElem?_cons_succ, Option.bind_some, Option.getD_some])
        | refine wo_nil ?_
        | (apply wo_po; apply mo_assign; exact rfl; (first | exact trivial | exact rfl))
        | (apply wo_po; apply mo_fieldAddr; exact rfl; exact rfl; (first | exact Nat.zero_add _ | exact rfl); (first | exact trivial | exact rfl))
        | (apply wo_po; apply mo_load; exact rfl; (repeat (first | exact Rd.row0 rfl | exact Rd.row rfl rfl | exact Rd.still | apply Rd.there)); (first | exact trivial | exact rfl)))
      refine wo_call (.cons rfl (.cons rfl .nil)) trivial (within_tr hk (by omega)) ?_
      rintro v' L' x' ⟨rfl, rfl, rfl⟩
      rw [hkd]
      repeat (first
        | (apply wo_po; apply mo_bin; exact rfl; exact rfl; apply bin_eqlT; omega; (first | exact trivial | exact rfl))
        | (apply wo_po; apply mo_bin; exact rfl; exact rfl; apply bin_eqlF; omega; (first | exact trivial | exact rfl))
        | refine we_seq ?_
        | (refine we_region _ rfl rfl ?_; simp only [opsOf, List.map_cons, List.map_nil, Option.map_none, Option.map_some, List.getElem?_toArray, List.getElem?_cons_zero, List.getElem?_cons_succ, Option.bind_some, Option.getD_some])
        | refine wo_nil ?_
        | (apply wo_po; apply mo_move; exact rfl; (first | exact trivial | exact rfl))
        | (apply wo_po; apply mo_assign; exact rfl; (first | exact trivial | exact rfl))
        | (apply wo_po; apply mo_fieldAddr; exact rfl; exact rfl; (first | exact Nat.zero_add _ | exact rfl); (first | exact trivial | exact rfl))
        | (apply wo_po; apply mo_load; exact rfl; (repeat (first | exact Rd.row0 rfl | exact Rd.row rfl rfl | exact Rd.still | apply Rd.there)); (first | exact trivial | exact rfl))
        | (apply we_condT; exact rfl; (first | exact rfl | (simp <;> omega) | omega))
        | (apply we_condF; exact rfl; (first | exact rfl | (simp <;> omega) | omega))
        | refine we_block ?_)
      refine wo_star (arr cr 0 [.bool true, .int .u64 (st.c : Nat)] :: notesC nb [] :: arr db 0 [.int .i64 kind, .int .u64 (N : Nat), .int .u64 (mo : Nat), .int .u32 (V : Nat)] :: arr xb 0 [.pointer (some ⟨cr, 0, none⟩), .pointer (some ⟨fr, 0, none⟩), .pointer (some ⟨r, 0, none⟩)] :: arr fr 0 [.bool true, .int .u64 (st.f : Nat)] :: arr r 0 [.pointer (some ⟨cb, 0, none⟩)] :: arr cb 0 [.int .u32 (st.v : Nat), .int .u64 (st.num : Nat)] :: shpC cb 158 2 :: F) (fun h st => Ent.star (.take (.there (.there (.there .here))) (.take (.there (.there .here)) .refl)) st) ?_
      skip
      refine wo_call (.cons rfl (.cons rfl (.cons rfl .nil))) trivial (down_no h1 hN c) ?_
      rintro v' L' x' ⟨rfl, rfl, rfl⟩
      repeat (first
        | refine we_seq ?_
        | (refine we_region _ rfl rfl ?_; simp only [opsOf, List.map_cons, List.map_nil, Option.map_none, Option.map_some, List.getElem?_toArray, List.getElem?_cons_zero, List.getElem?_cons_succ, Option.bind_some, Option.getD_some])
        | refine wo_nil ?_
        | (apply wo_po; apply mo_move; exact rfl; (first | exact trivial | exact rfl))
        | (apply wo_po; apply mo_assign; exact rfl; (first | exact trivial | exact rfl))
        | (apply wo_po; apply mo_extract; exact rfl; exact rfl; (first | exact trivial | exact rfl)))
      refine wo_call (.cons rfl .nil) trivial yes_tr ?_
      rintro v' L' x' ⟨rfl, rfl, rfl⟩
      repeat (first
        | (apply wo_mo; apply mo_buildSlice (sz := 1) (vs := [num (st.c), num (yes false)]); exact rfl; (repeat (first | exact EvL.nil | apply EvL.cons rfl)); exact rfl; (repeat (first | exact List.forall_mem_nil _ | refine List.forall_mem_cons.2 ⟨rfl, ?_⟩)); omega; exact trivial))
      rintro v' L' ⟨vb, rfl, rfl⟩
      repeat (first
        | refine wo_nil ?_
        | (apply wo_po; apply mo_move; exact rfl; (first | exact trivial | exact rfl))
        | (apply wo_po; apply mo_assign; exact rfl; (first | exact trivial | exact rfl))
        | refine we_ret ?_)
      (first | refine at_ret2 (ex := .ret) Try.func11 Try.results11 hQ (.inl rfl) rfl rfl ?_ | refine at_ret2 (ex := .normal) Try.func11 Try.results11 hQ (.inr rfl) rfl rfl ?_)
      refine ⟨_, cb, rfl, rfl, fun h st => ?_⟩
      exact vec_new (n := 2) rfl (Ent.star (.take .here (.take (.there .here) (.take .here (.take (.there (.there .here)) (.take (.there (.there .here)) (.take (.there (.there .here)) (.take (.there (.there .here)) (.drop (.drop .refl))))))))) st)
  · by_cases c : st.c < N
    · skip
      have e : Mach.cellF 4 N mo V st = ({ st with c := N }, [1], [(1, 0), (5, 0)]) := if_pos c
      rw [e]
      dsimp only
      refine Tr.post (R := fun w L' x' => ∃ bv cb', w = .tuple #[bv, .int .i64 0] ∧ x' = x ∧ ∀ h, Star L' h → Star (vec 1 bv ([1].map num) :: notesC nb (([(1, 0), (5, 0)] : List (Nat × Nat)).map mkI) :: (cellsL cr fr r cb' { st with c := N } ++ F)) h) ?_ (by rintro w L' x' ⟨bv, cb', rfl, rfl, hs⟩; exact ⟨_, ⟨bv, cb', rfl, rfl, rfl⟩, hs⟩)
      refine tr_of_body Try.func11 rfl Try.ntmps11 (by simp) fun um Q hQ => ?_
      simp only [argE, Nat.zero_add, Nat.reduceAdd]
      repeat (first
        | (apply wo_mo; apply mo_box; exact rfl; exact trivial)
        | refine we_seq ?_
        | (refine we_region _ rfl rfl ?_; simp only [opsOf, List.map_cons, List.map_nil, Option.map_none, Option.map_some, List.getElem?_toArray, List.getElem?_cons_zero, List.getElem?_cons_succ, Option.bind_some, Option.getD_some]))
      rintro v' L' ⟨xb, rfl, rfl⟩
      refine wo_ent (arr xb 0 [.pointer (some ⟨cr, 0, none⟩), .pointer (some ⟨fr, 0, none⟩), .pointer (some ⟨r, 0, none⟩)] :: notesC nb [] :: arr cr 0 [.bool true, .int .u64 (st.c : Nat)] :: arr fr 0 [.bool true, .int .u64 (st.f : Nat)] :: arr r 0 [.pointer (some ⟨cb, 0, none⟩)] :: arr cb 0 [.int .u32 (st.v : Nat), .int .u64 (st.num : Nat)] :: shpC cb 158 2 :: F) .refl ?_
      repeat (first
        | (apply wo_mo; apply mo_box; exact rfl; exact trivial))
      rintro v' L' ⟨db, rfl, rfl⟩
      refine wo_ent (arr db 0 [.int .i64 kind, .int .u64 (N : Nat), .int .u64 (mo : Nat), .int .u32 (V : Nat)] :: arr xb 0 [.pointer (some ⟨cr, 0, none⟩), .pointer (some ⟨fr, 0, none⟩), .pointer (some ⟨r, 0, none⟩)] :: notesC nb [] :: arr cr 0 [.bool true, .int .u64 (st.c : Nat)] :: arr fr 0 [.bool true, .int .u64 (st.f : Nat)] :: arr r 0 [.pointer (some ⟨cb, 0, none⟩)] :: arr cb 0 [.int .u32 (st.v : Nat), .int .u64 (st.num : Nat)] :: shpC cb 158 2 :: F) .refl ?_
      repeat (first
        | refine we_seq ?_
        | (refine we_region _ rfl rfl ?_; simp only [opsOf, List.map_cons, List.map_nil, Option.map_none, Option.map_some, List.getElem?_toArray, List.getElem?_cons_zero, List.getElem?_cons_succ, Option.bind_some, Option.getD_some])
        | refine wo_nil ?_
        | (apply wo_po; apply mo_assign; exact rfl; (first | exact trivial | exact rfl))
        | (apply wo_po; apply mo_fieldAddr; exact rfl; exact rfl; (first | exact Nat.zero_add _ | exact rfl); (first | exact trivial | exact rfl))
        | (apply wo_po; apply mo_load; exact rfl; (repeat (first | exact Rd.row0 rfl | exact Rd.row rfl rfl | exact Rd.still | apply Rd.there)); (first | exact trivial | exact rfl)))
      refine wo_call (.cons rfl (.cons rfl .nil)) trivial (within_tr hk (by omega)) ?_
      rintro v' L' x' ⟨rfl, rfl, rfl⟩
      rw [hkd]
      repeat (first
        | (apply wo_po; apply mo_bin; exact rfl; exact rfl; apply bin_eqlT; omega; (first | exact trivial | exact rfl))
        | (apply wo_po; apply mo_bin; exact rfl; exact rfl; apply bin_eqlF; omega; (first | exact trivial | exact rfl))
        | refine we_seq ?_
        | (refine we_region _ rfl rfl ?_; simp only [opsOf, List.map_cons, List.map_nil, Option.map_none, Option.map_some, List.getElem?_toArray, List.getElem?_cons_zero, List.getElem?_cons_succ, Option.bind_some, Option.getD_some])
        | refine wo_nil ?_
        | (apply wo_po; apply mo_move; exact rfl; (first | exact trivial | exact rfl))
        | (apply wo_po; apply mo_assign; exact rfl; (first | exact trivial | exact rfl))
        | (apply wo_po; apply mo_fieldAddr; exact rfl; exact rfl; (first | exact Nat.zero_add _ | exact rfl); (first | exact trivial | exact rfl))
        | (apply wo_po; apply mo_load; exact rfl; (repeat (first | exact Rd.row0 rfl | exact Rd.row rfl rfl | exact Rd.still | apply Rd.there)); (first | exact trivial | exact rfl))
        | (apply we_condT; exact rfl; (first | exact rfl | (simp <;> omega) | omega))
        | (apply we_condF; exact rfl; (first | exact rfl | (simp <;> omega) | omega))
        | refine we_block ?_)
      refine wo_star (arr cr 0 [.bool true, .int .u64 (st.c : Nat)] :: notesC nb [] :: arr db 0 [.int .i64 kind, .int .u64 (N : Nat), .int .u64 (mo : Nat), .int .u32 (V : Nat)] :: arr xb 0 [.pointer (some ⟨cr, 0, none⟩), .pointer (some ⟨fr, 0, none⟩), .pointer (some ⟨r, 0, none⟩)] :: arr fr 0 [.bool true, .int .u64 (st.f : Nat)] :: arr r 0 [.pointer (some ⟨cb, 0, none⟩)] :: arr cb 0 [.int .u32 (st.v : Nat), .int .u64 (st.num : Nat)] :: shpC cb 158 2 :: F) (fun h st => Ent.star (.take (.there (.there (.there .here))) (.take (.there (.there .here)) .refl)) st) ?_
      skip
      refine wo_call (.cons rfl (.cons rfl (.cons rfl .nil))) trivial (max_yes h1 hN c) ?_
      rintro v' L' x' ⟨rfl, rfl, rfl⟩
      repeat (first
        | refine we_seq ?_
        | (refine we_region _ rfl rfl ?_; simp only [opsOf, List.map_cons, List.map_nil, Option.map_none, Option.map_some, List.getElem?_toArray, List.getElem?_cons_zero, List.getElem?_cons_succ, Option.bind_some, Option.getD_some])
        | refine wo_nil ?_
        | (apply wo_po; apply mo_move; exact rfl; (first | exact trivial | exact rfl))
        | (apply wo_po; apply mo_assign; exact rfl; (first | exact trivial | exact rfl))
        | (apply wo_po; apply mo_extract; exact rfl; exact rfl; (first | exact trivial | exact rfl)))
      refine wo_call (.cons rfl .nil) trivial yes_tr ?_
      rintro v' L' x' ⟨rfl, rfl, rfl⟩
      repeat (first
        | (apply wo_mo; apply mo_buildSlice (sz := 1) (vs := [num (yes true)]); exact rfl; (repeat (first | exact EvL.nil | apply EvL.cons rfl)); exact rfl; (repeat (first | exact List.forall_mem_nil _ | refine List.forall_mem_cons.2 ⟨rfl, ?_⟩)); omega; exact trivial))
      rintro v' L' ⟨vb, rfl, rfl⟩
      repeat (first
        | refine wo_nil ?_
        | (apply wo_po; apply mo_move; exact rfl; (first | exact trivial | exact rfl))
        | (apply wo_po; apply mo_assign; exact rfl; (first | exact trivial | exact rfl))
        | refine we_ret ?_)
      (first | refine at_ret2 (ex := .ret) Try.func11 Try.results11 hQ (.inl rfl) rfl rfl ?_ | refine at_ret2 (ex := .normal) Try.func11 Try.results11 hQ (.inr rfl) rfl rfl ?_)
      refine ⟨_, cb, rfl, rfl, fun h st => ?_⟩
      exact vec_new (n := 1) rfl (Ent.star (.take .here (.take (.there .here) (.take .here (.take (.there (.there .here)) (.take (.there (.there .here)) (.take (.there (.there .here)) (.take (.there (.there .here)) (.drop (.drop .refl))))))))) st)
    · skip
      have e : Mach.cellF 4 N mo V st = (st, [0], [(1, 0)]) := if_neg c
      rw [e]
      dsimp only
      refine Tr.post (R := fun w L' x' => ∃ bv cb', w = .tuple #[bv, .int .i64 0] ∧ x' = x ∧ ∀ h, Star L' h → Star (vec 1 bv ([0].map num) :: notesC nb (([(1, 0)] : List (Nat × Nat)).map mkI) :: (cellsL cr fr r cb' st ++ F)) h) ?_ (by rintro w L' x' ⟨bv, cb', rfl, rfl, hs⟩; exact ⟨_, ⟨bv, cb', rfl, rfl, rfl⟩, hs⟩)
      refine tr_of_body Try.func11 rfl Try.ntmps11 (by simp) fun um Q hQ => ?_
      simp only [argE, Nat.zero_add, Nat.reduceAdd]
      repeat (first
        | (apply wo_mo; apply mo_box; exact rfl; exact trivial)
        | refine we_seq ?_
        | (refine we_region _ rfl rfl ?_; simp only [opsOf, List.map_cons, List.map_nil, Option.map_none, Option.map_some, List.getElem?_toArray, List.getElem?_cons_zero, List.getElem?_cons_succ, Option.bind_some, Option.getD_some]))
      rintro v' L' ⟨xb, rfl, rfl⟩
      refine wo_ent (arr xb 0 [.pointer (some ⟨cr, 0, none⟩), .pointer (some ⟨fr, 0, none⟩), .pointer (some ⟨r, 0, none⟩)] :: notesC nb [] :: arr cr 0 [.bool true, .int .u64 (st.c : Nat)] :: arr fr 0 [.bool true, .int .u64 (st.f : Nat)] :: arr r 0 [.pointer (some ⟨cb, 0, none⟩)] :: arr cb 0 [.int .u32 (st.v : Nat), .int .u64 (st.num : Nat)] :: shpC cb 158 2 :: F) .refl ?_
      repeat (first
        | (apply wo_mo; apply mo_box; exact rfl; exact trivial))
      rintro v' L' ⟨db, rfl, rfl⟩
      refine wo_ent (arr db 0 [.int .i64 kind, .int .u64 (N : Nat), .int .u64 (mo : Nat), .int .u32 (V : Nat)] :: arr xb 0 [.pointer (some ⟨cr, 0, none⟩), .pointer (some ⟨fr, 0, none⟩), .pointer (some ⟨r, 0, none⟩)] :: notesC nb [] :: arr cr 0 [.bool true, .int .u64 (st.c : Nat)] :: arr fr 0 [.bool true, .int .u64 (st.f : Nat)] :: arr r 0 [.pointer (some ⟨cb, 0, none⟩)] :: arr cb 0 [.int .u32 (st.v : Nat), .int .u64 (st.num : Nat)] :: shpC cb 158 2 :: F) .refl ?_
      repeat (first
        | refine we_seq ?_
        | (refine we_region _ rfl rfl ?_; simp only [opsOf, List.map_cons, List.map_nil, Option.map_none, Option.map_some, List.getElem?_toArray, List.getElem?_cons_zero, List.getElem?_cons_succ, Option.bind_some, Option.getD_some])
        | refine wo_nil ?_
        | (apply wo_po; apply mo_assign; exact rfl; (first | exact trivial | exact rfl))
        | (apply wo_po; apply mo_fieldAddr; exact rfl; exact rfl; (first | exact Nat.zero_add _ | exact rfl); (first | exact trivial | exact rfl))
        | (apply wo_po; apply mo_load; exact rfl; (repeat (first | exact Rd.row0 rfl | exact Rd.row rfl rfl | exact Rd.still | apply Rd.there)); (first | exact trivial | exact rfl)))
      refine wo_call (.cons rfl (.cons rfl .nil)) trivial (within_tr hk (by omega)) ?_
      rintro v' L' x' ⟨rfl, rfl, rfl⟩
      rw [hkd]
      repeat (first
        | (apply wo_po; apply mo_bin; exact rfl; exact rfl; apply bin_eqlT; omega; (first | exact trivial | exact rfl))
        | (apply wo_po; apply mo_bin; exact rfl; exact rfl; apply bin_eqlF; omega; (first | exact trivial | exact rfl))
        | refine we_seq ?_
        | (refine we_region _ rfl rfl ?_; simp only [opsOf, List.map_cons, List.map_nil, Option.map_none, Option.map_some, List.getElem?_toArray, List.getElem?_cons_zero, List.getElem?_cons_succ, Option.bind_some, Option.getD_some])
        | refine wo_nil ?_
        | (apply wo_po; apply mo_move; exact rfl; (first | exact trivial | exact rfl))
        | (apply wo_po; apply mo_assign; exact rfl; (first | exact trivial | exact rfl))
        | (apply wo_po; apply mo_fieldAddr; exact rfl; exact rfl; (first | exact Nat.zero_add _ | exact rfl); (first | exact trivial | exact rfl))
        | (apply wo_po; apply mo_load; exact rfl; (repeat (first | exact Rd.row0 rfl | exact Rd.row rfl rfl | exact Rd.still | apply Rd.there)); (first | exact trivial | exact rfl))
        | (apply we_condT; exact rfl; (first | exact rfl | (simp <;> omega) | omega))
        | (apply we_condF; exact rfl; (first | exact rfl | (simp <;> omega) | omega))
        | refine we_block ?_)
      refine wo_star (arr cr 0 [.bool true, .int .u64 (st.c : Nat)] :: notesC nb [] :: arr db 0 [.int .i64 kind, .int .u64 (N : Nat), .int .u64 (mo : Nat), .int .u32 (V : Nat)] :: arr xb 0 [.pointer (some ⟨cr, 0, none⟩), .pointer (some ⟨fr, 0, none⟩), .pointer (some ⟨r, 0, none⟩)] :: arr fr 0 [.bool true, .int .u64 (st.f : Nat)] :: arr r 0 [.pointer (some ⟨cb, 0, none⟩)] :: arr cb 0 [.int .u32 (st.v : Nat), .int .u64 (st.num : Nat)] :: shpC cb 158 2 :: F) (fun h st => Ent.star (.take (.there (.there (.there .here))) (.take (.there (.there .here)) .refl)) st) ?_
      skip
      refine wo_call (.cons rfl (.cons rfl (.cons rfl .nil))) trivial (max_no h1 hN c) ?_
      rintro v' L' x' ⟨rfl, rfl, rfl⟩
      repeat (first
        | refine we_seq ?_
        | (refine we_region _ rfl rfl ?_; simp only [opsOf, List.map_cons, List.map_nil, Option.map_none, Option.map_some, List.getElem?_toArray, List.getElem?_cons_zero, List.getElem?_cons_succ, Option.bind_some, Option.getD_some])
        | refine wo_nil ?_
        | (apply wo_po; apply mo_move; exact rfl; (first | exact trivial | exact rfl))
        | (apply wo_po; apply mo_assign; exact rfl; (first | exact trivial | exact rfl))
        | (apply wo_po; apply mo_extract; exact rfl; exact rfl; (first | exact trivial | exact rfl)))
      refine wo_call (.cons rfl .nil) trivial yes_tr ?_
      rintro v' L' x' ⟨rfl, rfl, rfl⟩
      repeat (first
        | (apply wo_mo; apply mo_buildSlice (sz := 1) (vs := [num (yes false)]); exact rfl; (repeat (first | exact EvL.nil | apply EvL.cons rfl)); exact rfl; (repeat (first | exact List.forall_mem_nil _ | refine List.forall_mem_cons.2 ⟨rfl, ?_⟩)); omega; exact trivial))
      rintro v' L' ⟨vb, rfl, rfl⟩
      repeat (first
        | refine wo_nil ?_
        | (apply wo_po; apply mo_move; exact rfl; (first | exact trivial | exact rfl))
        | (apply wo_po; apply mo_assign; exact rfl; (first | exact trivial | exact rfl))
        | refine we_ret ?_)
      (first | refine at_ret2 (ex := .ret) Try.func11 Try.results11 hQ (.inl rfl) rfl rfl ?_ | refine at_ret2 (ex := .normal) Try.func11 Try.results11 hQ (.inr rfl) rfl rfl ?_)
      refine ⟨_, cb, rfl, rfl, fun h st => ?_⟩
      exact vec_new (n := 1) rfl (Ent.star (.take .here (.take (.there .here) (.take .here (.take (.there (.there .here)) (.take (.there (.there .here)) (.take (.there (.there .here)) (.take (.there (.there .here)) (.drop (.drop .refl))))))))) st)
end
end Go.Proofs.Ytkgnkloonamheaa
