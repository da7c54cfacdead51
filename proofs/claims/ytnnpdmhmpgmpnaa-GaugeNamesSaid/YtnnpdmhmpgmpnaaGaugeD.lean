/-
  THE GAUGE AND THE BREAKER, ALONE: in memory of one's own, nobody told.
-/
import Derived.Test.YtnnpdmhmpgmpnaaGaugeC
import Derived.Test.YtnnpdmhmpgmpnaaLone
set_option linter.unusedVariables false
set_option linter.unusedSimpArgs false
namespace Go.Proofs.Ytnnpdmhmpgmpnaa
open Go Go.PB
attribute [local irreducible] Mo Bin Eql Tr Wo Ap Wle

def gAddr (r : Nat) (w : Nat) : Nat × Nat := (r, 1 + w)
def bAddr (r : Nat) (_ : Nat) : Nat × Nat := (r, 2)
def gK (r limit : Nat) : List (Nat × Nat × Value) := [(r, 0, .int .u64 (limit : Nat))]
def bK (r fails wait : Nat) : List (Nat × Nat × Value) := [(r, 0, .int .u64 (fails : Nat)), (r, 1, .int .u64 (wait : Nat))]

theorem g_apart (r limit : Nat) : Apart (gAddr r) 2 (gK r limit) where
  inj := fun i j _ _ h => by have := congrArg Prod.snd h; simp only [gAddr] at this; omega
  fix := fun i _ k hk => by simp only [gK, List.mem_singleton] at hk; subst hk; simp [gAddr]
theorem b_apart (r fails wait : Nat) : Apart (bAddr r) 1 (bK r fails wait) where
  inj := fun i j hi hj _ => by omega
  fix := fun i _ k hk => by simp only [bK, List.mem_cons, List.not_mem_nil, or_false] at hk; rcases hk with rfl | rfl <;> simp [bAddr]

section
variable {B : Hand} [Lets B] {x : B.X} {r limit fails wait : Nat} {L F : List HProp} {h : Hp}

/-- the words of a gauge, of a breaker -/
def gC (r limit : Nat) (s : Nat → Nat) : HProp := wds (gAddr r) 2 (gK r limit) s
def bC (r fails wait : Nat) (s : Nat → Nat) : HProp := wds (bAddr r) 1 (bK r fails wait) s

theorem g_wds (st : Star (arr r 0 [.int .u64 (limit : Nat), .int .u64 0, .int .u64 0] :: L) h) : Star (gC r limit (fun _ => 0) :: L) h := by
  refine star_map st (fun h a => ⟨fun w hw => ⟨by show 0 < 18446744073709551616; decide, ?_⟩, fun k hk => ?_⟩) (fun _ y => y)
  · match w with
    | 0 => exact a 1 _ rfl
    | 1 => exact a 2 _ rfl
    | w + 2 => omega
  · simp only [gK, List.mem_singleton] at hk; subst hk; exact a 0 _ rfl
theorem b_wds (st : Star (arr r 0 [.int .u64 (fails : Nat), .int .u64 (wait : Nat), .int .u64 0] :: L) h) : Star (bC r fails wait (fun _ => 0) :: L) h := by
  refine star_map st (fun h a => ⟨fun w hw => ⟨by show 0 < 18446744073709551616; decide, a 2 _ rfl⟩, fun k hk => ?_⟩) (fun _ y => y)
  simp only [bK, List.mem_cons, List.not_mem_nil, or_false] at hk
  rcases hk with rfl | rfl
  · exact a 0 _ rfl
  · exact a 1 _ rfl

theorem gC_rd {s : Nat → Nat} : Rd [gC r limit s] r 0 (.int .u64 (limit : Nat)) := fun h hs => by
  obtain ⟨h1, h2, s1, hc, _⟩ := hs
  exact ⟨rfl, .inl (s1.o1 _ _ _ (hc.2 (r, 0, .int .u64 (limit : Nat)) (List.mem_singleton.2 rfl)))⟩
theorem bC_rd {s : Nat → Nat} : Rd [bC r fails wait s] r 0 (.int .u64 (fails : Nat)) := fun h hs => by
  obtain ⟨h1, h2, s1, hc, _⟩ := hs
  exact ⟨rfl, .inl (s1.o1 _ _ _ (hc.2 (r, 0, .int .u64 (fails : Nat)) (by simp [bK])))⟩
theorem bC_rw {s : Nat → Nat} : Rd [bC r fails wait s] r 1 (.int .u64 (wait : Nat)) := fun h hs => by
  obtain ⟨h1, h2, s1, hc, _⟩ := hs
  exact ⟨rfl, .inl (s1.o1 _ _ _ (hc.2 (r, 1, .int .u64 (wait : Nat)) (by simp [bK])))⟩

def gLone (x : B.X) (r limit : Nat) : Acc B .nilIface := loneAcc x (gAddr r) 2 (gK r limit) (g_apart r limit)
def bLone (x : B.X) (r fails wait : Nat) : Acc B .nilIface := loneAcc x (bAddr r) 1 (bK r fails wait) (b_apart r fails wait)

theorem g_at (h1 : 1 ≤ limit) (h2 : limit ≤ 1048576) : GaugeAt (gLone x r limit) r limit := ⟨h1, h2, fun s => gC_rd, fun w _ => rfl⟩
theorem b_at (h1 : 1 ≤ fails) (h2 : fails ≤ 1048576) (h3 : wait ≤ 1099511627776) : BreakerAt (bLone x r fails wait) r fails wait := ⟨h1, h2, h3, fun s => bC_rd, fun s => bC_rw, rfl⟩

/-- Enter, alone -/
def enterS (s : Nat → Nat) : Nat → Nat := if s 0 < s 1 then upd s 0 (s 0 + 1) else upd (upd s 0 (s 0 + 1)) 1 (s 0 + 1)
theorem enter_lone (h1 : 1 ≤ limit) (h2 : limit ≤ 1048576) {s : Nat → Nat} (hh : Has L (gC r limit s) F) :
    Tr Try.prog B 19 [.pointer (some ⟨r, 0, none⟩), .nilIface] L x fun v L' x' => v = .tuple #[.bool (decide (s 0 < limit)), .int .i64 0] ∧ L' = gC r limit (if s 0 < limit then enterS s else s) :: F ∧ x' = x := by
  refine (enter_tr (A := gLone x r limit) (g_at h1 h2) (s := s) (G := fun q s' => q = decide (s 0 < limit) ∧ s' = if s 0 < limit then enterS s else s) ?_ hh).mono ?_
  · refine ⟨by show 0 < 2; omega, fun h64 X hX => hX _ ⟨h64, ?_⟩⟩
    dsimp only
    by_cases c : limit ≤ s 0
    · rw [if_pos c]
      exact ⟨by simp; omega, by rw [if_neg (by omega)]⟩
    · rw [if_neg c]
      refine ⟨by show 0 < 2; omega, ?_⟩
      rw [if_pos rfl]
      simp only [if_true]
      intro Y hY
      refine hY _ ⟨by show 1 < 2; omega, ?_⟩
      have e : (s 0 + 1) % 18446744073709551616 = s 0 + 1 := Nat.mod_eq_of_lt (by omega)
      rw [e, upd_other (by omega)]
      dsimp only
      have hd : decide (s 0 < limit) = true := decide_eq_true (by omega)
      by_cases c2 : s 0 < s 1
      · rw [if_pos c2]
        refine ⟨hd.symm, ?_⟩
        rw [if_pos (by omega)]
        exact (if_pos c2).symm
      · rw [if_neg c2]
        refine ⟨by show 1 < 2; omega, ?_⟩
        rw [upd_other (by omega), if_pos rfl]
        simp only [if_true]
        refine ⟨hd.symm, ?_⟩
        rw [if_pos (by omega)]
        exact (if_neg c2).symm
  · rintro v L' x' ⟨q, s', ⟨rfl, rfl⟩, rfl, rfl, rfl⟩
    exact ⟨rfl, rfl, rfl⟩

theorem get_lone (h1 : 1 ≤ limit) (h2 : limit ≤ 1048576) {s : Nat → Nat} (hh : Has L (gC r limit s) F) :
    Tr Try.prog B 20 [.pointer (some ⟨r, 0, none⟩), .nilIface] L x fun v L' x' => v = .tuple #[.int .u64 (s 0 : Nat), .int .u64 (s 1 : Nat), .int .i64 0] ∧ L' = gC r limit s :: F ∧ x' = x := by
  refine (get_tr (A := gLone x r limit) (g_at h1 h2) (s := s) (Q := fun a b s' => a = s 0 ∧ b = s 1 ∧ s' = s) ⟨by show 0 < 2; omega, by show 1 < 2; omega, rfl, rfl, rfl⟩ hh).mono ?_
  rintro v L' x' ⟨a, b, s', ⟨rfl, rfl, rfl⟩, _, _, rfl, rfl, rfl⟩
  exact ⟨rfl, rfl, rfl⟩

/-- a breaker's word: the state, the fails, since when -/
def BS (s : Nat → Nat) (a b c : Nat) : Prop := a < 4 ∧ b < 2097152 ∧ c < 2199023255552 ∧ s 0 = c * 8388608 + b * 4 + a

theorem BS.parts {s : Nat → Nat} {a b c : Nat} (h : BS s a b c) : s 0 % 4 = a ∧ s 0 / 4 % 2097152 = b ∧ s 0 / 8388608 = c := by
  obtain ⟨h1, h2, h3, h4⟩ := h
  rw [h4]
  omega

theorem BS.pack {s : Nat → Nat} {a b c : Nat} (ha : a < 4) (hb : b < 2097152) (hc : c < 2199023255552) : BS (upd s 0 (packN a b c)) a b c :=
  ⟨ha, hb, hc, by rw [upd_same, packN_eq ha hb hc]⟩

theorem turn_lone {G : Nat → Nat → Nat → Option (Nat × Nat × Nat)} {s : Nat → Nat} {Q : Nat × Nat × Nat → Bool → (Nat → Nat) → Prop}
    (g : match G (s 0 % 4) (s 0 / 4 % 2097152) (s 0 / 8388608) with
      | none => Q (s 0 % 4, s 0 / 4 % 2097152, s 0 / 8388608) false s
      | some y => Q y true (upd s 0 (packN y.1 y.2.1 y.2.2))) : TurnT (bLone x r fails wait) G s Q := by
  intro X hX
  refine hX _ ⟨by show 0 < 1; omega, ?_⟩
  show match G (s 0 % 4) (s 0 / 4 % 2097152) (s 0 / 8388608) with | none => _ | some y => _
  cases hG : G (s 0 % 4) (s 0 / 4 % 2097152) (s 0 / 8388608) with
  | none => rw [hG] at g; exact g
  | some y =>
    rw [hG] at g
    refine ⟨by show 0 < 1; omega, ?_⟩
    rw [if_pos rfl]
    simp only [if_true]
    exact g

theorem ask_lone (h1 : 1 ≤ fails) (h2 : fails ≤ 1048576) (h3 : wait ≤ 1099511627776) {now : Nat} (hn : now ≤ 1099511627776) {s : Nat → Nat} {a b c : Nat} (S : BS s a b c) (hh : Has L (bC r fails wait s) F) :
    Tr Try.prog B 12 [.pointer (some ⟨r, 0, none⟩), .nilIface, .int .u64 (now : Nat)] L x fun v L' x' => ∃ s', v = .tuple #[.bool (decide (a = 0 ∨ c + wait ≤ now)), .int .i64 0] ∧ BS s' (if a ≠ 0 ∧ c + wait ≤ now then 2 else a) b (if a ≠ 0 ∧ c + wait ≤ now then now else c) ∧ L' = bC r fails wait s' :: F ∧ x' = x := by
  obtain ⟨e1, e2, e3⟩ := S.parts
  refine (ask_tr (A := bLone x r fails wait) (b_at h1 h2 h3) hn (s := s) (Q := fun q s' => q = decide (a = 0 ∨ c + wait ≤ now) ∧ BS s' (if a ≠ 0 ∧ c + wait ≤ now then 2 else a) b (if a ≠ 0 ∧ c + wait ≤ now then now else c)) ?_ hh).mono ?_
  · refine turn_lone ?_
    rw [e1, e2, e3]
    by_cases c1 : a ≠ 0 ∧ c + wait ≤ now
    · rw [show askG wait now a b c = some (2, b, now) from if_pos c1, if_pos c1, if_pos c1]
      refine ⟨?_, BS.pack (by show 2 < 4; omega) S.2.1 (by show now < _; omega)⟩
      rw [decide_eq_true (Or.inr c1.2)]
      rfl
    · rw [show askG wait now a b c = none from if_neg c1, if_neg c1, if_neg c1]
      refine ⟨?_, S⟩
      by_cases c2 : a = 0
      · simp [c2]
      · have : ¬ (c + wait ≤ now) := fun h => c1 ⟨c2, h⟩
        simp [c2, this]
  · rintro v L' x' ⟨q, s', ⟨rfl, hS⟩, rfl, rfl, rfl⟩
    exact ⟨s', rfl, hS, rfl, rfl⟩

theorem tell_lone (h1 : 1 ≤ fails) (h2 : fails ≤ 1048576) (h3 : wait ≤ 1099511627776) {now : Nat} (hn : now ≤ 1099511627776) {good : Bool} {s : Nat → Nat} {a b c : Nat} (S : BS s a b c) (hb : b ≤ fails) (hh : Has L (bC r fails wait s) F) :
    Tr Try.prog B 13 [.pointer (some ⟨r, 0, none⟩), .nilIface, .int .u64 (now : Nat), .bool good] L x fun v L' x' => ∃ s', v = .int .i64 0 ∧ (match tellG fails now good a b c with
      | none => BS s' a b c
      | some y => BS s' y.1 y.2.1 y.2.2) ∧ L' = bC r fails wait s' :: F ∧ x' = x := by
  obtain ⟨e1, e2, e3⟩ := S.parts
  refine (tell_tr (A := bLone x r fails wait) (b_at h1 h2 h3) hn (s := s) (Q := fun s' => match tellG fails now good a b c with
      | none => BS s' a b c
      | some y => BS s' y.1 y.2.1 y.2.2) ?_ hh).mono ?_
  · refine turn_lone ?_
    rw [e1, e2, e3]
    cases hG : tellG fails now good a b c with
    | none => exact S
    | some y =>
      have hy : y.1 < 4 ∧ y.2.1 < 2097152 ∧ y.2.2 < 2199023255552 := by
        unfold tellG at hG
        split at hG
        · cases hG
        split at hG
        · cases hG; exact ⟨by show 0 < 4; omega, by show 0 < 2097152; omega, by show 0 < 2199023255552; omega⟩
        split at hG
        · cases hG; exact ⟨by show 1 < 4; omega, S.2.1, by show now < _; omega⟩
        split at hG
        · cases hG; exact ⟨by show 1 < 4; omega, by show fails < _; omega, by show now < _; omega⟩
        · cases hG; exact ⟨by show 0 < 4; omega, by show b + 1 < _; omega, by show 0 < 2199023255552; omega⟩
      exact BS.pack hy.1 hy.2.1 hy.2.2
  · rintro v L' x' ⟨s', hS, rfl, rfl, rfl⟩
    exact ⟨s', rfl, hS, rfl, rfl⟩

theorem bget_lone (h1 : 1 ≤ fails) (h2 : fails ≤ 1048576) (h3 : wait ≤ 1099511627776) {s : Nat → Nat} {a b c : Nat} (S : BS s a b c) (hh : Has L (bC r fails wait s) F) :
    Tr Try.prog B 14 [.pointer (some ⟨r, 0, none⟩), .nilIface] L x fun v L' x' => v = .tuple #[.int .i64 (a : Nat), .int .u64 (b : Nat), .int .u64 (c : Nat), .int .i64 0] ∧ L' = bC r fails wait s :: F ∧ x' = x := by
  obtain ⟨e1, e2, e3⟩ := S.parts
  refine (bget_tr (A := bLone x r fails wait) (b_at h1 h2 h3) (s := s) (Q := fun o s' => o = s 0 ∧ s' = s) ⟨by show 0 < 1; omega, rfl, rfl⟩ hh).mono ?_
  rintro v L' x' ⟨o, s', _, ⟨rfl, rfl⟩, rfl, rfl, rfl⟩
  rw [e1, e2, e3]
  exact ⟨rfl, rfl, rfl⟩
end
end Go.Proofs.Ytnnpdmhmpgmpnaa
