/-
  THE METER, ALONE: in memory of one's own, nobody told.
-/
import Derived.Test.YthoefhocecdlhaaMeter
import Derived.Test.YthoefhocecdlhaaLone
set_option linter.unusedVariables false
set_option linter.unusedSimpArgs false
namespace Go.Proofs.Ythoefhocecdlhaa
open Go Go.PB
attribute [local irreducible] Mo Bin Eql Tr Wo Ap Wle


def mAddr (r : Nat) (_ : Nat) : Nat × Nat := (r, 3)
def mK (r num den burst : Nat) : List (Nat × Nat × Value) := [(r, 0, .int .u64 (num : Nat)), (r, 1, .int .u64 (den : Nat)), (r, 2, .int .u64 (burst : Nat))]
theorem m_apart (r num den burst : Nat) : Apart (mAddr r) 1 (mK r num den burst) where
  inj := fun i j hi hj _ => by omega
  fix := fun i _ k hk => by simp only [mK, List.mem_cons, List.not_mem_nil, or_false] at hk; rcases hk with rfl | rfl | rfl <;> simp [mAddr]

section
variable {B : Hand} [Lets B] {x : B.X} {r num den burst now n : Nat} {L F : List HProp} {h : Hp} {s : Nat → Nat}

/-- a meter's word, and its bucket -/
def mC (r num den burst : Nat) (s : Nat → Nat) : HProp := wds (mAddr r) 1 (mK r num den burst) s

omit [Lets B] in
theorem m_wds (st : Star (arr r 0 [.int .u64 (num : Nat), .int .u64 (den : Nat), .int .u64 (burst : Nat), .int .u64 0] :: L) h) : Star (mC r num den burst (fun _ => 0) :: L) h := by
  refine star_map st (fun h a => ⟨fun w hw => ⟨by show 0 < 18446744073709551616; decide, a 3 _ rfl⟩, fun k hk => ?_⟩) (fun _ y => y)
  simp only [mK, List.mem_cons, List.not_mem_nil, or_false] at hk
  rcases hk with rfl | rfl | rfl
  · exact a 0 _ rfl
  · exact a 1 _ rfl
  · exact a 2 _ rfl

omit [Lets B] in
theorem mC_rd : Rds [mC r num den burst s] r 0 [.int .u64 (num : Nat), .int .u64 (den : Nat), .int .u64 (burst : Nat)] := fun i v hv h hs => by
  obtain ⟨h1, h2, s1, hc, _⟩ := hs
  match i, hv with
  | 0, hv => cases hv; exact ⟨rfl, .inl (s1.o1 _ _ _ (hc.2 (r, 0, .int .u64 (num : Nat)) (by simp [mK])))⟩
  | 1, hv => cases hv; exact ⟨rfl, .inl (s1.o1 _ _ _ (hc.2 (r, 1, .int .u64 (den : Nat)) (by simp [mK])))⟩
  | 2, hv => cases hv; exact ⟨rfl, .inl (s1.o1 _ _ _ (hc.2 (r, 2, .int .u64 (burst : Nat)) (by simp [mK])))⟩

def mLone (x : B.X) (r num den burst : Nat) : Acc B .nilIface := loneAcc x (mAddr r) 1 (mK r num den burst) (m_apart r num den burst)
theorem m_at (O : BOk num den burst) : MeterAt (mLone x r num den burst) r num den burst := ⟨O, fun s => mC_rd, rfl⟩

/-- Take, alone -/
theorem mtake_lone (O : BOk num den burst) (ht : now ≤ 1099511627776) (hn : n < 18446744073709551616) {u : Nat} {k : Option Nat} (hs : s 0 = u) (hk : takeN num den burst u now n = k) (hh : Has L (mC r num den burst s) F) :
    Tr Try.prog B 9 [.pointer (some ⟨r, 0, none⟩), .nilIface, .int .u64 (now : Nat), .int .u64 (n : Nat)] L x fun v L' x' => ∃ s', v = .tuple #[.bool k.isSome, .int .i64 0] ∧ s' 0 = k.getD u ∧ L' = mC r num den burst s' :: F ∧ x' = x := by
  refine (mtake_tr (A := mLone x r num den burst) (m_at O) ht hn (s := s) (G := fun q s' => q = k.isSome ∧ s' 0 = k.getD u) ?_ hh).mono ?_
  · intro X hX
    refine hX _ ⟨by show 0 < 1; omega, ?_⟩
    show match takeN num den burst (s 0) now n with | none => _ | some t => _
    rw [hs, hk]
    cases k with
    | none => exact ⟨rfl, hs⟩
    | some t =>
      refine ⟨by show 0 < 1; omega, ?_⟩
      rw [if_pos hs]
      simp only [if_true]
      exact ⟨rfl, upd_same⟩
  · rintro v L' x' ⟨q, s', ⟨rfl, h1⟩, rfl, rfl, rfl⟩
    exact ⟨s', rfl, h1, rfl, rfl⟩

theorem mlevel_lone (O : BOk num den burst) (ht : now ≤ 1099511627776) {u k : Nat} (hs : s 0 = u) (hk : levelN num den burst u now = k) (hh : Has L (mC r num den burst s) F) :
    Tr Try.prog B 10 [.pointer (some ⟨r, 0, none⟩), .nilIface, .int .u64 (now : Nat)] L x fun v L' x' => v = .tuple #[.int .u64 (k : Nat), .int .i64 0] ∧ L' = mC r num den burst s :: F ∧ x' = x := by
  refine (mlevel_tr (A := mLone x r num den burst) (m_at O) ht (s := s) (G := fun o s' => o = u ∧ s' = s) ⟨by show 0 < 1; omega, hs, rfl⟩ hh).mono ?_
  rintro v L' x' ⟨o, s', _, ⟨rfl, rfl⟩, rfl, rfl, rfl⟩
  rw [hk]
  exact ⟨rfl, rfl, rfl⟩

theorem mstate_lone (O : BOk num den burst) {u : Nat} (hs : s 0 = u) (hh : Has L (mC r num den burst s) F) :
    Tr Try.prog B 11 [.pointer (some ⟨r, 0, none⟩), .nilIface] L x fun v L' x' => v = .tuple #[.int .u64 (u : Nat), .int .i64 0] ∧ L' = mC r num den burst s :: F ∧ x' = x := by
  refine (mstate_tr (A := mLone x r num den burst) (m_at O) (s := s) (G := fun o s' => o = u ∧ s' = s) ⟨by show 0 < 1; omega, hs, rfl⟩ hh).mono ?_
  rintro v L' x' ⟨o, s', _, ⟨rfl, rfl⟩, rfl, rfl, rfl⟩
  exact ⟨rfl, rfl, rfl⟩
end
end Go.Proofs.Ythoefhocecdlhaa
