/-
  patchbaylaw06: RingRow: the walk.
-/
import Derived.Test.YtdcbnbmahndecaaRing
import Derived.Test.YtdcbnbmahndecaaLone
import Derived.Test.YtdcbnbmahndecaaRef
import Derived.Test.YtdcbnbmahndecaaFn
set_option linter.unusedVariables false
set_option linter.unusedSimpArgs false
namespace Go.Proofs.Ytdcbnbmahndecaa
open Go Go.PB
attribute [local irreducible] Mo Bin Eql Tr Wo Ap

section
variable {B : Hand} [Lets B] {L : List HProp} {x : B.X}

theorem width_tr {n : Int} (hn : -9223372036854775808 ≤ n ∧ n ≤ 9223372036854775807) :
    Tr Try.prog B 9 [.int .i64 n] L x fun v L' x' => ∃ k : Nat, k ≤ 3 ∧ v = .int .i64 ((2 ^ k : Nat) : Int) ∧ L' = L ∧ x' = x := by
  have h1 := Int.emod_nonneg n (by omega : (4 : Int) ≠ 0)
  have h2 := Int.emod_lt_of_pos n (by omega : (0 : Int) < 4)
  refine tr_of_body Try.func9 rfl Try.ntmps9 (by simp) fun um Q hQ => ?_
  simp only [argE, Nat.zero_add, Nat.reduceAdd]
  repeat (first
    | refine we_seq ?_
    | (refine we_region _ rfl rfl ?_; simp only [opsOf, List.map_cons, List.map_nil, Option.map_none, Option.map_some, List.getElem?_toArray, List.getElem?_cons_zero, List.getElem?_cons_succ, Option.bind_some, Option.getD_some])
    | refine wo_nil ?_
    | (apply wo_po; apply mo_move; exact rfl; (first | exact trivial | exact rfl))
    | (apply wo_po; apply mo_assign; exact rfl; (first | exact trivial | exact rfl)))
  refine wo_call (.cons rfl (.cons rfl .nil)) trivial (within_tr hn (by omega)) ?_
  rintro v L' x' ⟨rfl, rfl, rfl⟩
  obtain ⟨k, hk⟩ : ∃ k : Nat, n % 4 = k := ⟨(n % 4).toNat, by omega⟩
  rw [hk]
  have hk3 : k ≤ 3 := by omega
  have hw : IntKind.i64.wrap (1 * 2 ^ (min (k : Int).toNat IntKind.i64.bits)) = ((2 ^ k : Nat) : Int) := by
    have : k = 0 ∨ k = 1 ∨ k = 2 ∨ k = 3 := by omega
    rcases this with rfl | rfl | rfl | rfl <;> rfl
  repeat (first
    | (apply wo_po; apply mo_bin; exact rfl; exact rfl; apply bin_shl; omega; exact hw; (first | exact trivial | exact rfl))
    | refine wo_nil ?_
    | (apply wo_po; apply mo_assign; exact rfl; (first | exact trivial | exact rfl))
    | refine we_ret ?_)
  (first | refine at_ret1 (ex := .ret) Try.func9 Try.results9 hQ (.inl rfl) rfl ?_ | refine at_ret1 (ex := .normal) Try.func9 Try.results9 hQ (.inr rfl) rfl ?_)
  exact ⟨k, hk3, rfl, rfl, rfl⟩
end

/-- a ring's words: taken, put, slots -/
def ringAddr (r b : Nat) : Nat → Nat × Nat
  | 0 => (r, 0)
  | 1 => (r, 1)
  | i + 2 => (b, i)

theorem ring_apart {r b n : Nat} (h : r ≠ b) (c : Nat) : Apart (ringAddr r b) (n + 2) [(r, 2, .slice (some ⟨b, 0, none⟩) c c)] where
  inj := by
    rintro (_ | _ | i) (_ | _ | j) _ _ <;> simp [ringAddr] <;> omega
  fix := by
    rintro (_ | _ | i) _ k hk <;> simp only [List.mem_singleton] at hk <;> subst hk <;> simp [ringAddr] <;> omega

/-- the words that New lays are a ring's -/
theorem ring_wds {r b n : Nat} {L : List HProp} {h : Hp} (s : Star (arr r 0 [.int .u64 0, .int .u64 0, .slice (some ⟨b, 0, none⟩) n n] :: arr b 0 (zeros n [.int .u64 0]) :: L) h) :
    Star (wds (ringAddr r b) (n + 2) [(r, 2, .slice (some ⟨b, 0, none⟩) n n)] (fun _ => 0) :: L) h := by
  have s' := star_shut (M := [_, _]) s
  refine star_map s' (fun h hh => ?_) (fun _ x => x)
  obtain ⟨h1, h2, s1, ha, h3, h4, s2, hb, _⟩ := hh
  refine ⟨fun w hw => ⟨by show 0 < 18446744073709551616; decide, ?_⟩, fun k hk => ?_⟩
  · match w with
    | 0 => exact s1.o1 _ _ _ (ha 0 _ rfl)
    | 1 => exact s1.o1 _ _ _ (ha 1 _ rfl)
    | i + 2 =>
      have := hb i (.int .u64 0) (zeros_one (by omega))
      simp only [ringAddr]
      rw [Nat.zero_add] at this
      exact s1.o2 _ _ _ (s2.o1 _ _ _ this)
  · simp only [List.mem_singleton] at hk
    subst hk
    exact s1.o1 _ _ _ (ha 2 _ rfl)

/-- the access to a ring in memory of one's own -/
def ringAcc (x : solo0.X) (r b n : Nat) (h : r ≠ b) : Acc solo0 .nilIface := loneAcc x (ringAddr r b) (n + 2) _ (ring_apart h n)

theorem ring_at {x : solo0.X} {r b n k : Nat} (h : r ≠ b) (hn : n = 2 ^ k) (hk : k ≤ 10) : RingAt (ringAcc x r b n h) r b n k where
  hn := hn
  hk := hk
  hdr := fun s h hs => by
    obtain ⟨h1, h2, s1, hc, _⟩ := hs
    exact ⟨rfl, .inl (s1.o1 _ _ _ (hc.2 (r, 2, .slice (some ⟨b, 0, none⟩) n n) (List.mem_singleton.2 rfl)))⟩
  a0 := rfl
  a1 := rfl
  a2 := fun i _ => by show ringAddr r b (2 + i) = _; rw [Nat.add_comm]; rfl

/-- a ring as a row of numbers -/
structure RowAt (n : Nat) (s : Nat → Nat) (row : List Nat) : Prop where
  len : row.length ≤ n
  put : s 1 = (s 0 + row.length) % 18446744073709551616
  t : s 0 < 18446744073709551616
  slots : ∀ i v, row[i]? = some v → s (2 + (s 0 + i) % n) = v

theorem mod_pow {n k a : Nat} (hn : n = 2 ^ k) (hk : k ≤ 10) : a % 18446744073709551616 % n = a % n := by
  refine Nat.mod_mod_of_dvd a ?_
  rw [hn, show 18446744073709551616 = 2 ^ 64 from rfl]
  exact Nat.pow_dvd_pow 2 (by omega)

theorem put_row {x : solo0.X} {r b n k v : Nat} {h : r ≠ b} (hn : n = 2 ^ k) (hk : k ≤ 10) {s : Nat → Nat} {row : List Nat} (R : RowAt n s row) :
    PutT (ringAcc x r b n h) n v s fun q s' => q = decide (row.length < n) ∧ RowAt n s' (if row.length < n then row ++ [v] else row) := by
  have hle : n ≤ 1024 := by rw [hn]; exact pow_le hk
  have hpos : 0 < n := by rw [hn]; exact Nat.two_pow_pos k
  obtain ⟨h1, h2, h3, h4⟩ := R
  have hd : (s 1 + 18446744073709551616 - s 0) % 18446744073709551616 = row.length := by rw [h2]; omega
  have hm : s 1 % n = (s 0 + row.length) % n := by rw [h2, mod_pow hn hk]
  have hmod : s 1 % n < n := Nat.mod_lt _ hpos
  refine ⟨by omega, by omega, ?_⟩
  show if n ≤ (s 1 + 18446744073709551616 - s 0) % 18446744073709551616 then _ else _
  rw [hd]
  by_cases hf : n ≤ row.length
  · rw [if_pos hf, if_neg (by omega)]
    exact ⟨by simp; omega, h1, h2, h3, h4⟩
  · rw [if_neg hf, if_pos (by omega)]
    refine ⟨by omega, by omega, by simp; omega, ?_⟩
    have e0 : upd (upd s (2 + s 1 % n) v) 1 ((s 1 + 1) % 18446744073709551616) 0 = s 0 := by rw [upd_other (by omega), upd_other (by omega)]
    refine ⟨by simp; omega, ?_, ?_, ?_⟩
    · rw [e0, upd_same]
      simp only [List.length_append, List.length_cons, List.length_nil]
      omega
    · rw [e0]; exact h3
    · intro i u hi
      rw [e0, upd_other (by omega)]
      by_cases e : i = row.length
      · subst e
        rw [hm, upd_same]
        simpa using hi
      · have hi' : i < row.length := by
          have := (List.getElem?_eq_some_iff.1 hi).1
          simp at this; omega
        rw [List.getElem?_append_left hi'] at hi
        rw [upd_other, h4 i u hi]
        rw [hm]
        intro hx
        have hx : (s 0 + i) % n = (s 0 + row.length) % n := by omega
        have hd := Nat.sub_mod_eq_zero_of_mod_eq hx.symm
        rw [Nat.mod_eq_of_lt (by omega)] at hd
        omega

theorem take_row {x : solo0.X} {r b n k : Nat} {h : r ≠ b} (hn : n = 2 ^ k) (hk : k ≤ 10) {s : Nat → Nat} {row : List Nat} (R : RowAt n s row) :
    TakeT (ringAcc x r b n h) n s fun q s' => q = row.head? ∧ RowAt n s' row.tail := by
  have hle : n ≤ 1024 := by rw [hn]; exact pow_le hk
  have hpos : 0 < n := by rw [hn]; exact Nat.two_pow_pos k
  obtain ⟨h1, h2, h3, h4⟩ := R
  have hmod : s 0 % n < n := Nat.mod_lt _ hpos
  refine ⟨by omega, by omega, ?_⟩
  show if s 0 = s 1 then _ else _
  cases row with
  | nil =>
    rw [if_pos (by rw [h2]; simp; omega)]
    exact ⟨rfl, h1, h2, h3, h4⟩
  | cons v row =>
    simp only [List.length_cons] at h1 h2
    rw [if_neg (by omega)]
    refine ⟨by omega, by omega, ?_, ?_⟩
    · have := h4 0 v rfl
      rw [Nat.add_zero] at this
      rw [this]; rfl
    · refine ⟨by simp; omega, ?_, ?_, ?_⟩
      · show s 1 = ((s 0 + 1) % 18446744073709551616 + _) % _
        simp only [List.tail_cons]; omega
      · exact Nat.mod_lt _ (by decide)
      · intro i u hi
        show upd s 0 _ (2 + ((s 0 + 1) % 18446744073709551616 + i) % n) = u
        rw [upd_other (by omega)]
        have := h4 (i + 1) u hi
        rw [← this, ← mod_pow (a := s 0 + (i + 1)) hn hk, ← mod_pow (a := (s 0 + 1) % 18446744073709551616 + i) hn hk]
        congr 3
        omega

theorem len_row {x : solo0.X} {r b n : Nat} {h : r ≠ b} {s : Nat → Nat} {row : List Nat} (R : RowAt n s row) (hn : n ≤ 1024) :
    LenT (ringAcc x r b n h) n s fun q s' => q = row.length ∧ s' = s := by
  obtain ⟨h1, h2, h3, h4⟩ := R
  refine ⟨by omega, by omega, ?_, rfl⟩
  have hd : (s 1 + 18446744073709551616 - s 0) % 18446744073709551616 = row.length := by rw [h2]; omega
  rw [hd]; omega

/-- a new ring -/
theorem new_lone {x : solo0.X} {n k : Nat} {L : List HProp} (hn : n = 2 ^ k) (hk : k ≤ 10) :
    Tr Try.prog solo0 10 [.int .i64 n] L x fun v L' x' => ∃ r b, ∃ h : r ≠ b, ∃ s, v = .tuple #[.pointer (some ⟨r, 0, none⟩), .int .i64 0] ∧ RowAt n s [] ∧ L' = (ringAcc x r b n h).C s :: L ∧ x' = x := by
  have hpos : 0 < n := by rw [hn]; exact Nat.two_pow_pos k
  refine (new_tr hn hk).post2 ?_
  rintro v L' x' h ⟨r, b, rfl, rfl, rfl⟩ st
  have hne : r ≠ b := by
    obtain ⟨vs, e⟩ := zeros_pos (v := .int .u64 0) hpos
    rw [e] at st
    exact star_ne st
  exact ⟨_, ⟨r, b, hne, fun _ => 0, rfl, ⟨by simp, rfl, by decide, fun i v hi => by simp at hi⟩, rfl, rfl⟩, ring_wds st⟩

end Go.Proofs.Ytdcbnbmahndecaa
