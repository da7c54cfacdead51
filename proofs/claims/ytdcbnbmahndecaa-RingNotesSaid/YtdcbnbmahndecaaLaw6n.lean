/-
  patchbaylaw06: RingNotes: the parts of a round.
-/
import Derived.Test.YtdcbnbmahndecaaRing6p
import Derived.Test.YtdcbnbmahndecaaRef6
import Derived.Test.YtdcbnbmahndecaaLaw6a
set_option linter.unusedVariables false
set_option linter.unusedSimpArgs false
namespace Go.Proofs.Ytdcbnbmahndecaa
open Go Go.PB
attribute [local irreducible] Mo Bin Eql Tr Wo Ap

section
variable {B : Hand} [Lets B] {L F G : List HProp} {x : B.X} {n k : Nat}

/-- Alone, of a call that comes to something -/
theorem alone_comes {wv lv kv dv : Value} {w w' : Mach.Wd} {cl : Mach.Cl} {told : List Nat} {ms : List (Nat × Nat)} (h : Mach.Comes 30 9 w cl w' told ms) (hcl : cl.ok = true) (hl : ms.length ≤ 16384) (hh : Has L (wvC wv lv w) G) (hc : Has G (clC kv dv cl) F) :
    Tr Try.prog B 20 [.agg #[wv, lv], .agg #[kv, dv]] L x fun v L' x' => ∃ toldV wv' lv' marksV : Value, v = .tuple #[toldV, .agg #[wv', lv'], marksV] ∧ L' = vec 1 toldV (told.map num) :: wvC wv' lv' w' :: vec 2 marksV (ms.map mkC).flatten :: wvC wv lv w :: F ∧ x' = x := by
  obtain ⟨st, t, hp, rfl, h2, h3, h4⟩ := h
  have e : st.tr.map (·.2) = ms := by rw [h4]; simp [Function.comp_def]
  have hlen : st.tr.length = ms.length := by rw [h4]; simp
  exact (alone_tr hp (by omega) hcl (by omega) h2 h3 hh hc).mono fun v L' x' ⟨a, b, c, d, e1, e2, e3⟩ => ⟨a, b, c, d, e1, by rw [e2, e], e3⟩

theorem call_ok {kd v : Nat} (hn : n ≤ 1024) (hv : v < 18446744073709551616) : (callCl n kd v).ok = true := by
  unfold callCl
  split
  · simp [Mach.Cl.ok, Mach.putCl, Mach.In.ok]; omega
  split
  · simp [Mach.Cl.ok, Mach.takeCl, Mach.In.ok]; omega
  · simp [Mach.Cl.ok, Mach.lenCl, Mach.In.ok]; omega

/-- the access to a ring with notes -/
theorem ring_at_n {r b nb : Nat} (h : r ≠ b) (hn : n = 2 ^ k) (hk : k ≤ 10) : RingAt (notesAcc x (ringAddr r b) (n + 2) _ (ring_apart h n) nb) r b n k where
  hn := hn
  hk := hk
  hdr := fun s h hs => by
    obtain ⟨h1, h2, s1, hc, _⟩ := hs
    obtain ⟨h3, h4, s2, hd, _⟩ := hc
    exact ⟨rfl, .inl (s1.o1 _ _ _ (s2.o1 _ _ _ (hd.2 (r, 2, .slice (some ⟨b, 0, none⟩) n n) (List.mem_singleton.2 rfl))))⟩
  a0 := rfl
  a1 := rfl
  a2 := fun i _ => by show ringAddr r b (2 + i) = _; rw [Nat.add_comm]; rfl

/-- done with notes, and the machine's call -/
theorem done_n {r b nb : Nat} {f : Nat → Nat} (h : r ≠ b) (hn : n = 2 ^ k) (hk : k ≤ 10) {kind : Int} {kd v : Nat} (hr : -9223372036854775808 ≤ kind ∧ kind ≤ 9223372036854775807) (hkd : kind % 3 = kd) (hv : v < 18446744073709551616)
    (hh : Has L (notesC nb []) G) (hw : Has G (wds (ringAddr r b) (n + 2) [(r, 2, .slice (some ⟨b, 0, none⟩) n n)] f) F) :
    Tr Try.prog B 19 [.pointer (some ⟨r, 0, none⟩), .iface 48 (.pointer (some ⟨nb, 0, none⟩)), .agg #[.int .i64 kind, .int .u64 (v : Nat)]] L x fun w L' x' => ∃ told f' ms bv, Mach.Comes 30 9 ⟨[rowOf (n + 2) f], 1⟩ (callCl n kd v) ⟨[rowOf (n + 2) f'], 1⟩ told ms ∧ ms.length ≤ 4 ∧ told.length ≤ 2 ∧ w = .tuple #[bv, .int .i64 0] ∧ L' = vec 1 bv (told.map num) :: wds (ringAddr r b) (n + 2) [(r, 2, .slice (some ⟨b, 0, none⟩) n n)] f' :: notesC nb (ms.map mkI) :: F ∧ x' = x := by
  obtain ⟨told, f', ms, h1, h2, h3, h4⟩ := done_comes (B := B) (x := x) (addr := ringAddr r b) (K := _) (A := ring_apart h n) (nb := nb) (kd := kd) hn hk hv f
  refine tr_star ((notesAcc x (ringAddr r b) (n + 2) _ (ring_apart h n) nb).C (f, []) :: F) (fun hp st => ?_) ?_
  · exact star_shut (M := [_, _]) (star_swap (star_map (hh.star st) (fun _ y => y) (fun _ y => hw.star y)))
  refine (done_tr (A := notesAcc x (ringAddr r b) (n + 2) _ (ring_apart h n) nb) (ring_at_n h hn hk) hr hkd hv h1 .here).post ?_
  rintro v' L' x' ⟨told', s', bv, ⟨rfl, rfl⟩, rfl, rfl, rfl⟩
  refine ⟨_, ⟨told', f', ms, bv, h2, h3, h4, rfl, rfl, rfl⟩, fun hp st => ?_⟩
  exact star_map st (fun _ y => y) (fun _ y => star_open (M := [_, _]) y)

theorem new_nopow {n : Nat} (h1 : 1 ≤ n) (h2 : n ≤ 1024) (h : ¬ ∃ k, k ≤ 10 ∧ n = 2 ^ k) :
    Tr Try.prog B 10 [.int .i64 (n : Nat)] L x fun v L' x' => v = .tuple #[.pointer none, .int .i64 2] ∧ L' = L ∧ x' = x := by
  have hand : ¬ IntKind.i64.wrap (BitVec.ofInt IntKind.i64.bits (n : Int) &&& BitVec.ofInt IntKind.i64.bits ((n : Int) - 1)).toNat = 0 := by
    have e1 : ((n : Int) - 1) = ((n - 1 : Nat) : Int) := by omega
    rw [e1, and_i64 (by omega) (by omega)]
    intro h0
    exact h ((and_self_pow h1 h2).1 (by omega))
  obtain ⟨q, hq⟩ : ∃ q, IntKind.i64.wrap (BitVec.ofInt IntKind.i64.bits (n : Int) &&& BitVec.ofInt IntKind.i64.bits ((n : Int) - 1)).toNat = q := ⟨_, rfl⟩
  rw [hq] at hand
  refine tr_of_body Try.func10 rfl Try.ntmps10 (by simp) fun um Q hQ => ?_
  simp only [argE, Nat.zero_add, Nat.reduceAdd]
  repeat (first
    | (apply wo_po; apply mo_bin; exact rfl; exact rfl; apply bin_and; exact hq; (first | exact trivial | exact rfl))
    | (apply wo_po; apply mo_bin; exact rfl; exact rfl; apply bin_lssT; omega; (first | exact trivial | exact rfl))
    | (apply wo_po; apply mo_bin; exact rfl; exact rfl; apply bin_lssF; omega; (first | exact trivial | exact rfl))
    | (apply wo_po; apply mo_bin; exact rfl; exact rfl; apply bin_leqT; omega; (first | exact trivial | exact rfl))
    | (apply wo_po; apply mo_bin; exact rfl; exact rfl; apply bin_leqF; omega; (first | exact trivial | exact rfl))
    | (apply wo_po; apply mo_bin; exact rfl; exact rfl; apply bin_gtrT; omega; (first | exact trivial | exact rfl))
    | (apply wo_po; apply mo_bin; exact rfl; exact rfl; apply bin_gtrF; omega; (first | exact trivial | exact rfl))
    | (apply wo_po; apply mo_bin; exact rfl; exact rfl; apply bin_geqT; omega; (first | exact trivial | exact rfl))
    | (apply wo_po; apply mo_bin; exact rfl; exact rfl; apply bin_geqF; omega; (first | exact trivial | exact rfl))
    | (apply wo_po; apply mo_bin; exact rfl; exact rfl; apply bin_eqlT; omega; (first | exact trivial | exact rfl))
    | (apply wo_po; apply mo_bin; exact rfl; exact rfl; apply bin_eqlF; omega; (first | exact trivial | exact rfl))
    | (apply wo_po; apply mo_bin; exact rfl; exact rfl; apply bin_neqT; omega; (first | exact trivial | exact rfl))
    | (apply wo_po; apply mo_bin; exact rfl; exact rfl; apply bin_neqF; omega; (first | exact trivial | exact rfl))
    | refine we_seq ?_
    | (refine we_region _ rfl rfl ?_; simp only [opsOf, List.map_cons, List.map_nil, Option.map_none, Option.map_some, List.getElem?_toArray, List.getElem?_cons_zero, List.getElem?_cons_succ, Option.bind_some, Option.getD_some])
    | refine wo_nil ?_
    | (apply wo_po; apply mo_move; exact rfl; (first | exact trivial | exact rfl))
    | (apply wo_po; apply mo_assign; exact rfl; (first | exact trivial | exact rfl))
    | (apply wo_no; exact rfl)
    | (apply wo_po; apply mo_pickT; exact rfl; exact rfl; exact rfl; (first | exact trivial | exact rfl))
    | (apply wo_po; apply mo_pickF; exact rfl; exact rfl; exact rfl; (first | exact trivial | exact rfl))
    | (apply wo_po; apply mo_nilCheck; exact rfl; (first | exact trivial | exact rfl))
    | (apply wo_po; apply mo_fieldAddr; exact rfl; exact rfl; (first | exact Nat.zero_add _ | exact rfl); (first | exact trivial | exact rfl))
    | (apply wo_po; apply mo_extract; exact rfl; exact rfl; (first | exact trivial | exact rfl))
    | (apply wo_po; apply mo_not; exact rfl; (first | exact trivial | exact rfl))
    | (apply wo_po; apply mo_load; exact rfl; (repeat (first | exact Rd.row0 rfl | exact Rd.row rfl rfl | exact Rd.still | apply Rd.there)); (first | exact trivial | exact rfl))
    | (apply wo_po; apply mo_bin; exact rfl; exact rfl; exact bin_lss; (first | exact trivial | exact rfl))
    | (apply wo_po; apply mo_bin; exact rfl; exact rfl; exact bin_gtr; (first | exact trivial | exact rfl))
    | (apply wo_po; apply mo_bin; exact rfl; exact rfl; exact bin_leq; (first | exact trivial | exact rfl))
    | (apply wo_po; apply mo_bin; exact rfl; exact rfl; exact bin_geq; (first | exact trivial | exact rfl))
    | (apply wo_po; apply mo_bin; exact rfl; exact rfl; exact bin_eql; (first | exact trivial | exact rfl))
    | (apply wo_po; apply mo_bin; exact rfl; exact rfl; exact bin_neq; (first | exact trivial | exact rfl))
    | (apply wo_po; apply mo_bin; exact rfl; exact rfl; apply bin_add; exact wrap_i64 (by omega) (by omega); (first | exact trivial | exact rfl))
    | (apply wo_po; apply mo_bin; exact rfl; exact rfl; apply bin_sub; exact wrap_i64 (by omega) (by omega); (first | exact trivial | exact rfl))
    | (apply wo_po; apply mo_bin; exact rfl; exact rfl; apply bin_ne; apply eql_ptr_nil; (first | exact trivial | exact rfl))
    | (apply wo_po; apply mo_bin; exact rfl; exact rfl; apply bin_eq; apply eql_ptr_nil; (first | exact trivial | exact rfl))
    | (apply wo_po; apply mo_bin; exact rfl; exact rfl; apply bin_ne; apply eql_slice_nil; (first | exact trivial | exact rfl))
    | (apply wo_po; apply mo_bin; exact rfl; exact rfl; apply bin_eq; apply eql_slice_nil; (first | exact trivial | exact rfl))
    | (apply wo_po; apply mo_bin; exact rfl; exact rfl; apply bin_ne; apply eql_nil_nil; (first | exact trivial | exact rfl))
    | (apply wo_po; apply mo_bin; exact rfl; exact rfl; apply bin_eq; apply eql_nil_nil; (first | exact trivial | exact rfl))
    | (apply wo_po; apply mo_bin; exact rfl; exact rfl; apply bin_ne; apply eql_iface_nil; (first | exact trivial | exact rfl))
    | (apply wo_po; apply mo_len; exact rfl; (first | exact trivial | exact rfl))
    | (apply wo_po; apply mo_conv; exact rfl; (first | exact wrap_i64 (by omega) (by omega) | exact wrap_u64 (by omega) (by omega)); (first | exact trivial | exact rfl))
    | (apply wo_po; apply mo_min; exact rfl; exact rfl; (first | exact trivial | exact rfl))
    | (apply we_condT; exact rfl; (first | exact rfl | (simp <;> omega) | omega))
    | (apply we_condF; exact rfl; (first | exact rfl | (simp <;> omega) | omega))
    | refine we_ret ?_
    | refine we_skip ?_
    | refine we_label ?_
    | refine we_block ?_
    | refine we_scope ?_
    | refine we_exit ?_)
  (first | refine at_ret2 (ex := .ret) Try.func10 Try.results10 hQ (.inl rfl) rfl rfl ?_ | refine at_ret2 (ex := .normal) Try.func10 Try.results10 hQ (.inr rfl) rfl rfl ?_)
  exact ⟨rfl, rfl, rfl⟩

omit [Lets B] in
theorem RdM.vec {a : Option Addr} {n c : Nat} {l : List (Int × Nat)} (hh : Has L (vec 2 (.slice a n c) (l.map mark2).flatten) F) (ha : ∀ y, a = some y → y = ⟨y.block, y.off, none⟩) (hn : a = none → l = []) : RdM L a l := by
  intro i m hi
  cases a with
  | none => rw [hn rfl] at hi; simp at hi
  | some y =>
    obtain ⟨b, o, sp⟩ := y
    cases ha _ rfl
    refine ⟨b, o, rfl, fun j v hj => ?_⟩
    have hj2 : j < 2 := (List.getElem?_eq_some_iff.1 hj).1
    have := rd_vec (i := 2 * i + j) (v := v) hh (by rw [flat_get (k := 2) (fun _ => rfl) _ _ _ _ hi hj2]; exact hj)
    rwa [← Nat.add_assoc] at this

end
end Go.Proofs.Ytdcbnbmahndecaa
