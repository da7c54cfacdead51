/-
  THE DOCUMENT's MACHINE, INSTRUCTION BY INSTRUCTION: plain laws for running a call's code; one thread alone. No program in sight.
-/
import Derived.Test.YtmkkanmkjfnpdaaMach
set_option linter.unusedVariables false
set_option linter.unusedSimpArgs false
namespace Go.PB.Mach

/-- in a call: which, where, the registers, the answers so far, what this one has told -/
def T (cs : List Cl) (c p : Nat) (r : Nat → Nat) (pre : List (Bool × List Nat)) (said : List Nat) : Th := { calls := cs, call := c, pc := p, r := r, ans := pre ++ [(false, said)], over := false }
/-- between two calls -/
def Bt (cs : List Cl) (c : Nat) (pre : List (Bool × List Nat)) : Th := { calls := cs, call := c, ans := pre }

/-- so many instructions on -/
def Goes (k : Nat) (t t' : Th) : Prop := ∀ f, onF (f + k) t = onF f t'

theorem Goes.trans {k k' : Nat} {t t' t'' : Th} (a : Goes k t t') (b : Goes k' t' t'') : Goes (k' + k) t t'' := fun f => by
  rw [← Nat.add_assoc, a, b]

theorem Goes.refl {t : Th} : Goes 0 t t := fun _ => rfl

theorem Goes.on {k f : Nat} {t t' t'' : Th} (a : Goes k t t') (h : onF f t' = some t'') : onF (f + k) t = some t'' := by rw [a, h]

theorem Goes.on1 {f : Nat} {t t' t'' : Th} (a : Goes 1 t t') (h : onF f t' = some t'') : onF (f + 1) t = some t'' := a.on h

theorem onF_more : ∀ {f : Nat} {t t' : Th} {k : Nat}, onF f t = some t' → onF (f + k) t = some t' := by
  intro f
  induction f with
  | zero => intro t t' k h; cases h
  | succ f ih =>
    intro t t' k h
    rw [show f + 1 + k = (f + k) + 1 by omega]
    unfold onF at h ⊢
    split at h
    · rename_i h1; rw [if_pos h1]; exact h
    rename_i h1; rw [if_neg h1]
    split at h
    · rename_i h2; rw [if_pos h2]; exact h
    rename_i h2; rw [if_neg h2]
    split at h
    · rename_i h3; rw [if_pos h3]; exact h
    rename_i h3; rw [if_neg h3]
    split at h
    · rename_i h4; rw [if_pos h4]; exact ih h
    · rename_i h4; rw [if_neg h4]; exact ih h

section
variable {cs : List Cl} {cl : Cl} {c p : Nat} {r : Nat → Nat} {pre : List (Bool × List Nat)} {said : List Nat} {x : In}

theorem T_begun (hp : pre.length = c) : (T cs c p r pre said).begun = T cs c p r pre said := by
  unfold Th.begun
  rw [if_neg]
  simp [T, hp]

theorem T_next (hc : cs[c]? = some cl) (h : cl.code[p]? = some x) : (T cs c p r pre said).next = x := by
  unfold Th.next Th.cl
  simp only [T, List.getD_eq_getElem?_getD, hc, Option.getD_some, h]

theorem T_next_none (hc : cs[c]? = some cl) (h : cl.code[p]? = none) : (T cs c p r pre said).next = fin := by
  unfold Th.next Th.cl
  simp only [T, List.getD_eq_getElem?_getD, hc, Option.getD_some, h, Option.getD_none]

theorem T_onF {f : Nat} (hc : cs[c]? = some cl) (hp : pre.length = c) : onF (f + 1) (T cs c p r pre said) =
    if told (T cs c p r pre said).next.op = true then some (T cs c p r pre said) else if (T cs c p r pre said).next.op = 23 then onF f (T cs c p r pre said).done else onF f (own (T cs c p r pre said) (T cs c p r pre said).next) := by
  have hlt : c < cs.length := (List.getElem?_eq_some_iff.1 hc).1
  rw [onF, if_neg (by simp [T]), if_neg (by simp only [T]; omega), T_begun hp]

theorem goes_own {t' : Th} (hc : cs[c]? = some cl) (hp : pre.length = c) (h : cl.code[p]? = some x) (h1 : told x.op = false) (h2 : x.op ≠ 23) (ho : own (T cs c p r pre said) x = t') : Goes 1 (T cs c p r pre said) t' := fun f => by
  rw [T_onF hc hp, T_next hc h, if_neg (by rw [h1]; decide), if_neg h2, ho]

theorem on_stop {f : Nat} (hc : cs[c]? = some cl) (hp : pre.length = c) (h : cl.code[p]? = some x) (h1 : told x.op = true) : onF (f + 1) (T cs c p r pre said) = some (T cs c p r pre said) := by
  rw [T_onF hc hp, T_next hc h, if_pos h1]

variable {on a b cc d n : Nat}

theorem goes_set (hc : cs[c]? = some cl) (hp : pre.length = c) (h : cl.code[p]? = some ⟨6, on, a, b, cc, d, n⟩) : Goes 1 (T cs c p r pre said) (T cs c (p + 1) (upd r a (n % 18446744073709551616)) pre said) := goes_own hc hp h rfl (by simp) rfl
theorem goes_copy (hc : cs[c]? = some cl) (hp : pre.length = c) (h : cl.code[p]? = some ⟨7, on, a, b, cc, d, n⟩) : Goes 1 (T cs c p r pre said) (T cs c (p + 1) (upd r a (r b % 18446744073709551616)) pre said) := goes_own hc hp h rfl (by simp) rfl
theorem goes_plus (hc : cs[c]? = some cl) (hp : pre.length = c) (h : cl.code[p]? = some ⟨8, on, a, b, cc, d, n⟩) : Goes 1 (T cs c p r pre said) (T cs c (p + 1) (upd r a ((r b + r cc + n) % 18446744073709551616)) pre said) := goes_own hc hp h rfl (by simp) rfl
theorem goes_less (hc : cs[c]? = some cl) (hp : pre.length = c) (h : cl.code[p]? = some ⟨9, on, a, b, cc, d, n⟩) : Goes 1 (T cs c p r pre said) (T cs c (p + 1) (upd r a ((r b + 18446744073709551616 - r cc) % 18446744073709551616)) pre said) := goes_own hc hp h rfl (by simp) rfl
theorem goes_over (hc : cs[c]? = some cl) (hp : pre.length = c) (h : cl.code[p]? = some ⟨11, on, a, b, cc, d, n⟩) : Goes 1 (T cs c p r pre said) (T cs c (p + 1) (upd r a ((if r cc = 0 then 0 else r b / r cc) % 18446744073709551616)) pre said) := goes_own hc hp h rfl (by simp) rfl
theorem goes_and (hc : cs[c]? = some cl) (hp : pre.length = c) (h : cl.code[p]? = some ⟨12, on, a, b, cc, d, n⟩) : Goes 1 (T cs c p r pre said) (T cs c (p + 1) (upd r a ((r b &&& r cc) % 18446744073709551616)) pre said) := goes_own hc hp h rfl (by simp) rfl
theorem goes_or (hc : cs[c]? = some cl) (hp : pre.length = c) (h : cl.code[p]? = some ⟨13, on, a, b, cc, d, n⟩) : Goes 1 (T cs c p r pre said) (T cs c (p + 1) (upd r a ((r b ||| r cc) % 18446744073709551616)) pre said) := goes_own hc hp h rfl (by simp) rfl
theorem goes_left (hc : cs[c]? = some cl) (hp : pre.length = c) (h : cl.code[p]? = some ⟨14, on, a, b, cc, d, n⟩) : Goes 1 (T cs c p r pre said) (T cs c (p + 1) (upd r a ((r b * 2 ^ n) % 18446744073709551616)) pre said) := goes_own hc hp h rfl (by simp) rfl
theorem goes_right (hc : cs[c]? = some cl) (hp : pre.length = c) (h : cl.code[p]? = some ⟨15, on, a, b, cc, d, n⟩) : Goes 1 (T cs c p r pre said) (T cs c (p + 1) (upd r a ((r b / 2 ^ n) % 18446744073709551616)) pre said) := goes_own hc hp h rfl (by simp) rfl
theorem goes_most (hc : cs[c]? = some cl) (hp : pre.length = c) (h : cl.code[p]? = some ⟨16, on, a, b, cc, d, n⟩) : Goes 1 (T cs c p r pre said) (T cs c (p + 1) (upd r a (max (r b) (r cc) % 18446744073709551616)) pre said) := goes_own hc hp h rfl (by simp) rfl
theorem goes_look (hc : cs[c]? = some cl) (hp : pre.length = c) (h : cl.code[p]? = some ⟨17, on, a, b, cc, d, n⟩) : Goes 1 (T cs c p r pre said) (T cs c (p + 1) (upd r a (cl.data.getD ((r b + n) % 18446744073709551616) 0 % 18446744073709551616)) pre said) := goes_own hc hp h rfl (by simp) (by
  show Th.put _ _ _ = _
  have : (T cs c p r pre said).cl = cl := by unfold Th.cl; simp only [T, List.getD_eq_getElem?_getD, hc, Option.getD_some]
  unfold Th.put
  show { T cs c p r pre said with pc := p + 1, r := upd r a ((T cs c p r pre said).cl.data.getD ((r b + n) % 18446744073709551616) 0 % 18446744073709551616) } = _
  rw [this]; rfl)
theorem goes_jump (hc : cs[c]? = some cl) (hp : pre.length = c) (h : cl.code[p]? = some ⟨18, on, a, b, cc, d, n⟩) : Goes 1 (T cs c p r pre said) (T cs c n r pre said) := goes_own hc hp h rfl (by simp) rfl
theorem goes_sameT (hc : cs[c]? = some cl) (hp : pre.length = c) (h : cl.code[p]? = some ⟨19, on, a, b, cc, d, n⟩) (e : r a = r b) : Goes 1 (T cs c p r pre said) (T cs c n r pre said) := goes_own hc hp h rfl (by simp) (if_pos e)
theorem goes_sameF (hc : cs[c]? = some cl) (hp : pre.length = c) (h : cl.code[p]? = some ⟨19, on, a, b, cc, d, n⟩) (e : ¬ r a = r b) : Goes 1 (T cs c p r pre said) (T cs c (p + 1) r pre said) := goes_own hc hp h rfl (by simp) (if_neg e)
theorem goes_belowT (hc : cs[c]? = some cl) (hp : pre.length = c) (h : cl.code[p]? = some ⟨20, on, a, b, cc, d, n⟩) (e : r a < r b) : Goes 1 (T cs c p r pre said) (T cs c n r pre said) := goes_own hc hp h rfl (by simp) (if_pos e)
theorem goes_belowF (hc : cs[c]? = some cl) (hp : pre.length = c) (h : cl.code[p]? = some ⟨20, on, a, b, cc, d, n⟩) (e : ¬ r a < r b) : Goes 1 (T cs c p r pre said) (T cs c (p + 1) r pre said) := goes_own hc hp h rfl (by simp) (if_neg e)
theorem goes_minusT (hc : cs[c]? = some cl) (hp : pre.length = c) (h : cl.code[p]? = some ⟨21, on, a, b, cc, d, n⟩) (e : 9223372036854775808 ≤ r a) : Goes 1 (T cs c p r pre said) (T cs c n r pre said) := goes_own hc hp h rfl (by simp) (if_pos e)
theorem goes_minusF (hc : cs[c]? = some cl) (hp : pre.length = c) (h : cl.code[p]? = some ⟨21, on, a, b, cc, d, n⟩) (e : ¬ 9223372036854775808 ≤ r a) : Goes 1 (T cs c p r pre said) (T cs c (p + 1) r pre said) := goes_own hc hp h rfl (by simp) (if_neg e)
theorem modify_last {l : List (Bool × List Nat)} {y : Bool × List Nat} {g : Bool × List Nat → Bool × List Nat} (h : l.length = c) : (l ++ [y]).modify c g = l ++ [g y] := by
  subst h
  induction l with
  | nil => rfl
  | cons a l ih => simp only [List.cons_append, List.length_cons, List.modify_succ_cons, ih]
theorem goes_tell (hc : cs[c]? = some cl) (hp : pre.length = c) (h : cl.code[p]? = some ⟨22, on, a, b, cc, d, n⟩) : Goes 1 (T cs c p r pre said) (T cs c (p + 1) r pre (said ++ [r a])) := goes_own hc hp h rfl (by simp) (by
  show Th.tell _ _ = _
  unfold Th.tell T
  dsimp only
  rw [modify_last hp])

theorem done_T (hp : pre.length = c) : (T cs c p r pre said).done = Bt cs (c + 1) (pre ++ [(true, said)]) := by
  unfold Th.done T Bt
  dsimp only
  rw [modify_last hp]

theorem goes_finish (hc : cs[c]? = some cl) (hp : pre.length = c) (h : cl.code[p]? = some ⟨23, on, a, b, cc, d, n⟩) : Goes 1 (T cs c p r pre said) (Bt cs (c + 1) (pre ++ [(true, said)])) := fun f => by
  rw [T_onF hc hp, T_next hc h, if_neg (show ¬ told 23 = true by decide), if_pos (show (23 : Nat) = 23 from rfl), done_T hp]
theorem goes_end (hc : cs[c]? = some cl) (hp : pre.length = c) (h : cl.code[p]? = none) : Goes 1 (T cs c p r pre said) (Bt cs (c + 1) (pre ++ [(true, said)])) := fun f => by
  rw [T_onF hc hp, T_next_none hc h, if_neg (show ¬ told fin.op = true by decide), if_pos (show fin.op = 23 from rfl), done_T hp]

/-- a call is begun -/
theorem on_begin {f : Nat} (hc : cs[c]? = some cl) (hp : pre.length = c) : onF (f + 1) (Bt cs c pre) = onF (f + 1) (T cs c 0 (fun _ => 0) pre []) := by
  have hlt : c < cs.length := (List.getElem?_eq_some_iff.1 hc).1
  have hb : (Bt cs c pre).begun = T cs c 0 (fun _ => 0) pre [] := by
    unfold Th.begun Bt
    rw [if_pos hp]; rfl
  rw [T_onF hc hp, onF, if_neg (by simp [Bt]), if_neg (by simp only [Bt]; omega), hb]
/-- no call is left -/
theorem on_over {f : Nat} (hc : cs[c]? = none) : onF (f + 1) (Bt cs c pre) = some { Bt cs c pre with over := true } := by
  rw [onF, if_neg (by simp [Bt]), if_pos]
  simpa [Bt] using hc

/-- an operation -/
theorem opF_at {f : Nat} {w : Wd} {l : List Nat} {q : Nat} {t' : Th} (hc : cs[c]? = some cl) (h : cl.code[p]? = some x) (hl : w.row x.on = l) (hq : (r x.b + x.n) % 18446744073709551616 = q) (hlt : q < l.length) (ho : onF f (T cs c (p + 1) (op1 x l q r).2 pre said) = some t') :
    opF f w (T cs c p r pre said) = some ({ w with words := w.words.set x.on (op1 x l q r).1 }, t') := by
  unfold opF
  have hn := T_next (r := r) (pre := pre) (said := said) hc h
  have hpl : (T cs c p r pre said).place = q := by unfold Th.place; rw [hn]; exact hq
  rw [hn, hpl, hl, if_pos hlt]
  dsimp only
  show (onF f (T cs c (p + 1) (op1 x l q r).2 pre said)).map _ = _
  rw [ho]; rfl

theorem mark_at {q : Nat} (hc : cs[c]? = some cl) (h : cl.code[p]? = some x) (hq : (r x.b + x.n) % 18446744073709551616 = q) : (T cs c p r pre said).mark = (x.op, q) := by
  have hn := T_next (r := r) (pre := pre) (said := said) hc h
  unfold Th.mark Th.place
  rw [hn]
  exact Prod.ext rfl hq
end

/- ---- one thread alone ---- -/
/-- to its end: the world, the thread, the operations -/
def soloF (f : Nat) : Nat → Wd → Th → List (Nat × Nat) → Option (Wd × Th × List (Nat × Nat))
  | 0, _, _, _ => none
  | g + 1, w, t, ms => if t.over = true then some (w, t, ms) else (opF f w t).bind fun y => soloF f g y.1 y.2 (ms ++ [t.mark])

theorem soloF_len {f : Nat} : ∀ {g : Nat} {w w' : Wd} {t t' : Th} {ms ms' : List (Nat × Nat)}, soloF f g w t ms = some (w', t', ms') → ms.length ≤ ms'.length := by
  intro g
  induction g with
  | zero => intro w w' t t' ms ms' h; cases h
  | succ g ih =>
    intro w w' t t' ms ms' h
    unfold soloF at h
    split at h
    · cases h; exact Nat.le_refl _
    · cases ho : opF f w t with
      | none => rw [ho] at h; cases h
      | some y =>
        rw [ho, Option.bind_some] at h
        have := ih h
        simp at this; omega

theorem solo_rounds {f : Nat} : ∀ {g : Nat} {w w' : Wd} {t t' : Th} {ms ms' : List (Nat × Nat)}, soloF f g w t ms = some (w', t', ms') → ms'.length ≤ 16384 →
    rounds f g ⟨w, [t], ms.map fun m => (0, m)⟩ = some ⟨w', [t'], ms'.map fun m => (0, m)⟩ := by
  intro g
  induction g with
  | zero => intro w w' t t' ms ms' h; cases h
  | succ g ih =>
    intro w w' t t' ms ms' h hl
    unfold soloF at h
    unfold rounds
    split at h
    · rename_i ho
      cases h
      have : round f ([t] : List Th).length 0 ⟨w, [t], ms.map fun m => (0, m)⟩ false = some (⟨w, [t], ms.map fun m => (0, m)⟩, false) := by
        show round f 1 0 _ _ = _
        unfold round
        rw [if_neg (by unfold may; simp [ho])]
        rfl
      dsimp only
      rw [this]; rfl
    · rename_i ho
      rw [Bool.not_eq_true] at ho
      cases hop : opF f w t with
      | none => rw [hop] at h; cases h
      | some y =>
        rw [hop, Option.bind_some] at h
        have hlen := soloF_len h
        simp only [List.length_append, List.length_cons, List.length_nil] at hlen
        have : round f ([t] : List Th).length 0 ⟨w, [t], ms.map fun m => (0, m)⟩ false = some (⟨y.1, [y.2], (ms ++ [t.mark]).map fun m => (0, m)⟩, true) := by
          show round f 1 0 _ _ = _
          unfold round
          rw [if_pos (by unfold may; simp [ho]; omega)]
          unfold turn
          simp only [List.getElem?_cons_zero, hop, Option.map_some, Option.bind_some]
          simp [round]
        dsimp only
        rw [this]
        exact ih h hl

theorem play_solo {f g : Nat} {w w' : Wd} {cl : Cl} {t t' : Th} {ms : List (Nat × Nat)} (h0 : onF f { calls := [cl] } = some t) (h : soloF f g w t [] = some (w', t', ms)) (hl : ms.length ≤ 16384) : play f g w [] [[cl]] = some ⟨w', [t'], ms.map fun m => (0, m)⟩ := by
  unfold play begin_
  simp only [List.map_cons, List.map_nil, h0, Option.bind_some, begin_, Option.map_some, byOrder]
  exact solo_rounds (ms := []) h hl

/-- one operation of the one thread -/
theorem solo_op {f g : Nat} {w w1 : Wd} {t t1 : Th} {ms : List (Nat × Nat)} {r : Wd × Th × List (Nat × Nat)} (ho : t.over = false) (h : opF f w t = some (w1, t1)) (k : soloF f g w1 t1 (ms ++ [t.mark]) = some r) : soloF f (g + 1) w t ms = some r := by
  unfold soloF
  rw [if_neg (by rw [ho]; decide), h]
  exact k
theorem solo_end {f g : Nat} {w : Wd} {t : Th} {ms : List (Nat × Nat)} (ho : t.over = true) : soloF f (g + 1) w t ms = some (w, t, ms) := by
  unfold soloF
  rw [if_pos ho]

theorem solo_at {f g : Nat} {w : Wd} {ms : List (Nat × Nat)} {res : Wd × Th × List (Nat × Nat)} {cs : List Cl} {cl : Cl} {c p : Nat} {r : Nat → Nat} {pre : List (Bool × List Nat)} {said : List Nat} {x : In} {l : List Nat} {q : Nat} {t1 : Th} (hc : cs[c]? = some cl) (h : cl.code[p]? = some x) (hl : w.row x.on = l) (hq : (r x.b + x.n) % 18446744073709551616 = q) (hlt : q < l.length)
    (ho : onF f (T cs c (p + 1) (op1 x l q r).2 pre said) = some t1) (k : soloF f g { w with words := w.words.set x.on (op1 x l q r).1 } t1 (ms ++ [(x.op, q)]) = some res) : soloF f (g + 1) w (T cs c p r pre said) ms = some res :=
  solo_op rfl (opF_at hc h hl hq hlt ho) (by rw [mark_at hc h hq]; exact k)

/- ---- the same, with what the registers hold named ---- -/
section
variable {cs : List Cl} {cl : Cl} {c p : Nat} {r : Nat → Nat} {pre : List (Bool × List Nat)} {said : List Nat} {x : In} {on a b cc d n vb vc v : Nat}

theorem st_set (hc : cs[c]? = some cl) (hp : pre.length = c) (h : cl.code[p]? = some ⟨6, on, a, b, cc, d, n⟩) (e : n % 18446744073709551616 = v) : Goes 1 (T cs c p r pre said) (T cs c (p + 1) (upd r a v) pre said) := by
  subst e; exact goes_set hc hp h
theorem st_copy (hc : cs[c]? = some cl) (hp : pre.length = c) (h : cl.code[p]? = some ⟨7, on, a, b, cc, d, n⟩) (e : vb % 18446744073709551616 = v) (hb : r b = vb) : Goes 1 (T cs c p r pre said) (T cs c (p + 1) (upd r a v) pre said) := by
  subst hb; subst e; exact goes_copy hc hp h
theorem st_plus (hc : cs[c]? = some cl) (hp : pre.length = c) (h : cl.code[p]? = some ⟨8, on, a, b, cc, d, n⟩) (e : (vb + vc + n) % 18446744073709551616 = v) (hb : r b = vb) (hcc : r cc = vc) : Goes 1 (T cs c p r pre said) (T cs c (p + 1) (upd r a v) pre said) := by
  subst hb; subst hcc; subst e; exact goes_plus hc hp h
theorem st_less (hc : cs[c]? = some cl) (hp : pre.length = c) (h : cl.code[p]? = some ⟨9, on, a, b, cc, d, n⟩) (e : (vb + 18446744073709551616 - vc) % 18446744073709551616 = v) (hb : r b = vb) (hcc : r cc = vc) : Goes 1 (T cs c p r pre said) (T cs c (p + 1) (upd r a v) pre said) := by
  subst hb; subst hcc; subst e; exact goes_less hc hp h
theorem st_over (hc : cs[c]? = some cl) (hp : pre.length = c) (h : cl.code[p]? = some ⟨11, on, a, b, cc, d, n⟩) (e : (if vc = 0 then 0 else vb / vc) % 18446744073709551616 = v) (hb : r b = vb) (hcc : r cc = vc) : Goes 1 (T cs c p r pre said) (T cs c (p + 1) (upd r a v) pre said) := by
  subst hb; subst hcc; subst e; exact goes_over hc hp h
theorem st_and (hc : cs[c]? = some cl) (hp : pre.length = c) (h : cl.code[p]? = some ⟨12, on, a, b, cc, d, n⟩) (e : (vb &&& vc) % 18446744073709551616 = v) (hb : r b = vb) (hcc : r cc = vc) : Goes 1 (T cs c p r pre said) (T cs c (p + 1) (upd r a v) pre said) := by
  subst hb; subst hcc; subst e; exact goes_and hc hp h
theorem st_or (hc : cs[c]? = some cl) (hp : pre.length = c) (h : cl.code[p]? = some ⟨13, on, a, b, cc, d, n⟩) (e : (vb ||| vc) % 18446744073709551616 = v) (hb : r b = vb) (hcc : r cc = vc) : Goes 1 (T cs c p r pre said) (T cs c (p + 1) (upd r a v) pre said) := by
  subst hb; subst hcc; subst e; exact goes_or hc hp h
theorem st_left (hc : cs[c]? = some cl) (hp : pre.length = c) (h : cl.code[p]? = some ⟨14, on, a, b, cc, d, n⟩) (e : (vb * 2 ^ n) % 18446744073709551616 = v) (hb : r b = vb) : Goes 1 (T cs c p r pre said) (T cs c (p + 1) (upd r a v) pre said) := by
  subst hb; subst e; exact goes_left hc hp h
theorem st_right (hc : cs[c]? = some cl) (hp : pre.length = c) (h : cl.code[p]? = some ⟨15, on, a, b, cc, d, n⟩) (e : (vb / 2 ^ n) % 18446744073709551616 = v) (hb : r b = vb) : Goes 1 (T cs c p r pre said) (T cs c (p + 1) (upd r a v) pre said) := by
  subst hb; subst e; exact goes_right hc hp h
theorem st_most (hc : cs[c]? = some cl) (hp : pre.length = c) (h : cl.code[p]? = some ⟨16, on, a, b, cc, d, n⟩) (e : max vb vc % 18446744073709551616 = v) (hb : r b = vb) (hcc : r cc = vc) : Goes 1 (T cs c p r pre said) (T cs c (p + 1) (upd r a v) pre said) := by
  subst hb; subst hcc; subst e; exact goes_most hc hp h
theorem st_look (hc : cs[c]? = some cl) (hp : pre.length = c) (h : cl.code[p]? = some ⟨17, on, a, b, cc, d, n⟩) (e : cl.data.getD ((vb + n) % 18446744073709551616) 0 % 18446744073709551616 = v) (hb : r b = vb) : Goes 1 (T cs c p r pre said) (T cs c (p + 1) (upd r a v) pre said) := by
  subst hb; subst e; exact goes_look hc hp h
theorem st_sameT (hc : cs[c]? = some cl) (hp : pre.length = c) (h : cl.code[p]? = some ⟨19, on, a, b, cc, d, n⟩) (e : vb = vc) (hb : r a = vb) (hcc : r b = vc) : Goes 1 (T cs c p r pre said) (T cs c n r pre said) := goes_sameT hc hp h (by rw [hb, hcc, e])
theorem st_sameF (hc : cs[c]? = some cl) (hp : pre.length = c) (h : cl.code[p]? = some ⟨19, on, a, b, cc, d, n⟩) (e : ¬ vb = vc) (hb : r a = vb) (hcc : r b = vc) : Goes 1 (T cs c p r pre said) (T cs c (p + 1) r pre said) := goes_sameF hc hp h (by rw [hb, hcc]; exact e)
theorem st_belowT (hc : cs[c]? = some cl) (hp : pre.length = c) (h : cl.code[p]? = some ⟨20, on, a, b, cc, d, n⟩) (e : vb < vc) (hb : r a = vb) (hcc : r b = vc) : Goes 1 (T cs c p r pre said) (T cs c n r pre said) := goes_belowT hc hp h (by rw [hb, hcc]; exact e)
theorem st_belowF (hc : cs[c]? = some cl) (hp : pre.length = c) (h : cl.code[p]? = some ⟨20, on, a, b, cc, d, n⟩) (e : ¬ vb < vc) (hb : r a = vb) (hcc : r b = vc) : Goes 1 (T cs c p r pre said) (T cs c (p + 1) r pre said) := goes_belowF hc hp h (by rw [hb, hcc]; exact e)
theorem st_minusT (hc : cs[c]? = some cl) (hp : pre.length = c) (h : cl.code[p]? = some ⟨21, on, a, b, cc, d, n⟩) (e : 9223372036854775808 ≤ vb) (hb : r a = vb) : Goes 1 (T cs c p r pre said) (T cs c n r pre said) := goes_minusT hc hp h (by rw [hb]; exact e)
theorem st_minusF (hc : cs[c]? = some cl) (hp : pre.length = c) (h : cl.code[p]? = some ⟨21, on, a, b, cc, d, n⟩) (e : ¬ 9223372036854775808 ≤ vb) (hb : r a = vb) : Goes 1 (T cs c p r pre said) (T cs c (p + 1) r pre said) := goes_minusF hc hp h (by rw [hb]; exact e)
theorem st_tell (hc : cs[c]? = some cl) (hp : pre.length = c) (h : cl.code[p]? = some ⟨22, on, a, b, cc, d, n⟩) (hb : r a = vb) : Goes 1 (T cs c p r pre said) (T cs c (p + 1) r pre (said ++ [vb])) := by
  subst hb; exact goes_tell hc hp h

variable {f : Nat} {w : Wd} {l : List Nat} {q : Nat} {ws : List (List Nat)} {t' : Th}
/-- an operation, with its mark -/
structure Op (f : Nat) (w : Wd) (t : Th) (m : Nat × Nat) (w' : Wd) (t' : Th) : Prop where
  over : t.over = false
  on : opF f w t = some (w', t')
  mark : t.mark = m

theorem Op.of {w' : Wd} (hc : cs[c]? = some cl) (h : cl.code[p]? = some x) (hq : (r x.b + x.n) % 18446744073709551616 = q) (ho : opF f w (T cs c p r pre said) = some (w', t')) : Op f w (T cs c p r pre said) (x.op, q) w' t' := ⟨rfl, ho, mark_at hc h hq⟩

/-- a Load -/
theorem opr_load (hc : cs[c]? = some cl) (h : cl.code[p]? = some ⟨1, on, a, b, cc, d, n⟩) (hw : w.words[on]? = some l) (hb : r b = vb) (hq : (vb + n) % 18446744073709551616 = q) (hv : l[q]? = some v) (ho : onF f (T cs c (p + 1) (upd r a v) pre said) = some t') :
    opF f w (T cs c p r pre said) = some (w, t') := by
  have hr : w.row on = l := by unfold Wd.row; rw [List.getD_eq_getElem?_getD, hw]; rfl
  have hg : l.getD q 0 = v := by rw [List.getD_eq_getElem?_getD, hv]; rfl
  subst hb
  have := opF_at (f := f) (t' := t') (pre := pre) (said := said) (r := r) hc h hr hq (List.getElem?_eq_some_iff.1 hv).1 (by show onF f (T cs c (p + 1) (upd r a (l.getD q 0)) pre said) = _; rw [hg]; exact ho)
  rw [this]
  have e : w.words.set on l = w.words := by
    apply List.ext_getElem?
    intro i
    rw [List.getElem?_set]
    split
    · rename_i hi; subst hi; rw [if_pos (List.getElem?_eq_some_iff.1 hw).1, hw]
    · rfl
  show some (({ w with words := w.words.set on l } : Wd), t') = _
  rw [e]
theorem op_load (hc : cs[c]? = some cl) (h : cl.code[p]? = some ⟨1, on, a, b, cc, d, n⟩) (hw : w.words[on]? = some l) (hb : r b = vb) (hq : (vb + n) % 18446744073709551616 = q) (hv : l[q]? = some v) (ho : onF f (T cs c (p + 1) (upd r a v) pre said) = some t') : Op f w (T cs c p r pre said) (1, q) (w) t' := Op.of hc h (by rw [← hb] at hq; exact hq) (opr_load hc h hw hb hq hv ho)
/-- a Store -/
theorem opr_store (hc : cs[c]? = some cl) (h : cl.code[p]? = some ⟨2, on, a, b, cc, d, n⟩) (hw : w.words[on]? = some l) (hb : r b = vb) (hq : (vb + n) % 18446744073709551616 = q) (hv : r a = v) (hlt : q < l.length) (hws : w.words.set on (l.set q v) = ws) (ho : onF f (T cs c (p + 1) r pre said) = some t') :
    opF f w (T cs c p r pre said) = some (⟨ws, w.nl⟩, t') := by
  have hr : w.row on = l := by unfold Wd.row; rw [List.getD_eq_getElem?_getD, hw]; rfl
  subst hb; subst hv; subst hws
  exact opF_at (f := f) (t' := t') hc h hr hq hlt ho
theorem op_store (hc : cs[c]? = some cl) (h : cl.code[p]? = some ⟨2, on, a, b, cc, d, n⟩) (hw : w.words[on]? = some l) (hb : r b = vb) (hq : (vb + n) % 18446744073709551616 = q) (hv : r a = v) (hlt : q < l.length) (hws : w.words.set on (l.set q v) = ws) (ho : onF f (T cs c (p + 1) r pre said) = some t') : Op f w (T cs c p r pre said) (2, q) (⟨ws, w.nl⟩) t' := Op.of hc h (by rw [← hb] at hq; exact hq) (opr_store hc h hw hb hq hv hlt hws ho)
/-- an Add -/
theorem opr_add {s : Nat} (hc : cs[c]? = some cl) (h : cl.code[p]? = some ⟨3, on, a, b, cc, d, n⟩) (hw : w.words[on]? = some l) (hb : r b = vb) (hq : (vb + n) % 18446744073709551616 = q) (hcc : r cc = vc) (hv : l[q]? = some v) (e : (v + vc) % 18446744073709551616 = s) (hws : w.words.set on (l.set q s) = ws) (ho : onF f (T cs c (p + 1) (upd r a s) pre said) = some t') :
    opF f w (T cs c p r pre said) = some (⟨ws, w.nl⟩, t') := by
  have hr : w.row on = l := by unfold Wd.row; rw [List.getD_eq_getElem?_getD, hw]; rfl
  have hg : l.getD q 0 = v := by rw [List.getD_eq_getElem?_getD, hv]; rfl
  subst hb; subst hcc; subst hws; subst e
  have := opF_at (f := f) (t' := t') (pre := pre) (said := said) (r := r) hc h hr hq (List.getElem?_eq_some_iff.1 hv).1 (by show onF f (T cs c (p + 1) (upd r a ((l.getD q 0 + r cc) % 18446744073709551616)) pre said) = _; rw [hg]; exact ho)
  rw [this]
  show some (({ w with words := w.words.set on (l.set q ((l.getD q 0 + r cc) % 18446744073709551616)) } : Wd), t') = _
  rw [hg]
theorem op_add {s : Nat} (hc : cs[c]? = some cl) (h : cl.code[p]? = some ⟨3, on, a, b, cc, d, n⟩) (hw : w.words[on]? = some l) (hb : r b = vb) (hq : (vb + n) % 18446744073709551616 = q) (hcc : r cc = vc) (hv : l[q]? = some v) (e : (v + vc) % 18446744073709551616 = s) (hws : w.words.set on (l.set q s) = ws) (ho : onF f (T cs c (p + 1) (upd r a s) pre said) = some t') : Op f w (T cs c p r pre said) (3, q) (⟨ws, w.nl⟩) t' := Op.of hc h (by rw [← hb] at hq; exact hq) (opr_add hc h hw hb hq hcc hv e hws ho)
/-- a Swap -/
theorem opr_swap (hc : cs[c]? = some cl) (h : cl.code[p]? = some ⟨4, on, a, b, cc, d, n⟩) (hw : w.words[on]? = some l) (hb : r b = vb) (hq : (vb + n) % 18446744073709551616 = q) (hcc : r cc = vc) (hv : l[q]? = some v) (hws : w.words.set on (l.set q vc) = ws) (ho : onF f (T cs c (p + 1) (upd r a v) pre said) = some t') :
    opF f w (T cs c p r pre said) = some (⟨ws, w.nl⟩, t') := by
  have hr : w.row on = l := by unfold Wd.row; rw [List.getD_eq_getElem?_getD, hw]; rfl
  have hg : l.getD q 0 = v := by rw [List.getD_eq_getElem?_getD, hv]; rfl
  subst hb; subst hcc; subst hws
  exact opF_at (f := f) (t' := t') (pre := pre) (said := said) (r := r) hc h hr hq (List.getElem?_eq_some_iff.1 hv).1 (by show onF f (T cs c (p + 1) (upd r a (l.getD q 0)) pre said) = _; rw [hg]; exact ho)
theorem op_swap (hc : cs[c]? = some cl) (h : cl.code[p]? = some ⟨4, on, a, b, cc, d, n⟩) (hw : w.words[on]? = some l) (hb : r b = vb) (hq : (vb + n) % 18446744073709551616 = q) (hcc : r cc = vc) (hv : l[q]? = some v) (hws : w.words.set on (l.set q vc) = ws) (ho : onF f (T cs c (p + 1) (upd r a v) pre said) = some t') : Op f w (T cs c p r pre said) (4, q) (⟨ws, w.nl⟩) t' := Op.of hc h (by rw [← hb] at hq; exact hq) (opr_swap hc h hw hb hq hcc hv hws ho)
/-- a CompareAndSwap that swaps -/
theorem opr_casT {vd : Nat} (hc : cs[c]? = some cl) (h : cl.code[p]? = some ⟨5, on, a, b, cc, d, n⟩) (hw : w.words[on]? = some l) (hb : r b = vb) (hq : (vb + n) % 18446744073709551616 = q) (hcc : r cc = v) (hd : r d = vd) (hv : l[q]? = some v) (hws : w.words.set on (l.set q vd) = ws) (ho : onF f (T cs c (p + 1) (upd r a 1) pre said) = some t') :
    opF f w (T cs c p r pre said) = some (⟨ws, w.nl⟩, t') := by
  have hr : w.row on = l := by unfold Wd.row; rw [List.getD_eq_getElem?_getD, hw]; rfl
  have hg : l.getD q 0 = v := by rw [List.getD_eq_getElem?_getD, hv]; rfl
  have hop : op1 ⟨5, on, a, b, cc, d, n⟩ l q r = (l.set q vd, upd r a 1) := by
    show (if l.getD q 0 = r cc then (l.set q (r d), upd r a 1) else (l, upd r a 0)) = _
    rw [if_pos (by rw [hg, hcc]), hd]
  subst hb; subst hws
  rw [opF_at (f := f) (t' := t') (pre := pre) (said := said) (r := r) hc h hr hq (List.getElem?_eq_some_iff.1 hv).1 (by rw [hop]; exact ho), hop]
theorem op_casT {vd : Nat} (hc : cs[c]? = some cl) (h : cl.code[p]? = some ⟨5, on, a, b, cc, d, n⟩) (hw : w.words[on]? = some l) (hb : r b = vb) (hq : (vb + n) % 18446744073709551616 = q) (hcc : r cc = v) (hd : r d = vd) (hv : l[q]? = some v) (hws : w.words.set on (l.set q vd) = ws) (ho : onF f (T cs c (p + 1) (upd r a 1) pre said) = some t') : Op f w (T cs c p r pre said) (5, q) (⟨ws, w.nl⟩) t' := Op.of hc h (by rw [← hb] at hq; exact hq) (opr_casT hc h hw hb hq hcc hd hv hws ho)
/-- a CompareAndSwap that does not -/
theorem opr_casF (hc : cs[c]? = some cl) (h : cl.code[p]? = some ⟨5, on, a, b, cc, d, n⟩) (hw : w.words[on]? = some l) (hb : r b = vb) (hq : (vb + n) % 18446744073709551616 = q) (hcc : r cc = vc) (hv : l[q]? = some v) (hne : ¬ v = vc) (ho : onF f (T cs c (p + 1) (upd r a 0) pre said) = some t') :
    opF f w (T cs c p r pre said) = some (w, t') := by
  have hr : w.row on = l := by unfold Wd.row; rw [List.getD_eq_getElem?_getD, hw]; rfl
  have hg : l.getD q 0 = v := by rw [List.getD_eq_getElem?_getD, hv]; rfl
  have hop : op1 ⟨5, on, a, b, cc, d, n⟩ l q r = (l, upd r a 0) := by
    show (if l.getD q 0 = r cc then (l.set q (r d), upd r a 1) else (l, upd r a 0)) = _
    rw [if_neg (by rw [hg, hcc]; exact hne)]
  subst hb
  have e : w.words.set on l = w.words := by
    apply List.ext_getElem?
    intro i
    rw [List.getElem?_set]
    split
    · rename_i hi; subst hi; rw [if_pos (List.getElem?_eq_some_iff.1 hw).1, hw]
    · rfl
  rw [opF_at (f := f) (t' := t') (pre := pre) (said := said) (r := r) hc h hr hq (List.getElem?_eq_some_iff.1 hv).1 (by rw [hop]; exact ho), hop]
  show some (({ w with words := w.words.set on l } : Wd), t') = _
  rw [e]

theorem op_casF (hc : cs[c]? = some cl) (h : cl.code[p]? = some ⟨5, on, a, b, cc, d, n⟩) (hw : w.words[on]? = some l) (hb : r b = vb) (hq : (vb + n) % 18446744073709551616 = q) (hcc : r cc = vc) (hv : l[q]? = some v) (hne : ¬ v = vc) (ho : onF f (T cs c (p + 1) (upd r a 0) pre said) = some t') : Op f w (T cs c p r pre said) (5, q) (w) t' := Op.of hc h (by rw [← hb] at hq; exact hq) (opr_casF hc h hw hb hq hcc hv hne ho)
end
/-- one operation of the one thread, by its mark -/
theorem solo_by {f g : Nat} {w w' : Wd} {t t1 : Th} {m : Nat × Nat} {ms : List (Nat × Nat)} {res : Wd × Th × List (Nat × Nat)} (h : Op f w t m w' t1) (k : soloF f g w' t1 (ms ++ [m]) = some res) : soloF f (g + 1) w t ms = some res :=
  solo_op h.over h.on (by rw [h.mark]; exact k)

/-- what a play of one call comes to -/
def Comes (f g : Nat) (w : Wd) (cl : Cl) (w' : Wd) (said : List Nat) (ms : List (Nat × Nat)) : Prop := ∃ st t, play f g w [] [[cl]] = some st ∧ st.w = w' ∧ st.l = [t] ∧ t.ans = [(true, said)] ∧ st.tr = ms.map fun m => (0, m)

theorem comes_of {f g : Nat} {w w' : Wd} {cl : Cl} {said : List Nat} {ms : List (Nat × Nat)} {t : Th} (h0 : onF (f + 1) (T [cl] 0 0 (fun _ => 0) [] []) = some t) (h : soloF (f + 1) g w t [] = some (w', { Bt [cl] 1 [(true, said)] with over := true }, ms)) (hl : ms.length ≤ 16384) : Comes (f + 1) g w cl w' said ms :=
  ⟨_, _, play_solo (t := t) ((on_begin (cs := [cl]) (c := 0) (pre := []) rfl rfl).trans h0) h hl, rfl, rfl, rfl, rfl⟩

/-- operations one behind the other -/
inductive Runs (f : Nat) : Wd → Th → List (Nat × Nat) → Wd → Th → Prop
  | nil {w : Wd} {t : Th} : Runs f w t [] w t
  | cons {w w1 w2 : Wd} {t t1 t2 : Th} {m : Nat × Nat} {ms : List (Nat × Nat)} : Op f w t m w1 t1 → Runs f w1 t1 ms w2 t2 → Runs f w t (m :: ms) w2 t2

theorem Runs.trans {f : Nat} {w w1 w2 : Wd} {t t1 t2 : Th} {ms ms' : List (Nat × Nat)} (a : Runs f w t ms w1 t1) (b : Runs f w1 t1 ms' w2 t2) : Runs f w t (ms ++ ms') w2 t2 := by
  induction a with
  | nil => exact b
  | cons h _ ih => exact .cons h (ih b)

theorem Runs.solo {f : Nat} {w w' : Wd} {t t' : Th} {ms : List (Nat × Nat)} (a : Runs f w t ms w' t') (ho : t'.over = true) : ∀ ms0, soloF f (ms.length + 1) w t ms0 = some (w', t', ms0 ++ ms) := by
  induction a with
  | nil => intro ms0; rw [List.append_nil]; exact solo_end ho
  | cons h _ ih =>
    intro ms0
    refine solo_by h ?_
    refine (ih ho _).trans ?_
    rw [List.append_assoc]; rfl

theorem comes_runs {f : Nat} {w w' : Wd} {cl : Cl} {said : List Nat} {ms : List (Nat × Nat)} {t : Th} (h0 : onF (f + 1) (T [cl] 0 0 (fun _ => 0) [] []) = some t) (h : Runs (f + 1) w t ms w' { Bt [cl] 1 [(true, said)] with over := true }) (hl : ms.length ≤ 16384) : Comes (f + 1) (ms.length + 1) w cl w' said ms :=
  comes_of h0 (h.solo rfl []) hl

end Go.PB.Mach
