/-
  A METER's calls, run by the document's machine. No program in sight.
-/
import Derived.Test.YthoefhocecdlhaaSolo
set_option linter.unusedVariables false
set_option linter.unusedSimpArgs false
namespace Go.PB.Mach

/-- a Take's code: the clock, what n tokens weigh, what they may not pass, from the place w on, the answer in the register out -/
def mtakeCode (on ck need top w out : Nat) : List In := [⟨1, on, 10, 9, 0, 0, 0⟩, ⟨6, 0, 11, 0, 0, 0, ck⟩, ⟨16, 0, 12, 10, 11, 0, 0⟩, ⟨8, 0, 12, 12, 9, 0, need⟩, ⟨6, 0, 13, 0, 0, 0, top⟩, ⟨19, 0, 13, 9, 0, 0, w + 11⟩, ⟨20, 0, 13, 12, 0, 0, w + 11⟩,
  ⟨5, on, 14, 9, 10, 12, 0⟩, ⟨19, 0, 14, 9, 0, 0, w⟩, ⟨6, 0, out, 0, 0, 0, 1⟩, ⟨18, 0, 0, 0, 0, 0, w + 12⟩, ⟨6, 0, out, 0, 0, 0, 0⟩]
def mtakeCl (ck need top : Nat) : Cl := ⟨mtakeCode 0 ck need top 0 0 ++ [⟨22, 0, 9, 0, 0, 0, 0⟩, ⟨22, 0, 0, 0, 0, 0, 0⟩], []⟩
def mstateCl : Cl := ⟨[⟨1, 0, 0, 9, 0, 0, 0⟩, ⟨22, 0, 9, 0, 0, 0, 0⟩, ⟨22, 0, 0, 0, 0, 0, 0⟩], []⟩
def mlevelCl (ck bd den : Nat) : Cl := ⟨[⟨1, 0, 0, 9, 0, 0, 0⟩, ⟨6, 0, 1, 0, 0, 0, ck⟩, ⟨16, 0, 0, 0, 1, 0, 0⟩, ⟨8, 0, 2, 1, 9, 0, bd⟩, ⟨6, 0, 3, 0, 0, 0, 0⟩, ⟨20, 0, 2, 0, 0, 0, 9⟩, ⟨9, 0, 2, 2, 0, 0, 0⟩, ⟨6, 0, 4, 0, 0, 0, den⟩, ⟨11, 0, 3, 2, 4, 0, 0⟩, ⟨22, 0, 9, 0, 0, 0, 0⟩, ⟨22, 0, 3, 0, 0, 0, 0⟩], []⟩
def mrefCl (e : Nat) : Cl := ⟨[⟨6, 0, 0, 0, 0, 0, e⟩, ⟨22, 0, 0, 0, 0, 0, 0⟩, ⟨22, 0, 9, 0, 0, 0, 0⟩], []⟩

variable {cs : List Cl} {cl : Cl} {c on b ck need top out s u t1 t2 : Nat} {pre : List (Bool × List Nat)} {said : List Nat} {w : Wd} {t' : Th} {l : List Nat} {r : Nat → Nat}

def HasMTake (cl : Cl) (on ck need top b out : Nat) : Prop := ∀ i x, (mtakeCode on ck need top b out)[i]? = some x → cl.code[b + i]? = some x
def mr (r : Nat → Nat) (s ck t1 t2 top : Nat) : Nat → Nat := upd (upd (upd (upd (upd r 10 s) 11 ck) 12 t1) 12 t2) 13 top

/-- the load; nothing will do -/
theorem mtake_0N (hc : cs[c]? = some cl) (hk : HasMTake cl on ck need 0 b out) (h0 : pre.length = c) (hw : w.words[on]? = some l) (hv : l[0]? = some s) (h9 : r 9 = 0) (hck : ck < 18446744073709551616) (h1 : max s ck % 18446744073709551616 = t1) (h2 : (t1 + need) % 18446744073709551616 = t2)
    (ho : onF 20 (T cs c (b + 12) (upd (mr r s ck t1 t2 0) out 0) pre said) = some t') : Op 30 w (T cs c b r pre said) (1, 0) w t' :=
  op_load (vb := 0) hc (hk 0 _ rfl) hw h9 rfl hv (Goes.on1 (st_set hc h0 (hk 1 _ rfl) (Nat.mod_eq_of_lt hck)) (Goes.on1 (st_most (vb := s) (vc := ck) hc h0 (hk 2 _ rfl) h1 rfl rfl) (Goes.on1 (st_plus (vb := t1) (vc := 0) hc h0 (hk 3 _ rfl) h2 rfl h9) (Goes.on1 (st_set hc h0 (hk 4 _ rfl) rfl) (Goes.on1 (st_sameT (vb := 0) (vc := 0) hc h0 (hk 5 _ rfl) rfl rfl h9) (Goes.on1 (st_set hc h0 (hk 11 _ rfl) rfl) (onF_more (k := 4) ho)))))))
/-- the load; it is too much -/
theorem mtake_0F (hc : cs[c]? = some cl) (hk : HasMTake cl on ck need top b out) (h0 : pre.length = c) (hw : w.words[on]? = some l) (hv : l[0]? = some s) (h9 : r 9 = 0) (hck : ck < 18446744073709551616) (h1 : max s ck % 18446744073709551616 = t1) (h2 : (t1 + need) % 18446744073709551616 = t2) (ht : top < 18446744073709551616) (hne : ¬ top = 0) (hlt : top < t2)
    (ho : onF 20 (T cs c (b + 12) (upd (mr r s ck t1 t2 top) out 0) pre said) = some t') : Op 30 w (T cs c b r pre said) (1, 0) w t' :=
  op_load (vb := 0) hc (hk 0 _ rfl) hw h9 rfl hv (Goes.on1 (st_set hc h0 (hk 1 _ rfl) (Nat.mod_eq_of_lt hck)) (Goes.on1 (st_most (vb := s) (vc := ck) hc h0 (hk 2 _ rfl) h1 rfl rfl) (Goes.on1 (st_plus (vb := t1) (vc := 0) hc h0 (hk 3 _ rfl) h2 rfl h9) (Goes.on1 (st_set hc h0 (hk 4 _ rfl) (Nat.mod_eq_of_lt ht)) (Goes.on1 (st_sameF (vb := top) (vc := 0) hc h0 (hk 5 _ rfl) hne rfl h9) (Goes.on1 (st_belowT (vb := top) (vc := t2) hc h0 (hk 6 _ rfl) hlt rfl rfl) (Goes.on1 (st_set hc h0 (hk 11 _ rfl) rfl) (onF_more (k := 3) ho))))))))
/-- the load; it will do -/
theorem mtake_0T (hc : cs[c]? = some cl) (hk : HasMTake cl on ck need top b out) (h0 : pre.length = c) (hw : w.words[on]? = some l) (hv : l[0]? = some s) (h9 : r 9 = 0) (hck : ck < 18446744073709551616) (h1 : max s ck % 18446744073709551616 = t1) (h2 : (t1 + need) % 18446744073709551616 = t2) (ht : top < 18446744073709551616) (hne : ¬ top = 0) (hlt : ¬ top < t2) :
    Op 30 w (T cs c b r pre said) (1, 0) w (T cs c (b + 7) (mr r s ck t1 t2 top) pre said) :=
  op_load (vb := 0) hc (hk 0 _ rfl) hw h9 rfl hv (Goes.on1 (st_set hc h0 (hk 1 _ rfl) (Nat.mod_eq_of_lt hck)) (Goes.on1 (st_most (vb := s) (vc := ck) hc h0 (hk 2 _ rfl) h1 rfl rfl) (Goes.on1 (st_plus (vb := t1) (vc := 0) hc h0 (hk 3 _ rfl) h2 rfl h9) (Goes.on1 (st_set hc h0 (hk 4 _ rfl) (Nat.mod_eq_of_lt ht)) (Goes.on1 (st_sameF (vb := top) (vc := 0) hc h0 (hk 5 _ rfl) hne rfl h9) (Goes.on1 (st_belowF (vb := top) (vc := t2) hc h0 (hk 6 _ rfl) hlt rfl rfl) (on_stop hc h0 (hk 7 _ rfl) rfl)))))))
/-- the CompareAndSwap -/
theorem mtake_7F (hc : cs[c]? = some cl) (hk : HasMTake cl on ck need top b out) (h0 : pre.length = c) (hw : w.words[on]? = some l) (hv : l[0]? = some u) (h9 : r 9 = 0) (hne : ¬ u = s) : Op 30 w (T cs c (b + 7) (mr r s ck t1 t2 top) pre said) (5, 0) w (T cs c b (upd (mr r s ck t1 t2 top) 14 0) pre said) :=
  op_casF (vb := 0) (vc := s) hc (hk 7 _ rfl) hw h9 rfl rfl hv hne (Goes.on1 (st_sameT (vb := 0) (vc := 0) hc h0 (hk 8 _ rfl) rfl rfl h9) (on_stop hc h0 (hk 0 _ rfl) rfl))
theorem mtake_7T {ws : List (List Nat)} (hc : cs[c]? = some cl) (hk : HasMTake cl on ck need top b out) (h0 : pre.length = c) (hw : w.words[on]? = some l) (hv : l[0]? = some s) (h9 : r 9 = 0) (hws : w.words.set on (l.set 0 t2) = ws)
    (ho : onF 20 (T cs c (b + 12) (upd (upd (mr r s ck t1 t2 top) 14 1) out 1) pre said) = some t') : Op 30 w (T cs c (b + 7) (mr r s ck t1 t2 top) pre said) (5, 0) ⟨ws, w.nl⟩ t' :=
  op_casT (vb := 0) (vd := t2) hc (hk 7 _ rfl) hw h9 rfl rfl rfl hv hws (Goes.on1 (st_sameF (vb := 1) (vc := 0) hc h0 (hk 8 _ rfl) (by decide) rfl h9) (Goes.on1 (st_set hc h0 (hk 9 _ rfl) rfl) (Goes.on1 (goes_jump hc h0 (hk 10 _ rfl)) (onF_more (k := 7) ho))))

theorem mtake_has : HasMTake (mtakeCl ck need top) 0 ck need top 0 0 := fun i x h => by
  show (mtakeCode 0 ck need top 0 0 ++ _)[0 + i]? = some x
  rw [Nat.zero_add, List.getElem?_append_left (List.getElem?_eq_some_iff.1 h).1]
  exact h
theorem mtake_on (hc : cs[c]? = some (mtakeCl ck need top)) (h0 : pre.length = c) : onF 20 (T cs c 0 (fun _ => 0) pre []) = some (T cs c 0 (fun _ => 0) pre []) := on_stop hc h0 rfl rfl
theorem mtake_end {a0 a9 : Nat} (hc : cs[c]? = some (mtakeCl ck need top)) (h0 : pre.length = c) (e0 : r 0 = a0) (e9 : r 9 = a9) (ho : onF 10 (Bt cs (c + 1) (pre ++ [(true, [a9, a0])])) = some t') : onF 20 (T cs c (0 + 12) r pre []) = some t' :=
  Goes.on1 (st_tell (vb := a9) hc h0 rfl e9) (Goes.on1 (st_tell (vb := a0) hc h0 rfl e0) (Goes.on1 (goes_end hc h0 rfl) (onF_more (k := 7) ho)))

theorem mstate_on (hc : cs[c]? = some mstateCl) (h0 : pre.length = c) : onF 20 (T cs c 0 (fun _ => 0) pre []) = some (T cs c 0 (fun _ => 0) pre []) := on_stop hc h0 rfl rfl
theorem mstate_0 (hc : cs[c]? = some mstateCl) (h0 : pre.length = c) (hw : w.words[0]? = some l) (hv : l[0]? = some s) (ho : onF 10 (Bt cs (c + 1) (pre ++ [(true, [0, s])])) = some t') : Op 30 w (T cs c 0 (fun _ => 0) pre []) (1, 0) w t' :=
  op_load (vb := 0) hc rfl hw rfl rfl hv (Goes.on1 (st_tell (vb := 0) hc h0 rfl rfl) (Goes.on1 (st_tell (vb := s) hc h0 rfl rfl) (Goes.on1 (goes_end hc h0 rfl) (onF_more (k := 17) ho))))

variable {bd den v : Nat}
theorem mlevel_on (hc : cs[c]? = some (mlevelCl ck bd den)) (h0 : pre.length = c) : onF 20 (T cs c 0 (fun _ => 0) pre []) = some (T cs c 0 (fun _ => 0) pre []) := on_stop hc h0 rfl rfl
theorem mlevel_F (hc : cs[c]? = some (mlevelCl ck bd den)) (h0 : pre.length = c) (hw : w.words[0]? = some l) (hv : l[0]? = some s) (hck : ck < 18446744073709551616) (h1 : max s ck % 18446744073709551616 = t1) (h2 : (ck + bd) % 18446744073709551616 = t2) (hlt : t2 < t1)
    (ho : onF 10 (Bt cs (c + 1) (pre ++ [(true, [0, 0])])) = some t') : Op 30 w (T cs c 0 (fun _ => 0) pre []) (1, 0) w t' :=
  op_load (vb := 0) hc rfl hw rfl rfl hv (Goes.on1 (st_set hc h0 rfl (Nat.mod_eq_of_lt hck)) (Goes.on1 (st_most (vb := s) (vc := ck) hc h0 rfl h1 rfl rfl) (Goes.on1 (st_plus (vb := ck) (vc := 0) hc h0 rfl h2 rfl rfl) (Goes.on1 (st_set hc h0 rfl rfl) (Goes.on1 (st_belowT (vb := t2) (vc := t1) hc h0 rfl hlt rfl rfl) (Goes.on1 (st_tell (vb := 0) hc h0 rfl rfl) (Goes.on1 (st_tell (vb := 0) hc h0 rfl rfl) (Goes.on1 (goes_end hc h0 rfl) (onF_more (k := 12) ho)))))))))
theorem mlevel_T {t3 : Nat} (hc : cs[c]? = some (mlevelCl ck bd den)) (h0 : pre.length = c) (hw : w.words[0]? = some l) (hv : l[0]? = some s) (hck : ck < 18446744073709551616) (h1 : max s ck % 18446744073709551616 = t1) (h2 : (ck + bd) % 18446744073709551616 = t2) (hlt : ¬ t2 < t1) (h3 : (t2 + 18446744073709551616 - t1) % 18446744073709551616 = t3) (hd : den < 18446744073709551616)
    (hq : (if den = 0 then 0 else t3 / den) % 18446744073709551616 = v) (ho : onF 10 (Bt cs (c + 1) (pre ++ [(true, [0, v])])) = some t') : Op 30 w (T cs c 0 (fun _ => 0) pre []) (1, 0) w t' :=
  op_load (vb := 0) hc rfl hw rfl rfl hv (Goes.on1 (st_set hc h0 rfl (Nat.mod_eq_of_lt hck)) (Goes.on1 (st_most (vb := s) (vc := ck) hc h0 rfl h1 rfl rfl) (Goes.on1 (st_plus (vb := ck) (vc := 0) hc h0 rfl h2 rfl rfl) (Goes.on1 (st_set hc h0 rfl rfl) (Goes.on1 (st_belowF (vb := t2) (vc := t1) hc h0 rfl hlt rfl rfl)
    (Goes.on1 (st_less (vb := t2) (vc := t1) hc h0 rfl h3 rfl rfl) (Goes.on1 (st_set hc h0 rfl (Nat.mod_eq_of_lt hd)) (Goes.on1 (st_over (vb := t3) (vc := den) hc h0 rfl hq rfl rfl)
    (Goes.on1 (st_tell (vb := 0) hc h0 rfl rfl) (Goes.on1 (st_tell (vb := v) hc h0 rfl rfl) (Goes.on1 (goes_end hc h0 rfl) (onF_more (k := 9) ho))))))))))))

/-- a call that is refused: no operation -/
theorem mref_on {e : Nat} (hc : cs[c]? = some (mrefCl e)) (h0 : pre.length = c) (he : e < 18446744073709551616) (ho : onF 10 (Bt cs (c + 1) (pre ++ [(true, [e, 0])])) = some t') : onF 20 (T cs c 0 (fun _ => 0) pre []) = some t' :=
  Goes.on1 (st_set hc h0 rfl (Nat.mod_eq_of_lt he)) (Goes.on1 (st_tell (vb := e) hc h0 rfl rfl) (Goes.on1 (st_tell (vb := 0) hc h0 rfl rfl) (Goes.on1 (goes_end hc h0 rfl) (onF_more (k := 6) ho))))

end Go.PB.Mach
