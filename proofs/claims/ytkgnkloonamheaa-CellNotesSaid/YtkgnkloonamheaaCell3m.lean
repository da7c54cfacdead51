/-
  A CELL's calls (counter, flag, box), run by the document's machine. No program in sight.
-/
import Derived.Test.YtkgnkloonamheaaSolo
set_option linter.unusedVariables false
set_option linter.unusedSimpArgs false
namespace Go.PB.Mach

variable {cs : List Cl} {c : Nat} {pre : List (Bool × List Nat)} {w : Wd} {t' : Th} {ws : List (List Nat)}
variable {on v bd num s s2 n1 n2 n3 n4 n5 m1 m2 : Nat}

def cgetCl (on : Nat) : Cl := ⟨[⟨1, on, 10, 9, 0, 0, 0⟩, ⟨22, 0, 10, 0, 0, 0, 0⟩], []⟩
def caddCl (on v : Nat) : Cl := ⟨[⟨6, 0, 13, 0, 0, 0, v⟩, ⟨3, on, 10, 9, 13, 0, 0⟩, ⟨22, 0, 10, 0, 0, 0, 0⟩], []⟩
def cupCl (on v bd : Nat) : Cl := ⟨[⟨6, 0, 13, 0, 0, 0, v⟩, ⟨6, 0, 14, 0, 0, 0, bd⟩, ⟨1, on, 10, 9, 0, 0, 0⟩, ⟨20, 0, 14, 13, 0, 0, 12⟩, ⟨9, 0, 15, 14, 13, 0, 0⟩, ⟨20, 0, 15, 10, 0, 0, 12⟩, ⟨8, 0, 11, 10, 13, 0, 0⟩, ⟨5, on, 12, 9, 10, 11, 0⟩, ⟨19, 0, 12, 9, 0, 0, 2⟩, ⟨22, 0, 11, 0, 0, 0, 0⟩, ⟨22, 0, 12, 0, 0, 0, 0⟩, ⟨23, 0, 0, 0, 0, 0, 0⟩, ⟨22, 0, 10, 0, 0, 0, 0⟩, ⟨22, 0, 9, 0, 0, 0, 0⟩], []⟩
def cdownCl (on v : Nat) : Cl := ⟨[⟨6, 0, 13, 0, 0, 0, v⟩, ⟨1, on, 10, 9, 0, 0, 0⟩, ⟨20, 0, 10, 13, 0, 0, 9⟩, ⟨9, 0, 11, 10, 13, 0, 0⟩, ⟨5, on, 12, 9, 10, 11, 0⟩, ⟨19, 0, 12, 9, 0, 0, 1⟩, ⟨22, 0, 11, 0, 0, 0, 0⟩, ⟨22, 0, 12, 0, 0, 0, 0⟩, ⟨23, 0, 0, 0, 0, 0, 0⟩, ⟨22, 0, 10, 0, 0, 0, 0⟩, ⟨22, 0, 9, 0, 0, 0, 0⟩], []⟩
def cmaxCl (on v : Nat) : Cl := ⟨[⟨6, 0, 13, 0, 0, 0, v⟩, ⟨1, on, 10, 9, 0, 0, 0⟩, ⟨20, 0, 10, 13, 0, 0, 5⟩, ⟨22, 0, 9, 0, 0, 0, 0⟩, ⟨23, 0, 0, 0, 0, 0, 0⟩, ⟨5, on, 12, 9, 10, 13, 0⟩, ⟨19, 0, 12, 9, 0, 0, 1⟩, ⟨22, 0, 12, 0, 0, 0, 0⟩], []⟩
def cturnCl (on v : Nat) : Cl := ⟨[⟨6, 0, 13, 0, 0, 0, v⟩, ⟨6, 0, 11, 0, 0, 0, 1⟩, ⟨4, on, 10, 9, 13, 0, 0⟩, ⟨19, 0, 10, 13, 0, 0, 6⟩, ⟨22, 0, 11, 0, 0, 0, 0⟩, ⟨23, 0, 0, 0, 0, 0, 0⟩, ⟨22, 0, 9, 0, 0, 0, 0⟩], []⟩
def cgetbCl (on : Nat) : Cl := ⟨[⟨1, on, 10, 9, 0, 0, 0⟩, ⟨14, 0, 11, 10, 0, 0, 32⟩, ⟨15, 0, 11, 11, 0, 0, 32⟩, ⟨22, 0, 11, 0, 0, 0, 0⟩, ⟨15, 0, 11, 10, 0, 0, 32⟩, ⟨22, 0, 11, 0, 0, 0, 0⟩], []⟩
def cputCl (on v : Nat) : Cl := ⟨[⟨1, on, 10, 9, 0, 0, 0⟩, ⟨15, 0, 13, 10, 0, 0, 32⟩, ⟨8, 0, 13, 13, 9, 0, 1⟩, ⟨14, 0, 11, 13, 0, 0, 32⟩, ⟨8, 0, 11, 11, 9, 0, v⟩, ⟨5, on, 12, 9, 10, 11, 0⟩, ⟨19, 0, 12, 9, 0, 0, 0⟩, ⟨22, 0, 13, 0, 0, 0, 0⟩], []⟩
def ctryCl (on num v : Nat) : Cl := ⟨[⟨6, 0, 14, 0, 0, 0, num⟩, ⟨1, on, 10, 9, 0, 0, 0⟩, ⟨15, 0, 13, 10, 0, 0, 32⟩, ⟨19, 0, 13, 14, 0, 0, 6⟩, ⟨22, 0, 9, 0, 0, 0, 0⟩, ⟨23, 0, 0, 0, 0, 0, 0⟩, ⟨8, 0, 13, 13, 9, 0, 1⟩, ⟨14, 0, 11, 13, 0, 0, 32⟩, ⟨8, 0, 11, 11, 9, 0, v⟩, ⟨5, on, 12, 9, 10, 11, 0⟩, ⟨22, 0, 12, 0, 0, 0, 0⟩], []⟩

theorem cget_on (hc : cs[c]? = some (cgetCl on)) (h0 : pre.length = c)  : onF 20 (T cs c 0 (fun _ => 0) pre []) = some (T cs c 0 (fun _ => 0) pre []) :=
  (on_stop hc h0 rfl rfl)

theorem cget_0 (hc : cs[c]? = some (cgetCl on)) (h0 : pre.length = c) (hw : w.words[on]? = some [s])   (ho : onF 10 (Bt cs (c + 1) (pre ++ [(true, [s])])) = some t') : Op 30 w (T cs c 0 (fun _ => 0) pre []) (1, 0) w t' :=
  op_load (vb := 0) hc rfl hw rfl rfl rfl (Goes.on1 (st_tell (vb := s) hc h0 rfl rfl) (Goes.on1 (goes_end hc h0 rfl) (onF_more (k := 18) ho)))

theorem cadd_on (hc : cs[c]? = some (caddCl on v)) (h0 : pre.length = c) (e1 : v % 18446744073709551616 = v) : onF 20 (T cs c 0 (fun _ => 0) pre []) = some (T cs c 1 (upd (fun _ => 0) 13 v) pre []) :=
  (Goes.on1 (st_set hc h0 rfl e1) (on_stop hc h0 rfl rfl))

theorem cadd_1 (hc : cs[c]? = some (caddCl on v)) (h0 : pre.length = c) (hw : w.words[on]? = some [s]) (es : (s + v) % 18446744073709551616 = s2) (hws : w.words.set on ([s].set 0 s2) = ws)  (ho : onF 10 (Bt cs (c + 1) (pre ++ [(true, [s2])])) = some t') : Op 30 w (T cs c 1 (upd (fun _ => 0) 13 v) pre []) (3, 0) ⟨ws, w.nl⟩ t' :=
  op_add (vb := 0) (vc := v) hc rfl hw rfl rfl rfl rfl es hws (Goes.on1 (st_tell (vb := s2) hc h0 rfl rfl) (Goes.on1 (goes_end hc h0 rfl) (onF_more (k := 18) ho)))

theorem cup_on (hc : cs[c]? = some (cupCl on v bd)) (h0 : pre.length = c) (e1 : v % 18446744073709551616 = v) (e2 : bd % 18446744073709551616 = bd) : onF 20 (T cs c 0 (fun _ => 0) pre []) = some (T cs c 2 (upd (upd (fun _ => 0) 13 v) 14 bd) pre []) :=
  (Goes.on1 (st_set hc h0 rfl e1) (Goes.on1 (st_set hc h0 rfl e2) (on_stop hc h0 rfl rfl)))

theorem cup_2N (hc : cs[c]? = some (cupCl on v bd)) (h0 : pre.length = c) (hw : w.words[on]? = some [s])  (e1 : bd < v) (ho : onF 10 (Bt cs (c + 1) (pre ++ [(true, [s, 0])])) = some t') : Op 30 w (T cs c 2 (upd (upd (fun _ => 0) 13 v) 14 bd) pre []) (1, 0) w t' :=
  op_load (vb := 0) hc rfl hw rfl rfl rfl (Goes.on1 (st_belowT (vb := bd) (vc := v) hc h0 rfl e1 rfl rfl) (Goes.on1 (st_tell (vb := s) hc h0 rfl rfl) (Goes.on1 (st_tell (vb := 0) hc h0 rfl rfl) (Goes.on1 (goes_end hc h0 rfl) (onF_more (k := 16) ho)))))

theorem cup_2F (hc : cs[c]? = some (cupCl on v bd)) (h0 : pre.length = c) (hw : w.words[on]? = some [s])  (e1 : ¬ bd < v) (e2 : (bd + 18446744073709551616 - v) % 18446744073709551616 = n1) (e3 : n1 < s) (ho : onF 10 (Bt cs (c + 1) (pre ++ [(true, [s, 0])])) = some t') : Op 30 w (T cs c 2 (upd (upd (fun _ => 0) 13 v) 14 bd) pre []) (1, 0) w t' :=
  op_load (vb := 0) hc rfl hw rfl rfl rfl (Goes.on1 (st_belowF (vb := bd) (vc := v) hc h0 rfl e1 rfl rfl) (Goes.on1 (st_less (vb := bd) (vc := v) hc h0 rfl e2 rfl rfl) (Goes.on1 (st_belowT (vb := n1) (vc := s) hc h0 rfl e3 rfl rfl) (Goes.on1 (st_tell (vb := s) hc h0 rfl rfl) (Goes.on1 (st_tell (vb := 0) hc h0 rfl rfl) (Goes.on1 (goes_end hc h0 rfl) (onF_more (k := 14) ho)))))))

theorem cup_2T (hc : cs[c]? = some (cupCl on v bd)) (h0 : pre.length = c) (hw : w.words[on]? = some [s])  (e1 : ¬ bd < v) (e2 : (bd + 18446744073709551616 - v) % 18446744073709551616 = n1) (e3 : ¬ n1 < s) (e4 : (s + v + 0) % 18446744073709551616 = n2) : Op 30 w (T cs c 2 (upd (upd (fun _ => 0) 13 v) 14 bd) pre []) (1, 0) w (T cs c 7 (upd (upd (upd (upd (upd (fun _ => 0) 13 v) 14 bd) 10 s) 15 n1) 11 n2) pre []) :=
  op_load (vb := 0) hc rfl hw rfl rfl rfl (Goes.on1 (st_belowF (vb := bd) (vc := v) hc h0 rfl e1 rfl rfl) (Goes.on1 (st_less (vb := bd) (vc := v) hc h0 rfl e2 rfl rfl) (Goes.on1 (st_belowF (vb := n1) (vc := s) hc h0 rfl e3 rfl rfl) (Goes.on1 (st_plus (vb := s) (vc := v) hc h0 rfl e4 rfl rfl) (on_stop hc h0 rfl rfl)))))

theorem cup_7T (hc : cs[c]? = some (cupCl on v bd)) (h0 : pre.length = c) (hw : w.words[on]? = some [s]) (hws : w.words.set on ([s].set 0 n2) = ws)  (ho : onF 10 (Bt cs (c + 1) (pre ++ [(true, [n2, 1])])) = some t') : Op 30 w (T cs c 7 (upd (upd (upd (upd (upd (fun _ => 0) 13 v) 14 bd) 10 s) 15 n1) 11 n2) pre []) (5, 0) ⟨ws, w.nl⟩ t' :=
  op_casT (vb := 0) (vd := n2) hc rfl hw rfl rfl rfl rfl rfl hws (Goes.on1 (st_sameF (vb := 1) (vc := 0) hc h0 rfl (by decide) rfl rfl) (Goes.on1 (st_tell (vb := n2) hc h0 rfl rfl) (Goes.on1 (st_tell (vb := 1) hc h0 rfl rfl) (Goes.on1 (goes_finish hc h0 rfl) (onF_more (k := 16) ho)))))

theorem cup_7F (hc : cs[c]? = some (cupCl on v bd)) (h0 : pre.length = c) (hw : w.words[on]? = some [m1]) (hne : ¬ m1 = s)  : Op 30 w (T cs c 7 (upd (upd (upd (upd (upd (fun _ => 0) 13 v) 14 bd) 10 s) 15 n1) 11 n2) pre []) (5, 0) w (T cs c 2 (upd (upd (upd (upd (upd (upd (fun _ => 0) 13 v) 14 bd) 10 s) 15 n1) 11 n2) 12 0) pre []) :=
  op_casF (vb := 0) (vc := s) hc rfl hw rfl rfl rfl rfl hne (Goes.on1 (st_sameT (vb := 0) (vc := 0) hc h0 rfl rfl rfl rfl) (on_stop hc h0 rfl rfl))

theorem cdown_on (hc : cs[c]? = some (cdownCl on v)) (h0 : pre.length = c) (e1 : v % 18446744073709551616 = v) : onF 20 (T cs c 0 (fun _ => 0) pre []) = some (T cs c 1 (upd (fun _ => 0) 13 v) pre []) :=
  (Goes.on1 (st_set hc h0 rfl e1) (on_stop hc h0 rfl rfl))

theorem cdown_1F (hc : cs[c]? = some (cdownCl on v)) (h0 : pre.length = c) (hw : w.words[on]? = some [s])  (e1 : s < v) (ho : onF 10 (Bt cs (c + 1) (pre ++ [(true, [s, 0])])) = some t') : Op 30 w (T cs c 1 (upd (fun _ => 0) 13 v) pre []) (1, 0) w t' :=
  op_load (vb := 0) hc rfl hw rfl rfl rfl (Goes.on1 (st_belowT (vb := s) (vc := v) hc h0 rfl e1 rfl rfl) (Goes.on1 (st_tell (vb := s) hc h0 rfl rfl) (Goes.on1 (st_tell (vb := 0) hc h0 rfl rfl) (Goes.on1 (goes_end hc h0 rfl) (onF_more (k := 16) ho)))))

theorem cdown_1T (hc : cs[c]? = some (cdownCl on v)) (h0 : pre.length = c) (hw : w.words[on]? = some [s])  (e1 : ¬ s < v) (e2 : (s + 18446744073709551616 - v) % 18446744073709551616 = n1) : Op 30 w (T cs c 1 (upd (fun _ => 0) 13 v) pre []) (1, 0) w (T cs c 4 (upd (upd (upd (fun _ => 0) 13 v) 10 s) 11 n1) pre []) :=
  op_load (vb := 0) hc rfl hw rfl rfl rfl (Goes.on1 (st_belowF (vb := s) (vc := v) hc h0 rfl e1 rfl rfl) (Goes.on1 (st_less (vb := s) (vc := v) hc h0 rfl e2 rfl rfl) (on_stop hc h0 rfl rfl)))

theorem cdown_4T (hc : cs[c]? = some (cdownCl on v)) (h0 : pre.length = c) (hw : w.words[on]? = some [s]) (hws : w.words.set on ([s].set 0 n1) = ws)  (ho : onF 10 (Bt cs (c + 1) (pre ++ [(true, [n1, 1])])) = some t') : Op 30 w (T cs c 4 (upd (upd (upd (fun _ => 0) 13 v) 10 s) 11 n1) pre []) (5, 0) ⟨ws, w.nl⟩ t' :=
  op_casT (vb := 0) (vd := n1) hc rfl hw rfl rfl rfl rfl rfl hws (Goes.on1 (st_sameF (vb := 1) (vc := 0) hc h0 rfl (by decide) rfl rfl) (Goes.on1 (st_tell (vb := n1) hc h0 rfl rfl) (Goes.on1 (st_tell (vb := 1) hc h0 rfl rfl) (Goes.on1 (goes_finish hc h0 rfl) (onF_more (k := 16) ho)))))

theorem cdown_4F (hc : cs[c]? = some (cdownCl on v)) (h0 : pre.length = c) (hw : w.words[on]? = some [m1]) (hne : ¬ m1 = s)  : Op 30 w (T cs c 4 (upd (upd (upd (fun _ => 0) 13 v) 10 s) 11 n1) pre []) (5, 0) w (T cs c 1 (upd (upd (upd (upd (fun _ => 0) 13 v) 10 s) 11 n1) 12 0) pre []) :=
  op_casF (vb := 0) (vc := s) hc rfl hw rfl rfl rfl rfl hne (Goes.on1 (st_sameT (vb := 0) (vc := 0) hc h0 rfl rfl rfl rfl) (on_stop hc h0 rfl rfl))

theorem cmax_on (hc : cs[c]? = some (cmaxCl on v)) (h0 : pre.length = c) (e1 : v % 18446744073709551616 = v) : onF 20 (T cs c 0 (fun _ => 0) pre []) = some (T cs c 1 (upd (fun _ => 0) 13 v) pre []) :=
  (Goes.on1 (st_set hc h0 rfl e1) (on_stop hc h0 rfl rfl))

theorem cmax_1F (hc : cs[c]? = some (cmaxCl on v)) (h0 : pre.length = c) (hw : w.words[on]? = some [s])  (e1 : ¬ s < v) (ho : onF 10 (Bt cs (c + 1) (pre ++ [(true, [0])])) = some t') : Op 30 w (T cs c 1 (upd (fun _ => 0) 13 v) pre []) (1, 0) w t' :=
  op_load (vb := 0) hc rfl hw rfl rfl rfl (Goes.on1 (st_belowF (vb := s) (vc := v) hc h0 rfl e1 rfl rfl) (Goes.on1 (st_tell (vb := 0) hc h0 rfl rfl) (Goes.on1 (goes_finish hc h0 rfl) (onF_more (k := 17) ho))))

theorem cmax_1T (hc : cs[c]? = some (cmaxCl on v)) (h0 : pre.length = c) (hw : w.words[on]? = some [s])  (e1 : s < v) : Op 30 w (T cs c 1 (upd (fun _ => 0) 13 v) pre []) (1, 0) w (T cs c 5 (upd (upd (fun _ => 0) 13 v) 10 s) pre []) :=
  op_load (vb := 0) hc rfl hw rfl rfl rfl (Goes.on1 (st_belowT (vb := s) (vc := v) hc h0 rfl e1 rfl rfl) (on_stop hc h0 rfl rfl))

theorem cmax_5T (hc : cs[c]? = some (cmaxCl on v)) (h0 : pre.length = c) (hw : w.words[on]? = some [s]) (hws : w.words.set on ([s].set 0 v) = ws)  (ho : onF 10 (Bt cs (c + 1) (pre ++ [(true, [1])])) = some t') : Op 30 w (T cs c 5 (upd (upd (fun _ => 0) 13 v) 10 s) pre []) (5, 0) ⟨ws, w.nl⟩ t' :=
  op_casT (vb := 0) (vd := v) hc rfl hw rfl rfl rfl rfl rfl hws (Goes.on1 (st_sameF (vb := 1) (vc := 0) hc h0 rfl (by decide) rfl rfl) (Goes.on1 (st_tell (vb := 1) hc h0 rfl rfl) (Goes.on1 (goes_end hc h0 rfl) (onF_more (k := 17) ho))))

theorem cmax_5F (hc : cs[c]? = some (cmaxCl on v)) (h0 : pre.length = c) (hw : w.words[on]? = some [m1]) (hne : ¬ m1 = s)  : Op 30 w (T cs c 5 (upd (upd (fun _ => 0) 13 v) 10 s) pre []) (5, 0) w (T cs c 1 (upd (upd (upd (fun _ => 0) 13 v) 10 s) 12 0) pre []) :=
  op_casF (vb := 0) (vc := s) hc rfl hw rfl rfl rfl rfl hne (Goes.on1 (st_sameT (vb := 0) (vc := 0) hc h0 rfl rfl rfl rfl) (on_stop hc h0 rfl rfl))

theorem cturn_on (hc : cs[c]? = some (cturnCl on v)) (h0 : pre.length = c) (e1 : v % 18446744073709551616 = v) : onF 20 (T cs c 0 (fun _ => 0) pre []) = some (T cs c 2 (upd (upd (fun _ => 0) 13 v) 11 1) pre []) :=
  (Goes.on1 (st_set hc h0 rfl e1) (Goes.on1 (st_set hc h0 rfl rfl) (on_stop hc h0 rfl rfl)))

theorem cturn_2F (hc : cs[c]? = some (cturnCl on v)) (h0 : pre.length = c) (hw : w.words[on]? = some [s]) (hws : w.words.set on ([s].set 0 v) = ws) (e1 : s = v) (ho : onF 10 (Bt cs (c + 1) (pre ++ [(true, [0])])) = some t') : Op 30 w (T cs c 2 (upd (upd (fun _ => 0) 13 v) 11 1) pre []) (4, 0) ⟨ws, w.nl⟩ t' :=
  op_swap (vb := 0) (vc := v) hc rfl hw rfl rfl rfl rfl hws (Goes.on1 (st_sameT (vb := s) (vc := v) hc h0 rfl e1 rfl rfl) (Goes.on1 (st_tell (vb := 0) hc h0 rfl rfl) (Goes.on1 (goes_end hc h0 rfl) (onF_more (k := 17) ho))))

theorem cturn_2T (hc : cs[c]? = some (cturnCl on v)) (h0 : pre.length = c) (hw : w.words[on]? = some [s]) (hws : w.words.set on ([s].set 0 v) = ws) (e1 : ¬ s = v) (ho : onF 10 (Bt cs (c + 1) (pre ++ [(true, [1])])) = some t') : Op 30 w (T cs c 2 (upd (upd (fun _ => 0) 13 v) 11 1) pre []) (4, 0) ⟨ws, w.nl⟩ t' :=
  op_swap (vb := 0) (vc := v) hc rfl hw rfl rfl rfl rfl hws (Goes.on1 (st_sameF (vb := s) (vc := v) hc h0 rfl e1 rfl rfl) (Goes.on1 (st_tell (vb := 1) hc h0 rfl rfl) (Goes.on1 (goes_finish hc h0 rfl) (onF_more (k := 17) ho))))

theorem cgetb_on (hc : cs[c]? = some (cgetbCl on)) (h0 : pre.length = c)  : onF 20 (T cs c 0 (fun _ => 0) pre []) = some (T cs c 0 (fun _ => 0) pre []) :=
  (on_stop hc h0 rfl rfl)

theorem cgetb_0 (hc : cs[c]? = some (cgetbCl on)) (h0 : pre.length = c) (hw : w.words[on]? = some [s])  (e1 : (s * 2 ^ 32) % 18446744073709551616 = n1) (e2 : (n1 / 2 ^ 32) % 18446744073709551616 = n2) (e3 : (s / 2 ^ 32) % 18446744073709551616 = n3) (ho : onF 10 (Bt cs (c + 1) (pre ++ [(true, [n2, n3])])) = some t') : Op 30 w (T cs c 0 (fun _ => 0) pre []) (1, 0) w t' :=
  op_load (vb := 0) hc rfl hw rfl rfl rfl (Goes.on1 (st_left (vb := s) hc h0 rfl e1 rfl) (Goes.on1 (st_right (vb := n1) hc h0 rfl e2 rfl) (Goes.on1 (st_tell (vb := n2) hc h0 rfl rfl) (Goes.on1 (st_right (vb := s) hc h0 rfl e3 rfl) (Goes.on1 (st_tell (vb := n3) hc h0 rfl rfl) (Goes.on1 (goes_end hc h0 rfl) (onF_more (k := 14) ho)))))))

theorem cput_on (hc : cs[c]? = some (cputCl on v)) (h0 : pre.length = c)  : onF 20 (T cs c 0 (fun _ => 0) pre []) = some (T cs c 0 (fun _ => 0) pre []) :=
  (on_stop hc h0 rfl rfl)

theorem cput_0 (hc : cs[c]? = some (cputCl on v)) (h0 : pre.length = c) (hw : w.words[on]? = some [s])  (e1 : (s / 2 ^ 32) % 18446744073709551616 = n1) (e2 : (n1 + 0 + 1) % 18446744073709551616 = n2) (e3 : (n2 * 2 ^ 32) % 18446744073709551616 = n3) (e4 : (n3 + 0 + v) % 18446744073709551616 = n4) : Op 30 w (T cs c 0 (fun _ => 0) pre []) (1, 0) w (T cs c 5 (upd (upd (upd (upd (upd (fun _ => 0) 10 s) 13 n1) 13 n2) 11 n3) 11 n4) pre []) :=
  op_load (vb := 0) hc rfl hw rfl rfl rfl (Goes.on1 (st_right (vb := s) hc h0 rfl e1 rfl) (Goes.on1 (st_plus (vb := n1) (vc := 0) hc h0 rfl e2 rfl rfl) (Goes.on1 (st_left (vb := n2) hc h0 rfl e3 rfl) (Goes.on1 (st_plus (vb := n3) (vc := 0) hc h0 rfl e4 rfl rfl) (on_stop hc h0 rfl rfl)))))

theorem cput_5T (hc : cs[c]? = some (cputCl on v)) (h0 : pre.length = c) (hw : w.words[on]? = some [s]) (hws : w.words.set on ([s].set 0 n4) = ws)  (ho : onF 10 (Bt cs (c + 1) (pre ++ [(true, [n2])])) = some t') : Op 30 w (T cs c 5 (upd (upd (upd (upd (upd (fun _ => 0) 10 s) 13 n1) 13 n2) 11 n3) 11 n4) pre []) (5, 0) ⟨ws, w.nl⟩ t' :=
  op_casT (vb := 0) (vd := n4) hc rfl hw rfl rfl rfl rfl rfl hws (Goes.on1 (st_sameF (vb := 1) (vc := 0) hc h0 rfl (by decide) rfl rfl) (Goes.on1 (st_tell (vb := n2) hc h0 rfl rfl) (Goes.on1 (goes_end hc h0 rfl) (onF_more (k := 17) ho))))

theorem cput_5F (hc : cs[c]? = some (cputCl on v)) (h0 : pre.length = c) (hw : w.words[on]? = some [m1]) (hne : ¬ m1 = s)  : Op 30 w (T cs c 5 (upd (upd (upd (upd (upd (fun _ => 0) 10 s) 13 n1) 13 n2) 11 n3) 11 n4) pre []) (5, 0) w (T cs c 0 (upd (upd (upd (upd (upd (upd (fun _ => 0) 10 s) 13 n1) 13 n2) 11 n3) 11 n4) 12 0) pre []) :=
  op_casF (vb := 0) (vc := s) hc rfl hw rfl rfl rfl rfl hne (Goes.on1 (st_sameT (vb := 0) (vc := 0) hc h0 rfl rfl rfl rfl) (on_stop hc h0 rfl rfl))

theorem ctry_on (hc : cs[c]? = some (ctryCl on num v)) (h0 : pre.length = c) (e1 : num % 18446744073709551616 = num) : onF 20 (T cs c 0 (fun _ => 0) pre []) = some (T cs c 1 (upd (fun _ => 0) 14 num) pre []) :=
  (Goes.on1 (st_set hc h0 rfl e1) (on_stop hc h0 rfl rfl))

theorem ctry_1F (hc : cs[c]? = some (ctryCl on num v)) (h0 : pre.length = c) (hw : w.words[on]? = some [s])  (e1 : (s / 2 ^ 32) % 18446744073709551616 = n1) (e2 : ¬ n1 = num) (ho : onF 10 (Bt cs (c + 1) (pre ++ [(true, [0])])) = some t') : Op 30 w (T cs c 1 (upd (fun _ => 0) 14 num) pre []) (1, 0) w t' :=
  op_load (vb := 0) hc rfl hw rfl rfl rfl (Goes.on1 (st_right (vb := s) hc h0 rfl e1 rfl) (Goes.on1 (st_sameF (vb := n1) (vc := num) hc h0 rfl e2 rfl rfl) (Goes.on1 (st_tell (vb := 0) hc h0 rfl rfl) (Goes.on1 (goes_finish hc h0 rfl) (onF_more (k := 16) ho)))))

theorem ctry_1T (hc : cs[c]? = some (ctryCl on num v)) (h0 : pre.length = c) (hw : w.words[on]? = some [s])  (e1 : (s / 2 ^ 32) % 18446744073709551616 = n1) (e2 : n1 = num) (e3 : (n1 + 0 + 1) % 18446744073709551616 = n2) (e4 : (n2 * 2 ^ 32) % 18446744073709551616 = n3) (e5 : (n3 + 0 + v) % 18446744073709551616 = n4) : Op 30 w (T cs c 1 (upd (fun _ => 0) 14 num) pre []) (1, 0) w (T cs c 9 (upd (upd (upd (upd (upd (upd (fun _ => 0) 14 num) 10 s) 13 n1) 13 n2) 11 n3) 11 n4) pre []) :=
  op_load (vb := 0) hc rfl hw rfl rfl rfl (Goes.on1 (st_right (vb := s) hc h0 rfl e1 rfl) (Goes.on1 (st_sameT (vb := n1) (vc := num) hc h0 rfl e2 rfl rfl) (Goes.on1 (st_plus (vb := n1) (vc := 0) hc h0 rfl e3 rfl rfl) (Goes.on1 (st_left (vb := n2) hc h0 rfl e4 rfl) (Goes.on1 (st_plus (vb := n3) (vc := 0) hc h0 rfl e5 rfl rfl) (on_stop hc h0 rfl rfl))))))

theorem ctry_9T (hc : cs[c]? = some (ctryCl on num v)) (h0 : pre.length = c) (hw : w.words[on]? = some [s]) (hws : w.words.set on ([s].set 0 n4) = ws)  (ho : onF 10 (Bt cs (c + 1) (pre ++ [(true, [1])])) = some t') : Op 30 w (T cs c 9 (upd (upd (upd (upd (upd (upd (fun _ => 0) 14 num) 10 s) 13 n1) 13 n2) 11 n3) 11 n4) pre []) (5, 0) ⟨ws, w.nl⟩ t' :=
  op_casT (vb := 0) (vd := n4) hc rfl hw rfl rfl rfl rfl rfl hws (Goes.on1 (st_tell (vb := 1) hc h0 rfl rfl) (Goes.on1 (goes_end hc h0 rfl) (onF_more (k := 18) ho)))

theorem ctry_9F (hc : cs[c]? = some (ctryCl on num v)) (h0 : pre.length = c) (hw : w.words[on]? = some [m1]) (hne : ¬ m1 = s)  (ho : onF 10 (Bt cs (c + 1) (pre ++ [(true, [0])])) = some t') : Op 30 w (T cs c 9 (upd (upd (upd (upd (upd (upd (fun _ => 0) 14 num) 10 s) 13 n1) 13 n2) 11 n3) 11 n4) pre []) (5, 0) w t' :=
  op_casF (vb := 0) (vc := s) hc rfl hw rfl rfl rfl rfl hne (Goes.on1 (st_tell (vb := 0) hc h0 rfl rfl) (Goes.on1 (goes_end hc h0 rfl) (onF_more (k := 18) ho)))

end Go.PB.Mach
