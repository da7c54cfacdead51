/-
  A MIRROR's calls, run by the document's machine. No program in sight.
-/
import Derived.Test.YtmkkanmkjfnpdaaQueue7m
set_option linter.unusedVariables false
set_option linter.unusedSimpArgs false
namespace Go.PB.Mach

variable {cs : List Cl} {c n v : Nat} {pre : List (Bool × List Nat)} {w : Wd} {t' : Th} {ws : List (List Nat)} {r : Nat → Nat} {l : List Nat}

def rofferCode (n : Nat) : List In := [⟨6, 0, 2, 0, 0, 0, 1⟩, ⟨3, 0, 3, 9, 2, 0, 0⟩] ++ qputCode 1 n 3 ++ [⟨6, 0, 2, 0, 0, 0, 1⟩, ⟨19, 0, 1, 2, 0, 0, 23⟩, ⟨3, 0, 3, 9, 2, 0, 1⟩]
def rofferCl (n v : Nat) : Cl := ⟨⟨6, 0, 0, 0, 0, 0, v⟩ :: (rofferCode n ++ [⟨22, 0, 1, 0, 0, 0, 0⟩]), []⟩
def rtakeCl (n : Nat) : Cl := ⟨qtakeCode 1 n 0 ++ [⟨6, 0, 2, 0, 0, 0, 1⟩, ⟨19, 0, 1, 9, 0, 0, 22⟩, ⟨3, 0, 3, 9, 2, 0, 2⟩, ⟨22, 0, 0, 0, 0, 0, 0⟩, ⟨22, 0, 1, 0, 0, 0, 0⟩], []⟩
def rcountsCl : Cl := ⟨[⟨1, 0, 0, 9, 0, 0, 0⟩, ⟨1, 0, 1, 9, 0, 0, 1⟩, ⟨1, 0, 2, 9, 0, 0, 2⟩, ⟨22, 0, 0, 0, 0, 0, 0⟩, ⟨22, 0, 1, 0, 0, 0, 0⟩, ⟨22, 0, 2, 0, 0, 0, 0⟩], []⟩

theorem roffer_has : HasPut (rofferCl n v) 1 n 3 := fun i x h => by
  show (_ :: _ :: _ :: (qputCode 1 n 3 ++ _))[3 + i]? = some x
  rw [Nat.add_comm, List.getElem?_cons_succ, List.getElem?_cons_succ, List.getElem?_cons_succ, List.getElem?_append_left (List.getElem?_eq_some_iff.1 h).1]
  exact h
theorem roffer_on (hc : cs[c]? = some (rofferCl n v)) (h0 : pre.length = c) (hv : v < 18446744073709551616) : onF 20 (T cs c 0 (fun _ => 0) pre []) = some (T cs c 2 (upd (upd (fun _ => 0) 0 v) 2 1) pre []) :=
  Goes.on1 (st_set hc h0 rfl (Nat.mod_eq_of_lt hv)) (Goes.on1 (st_set hc h0 rfl rfl) (on_stop hc h0 rfl rfl))
theorem roffer_2 {a a' : Nat} (hc : cs[c]? = some (rofferCl n v)) (h0 : pre.length = c) (hw : w.words[0]? = some l) (hv : l[0]? = some a) (es : (a + 1) % 18446744073709551616 = a') (hws : w.words.set 0 (l.set 0 a') = ws) :
    Op 30 w (T cs c 2 (upd (upd (fun _ => 0) 0 v) 2 1) pre []) (3, 0) ⟨ws, w.nl⟩ (T cs c 3 (upd (upd (upd (fun _ => 0) 0 v) 2 1) 3 a') pre []) :=
  op_add (vb := 0) (vc := 1) hc rfl hw rfl rfl rfl hv es hws (on_stop hc h0 rfl rfl)
theorem roffer_yes (hc : cs[c]? = some (rofferCl n v)) (h0 : pre.length = c) (e1 : r 1 = 1) (ho : onF 20 (Bt cs (c + 1) (pre ++ [(true, [1])])) = some t') : onF 26 (T cs c (3 + 17) r pre []) = some t' :=
  Goes.on1 (st_set hc h0 rfl rfl) (Goes.on1 (st_sameT (vb := 1) (vc := 1) hc h0 rfl rfl e1 rfl) (Goes.on1 (st_tell (vb := 1) hc h0 rfl e1) (Goes.on1 (goes_end hc h0 rfl) (onF_more (k := 2) ho))))
theorem roffer_no (hc : cs[c]? = some (rofferCl n v)) (h0 : pre.length = c) (e1 : r 1 = 0) : onF 26 (T cs c (3 + 17) r pre []) = some (T cs c 22 (upd r 2 1) pre []) :=
  Goes.on1 (st_set hc h0 rfl rfl) (Goes.on1 (st_sameF (vb := 0) (vc := 1) hc h0 rfl (by decide) e1 rfl) (on_stop hc h0 rfl rfl))
theorem roffer_22 {a a' : Nat} (hc : cs[c]? = some (rofferCl n v)) (h0 : pre.length = c) (e1 : r 1 = 0) (h9 : r 9 = 0) (hw : w.words[0]? = some l) (hv : l[1]? = some a) (es : (a + 1) % 18446744073709551616 = a') (hws : w.words.set 0 (l.set 1 a') = ws) (ho : onF 20 (Bt cs (c + 1) (pre ++ [(true, [0])])) = some t') :
    Op 30 w (T cs c 22 (upd r 2 1) pre []) (3, 1) ⟨ws, w.nl⟩ t' :=
  op_add (vb := 0) (vc := 1) hc rfl hw h9 rfl rfl hv es hws (Goes.on1 (st_tell (vb := 0) hc h0 rfl e1) (Goes.on1 (goes_end hc h0 rfl) (onF_more (k := 8) ho)))

theorem rtake_has : HasTake (rtakeCl n) 1 n 0 := fun i x h => by
  show (qtakeCode 1 n 0 ++ _)[0 + i]? = some x
  rw [Nat.zero_add, List.getElem?_append_left (List.getElem?_eq_some_iff.1 h).1]
  exact h
theorem rtake_on (hc : cs[c]? = some (rtakeCl n)) (h0 : pre.length = c) : onF 20 (T cs c 0 (fun _ => 0) pre []) = some (T cs c 0 (fun _ => 0) pre []) := on_stop hc h0 rfl rfl
theorem rtake_yes (hc : cs[c]? = some (rtakeCl n)) (h0 : pre.length = c) (e1 : r 1 = 1) (h9 : r 9 = 0) : onF 26 (T cs c (0 + 19) r pre []) = some (T cs c 21 (upd r 2 1) pre []) :=
  Goes.on1 (st_set hc h0 rfl rfl) (Goes.on1 (st_sameF (vb := 1) (vc := 0) hc h0 rfl (by decide) e1 h9) (on_stop hc h0 rfl rfl))
theorem rtake_21 {a a' x : Nat} (hc : cs[c]? = some (rtakeCl n)) (h0 : pre.length = c) (e0 : r 0 = x) (e1 : r 1 = 1) (h9 : r 9 = 0) (hw : w.words[0]? = some l) (hv : l[2]? = some a) (es : (a + 1) % 18446744073709551616 = a') (hws : w.words.set 0 (l.set 2 a') = ws) (ho : onF 20 (Bt cs (c + 1) (pre ++ [(true, [x, 1])])) = some t') :
    Op 30 w (T cs c 21 (upd r 2 1) pre []) (3, 2) ⟨ws, w.nl⟩ t' :=
  op_add (vb := 0) (vc := 1) hc rfl hw h9 rfl rfl hv es hws (Goes.on1 (st_tell (vb := x) hc h0 rfl e0) (Goes.on1 (st_tell (vb := 1) hc h0 rfl e1) (Goes.on1 (goes_end hc h0 rfl) (onF_more (k := 7) ho))))
theorem rtake_no (hc : cs[c]? = some (rtakeCl n)) (h0 : pre.length = c) (e0 : r 0 = 0) (e1 : r 1 = 0) (h9 : r 9 = 0) (ho : onF 20 (Bt cs (c + 1) (pre ++ [(true, [0, 0])])) = some t') : onF 26 (T cs c (0 + 19) r pre []) = some t' :=
  Goes.on1 (st_set hc h0 rfl rfl) (Goes.on1 (st_sameT (vb := 0) (vc := 0) hc h0 rfl rfl e1 h9) (Goes.on1 (st_tell (vb := 0) hc h0 rfl e0) (Goes.on1 (st_tell (vb := 0) hc h0 rfl e1) (Goes.on1 (goes_end hc h0 rfl) (onF_more (k := 1) ho)))))

theorem rcounts_on (hc : cs[c]? = some rcountsCl) (h0 : pre.length = c) : onF 20 (T cs c 0 (fun _ => 0) pre []) = some (T cs c 0 (fun _ => 0) pre []) := on_stop hc h0 rfl rfl
theorem rcounts_0 {a : Nat} (hc : cs[c]? = some rcountsCl) (h0 : pre.length = c) (hw : w.words[0]? = some l) (hv : l[0]? = some a) : Op 30 w (T cs c 0 (fun _ => 0) pre []) (1, 0) w (T cs c 1 (upd (fun _ => 0) 0 a) pre []) :=
  op_load (vb := 0) hc rfl hw rfl rfl hv (on_stop hc h0 rfl rfl)
theorem rcounts_1 {a b : Nat} (hc : cs[c]? = some rcountsCl) (h0 : pre.length = c) (hw : w.words[0]? = some l) (hv : l[1]? = some b) : Op 30 w (T cs c 1 (upd (fun _ => 0) 0 a) pre []) (1, 1) w (T cs c 2 (upd (upd (fun _ => 0) 0 a) 1 b) pre []) :=
  op_load (vb := 0) hc rfl hw rfl rfl hv (on_stop hc h0 rfl rfl)
theorem rcounts_2 {a b d : Nat} (hc : cs[c]? = some rcountsCl) (h0 : pre.length = c) (hw : w.words[0]? = some l) (hv : l[2]? = some d) (ho : onF 20 (Bt cs (c + 1) (pre ++ [(true, [a, b, d])])) = some t') : Op 30 w (T cs c 2 (upd (upd (fun _ => 0) 0 a) 1 b) pre []) (1, 2) w t' :=
  op_load (vb := 0) hc rfl hw rfl rfl hv (Goes.on1 (st_tell (vb := a) hc h0 rfl rfl) (Goes.on1 (st_tell (vb := b) hc h0 rfl rfl) (Goes.on1 (st_tell (vb := d) hc h0 rfl rfl) (Goes.on1 (goes_end hc h0 rfl) (onF_more (k := 6) ho)))))
end Go.PB.Mach
