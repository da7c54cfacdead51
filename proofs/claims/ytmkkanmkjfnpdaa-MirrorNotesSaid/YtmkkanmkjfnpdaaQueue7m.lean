/-
  A QUEUE's calls, run by the document's machine. No program in sight.
-/
import Derived.Test.YtmkkanmkjfnpdaaSolo
set_option linter.unusedVariables false
set_option linter.unusedSimpArgs false
namespace Go.PB.Mach

def qputCode (on n w : Nat) : List In := [⟨1, on, 10, 9, 0, 0, 0⟩, ⟨6, 0, 11, 0, 0, 0, n - 1⟩, ⟨12, 0, 12, 10, 11, 0, 0⟩, ⟨14, 0, 12, 12, 0, 0, 1⟩, ⟨1, on, 13, 12, 0, 0, 2⟩, ⟨9, 0, 13, 13, 10, 0, 0⟩, ⟨21, 0, 13, 0, 0, 0, w + 16⟩, ⟨19, 0, 13, 9, 0, 0, w + 9⟩, ⟨18, 0, 0, 0, 0, 0, w⟩,
  ⟨8, 0, 14, 10, 9, 0, 1⟩, ⟨5, on, 15, 9, 10, 14, 0⟩, ⟨19, 0, 15, 9, 0, 0, w⟩, ⟨2, on, 0, 12, 0, 0, 3⟩, ⟨2, on, 14, 12, 0, 0, 2⟩, ⟨6, 0, 1, 0, 0, 0, 1⟩, ⟨18, 0, 0, 0, 0, 0, w + 17⟩, ⟨6, 0, 1, 0, 0, 0, 0⟩]
def qtakeCode (on n w : Nat) : List In := [⟨1, on, 10, 9, 0, 0, 1⟩, ⟨6, 0, 11, 0, 0, 0, n - 1⟩, ⟨12, 0, 12, 10, 11, 0, 0⟩, ⟨14, 0, 12, 12, 0, 0, 1⟩, ⟨8, 0, 14, 10, 9, 0, 1⟩, ⟨1, on, 13, 12, 0, 0, 2⟩, ⟨9, 0, 13, 13, 14, 0, 0⟩, ⟨21, 0, 13, 0, 0, 0, w + 17⟩, ⟨19, 0, 13, 9, 0, 0, w + 10⟩, ⟨18, 0, 0, 0, 0, 0, w⟩,
  ⟨5, on, 15, 9, 10, 14, 1⟩, ⟨19, 0, 15, 9, 0, 0, w⟩, ⟨1, on, 0, 12, 0, 0, 3⟩, ⟨8, 0, 14, 10, 9, 0, n⟩, ⟨2, on, 14, 12, 0, 0, 2⟩, ⟨6, 0, 1, 0, 0, 0, 1⟩, ⟨18, 0, 0, 0, 0, 0, w + 19⟩, ⟨6, 0, 1, 0, 0, 0, 0⟩, ⟨6, 0, 0, 0, 0, 0, 0⟩]
def qputCl (n v : Nat) : Cl := ⟨⟨6, 0, 0, 0, 0, 0, v⟩ :: (qputCode 0 n 1 ++ [⟨22, 0, 1, 0, 0, 0, 0⟩]), []⟩
def qtakeCl (n : Nat) : Cl := ⟨qtakeCode 0 n 0 ++ [⟨22, 0, 0, 0, 0, 0, 0⟩, ⟨22, 0, 1, 0, 0, 0, 0⟩], []⟩
def qdrainCl (n : Nat) : Cl := ⟨⟨6, 0, 3, 0, 0, 0, n⟩ :: (qtakeCode 0 n 1 ++ [⟨19, 0, 1, 9, 0, 0, 25⟩, ⟨22, 0, 0, 0, 0, 0, 0⟩, ⟨6, 0, 4, 0, 0, 0, 1⟩, ⟨9, 0, 3, 3, 4, 0, 0⟩, ⟨20, 0, 9, 3, 0, 0, 1⟩]), []⟩

theorem qmask_mod {n k : Nat} (hn : n = 2 ^ k) (p : Nat) : (p &&& (n - 1)) = p % n := by
  rw [hn, Nat.and_two_pow_sub_one_eq_mod]

variable {cs : List Cl} {cl : Cl} {c n v on b : Nat} {pre : List (Bool × List Nat)} {said : List Nat} {w : Wd} {t' : Th} {t q d m : Nat} {l : List Nat} {r : Nat → Nat}

/- ---- Put's code, at the place b of a call's ---- -/
def HasPut (cl : Cl) (on n b : Nat) : Prop := ∀ i x, (qputCode on n b)[i]? = some x → cl.code[b + i]? = some x
def qr1 (r : Nat → Nat) (n t m : Nat) : Nat → Nat := upd (upd (upd (upd r 10 t) 11 (n - 1)) 12 m) 12 (2 * m)
def qr5 (r : Nat → Nat) (n t m q d : Nat) : Nat → Nat := upd (upd (qr1 r n t m) 13 q) 13 d
def qr9 (r : Nat → Nat) (n t m q t1 : Nat) : Nat → Nat := upd (qr5 r n t m q 0) 14 t1
def qrN (r : Nat → Nat) (n t m q d : Nat) : Nat → Nat := upd (qr5 r n t m q d) 1 0
def qrS (r : Nat → Nat) (n t m q t1 : Nat) : Nat → Nat := upd (upd (qr9 r n t m q t1) 15 1) 1 1

theorem qput_0 (hc : cs[c]? = some cl) (hk : HasPut cl on n b) (h0 : pre.length = c) (hw : w.words[on]? = some l) (hv : l[0]? = some t) (h9 : r 9 = 0) (hn : n < 18446744073709551616) (hm : (t &&& (n - 1)) % 18446744073709551616 = m) (hm2 : 2 * m < 18446744073709551616) : Op 30 w (T cs c b r pre said) (1, 0) w (T cs c (b + 4) (qr1 r n t m) pre said) :=
  op_load (vb := 0) hc (hk 0 _ rfl) hw h9 rfl hv (Goes.on1 (st_set hc h0 (hk 1 _ rfl) (Nat.mod_eq_of_lt (by omega))) (Goes.on1 (st_and (vb := t) (vc := n - 1) hc h0 (hk 2 _ rfl) hm rfl rfl) (Goes.on1 (st_left (vb := m) hc h0 (hk 3 _ rfl) (by rw [Nat.pow_one, Nat.mul_comm]; exact Nat.mod_eq_of_lt hm2) rfl) (on_stop hc h0 (hk 4 _ rfl) rfl))))
theorem qput_4F (hc : cs[c]? = some cl) (hk : HasPut cl on n b) (h0 : pre.length = c) (hw : w.words[on]? = some l) (hv : l[2 * m + 2]? = some q) (hm : 2 * m + 2 < 18446744073709551616) (hd : (q + 18446744073709551616 - t) % 18446744073709551616 = d) (hf : 9223372036854775808 ≤ d) (ho : onF 26 (T cs c (b + 17) (qrN r n t m q d) pre said) = some t') : Op 30 w (T cs c (b + 4) (qr1 r n t m) pre said) (1, 2 * m + 2) w t' :=
  op_load (vb := 2 * m) hc (hk 4 _ rfl) hw rfl (Nat.mod_eq_of_lt hm) hv (Goes.on1 (st_less (vb := q) (vc := t) hc h0 (hk 5 _ rfl) hd rfl rfl) (Goes.on1 (st_minusT (vb := d) hc h0 (hk 6 _ rfl) hf rfl) (Goes.on1 (st_set hc h0 (hk 16 _ rfl) rfl) (onF_more (k := 1) ho))))
theorem qput_4R (hc : cs[c]? = some cl) (hk : HasPut cl on n b) (h0 : pre.length = c) (hw : w.words[on]? = some l) (hv : l[2 * m + 2]? = some q) (h9 : r 9 = 0) (hm : 2 * m + 2 < 18446744073709551616) (hd : (q + 18446744073709551616 - t) % 18446744073709551616 = d) (hf : ¬ 9223372036854775808 ≤ d) (hne : ¬ d = 0) : Op 30 w (T cs c (b + 4) (qr1 r n t m) pre said) (1, 2 * m + 2) w (T cs c b (qr5 r n t m q d) pre said) :=
  op_load (vb := 2 * m) hc (hk 4 _ rfl) hw rfl (Nat.mod_eq_of_lt hm) hv (Goes.on1 (st_less (vb := q) (vc := t) hc h0 (hk 5 _ rfl) hd rfl rfl) (Goes.on1 (st_minusF (vb := d) hc h0 (hk 6 _ rfl) hf rfl) (Goes.on1 (st_sameF (vb := d) (vc := 0) hc h0 (hk 7 _ rfl) hne rfl h9) (Goes.on1 (goes_jump hc h0 (hk 8 _ rfl)) (on_stop hc h0 (hk 0 _ rfl) rfl)))))
theorem qput_4T {t1 : Nat} (hc : cs[c]? = some cl) (hk : HasPut cl on n b) (h0 : pre.length = c) (hw : w.words[on]? = some l) (hv : l[2 * m + 2]? = some q) (h9 : r 9 = 0) (hm : 2 * m + 2 < 18446744073709551616) (hd : (q + 18446744073709551616 - t) % 18446744073709551616 = 0) (ht1 : (t + 1) % 18446744073709551616 = t1) : Op 30 w (T cs c (b + 4) (qr1 r n t m) pre said) (1, 2 * m + 2) w (T cs c (b + 10) (qr9 r n t m q t1) pre said) :=
  op_load (vb := 2 * m) hc (hk 4 _ rfl) hw rfl (Nat.mod_eq_of_lt hm) hv (Goes.on1 (st_less (vb := q) (vc := t) hc h0 (hk 5 _ rfl) hd rfl rfl) (Goes.on1 (st_minusF (vb := 0) hc h0 (hk 6 _ rfl) (by decide) rfl) (Goes.on1 (st_sameT (vb := 0) (vc := 0) hc h0 (hk 7 _ rfl) rfl rfl h9) (Goes.on1 (st_plus (vb := t) (vc := 0) hc h0 (hk 9 _ rfl) ht1 rfl h9) (on_stop hc h0 (hk 10 _ rfl) rfl)))))
theorem qput_10F {t1 u : Nat} (hc : cs[c]? = some cl) (hk : HasPut cl on n b) (h0 : pre.length = c) (hw : w.words[on]? = some l) (hv : l[0]? = some u) (h9 : r 9 = 0) (hne : ¬ u = t) : Op 30 w (T cs c (b + 10) (qr9 r n t m q t1) pre said) (5, 0) w (T cs c b (upd (qr9 r n t m q t1) 15 0) pre said) :=
  op_casF (vb := 0) (vc := t) hc (hk 10 _ rfl) hw h9 rfl rfl hv hne (Goes.on1 (st_sameT (vb := 0) (vc := 0) hc h0 (hk 11 _ rfl) rfl rfl h9) (on_stop hc h0 (hk 0 _ rfl) rfl))
theorem qput_10T {t1 : Nat} {ws : List (List Nat)} (hc : cs[c]? = some cl) (hk : HasPut cl on n b) (h0 : pre.length = c) (hw : w.words[on]? = some l) (hv : l[0]? = some t) (h9 : r 9 = 0) (hws : w.words.set on (l.set 0 t1) = ws) : Op 30 w (T cs c (b + 10) (qr9 r n t m q t1) pre said) (5, 0) ⟨ws, w.nl⟩ (T cs c (b + 12) (upd (qr9 r n t m q t1) 15 1) pre said) :=
  op_casT (vb := 0) (vd := t1) hc (hk 10 _ rfl) hw h9 rfl rfl rfl hv hws (Goes.on1 (st_sameF (vb := 1) (vc := 0) hc h0 (hk 11 _ rfl) (by decide) rfl h9) (on_stop hc h0 (hk 12 _ rfl) rfl))
theorem qput_12 {t1 : Nat} {ws : List (List Nat)} (hc : cs[c]? = some cl) (hk : HasPut cl on n b) (h0 : pre.length = c) (hw : w.words[on]? = some l) (hv0 : r 0 = v) (hm : 2 * m + 3 < 18446744073709551616) (hlt : 2 * m + 3 < l.length) (hws : w.words.set on (l.set (2 * m + 3) v) = ws) : Op 30 w (T cs c (b + 12) (upd (qr9 r n t m q t1) 15 1) pre said) (2, 2 * m + 3) ⟨ws, w.nl⟩ (T cs c (b + 13) (upd (qr9 r n t m q t1) 15 1) pre said) :=
  op_store (vb := 2 * m) hc (hk 12 _ rfl) hw rfl (Nat.mod_eq_of_lt hm) hv0 hlt hws (on_stop hc h0 (hk 13 _ rfl) rfl)
theorem qput_13 {t1 : Nat} {ws : List (List Nat)} (hc : cs[c]? = some cl) (hk : HasPut cl on n b) (h0 : pre.length = c) (hw : w.words[on]? = some l) (hm : 2 * m + 2 < 18446744073709551616) (hlt : 2 * m + 2 < l.length) (hws : w.words.set on (l.set (2 * m + 2) t1) = ws) (ho : onF 26 (T cs c (b + 17) (qrS r n t m q t1) pre said) = some t') : Op 30 w (T cs c (b + 13) (upd (qr9 r n t m q t1) 15 1) pre said) (2, 2 * m + 2) ⟨ws, w.nl⟩ t' :=
  op_store (vb := 2 * m) (v := t1) hc (hk 13 _ rfl) hw rfl (Nat.mod_eq_of_lt hm) rfl hlt hws (Goes.on1 (st_set hc h0 (hk 14 _ rfl) rfl) (Goes.on1 (goes_jump hc h0 (hk 15 _ rfl)) (onF_more (k := 2) ho)))

/- ---- Take's code, at the place b of a call's ---- -/
def HasTake (cl : Cl) (on n b : Nat) : Prop := ∀ i x, (qtakeCode on n b)[i]? = some x → cl.code[b + i]? = some x
def tr0 (r : Nat → Nat) (n t m t1 : Nat) : Nat → Nat := upd (qr1 r n t m) 14 t1
def tr5 (r : Nat → Nat) (n t m t1 q d : Nat) : Nat → Nat := upd (upd (tr0 r n t m t1) 13 q) 13 d
def trN (r : Nat → Nat) (n t m t1 q d : Nat) : Nat → Nat := upd (upd (tr5 r n t m t1 q d) 1 0) 0 0
def tr12 (r : Nat → Nat) (n t m t1 q v tn : Nat) : Nat → Nat := upd (upd (upd (tr5 r n t m t1 q 0) 15 1) 0 v) 14 tn
def trS (r : Nat → Nat) (n t m t1 q v tn : Nat) : Nat → Nat := upd (tr12 r n t m t1 q v tn) 1 1

theorem qtake_0 {t1 : Nat} (hc : cs[c]? = some cl) (hk : HasTake cl on n b) (h0 : pre.length = c) (hw : w.words[on]? = some l) (hv : l[1]? = some t) (h9 : r 9 = 0) (hn : n < 18446744073709551616) (hm : (t &&& (n - 1)) % 18446744073709551616 = m) (hm2 : 2 * m < 18446744073709551616) (ht1 : (t + 1) % 18446744073709551616 = t1) : Op 30 w (T cs c b r pre said) (1, 1) w (T cs c (b + 5) (tr0 r n t m t1) pre said) :=
  op_load (vb := 0) hc (hk 0 _ rfl) hw h9 rfl hv (Goes.on1 (st_set hc h0 (hk 1 _ rfl) (Nat.mod_eq_of_lt (by omega))) (Goes.on1 (st_and (vb := t) (vc := n - 1) hc h0 (hk 2 _ rfl) hm rfl rfl) (Goes.on1 (st_left (vb := m) hc h0 (hk 3 _ rfl) (by rw [Nat.pow_one, Nat.mul_comm]; exact Nat.mod_eq_of_lt hm2) rfl) (Goes.on1 (st_plus (vb := t) (vc := 0) hc h0 (hk 4 _ rfl) ht1 rfl h9) (on_stop hc h0 (hk 5 _ rfl) rfl)))))
theorem qtake_5F {t1 : Nat} (hc : cs[c]? = some cl) (hk : HasTake cl on n b) (h0 : pre.length = c) (hw : w.words[on]? = some l) (hv : l[2 * m + 2]? = some q) (hm : 2 * m + 2 < 18446744073709551616) (hd : (q + 18446744073709551616 - t1) % 18446744073709551616 = d) (hf : 9223372036854775808 ≤ d) (ho : onF 26 (T cs c (b + 19) (trN r n t m t1 q d) pre said) = some t') : Op 30 w (T cs c (b + 5) (tr0 r n t m t1) pre said) (1, 2 * m + 2) w t' :=
  op_load (vb := 2 * m) hc (hk 5 _ rfl) hw rfl (Nat.mod_eq_of_lt hm) hv (Goes.on1 (st_less (vb := q) (vc := t1) hc h0 (hk 6 _ rfl) hd rfl rfl) (Goes.on1 (st_minusT (vb := d) hc h0 (hk 7 _ rfl) hf rfl) (Goes.on1 (st_set hc h0 (hk 17 _ rfl) rfl) (Goes.on1 (st_set hc h0 (hk 18 _ rfl) rfl) ho))))
theorem qtake_5R {t1 : Nat} (hc : cs[c]? = some cl) (hk : HasTake cl on n b) (h0 : pre.length = c) (hw : w.words[on]? = some l) (hv : l[2 * m + 2]? = some q) (h9 : r 9 = 0) (hm : 2 * m + 2 < 18446744073709551616) (hd : (q + 18446744073709551616 - t1) % 18446744073709551616 = d) (hf : ¬ 9223372036854775808 ≤ d) (hne : ¬ d = 0) : Op 30 w (T cs c (b + 5) (tr0 r n t m t1) pre said) (1, 2 * m + 2) w (T cs c b (tr5 r n t m t1 q d) pre said) :=
  op_load (vb := 2 * m) hc (hk 5 _ rfl) hw rfl (Nat.mod_eq_of_lt hm) hv (Goes.on1 (st_less (vb := q) (vc := t1) hc h0 (hk 6 _ rfl) hd rfl rfl) (Goes.on1 (st_minusF (vb := d) hc h0 (hk 7 _ rfl) hf rfl) (Goes.on1 (st_sameF (vb := d) (vc := 0) hc h0 (hk 8 _ rfl) hne rfl h9) (Goes.on1 (goes_jump hc h0 (hk 9 _ rfl)) (on_stop hc h0 (hk 0 _ rfl) rfl)))))
theorem qtake_5T {t1 : Nat} (hc : cs[c]? = some cl) (hk : HasTake cl on n b) (h0 : pre.length = c) (hw : w.words[on]? = some l) (hv : l[2 * m + 2]? = some q) (h9 : r 9 = 0) (hm : 2 * m + 2 < 18446744073709551616) (hd : (q + 18446744073709551616 - t1) % 18446744073709551616 = 0) : Op 30 w (T cs c (b + 5) (tr0 r n t m t1) pre said) (1, 2 * m + 2) w (T cs c (b + 10) (tr5 r n t m t1 q 0) pre said) :=
  op_load (vb := 2 * m) hc (hk 5 _ rfl) hw rfl (Nat.mod_eq_of_lt hm) hv (Goes.on1 (st_less (vb := q) (vc := t1) hc h0 (hk 6 _ rfl) hd rfl rfl) (Goes.on1 (st_minusF (vb := 0) hc h0 (hk 7 _ rfl) (by decide) rfl) (Goes.on1 (st_sameT (vb := 0) (vc := 0) hc h0 (hk 8 _ rfl) rfl rfl h9) (on_stop hc h0 (hk 10 _ rfl) rfl))))
theorem qtake_10F {t1 u : Nat} (hc : cs[c]? = some cl) (hk : HasTake cl on n b) (h0 : pre.length = c) (hw : w.words[on]? = some l) (hv : l[1]? = some u) (h9 : r 9 = 0) (hne : ¬ u = t) : Op 30 w (T cs c (b + 10) (tr5 r n t m t1 q 0) pre said) (5, 1) w (T cs c b (upd (tr5 r n t m t1 q 0) 15 0) pre said) :=
  op_casF (vb := 0) (vc := t) hc (hk 10 _ rfl) hw h9 rfl rfl hv hne (Goes.on1 (st_sameT (vb := 0) (vc := 0) hc h0 (hk 11 _ rfl) rfl rfl h9) (on_stop hc h0 (hk 0 _ rfl) rfl))
theorem qtake_10T {t1 : Nat} {ws : List (List Nat)} (hc : cs[c]? = some cl) (hk : HasTake cl on n b) (h0 : pre.length = c) (hw : w.words[on]? = some l) (hv : l[1]? = some t) (h9 : r 9 = 0) (hws : w.words.set on (l.set 1 t1) = ws) : Op 30 w (T cs c (b + 10) (tr5 r n t m t1 q 0) pre said) (5, 1) ⟨ws, w.nl⟩ (T cs c (b + 12) (upd (tr5 r n t m t1 q 0) 15 1) pre said) :=
  op_casT (vb := 0) (vd := t1) hc (hk 10 _ rfl) hw h9 rfl rfl rfl hv hws (Goes.on1 (st_sameF (vb := 1) (vc := 0) hc h0 (hk 11 _ rfl) (by decide) rfl h9) (on_stop hc h0 (hk 12 _ rfl) rfl))
theorem qtake_12 {t1 tn : Nat} (hc : cs[c]? = some cl) (hk : HasTake cl on n b) (h0 : pre.length = c) (hw : w.words[on]? = some l) (hv : l[2 * m + 3]? = some v) (h9 : r 9 = 0) (hm : 2 * m + 3 < 18446744073709551616) (htn : (t + n) % 18446744073709551616 = tn) : Op 30 w (T cs c (b + 12) (upd (tr5 r n t m t1 q 0) 15 1) pre said) (1, 2 * m + 3) w (T cs c (b + 14) (tr12 r n t m t1 q v tn) pre said) :=
  op_load (vb := 2 * m) hc (hk 12 _ rfl) hw rfl (Nat.mod_eq_of_lt hm) hv (Goes.on1 (st_plus (vb := t) (vc := 0) hc h0 (hk 13 _ rfl) htn rfl h9) (on_stop hc h0 (hk 14 _ rfl) rfl))
theorem qtake_14 {t1 tn : Nat} {ws : List (List Nat)} (hc : cs[c]? = some cl) (hk : HasTake cl on n b) (h0 : pre.length = c) (hw : w.words[on]? = some l) (hm : 2 * m + 2 < 18446744073709551616) (hlt : 2 * m + 2 < l.length) (hws : w.words.set on (l.set (2 * m + 2) tn) = ws) (ho : onF 28 (T cs c (b + 19) (trS r n t m t1 q v tn) pre said) = some t') : Op 30 w (T cs c (b + 14) (tr12 r n t m t1 q v tn) pre said) (2, 2 * m + 2) ⟨ws, w.nl⟩ t' :=
  op_store (vb := 2 * m) (v := tn) hc (hk 14 _ rfl) hw rfl (Nat.mod_eq_of_lt hm) rfl hlt hws (Goes.on1 (st_set hc h0 (hk 15 _ rfl) rfl) (Goes.on1 (goes_jump hc h0 (hk 16 _ rfl)) ho))

theorem qput_has : HasPut (qputCl n v) 0 n 1 := fun i x h => by
  show (_ :: (qputCode 0 n 1 ++ _))[1 + i]? = some x
  rw [Nat.add_comm, List.getElem?_cons_succ, List.getElem?_append_left (List.getElem?_eq_some_iff.1 h).1]
  exact h
theorem qput_on (hc : cs[c]? = some (qputCl n v)) (h0 : pre.length = c) (hv : v < 18446744073709551616) : onF 20 (T cs c 0 (fun _ => 0) pre []) = some (T cs c 1 (upd (fun _ => 0) 0 v) pre []) :=
  Goes.on1 (st_set hc h0 rfl (Nat.mod_eq_of_lt hv)) (on_stop hc h0 rfl rfl)
theorem qput_end {a1 : Nat} (hc : cs[c]? = some (qputCl n v)) (h0 : pre.length = c) (e1 : r 1 = a1) (ho : onF 20 (Bt cs (c + 1) (pre ++ [(true, [a1])])) = some t') : onF 26 (T cs c (1 + 17) r pre []) = some t' :=
  Goes.on1 (st_tell (vb := a1) hc h0 rfl e1) (Goes.on1 (goes_end hc h0 rfl) (onF_more (k := 4) ho))

theorem qtake_has : HasTake (qtakeCl n) 0 n 0 := fun i x h => by
  show (qtakeCode 0 n 0 ++ _)[0 + i]? = some x
  rw [Nat.zero_add, List.getElem?_append_left (List.getElem?_eq_some_iff.1 h).1]
  exact h
theorem qdrain_has : HasTake (qdrainCl n) 0 n 1 := fun i x h => by
  show (_ :: (qtakeCode 0 n 1 ++ _))[1 + i]? = some x
  rw [Nat.add_comm, List.getElem?_cons_succ, List.getElem?_append_left (List.getElem?_eq_some_iff.1 h).1]
  exact h

theorem qtake_on (hc : cs[c]? = some (qtakeCl n)) (h0 : pre.length = c) : onF 20 (T cs c 0 (fun _ => 0) pre []) = some (T cs c 0 (fun _ => 0) pre []) := on_stop hc h0 rfl rfl
theorem qtake_end {a0 a1 : Nat} (hc : cs[c]? = some (qtakeCl n)) (h0 : pre.length = c) (e0 : r 0 = a0) (e1 : r 1 = a1) (ho : onF 20 (Bt cs (c + 1) (pre ++ [(true, [a0, a1])])) = some t') : onF 26 (T cs c (0 + 19) r pre []) = some t' :=
  Goes.on1 (st_tell (vb := a0) hc h0 rfl e0) (Goes.on1 (st_tell (vb := a1) hc h0 rfl e1) (Goes.on1 (goes_end hc h0 rfl) (onF_more (k := 3) ho)))

theorem qdrain_on (hc : cs[c]? = some (qdrainCl n)) (h0 : pre.length = c) (hn : n < 18446744073709551616) : onF 20 (T cs c 0 (fun _ => 0) pre []) = some (T cs c 1 (upd (fun _ => 0) 3 n) pre []) :=
  Goes.on1 (st_set hc h0 rfl (Nat.mod_eq_of_lt hn)) (on_stop hc h0 rfl rfl)
theorem qdrain_none (hc : cs[c]? = some (qdrainCl n)) (h0 : pre.length = c) (e1 : r 1 = 0) (h9 : r 9 = 0) (ho : onF 20 (Bt cs (c + 1) (pre ++ [(true, said)])) = some t') : onF 26 (T cs c (1 + 19) r pre said) = some t' :=
  Goes.on1 (st_sameT (vb := 0) (vc := 0) hc h0 rfl rfl e1 h9) (Goes.on1 (goes_end hc h0 rfl) (onF_more (k := 4) ho))
def drS (r : Nat → Nat) (k : Nat) : Nat → Nat := upd (upd r 4 1) 3 k
theorem qdrain_last (hc : cs[c]? = some (qdrainCl n)) (h0 : pre.length = c) (e0 : r 0 = v) (e1 : r 1 = 1) (h9 : r 9 = 0) (h3 : r 3 = 1) (ho : onF 20 (Bt cs (c + 1) (pre ++ [(true, said ++ [v])])) = some t') : onF 26 (T cs c (1 + 19) r pre said) = some t' :=
  Goes.on1 (st_sameF (vb := 1) (vc := 0) hc h0 rfl (by decide) e1 h9) (Goes.on1 (st_tell (vb := v) hc h0 rfl e0) (Goes.on1 (st_set hc h0 rfl rfl) (Goes.on1 (st_less (v := 0) (vb := 1) (vc := 1) hc h0 rfl rfl h3 rfl) (Goes.on1 (st_belowF (vb := 0) (vc := 0) hc h0 rfl (by decide) h9 rfl) (Goes.on1 (goes_end hc h0 rfl) ho)))))
theorem qdrain_more {k : Nat} (hc : cs[c]? = some (qdrainCl n)) (h0 : pre.length = c) (e0 : r 0 = v) (e1 : r 1 = 1) (h9 : r 9 = 0) (h3 : r 3 = k + 1) (hk : k < 18446744073709551616) (hk0 : 0 < k) : onF 26 (T cs c (1 + 19) r pre said) = some (T cs c 1 (drS r k) pre (said ++ [v])) :=
  Goes.on1 (st_sameF (vb := 1) (vc := 0) hc h0 rfl (by decide) e1 h9) (Goes.on1 (st_tell (vb := v) hc h0 rfl e0) (Goes.on1 (st_set hc h0 rfl rfl) (Goes.on1 (st_less (v := k) (vb := k + 1) (vc := 1) hc h0 rfl (by omega) h3 rfl) (Goes.on1 (st_belowT (vb := 0) (vc := k) hc h0 rfl hk0 h9 rfl) (on_stop hc h0 rfl rfl)))))

end Go.PB.Mach
