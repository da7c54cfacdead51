/-
  A RING's calls, run by the document's machine alone. No program in sight.
-/
import Derived.Test.YtdcbnbmahndecaaSolo
set_option linter.unusedVariables false
set_option linter.unusedSimpArgs false
namespace Go.PB.Mach

def putCl (n v : Nat) : Cl := ⟨[⟨6, 0, 15, 0, 0, 0, v⟩, ⟨6, 0, 13, 0, 0, 0, n⟩, ⟨1, 0, 11, 9, 0, 0, 1⟩, ⟨1, 0, 10, 9, 0, 0, 0⟩, ⟨9, 0, 12, 11, 10, 0, 0⟩, ⟨20, 0, 12, 13, 0, 0, 8⟩, ⟨22, 0, 9, 0, 0, 0, 0⟩, ⟨23, 0, 0, 0, 0, 0, 0⟩,
  ⟨6, 0, 14, 0, 0, 0, n - 1⟩, ⟨12, 0, 14, 14, 11, 0, 0⟩, ⟨2, 0, 15, 14, 0, 0, 2⟩, ⟨8, 0, 11, 11, 9, 0, 1⟩, ⟨2, 0, 11, 9, 0, 0, 1⟩, ⟨6, 0, 16, 0, 0, 0, 1⟩, ⟨22, 0, 16, 0, 0, 0, 0⟩], []⟩
def takeCl (n : Nat) : Cl := ⟨[⟨1, 0, 10, 9, 0, 0, 0⟩, ⟨1, 0, 11, 9, 0, 0, 1⟩, ⟨19, 0, 10, 11, 0, 0, 11⟩, ⟨6, 0, 14, 0, 0, 0, n - 1⟩, ⟨12, 0, 14, 14, 10, 0, 0⟩, ⟨1, 0, 15, 14, 0, 0, 2⟩, ⟨8, 0, 10, 10, 9, 0, 1⟩, ⟨2, 0, 10, 9, 0, 0, 0⟩,
  ⟨6, 0, 16, 0, 0, 0, 1⟩, ⟨22, 0, 15, 0, 0, 0, 0⟩, ⟨18, 0, 0, 0, 0, 0, 12⟩, ⟨22, 0, 9, 0, 0, 0, 0⟩, ⟨22, 0, 16, 0, 0, 0, 0⟩], []⟩
def lenCl (n : Nat) : Cl := ⟨[⟨1, 0, 10, 9, 0, 0, 0⟩, ⟨1, 0, 11, 9, 0, 0, 1⟩, ⟨9, 0, 12, 11, 10, 0, 0⟩, ⟨6, 0, 13, 0, 0, 0, n⟩, ⟨20, 0, 12, 13, 0, 0, 6⟩, ⟨7, 0, 12, 13, 0, 0, 0⟩, ⟨22, 0, 12, 0, 0, 0, 0⟩], []⟩

variable {n k v : Nat} {l : List Nat}

theorem mask_mod (hn : n = 2 ^ k) (p : Nat) : ((n - 1) &&& p) = p % n := by
  rw [hn, Nat.and_comm, Nat.and_two_pow_sub_one_eq_mod]

theorem slot_at (hn : n = 2 ^ k) (hk : k ≤ 10) (p : Nat) : ((((n - 1) % 18446744073709551616) &&& p) % 18446744073709551616 + 2) % 18446744073709551616 = 2 + p % n := by
  have hle : n ≤ 1024 := by rw [hn]; exact pow_le hk
  have hpos : 0 < n := by rw [hn]; exact Nat.two_pow_pos k
  have hm : p % n < n := Nat.mod_lt _ hpos
  rw [Nat.mod_eq_of_lt (by omega : n - 1 < 18446744073709551616), mask_mod hn]
  omega

def z0 : Nat → Nat := fun _ => 0
def pr1 (n v : Nat) : Nat → Nat := upd (upd z0 15 v) 13 n
def pr2 (n v p : Nat) : Nat → Nat := upd (pr1 n v) 11 p
def pr3 (n v p t d q : Nat) : Nat → Nat := upd (upd (upd (upd (pr2 n v p) 10 t) 12 d) 14 (n - 1)) 14 q
def pr4 (n v p t d q p1 : Nat) : Nat → Nat := upd (pr3 n v p t d q) 11 p1

variable {cs : List Cl} {c : Nat} {pre : List (Bool × List Nat)} {w : Wd} {t' : Th} {p t d q : Nat}

theorem put_on' (hc : cs[c]? = some (putCl n v)) (h0 : pre.length = c) (hn : n < 18446744073709551616) (hv : v < 18446744073709551616) : onF 20 (T cs c 0 z0 pre []) = some (T cs c 2 (pr1 n v) pre []) :=
  ((Goes.on1 (st_set hc h0 rfl (Nat.mod_eq_of_lt hv)) (Goes.on1 (st_set hc h0 rfl (Nat.mod_eq_of_lt hn)) (on_stop hc h0 rfl rfl))))
theorem put_on (hc : cs[c]? = some (putCl n v)) (h0 : pre.length = c) (hn : n < 18446744073709551616) (hv : v < 18446744073709551616) : onF 20 (Bt cs c pre) = some (T cs c 2 (pr1 n v) pre []) :=
  (on_begin hc h0).trans (put_on' hc h0 hn hv)
theorem put_2 (hc : cs[c]? = some (putCl n v)) (h0 : pre.length = c) (hw : w.words[0]? = some l) (hv : l[1]? = some p) : Op 30 w (T cs c 2 (pr1 n v) pre []) (1, 1) w (T cs c 3 (pr2 n v p) pre []) :=
  op_load (vb := 0) hc rfl hw rfl rfl hv (on_stop hc h0 rfl rfl)
theorem put_3F (hc : cs[c]? = some (putCl n v)) (h0 : pre.length = c) (hw : w.words[0]? = some l) (hv : l[0]? = some t) (hd : (p + 18446744073709551616 - t) % 18446744073709551616 = d) (hf : ¬ d < n) (ho : onF 20 (Bt cs (c + 1) (pre ++ [(true, [0])])) = some t') : Op 30 w (T cs c 3 (pr2 n v p) pre []) (1, 0) w t' :=
  op_load (vb := 0) hc rfl hw rfl rfl hv ((Goes.on1 (st_less hc h0 rfl hd rfl rfl) (Goes.on1 (st_belowF hc h0 rfl hf rfl rfl) (Goes.on1 (st_tell hc h0 rfl rfl) (Goes.on1 (goes_finish hc h0 rfl) (onF_more (k := 6) ho))))))
theorem put_3T (hc : cs[c]? = some (putCl n v)) (h0 : pre.length = c) (hw : w.words[0]? = some l) (hv : l[0]? = some t) (hn : n < 18446744073709551616) (hd : (p + 18446744073709551616 - t) % 18446744073709551616 = d) (hf : d < n) (hq : ((n - 1) &&& p) % 18446744073709551616 = q) : Op 30 w (T cs c 3 (pr2 n v p) pre []) (1, 0) w (T cs c 10 (pr3 n v p t d q) pre []) :=
  op_load (vb := 0) hc rfl hw rfl rfl hv ((Goes.on1 (st_less hc h0 rfl hd rfl rfl) (Goes.on1 (st_belowT hc h0 rfl hf rfl rfl) (Goes.on1 (st_set hc h0 rfl (Nat.mod_eq_of_lt (by omega))) (Goes.on1 (st_and hc h0 rfl hq rfl rfl) (on_stop hc h0 rfl rfl))))))
theorem put_10 {p1 : Nat} {ws : List (List Nat)} (hc : cs[c]? = some (putCl n v)) (h0 : pre.length = c) (hw : w.words[0]? = some l) (hq : q + 2 < l.length) (hql : q + 2 < 18446744073709551616) (hp1 : (p + 1) % 18446744073709551616 = p1) (hws : w.words.set 0 (l.set (q + 2) v) = ws) : Op 30 w (T cs c 10 (pr3 n v p t d q) pre []) (2, q + 2) ⟨ws, w.nl⟩ (T cs c 12 (pr4 n v p t d q p1) pre []) :=
  op_store (vb := q) hc rfl hw rfl (Nat.mod_eq_of_lt hql) rfl hq hws ((Goes.on1 (st_plus (vc := 0) hc h0 rfl hp1 rfl rfl) (on_stop hc h0 rfl rfl)))
theorem put_12 {p1 : Nat} {ws : List (List Nat)} (hc : cs[c]? = some (putCl n v)) (h0 : pre.length = c) (hw : w.words[0]? = some l) (hq : 1 < l.length) (hws : w.words.set 0 (l.set 1 p1) = ws) (ho : onF 20 (Bt cs (c + 1) (pre ++ [(true, [1])])) = some t') : Op 30 w (T cs c 12 (pr4 n v p t d q p1) pre []) (2, 1) ⟨ws, w.nl⟩ t' :=
  op_store (vb := 0) hc rfl hw rfl rfl rfl hq hws ((Goes.on1 (st_set hc h0 rfl rfl) (Goes.on1 (st_tell hc h0 rfl rfl) (Goes.on1 (goes_end hc h0 rfl) (onF_more (k := 7) ho)))))

def tk1 (p : Nat) : Nat → Nat := upd z0 10 p
def tk2 (n t p q : Nat) : Nat → Nat := upd (upd (upd (tk1 t) 11 p) 14 (n - 1)) 14 q
def tk3 (n t p q v t1 : Nat) : Nat → Nat := upd (upd (tk2 n t p q) 15 v) 10 t1

theorem take_on' (hc : cs[c]? = some (takeCl n)) (h0 : pre.length = c) : onF 20 (T cs c 0 z0 pre []) = some (T cs c 0 z0 pre []) :=
  (on_stop hc h0 rfl rfl)
theorem take_on (hc : cs[c]? = some (takeCl n)) (h0 : pre.length = c) : onF 20 (Bt cs c pre) = some (T cs c 0 z0 pre []) :=
  (on_begin hc h0).trans (take_on' hc h0)
theorem take_0 (hc : cs[c]? = some (takeCl n)) (h0 : pre.length = c) (hw : w.words[0]? = some l) (hv : l[0]? = some t) : Op 30 w (T cs c 0 z0 pre []) (1, 0) w (T cs c 1 (tk1 t) pre []) :=
  op_load (vb := 0) hc rfl hw rfl rfl hv (on_stop hc h0 rfl rfl)
theorem take_1F (hc : cs[c]? = some (takeCl n)) (h0 : pre.length = c) (hw : w.words[0]? = some l) (hv : l[1]? = some p) (e : t = p) (ho : onF 20 (Bt cs (c + 1) (pre ++ [(true, [0, 0])])) = some t') : Op 30 w (T cs c 1 (tk1 t) pre []) (1, 1) w t' :=
  op_load (vb := 0) hc rfl hw rfl rfl hv ((Goes.on1 (st_sameT hc h0 rfl e rfl rfl) (Goes.on1 (st_tell hc h0 rfl rfl) (Goes.on1 (st_tell hc h0 rfl rfl) (Goes.on1 (goes_end hc h0 rfl) (onF_more (k := 6) ho))))))
theorem take_1T (hc : cs[c]? = some (takeCl n)) (h0 : pre.length = c) (hw : w.words[0]? = some l) (hv : l[1]? = some p) (hn : n < 18446744073709551616) (e : ¬ t = p) (hq : ((n - 1) &&& t) % 18446744073709551616 = q) : Op 30 w (T cs c 1 (tk1 t) pre []) (1, 1) w (T cs c 5 (tk2 n t p q) pre []) :=
  op_load (vb := 0) hc rfl hw rfl rfl hv ((Goes.on1 (st_sameF hc h0 rfl e rfl rfl) (Goes.on1 (st_set hc h0 rfl (Nat.mod_eq_of_lt (by omega))) (Goes.on1 (st_and hc h0 rfl hq rfl rfl) (on_stop hc h0 rfl rfl)))))
theorem take_5 {t1 : Nat} (hc : cs[c]? = some (takeCl n)) (h0 : pre.length = c) (hw : w.words[0]? = some l) (hv : l[q + 2]? = some v) (hql : q + 2 < 18446744073709551616) (ht1 : (t + 1) % 18446744073709551616 = t1) : Op 30 w (T cs c 5 (tk2 n t p q) pre []) (1, q + 2) w (T cs c 7 (tk3 n t p q v t1) pre []) :=
  op_load (vb := q) hc rfl hw rfl (Nat.mod_eq_of_lt hql) hv ((Goes.on1 (st_plus (vc := 0) hc h0 rfl ht1 rfl rfl) (on_stop hc h0 rfl rfl)))
theorem take_7 {t1 : Nat} {ws : List (List Nat)} (hc : cs[c]? = some (takeCl n)) (h0 : pre.length = c) (hw : w.words[0]? = some l) (hq : 0 < l.length) (hws : w.words.set 0 (l.set 0 t1) = ws) (ho : onF 20 (Bt cs (c + 1) (pre ++ [(true, [v, 1])])) = some t') : Op 30 w (T cs c 7 (tk3 n t p q v t1) pre []) (2, 0) ⟨ws, w.nl⟩ t' :=
  op_store (vb := 0) hc rfl hw rfl rfl rfl hq hws ((Goes.on1 (st_set hc h0 rfl rfl) (Goes.on1 (st_tell hc h0 rfl rfl) (Goes.on1 (goes_jump hc h0 rfl) (Goes.on1 (st_tell hc h0 rfl rfl) (Goes.on1 (goes_end hc h0 rfl) (onF_more (k := 5) ho)))))))

theorem len_on' (hc : cs[c]? = some (lenCl n)) (h0 : pre.length = c) : onF 20 (T cs c 0 z0 pre []) = some (T cs c 0 z0 pre []) :=
  (on_stop hc h0 rfl rfl)
theorem len_on (hc : cs[c]? = some (lenCl n)) (h0 : pre.length = c) : onF 20 (Bt cs c pre) = some (T cs c 0 z0 pre []) :=
  (on_begin hc h0).trans (len_on' hc h0)
theorem len_0 (hc : cs[c]? = some (lenCl n)) (h0 : pre.length = c) (hw : w.words[0]? = some l) (hv : l[0]? = some t) : Op 30 w (T cs c 0 z0 pre []) (1, 0) w (T cs c 1 (tk1 t) pre []) :=
  op_load (vb := 0) hc rfl hw rfl rfl hv (on_stop hc h0 rfl rfl)
theorem len_1 (hc : cs[c]? = some (lenCl n)) (h0 : pre.length = c) (hw : w.words[0]? = some l) (hv : l[1]? = some p) (hn : n < 18446744073709551616) (hd : (p + 18446744073709551616 - t) % 18446744073709551616 = d) (ho : onF 20 (Bt cs (c + 1) (pre ++ [(true, [min d n])])) = some t') : Op 30 w (T cs c 1 (tk1 t) pre []) (1, 1) w t' := by
  by_cases hf : d < n
  · rw [Nat.min_eq_left (Nat.le_of_lt hf)] at ho
    exact op_load (vb := 0) hc rfl hw rfl rfl hv ((Goes.on1 (st_less hc h0 rfl hd rfl rfl) (Goes.on1 (st_set hc h0 rfl (Nat.mod_eq_of_lt hn)) (Goes.on1 (st_belowT hc h0 rfl hf rfl rfl) (Goes.on1 (st_tell hc h0 rfl rfl) (Goes.on1 (goes_end hc h0 rfl) (onF_more (k := 5) ho)))))))
  · rw [Nat.min_eq_right (by omega)] at ho
    exact op_load (vb := 0) hc rfl hw rfl rfl hv ((Goes.on1 (st_less hc h0 rfl hd rfl rfl) (Goes.on1 (st_set hc h0 rfl (Nat.mod_eq_of_lt hn)) (Goes.on1 (st_belowF hc h0 rfl hf rfl rfl) (Goes.on1 (st_copy hc h0 rfl (Nat.mod_eq_of_lt hn) rfl) (Goes.on1 (st_tell hc h0 rfl rfl) (Goes.on1 (goes_end hc h0 rfl) (onF_more (k := 4) ho))))))))

/- ---- alone ---- -/
section
variable {l1 : List Nat}
theorem put_alone (hn : n = 2 ^ k) (hk : k ≤ 10) (hl : l.length = n + 2) (hv : v < 18446744073709551616) (hp : l[1]? = some p) (ht : l[0]? = some t) :
    if (p + 18446744073709551616 - t) % 18446744073709551616 < n then Comes 30 9 ⟨[l], 1⟩ (putCl n v) ⟨[(l.set (p % n + 2) v).set 1 ((p + 1) % 18446744073709551616)], 1⟩ [1] [(1, 1), (1, 0), (2, p % n + 2), (2, 1)]
    else Comes 30 9 ⟨[l], 1⟩ (putCl n v) ⟨[l], 1⟩ [0] [(1, 1), (1, 0)] := by
  have hle : n ≤ 1024 := by rw [hn]; exact pow_le hk
  have hpos : 0 < n := by rw [hn]; exact Nat.two_pow_pos k
  have hm : p % n < n := Nat.mod_lt _ hpos
  have hc : [putCl n v][0]? = some (putCl n v) := rfl
  have h0 : ([] : List (Bool × List Nat)).length = 0 := rfl
  have hend : ∀ pre : List (Bool × List Nat), onF 20 (Bt [putCl n v] 1 pre) = some { Bt [putCl n v] 1 pre with over := true } := fun pre => on_over (f := 19) rfl
  have hq : ((n - 1) &&& p) % 18446744073709551616 = p % n := by rw [mask_mod hn]; omega
  split
  · rename_i hf
    refine comes_of (onF_more (k := 10) (put_on' hc h0 (by omega) hv)) ?_ (by simp)
    refine solo_by (put_2 hc h0 rfl hp) ?_
    refine solo_by (put_3T hc h0 rfl ht (by omega) rfl hf hq) ?_
    refine solo_by (put_10 hc h0 rfl (by omega) (by omega) rfl rfl) ?_
    refine solo_by (put_12 hc h0 rfl (by rw [List.length_set]; omega) rfl (hend _)) ?_
    exact solo_end rfl
  · rename_i hf
    refine comes_of (onF_more (k := 10) (put_on' hc h0 (by omega) hv)) ?_ (by simp)
    refine solo_by (put_2 hc h0 rfl hp) ?_
    refine solo_by (put_3F hc h0 rfl ht rfl hf (hend _)) ?_
    exact solo_end rfl
theorem take_alone (hn : n = 2 ^ k) (hk : k ≤ 10) (hl : l.length = n + 2) (hp : l[1]? = some p) (ht : l[0]? = some t) (hv : l[t % n + 2]? = some v) :
    if t = p then Comes 30 9 ⟨[l], 1⟩ (takeCl n) ⟨[l], 1⟩ [0, 0] [(1, 0), (1, 1)]
    else Comes 30 9 ⟨[l], 1⟩ (takeCl n) ⟨[l.set 0 ((t + 1) % 18446744073709551616)], 1⟩ [v, 1] [(1, 0), (1, 1), (1, t % n + 2), (2, 0)] := by
  have hle : n ≤ 1024 := by rw [hn]; exact pow_le hk
  have hpos : 0 < n := by rw [hn]; exact Nat.two_pow_pos k
  have hm : t % n < n := Nat.mod_lt _ hpos
  have hc : [takeCl n][0]? = some (takeCl n) := rfl
  have h0 : ([] : List (Bool × List Nat)).length = 0 := rfl
  have hend : ∀ pre : List (Bool × List Nat), onF 20 (Bt [takeCl n] 1 pre) = some { Bt [takeCl n] 1 pre with over := true } := fun pre => on_over (f := 19) rfl
  have hq : ((n - 1) &&& t) % 18446744073709551616 = t % n := by rw [mask_mod hn]; omega
  split
  · rename_i hf
    refine comes_of (onF_more (k := 10) (take_on' hc h0)) ?_ (by simp)
    refine solo_by (take_0 hc h0 rfl ht) ?_
    refine solo_by (take_1F hc h0 rfl hp hf (hend _)) ?_
    exact solo_end rfl
  · rename_i hf
    refine comes_of (onF_more (k := 10) (take_on' hc h0)) ?_ (by simp)
    refine solo_by (take_0 hc h0 rfl ht) ?_
    refine solo_by (take_1T hc h0 rfl hp (by omega) hf hq) ?_
    refine solo_by (take_5 hc h0 rfl hv (by omega) rfl) ?_
    refine solo_by (take_7 hc h0 rfl (by omega) rfl (hend _)) ?_
    exact solo_end rfl
theorem len_alone (hn : n = 2 ^ k) (hk : k ≤ 10) (hp : l[1]? = some p) (ht : l[0]? = some t) :
    Comes 30 9 ⟨[l], 1⟩ (lenCl n) ⟨[l], 1⟩ [min ((p + 18446744073709551616 - t) % 18446744073709551616) n] [(1, 0), (1, 1)] := by
  have hle : n ≤ 1024 := by rw [hn]; exact pow_le hk
  have hc : [lenCl n][0]? = some (lenCl n) := rfl
  have h0 : ([] : List (Bool × List Nat)).length = 0 := rfl
  have hend : ∀ pre : List (Bool × List Nat), onF 20 (Bt [lenCl n] 1 pre) = some { Bt [lenCl n] 1 pre with over := true } := fun pre => on_over (f := 19) rfl
  refine comes_of (onF_more (k := 10) (len_on' hc h0)) ?_ (by simp)
  refine solo_by (len_0 hc h0 rfl ht) ?_
  refine solo_by (len_1 hc h0 rfl hp (by omega) rfl (hend _)) ?_
  exact solo_end rfl
end

end Go.PB.Mach
