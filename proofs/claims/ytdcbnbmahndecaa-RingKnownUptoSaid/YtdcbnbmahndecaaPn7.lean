/-
  Part 7 of 9.
-/
import Derived.Test.YtdcbnbmahndecaaPn6
import Derived.Test.YtdcbnbmahndecaaPn4
import Derived.Test.YtdcbnbmahndecaaPn3
import Derived.Test.YtdcbnbmahndecaaPn5
set_option linter.unusedVariables false
set_option linter.unusedSimpArgs false
namespace Go.Proofs.Ytdcbnbmahndecaa
open Go Go.PB
attribute [local irreducible] Mo Bin Eql Tr Wo Ap
section
theorem eqTurn {x y : Operand} {a0 b0 a1 b1 a2 b2 : Int} : Eql Try.prog 111 x y (.agg #[.int .i64 a0, .int .u8 a1, .int .i64 a2]) (.agg #[.int .i64 b0, .int .u8 b1, .int .i64 b2]) (decide (a0 = b0 ∧ a1 = b1 ∧ a2 = b2)) :=
 haveI p0 : Und Try.prog 111 _ := ⟨Try.underlying111⟩
 haveI p1 : Und Try.prog 109 _ := ⟨Try.underlying109⟩
 eql_turned (t1 := 109) (p := p0) (p1 := p1) (by kernel_rfl) (by kernel_rfl) (by kernel_rfl) (by decide) (by decide) (by decide) (by decide) rfl rfl rfl rfl rfl (by kernel_rfl) (by kernel_rfl) (by kernel_rfl)
def RdTr (L : List HProp) (a : Option Addr) (l : List (Nat × (Int × Int))) : Prop := ∀ (i : Nat) t, l[i]? = some t → ∃ b o, a = some ⟨b, o, none⟩ ∧ Rds L b (o + 3 * i) [.int .i64 (t.1 : Nat), .int .u8 t.2.1, .int .i64 t.2.2]
def RdI (L : List HProp) (a : Option Addr) (l : List Nat) : Prop := ∀ (i : Nat) k, l[i]? = some k → ∃ b o, a = some ⟨b, o, none⟩ ∧ Rd L b (o + i) (.int .i64 (k : Nat))
theorem RdTr.there {L : List HProp} {a : Option Addr} {l : List (Nat × (Int × Int))} {d : HProp} (h : RdTr L a l) : RdTr (d :: L) a l := fun i t hi => by
 obtain ⟨b, o, e, r⟩ := h i t hi
 exact ⟨b, o, e, fun j v hj => .there (r j v hj)⟩
theorem RdI.there {L : List HProp} {a : Option Addr} {l : List Nat} {d : HProp} (h : RdI L a l) : RdI (d :: L) a l := fun i t hi => by
 obtain ⟨b, o, e, r⟩ := h i t hi
 exact ⟨b, o, e, .there r⟩
section
variable {B : Hand} [Lets B] {L F : List HProp} {x : B.X}
def mb_ (x : B.X) (j p q : Nat) (n : Nat) (u1 u2 v1 v2 : Value) (L : List HProp) : Inv Nat B.X where
 e := fun i => [(2, .pointer (some ⟨p, 0, none⟩)), (3, .pointer (some ⟨q, 0, none⟩)), (j, .int .i64 (i : Nat))]
 L := fun _ => arr q 0 [v1, v2] :: arr p 0 [u1, u2] :: L
 x := fun _ => x
 ok := fun i => i ≤ n
theorem xr_ {a1 a2 a3 a4 : Option Addr} {c1 c2 c3 c4 : Nat} {tr : List (Nat × (Int × Int))} {cut : List Nat} (h1 : RdTr L a1 tr) (h3 : RdTr L a3 tr) (h2 : RdI L a2 cut) (h4 : RdI L a4 cut) (hl : tr.length < 1000000000) (hl2 : cut.length < 1000000000) :
  Tr Try.prog B 30 [.agg #[.slice a1 tr.length c1, .slice a2 cut.length c2], .agg #[.slice a3 tr.length c3, .slice a4 cut.length c4]] L x fun v L' x' => v = .bool true ∧ L' = L ∧ x' = x := by
 refine Tr.post (R := fun v L' x' => v = .bool true ∧ x' = x ∧ ∀ h, Star L' h → Star L h) ?_
  (by rintro v L' x' ⟨rfl, rfl, h2⟩; exact ⟨_, ⟨rfl, rfl, rfl⟩, h2⟩)
 refine bd_ Try.func30 rfl Try.ntmps30 (by simp) fun um Q _ hQ => ?_
 simp only [argE, Nat.zero_add, Nat.reduceAdd]
 repeat (first | (apply wo_mo; apply cr_; exact rfl; exact trivial) | refine bb_ ?_ | (refine wR ?_; try simp only [oS]))
 rintro v' L' ⟨p, rfl, rfl⟩
 repeat (first | (apply wo_mo; apply cr_; exact rfl; exact trivial))
 rintro v' L' ⟨q, rfl, rfl⟩
 refine jm_ (arr q 0 [.slice a3 tr.length c3, .slice a4 cut.length c4] :: arr p 0 [.slice a1 tr.length c1, .slice a2 cut.length c2] :: L) .refl ?_
 repeat (first | refine wneqF ?_ | refine bb_ ?_ | (refine wR ?_; try simp only [oS]) | refine ba_ ?_ | refine wM ?_ | refine wA ?_ | refine wJ ?_ | refine wD ?_ | refine wL ?_ | refine wE ?_ | refine wF ?_ | refine bk_ ?_ | refine bg_ ?_)
 refine co_ (mb_ x 5 p q tr.length (.slice a1 tr.length c1) (.slice a2 cut.length c2) (.slice a3 tr.length c3) (.slice a4 cut.length c4) L) (fun i => tr.length - i) 0 (Nat.zero_le _) ⟨rfl, rfl, rfl, trivial⟩ .refl rfl ?_
 intro i hi
 replace hi : i ≤ tr.length := hi
 simp only [mb_]
 by_cases hlt : i < tr.length
 ·obtain ⟨t, ht⟩ : ∃ t, tr[i]? = some t := ⟨tr[i], List.getElem?_eq_getElem hlt⟩
  obtain ⟨b1, o1, rfl, r1⟩ := h1 i t ht
  obtain ⟨b3, o3, rfl, r3⟩ := h3 i t ht
  have r1 : Rds (arr q 0 [.slice (some ⟨b3, o3, none⟩) tr.length c3, .slice a4 cut.length c4] :: arr p 0 [.slice (some ⟨b1, o1, none⟩) tr.length c1, .slice a2 cut.length c2] :: L) b1 (o1 + 3 * i) [.int .i64 (t.1 : Nat), .int .u8 t.2.1, .int .i64 t.2.2] := fun j v hj => .there (.there (r1 j v hj))
  have r3 : Rds (arr q 0 [.slice (some ⟨b3, o3, none⟩) tr.length c3, .slice a4 cut.length c4] :: arr p 0 [.slice (some ⟨b1, o1, none⟩) tr.length c1, .slice a2 cut.length c2] :: L) b3 (o3 + 3 * i) [.int .i64 (t.1 : Nat), .int .u8 t.2.1, .int .i64 t.2.2] := fun j v hj => .there (.there (r3 j v hj))
  have heq := eqTurn (x := .tmp 34) (y := .tmp 39) (a0 := (t.1 : Nat)) (b0 := (t.1 : Nat)) (a1 := t.2.1) (b1 := t.2.1) (a2 := t.2.2) (b2 := t.2.2)
  rw [show decide ((((t.1 : Nat) : Int) = (t.1 : Nat)) ∧ t.2.1 = t.2.1 ∧ t.2.2 = t.2.2) = true by simp] at heq
  repeat (first | refine wlssT ?_ | refine bb_ ?_ | (refine wR ?_; try simp only [oS]) | refine ba_ ?_ | refine wM ?_ | refine wD ?_ | refine wL ?_ | refine wE ?_ | refine wT ?_ | refine bk_ ?_ | refine bg_ ?_)
  refine bv_ (List.range' 0 11) (by kernel_rfl) ?_
  repeat (first | (apply be_; exact rfl; exact rfl; exact trivial; intro L; apply ce_ (r := o1 + 3 * i); exact rfl; exact rfl; omega; omega; omega) | (apply be_; exact rfl; exact rfl; exact trivial; intro L; apply ce_ (r := o3 + 3 * i); exact rfl; exact rfl; omega; omega; omega) | (apply bn_; exact rfl; exact rfl; exact trivial; apply ch_ (vs := [.int .i64 (t.1 : Nat), .int .u8 t.2.1, .int .i64 t.2.2]); exact rfl; exact rfl; exact r1) | (apply bn_; exact rfl; exact rfl; exact trivial; apply ch_ (vs := [.int .i64 (t.1 : Nat), .int .u8 t.2.1, .int .i64 t.2.2]); exact rfl; exact rfl; exact r3) | (apply be_; exact rfl; exact rfl; exact trivial; intro L; apply bh_; exact rfl; exact rfl; apply dv_; exact heq) | refine aM ?_ | refine aD ?_ | refine aL ?_ | refine ca_ ?_)
  repeat (first | (refine wR ?_; try simp only [oS]) | refine ba_ ?_ | refine wM ?_ | refine wA ?_ | refine wadd ?_ | refine wF ?_ | refine bk_ ?_)
  refine dm_ (I := mb_ x 5 p q tr.length (.slice (some ⟨b1, o1, none⟩) tr.length c1) (.slice a2 cut.length c2) (.slice (some ⟨b3, o3, none⟩) tr.length c3) (.slice a4 cut.length c4) L) (R := fun j => tr.length - j < tr.length - i) (i + 1) (by omega) (show i + 1 ≤ tr.length by omega) ?_ .refl rfl
  exact ⟨rfl, rfl, rfl, trivial⟩
 obtain rfl : i = tr.length := by omega
 repeat (first | refine wlssF ?_ | refine bb_ ?_ | (refine wR ?_; try simp only [oS]) | refine ba_ ?_ | refine wM ?_ | refine wA ?_ | refine wD ?_ | refine wL ?_ | refine wE ?_ | refine wF ?_ | refine bg_ ?_ | refine cm_ ?_)
 refine co_ (mb_ x 6 p q cut.length (.slice a1 tr.length c1) (.slice a2 cut.length c2) (.slice a3 tr.length c3) (.slice a4 cut.length c4) L) (fun i => cut.length - i) 0 (Nat.zero_le _) ⟨rfl, rfl, rfl, trivial⟩ .refl rfl ?_
 intro i hi
 replace hi : i ≤ cut.length := hi
 simp only [mb_]
 by_cases hlt : i < cut.length
 ·obtain ⟨t, ht⟩ : ∃ t, cut[i]? = some t := ⟨cut[i], List.getElem?_eq_getElem hlt⟩
  obtain ⟨b1, o1, rfl, r1⟩ := h2 i t ht
  obtain ⟨b3, o3, rfl, r3⟩ := h4 i t ht
  have r1 : Rd (arr q 0 [.slice a3 tr.length c3, .slice (some ⟨b3, o3, none⟩) cut.length c4] :: arr p 0 [.slice a1 tr.length c1, .slice (some ⟨b1, o1, none⟩) cut.length c2] :: L) b1 (o1 + i) (.int .i64 (t : Nat)) := .there (.there r1)
  have r3 : Rd (arr q 0 [.slice a3 tr.length c3, .slice (some ⟨b3, o3, none⟩) cut.length c4] :: arr p 0 [.slice a1 tr.length c1, .slice (some ⟨b1, o1, none⟩) cut.length c2] :: L) b3 (o3 + i) (.int .i64 (t : Nat)) := .there (.there r3)
  repeat (first | refine wlssT ?_ | refine bb_ ?_ | (refine wR ?_; try simp only [oS]) | refine ba_ ?_ | refine wM ?_ | refine wD ?_ | refine wL ?_ | refine wE ?_ | refine wT ?_ | refine bk_ ?_ | refine bg_ ?_)
  refine bv_ (List.range' 0 11) (by kernel_rfl) ?_
  repeat (first | (apply be_; exact rfl; exact rfl; exact trivial; intro L; apply ce_ (r := o1 + i); exact rfl; exact rfl; omega; omega; omega) | (apply be_; exact rfl; exact rfl; exact trivial; intro L; apply ce_ (r := o3 + i); exact rfl; exact rfl; omega; omega; omega) | (apply bn_; exact rfl; exact rfl; exact trivial; apply bc_; exact rfl; exact r1) | (apply bn_; exact rfl; exact rfl; exact trivial; apply bc_; exact rfl; exact r3) | refine aM ?_ | refine aD ?_ | (apply be_; exact rfl; exact rfl; exact gY; intro L; apply bh_; exact rfl; exact rfl; exact pb_) | refine aL ?_ | refine ca_ ?_)
  rw [show (!decide (((t : Nat) : Int) = ((t : Nat) : Int))) = false by simp]
  repeat (first | (refine wR ?_; try simp only [oS]) | refine ba_ ?_ | refine wM ?_ | refine wA ?_ | refine wadd ?_ | refine wF ?_ | refine bk_ ?_)
  refine dm_ (I := mb_ x 6 p q cut.length (.slice a1 tr.length c1) (.slice (some ⟨b1, o1, none⟩) cut.length c2) (.slice a3 tr.length c3) (.slice (some ⟨b3, o3, none⟩) cut.length c4) L) (R := fun j => cut.length - j < cut.length - i) (i + 1) (by omega) (show i + 1 ≤ cut.length by omega) ?_ .refl rfl
  exact ⟨rfl, rfl, rfl, trivial⟩
 obtain rfl : i = cut.length := by omega
 repeat (first | refine wlssF ?_ | refine bb_ ?_ | (refine wR ?_; try simp only [oS]) | refine ba_ ?_ | refine wM ?_ | refine wA ?_ | refine wD ?_ | refine wL ?_ | refine wE ?_ | refine wF ?_ | refine br_ ?_ | refine cm_ ?_)
 (first | refine or1 Try.func30 Try.results30 hQ rfl ?_ | refine on1 Try.func30 Try.results30 hQ rfl ?_)
 exact ⟨rfl, rfl, fun h st => Ent.star (.drop (.drop .refl)) st⟩
end
end
section
def GotAt (L : List HProp) (v : Value) (pre : List (List Nat)) : Prop := ∃ a c, v = .slice a pre.length c ∧ ∀ (j : Nat) ws, pre[j]? = some ws → ∃ b o a' c', a = some ⟨b, o, none⟩ ∧ Rd L b (o + j) (.slice a' ws.length c') ∧ RdV L a' ws
def GotsAt (L : List HProp) (a : Option Addr) (l : List (List (List Nat))) : Prop := ∀ (k : Nat) pre, l[k]? = some pre → ∃ b o v, a = some ⟨b, o, none⟩ ∧ Rd L b (o + k) v ∧ GotAt L v pre
def AnsAt (L : List HProp) (v : Value) (ans : List (Bool × List Nat)) : Prop := ∃ a c, v = .slice a ans.length c ∧ ∀ (j : Nat) y, ans[j]? = some y → ∃ b o a' c', a = some ⟨b, o, none⟩ ∧ Rd L b (o + 2 * j) (.bool y.1) ∧ Rd L b (o + 2 * j + 1) (.slice a' y.2.length c') ∧ RdV L a' y.2
def AnssAt (L : List HProp) (a : Option Addr) (l : List (List (Bool × List Nat))) : Prop := ∀ (k : Nat) ans, l[k]? = some ans → ∃ b o v, a = some ⟨b, o, none⟩ ∧ Rd L b (o + k) v ∧ AnsAt L v ans
def Told (ans : List (Bool × List Nat)) (pre : List (List Nat)) : Prop := ∃ tail, ans = pre.map (fun w => (true, w)) ++ tail ∧ ∀ y ∈ tail, y.1 = false
section
variable {B : Hand} [Lets B] {L F : List HProp} {x : B.X}
def xs_ (x : B.X) (u v : Value) (n : Nat) (L : List HProp) : Inv Nat B.X where
 e := fun i => [(0, u), (1, v), (5, .int .i64 (i : Nat))]
 L := fun _ => L
 x := fun _ => x
 ok := fun i => i ≤ n
def ti_ (x : B.X) (u v : Value) (i n m : Nat) (L : List HProp) : Inv Nat B.X where
 e := fun j => [(0, u), (1, v), (5, .int .i64 (i : Nat)), (6, .int .i64 (min j m : Nat)), (7, .int .i64 (j : Nat))]
 L := fun _ => L
 x := fun _ => x
 ok := fun j => j ≤ n
theorem wg_ {ga aa : Option Addr} {gc ac : Nat} {got : List (List (List Nat))} {anss : List (List (Bool × List Nat))} (hg : GotsAt L ga got) (ha : AnssAt L aa anss) (hlen : got.length = anss.length) (htold : ∀ (k : Nat) pre ans, got[k]? = some pre → anss[k]? = some ans → Told ans pre)
  (hl : anss.length < 1000000000) (hl2 : ∀ a ∈ anss, a.length < 1000000000) (hl3 : ∀ a ∈ anss, ∀ y ∈ a, y.2.length < 1000000000) :
  Tr Try.prog B 31 [.slice ga anss.length gc, .slice aa anss.length ac] L x fun v L' x' => v = .bool true ∧ L' = L ∧ x' = x := by
 refine bd_ Try.func31 rfl Try.ntmps31 (by simp) fun um Q _ hQ => ?_
 simp only [argE, Nat.zero_add, Nat.reduceAdd]
 repeat (first | refine wneqF ?_ | refine bb_ ?_ | (refine wR ?_; try simp only [oS]) | refine ba_ ?_ | refine wM ?_ | refine wA ?_ | refine wE ?_ | refine wF ?_ | refine bk_ ?_ | refine bg_ ?_)
 refine co_ (xs_ x (.slice ga anss.length gc) (.slice aa anss.length ac) anss.length L) (fun i => anss.length - i) 0 (Nat.zero_le _) ⟨rfl, rfl, rfl, trivial⟩ .refl rfl ?_
 intro i hi
 replace hi : i ≤ anss.length := hi
 simp only [xs_]
 by_cases hlt : i < anss.length
 ·obtain ⟨ans, hans⟩ : ∃ t, anss[i]? = some t := ⟨anss[i], List.getElem?_eq_getElem hlt⟩
  obtain ⟨pre, hpre⟩ : ∃ t, got[i]? = some t := ⟨got[i]'(by omega), List.getElem?_eq_getElem (by omega)⟩
  have hn := hl2 ans (List.mem_of_getElem? hans)
  have hn3 := hl3 ans (List.mem_of_getElem? hans)
  obtain ⟨tail, htl, hfalse⟩ := htold i pre ans hpre hans
  have hle : pre.length ≤ ans.length := by rw [htl]; simp
  obtain ⟨gb, go, gv, rfl, rg, ga2, gc2, rfl, hg2⟩ := hg i pre hpre
  obtain ⟨ab, ao, av, rfl, ra, aa2, ac2, rfl, ha2⟩ := ha i ans hans
  repeat (first | refine wlssT ?_ | refine bb_ ?_ | (refine wR ?_; try simp only [oS]) | refine ba_ ?_ | refine wM ?_ | refine wA ?_ | refine wE ?_ | refine wT ?_ | refine bk_ ?_ | refine bg_ ?_)
  refine co_ (ti_ x (.slice (some ⟨gb, go, none⟩) anss.length gc) (.slice (some ⟨ab, ao, none⟩) anss.length ac) i ans.length pre.length L) (fun i => ans.length - i) 0 (Nat.zero_le _) ⟨rfl, rfl, rfl, (by rw [Nat.zero_min]; rfl), rfl, trivial⟩ .refl rfl ?_
  intro j hj
  replace hj : j ≤ ans.length := hj
  simp only [ti_]
  by_cases hjl : j < ans.length
  ·obtain ⟨⟨q, ws⟩, hy⟩ : ∃ y, ans[j]? = some y := ⟨ans[j], List.getElem?_eq_getElem hjl⟩
   obtain ⟨b2, o2, a2, c2, rfl, r1, r2, rv⟩ := ha2 j _ hy
   simp only at r1 r2 rv
   by_cases hjp : j < pre.length
   ·have hyy : ans[j]? = some (true, pre[j]) := by
     rw [htl, List.getElem?_append_left (by simpa using hjp)]; simp [hjp]
    rw [hy] at hyy
    obtain ⟨rfl, rfl⟩ : q = true ∧ ws = pre[j] := by simpa using hyy
    obtain ⟨b3, o3, a3, c3, rfl, s1, sv⟩ := hg2 j pre[j] (List.getElem?_eq_getElem hjp)
    have hwl := hn3 _ (List.mem_of_getElem? hy)
    simp only at hwl
    rw [show min j pre.length = j by omega]
    obtain ⟨ws, hws⟩ : ∃ ws, pre[j] = ws := ⟨_, rfl⟩
    rw [hws] at r2 rv s1 sv hwl
    repeat (first | (apply wo_po; apply cf_; exact rfl; exact rfl; omega; exact trivial) | (apply wo_po; apply ff_; exact rfl; exact rfl; omega; exact trivial) | (apply wo_po; apply bc_; exact rfl; exact ra; exact trivial) | (apply wo_po; apply bc_; exact rfl; exact r1; exact trivial) | refine wlssT ?_ | refine bb_ ?_ | (refine wR ?_; try simp only [oS]) | refine ba_ ?_ | refine wM ?_ | refine wD ?_ | (apply wo_po; apply dq_; exact rfl; exact gY) | refine wE ?_ | refine wT ?_ | refine wF ?_ | refine bk_ ?_ | refine bg_ ?_)
    refine bv_ (List.range' 0 26) (by kernel_rfl) ?_
    repeat (first | (apply be_; exact rfl; exact rfl; exact gY; intro L; apply bh_; exact rfl; exact rfl; exact (bin_geqF (by omega))) | (apply be_; exact rfl; exact rfl; exact gY; intro L; apply cf_; exact rfl; exact rfl; omega) | (apply be_; exact rfl; exact rfl; exact gY; intro L; apply ff_; exact rfl; exact rfl; omega) | (apply bn_; exact rfl; exact rfl; exact gY; apply bc_; exact rfl; (first | exact ra | exact rg | exact s1 | exact r2)) | refine aM ?_ | refine aD ?_ | (apply be_; exact rfl; exact rfl; exact gY; intro L; apply ms_; exact rfl))
    refine jk_ (Pd' := []) rfl rfl (by kernel_rfl) rfl rfl rfl (.cons rfl (.cons rfl .nil)) (sh_ (l := ws) (l' := ws) rfl rfl hwl sv rv) (fun v L' x' _ p hp => by cases hp) ?_
    rintro v L' x' ⟨rfl, eL, ex⟩
    subst L' x'
    rw [show decide (ws = ws) = true from decide_eq_true rfl]
    repeat (first | (apply be_; exact rfl; exact rfl; exact gY; intro L; apply dq_; exact rfl) | (apply be_; exact rfl; exact rfl; exact gY; intro L; apply mo_pickF; exact rfl; exact rfl; exact rfl) | refine ca_ ?_)
    repeat (first | (refine wR ?_; try simp only [oS]) | refine ba_ ?_ | refine wM ?_ | refine wA ?_ | refine wadd ?_ | refine wF ?_ | refine bk_ ?_)
    refine dm_ (I := ti_ _ _ _ i ans.length pre.length L) (R := fun k => ans.length - k < ans.length - j) (j + 1) (by omega) (show j + 1 ≤ ans.length by omega) ?_ .refl rfl
    refine ⟨rfl, rfl, rfl, ?_, rfl, trivial⟩
    rw [show min (j + 1) pre.length = j + 1 by omega]; rfl
   ·have hq : q = false := by
     rw [htl, List.getElem?_append_right (by simpa using hjp)] at hy
     exact hfalse _ (List.mem_of_getElem? hy)
    subst hq
    repeat (first | (apply wo_po; apply cf_; exact rfl; exact rfl; omega; exact trivial) | (apply wo_po; apply ff_; exact rfl; exact rfl; omega; exact trivial) | (apply wo_po; apply bc_; exact rfl; exact ra; exact trivial) | (apply wo_po; apply bc_; exact rfl; exact r1; exact trivial) | refine wlssT ?_ | refine bb_ ?_ | (refine wR ?_; try simp only [oS]) | refine ba_ ?_ | refine wM ?_ | refine wA ?_ | refine wD ?_ | (apply wo_po; apply dq_; exact rfl; exact gY) | refine wadd ?_ | refine wE ?_ | refine wT ?_ | refine bk_ ?_ | refine bg_ ?_ | refine cm_ ?_)
    refine dm_ (I := ti_ _ _ _ i ans.length pre.length L) (R := fun k => ans.length - k < ans.length - j) (j + 1) (by omega) (show j + 1 ≤ ans.length by omega) ?_ .refl rfl
    refine ⟨rfl, rfl, rfl, ?_, rfl, trivial⟩
    rw [show min (j + 1) pre.length = min j pre.length by omega]; rfl
  ·obtain rfl : j = ans.length := by omega
   rw [show min ans.length pre.length = pre.length by omega]
   repeat (first | (apply wo_po; apply cf_; exact rfl; exact rfl; omega; exact trivial) | (apply wo_po; apply bc_; exact rfl; (first | exact ra | exact rg); exact trivial) | refine wlssF ?_ | refine wneqF ?_ | refine bb_ ?_ | (refine wR ?_; try simp only [oS]) | refine ba_ ?_ | refine wM ?_ | refine wA ?_ | refine wadd ?_ | refine wE ?_ | refine wF ?_ | refine bk_ ?_ | refine cm_ ?_)
   refine dm_ (I := xs_ x _ _ anss.length L) (R := fun k => anss.length - k < anss.length - i) (i + 1) (by omega) (show i + 1 ≤ anss.length by omega) ?_ .refl rfl
   exact ⟨rfl, rfl, rfl, trivial⟩
 obtain rfl : i = anss.length := by omega
 repeat (first | refine wlssF ?_ | refine bb_ ?_ | (refine wR ?_; try simp only [oS]) | refine ba_ ?_ | refine wM ?_ | refine wA ?_ | refine wE ?_ | refine wF ?_ | refine br_ ?_ | refine cm_ ?_)
 (first | refine or1 Try.func31 Try.results31 hQ rfl ?_ | refine on1 Try.func31 Try.results31 hQ rfl ?_)
 exact ⟨rfl, rfl, rfl⟩
end
end
end Go.Proofs.Ytdcbnbmahndecaa
namespace Go.PB.Mach
section
def AnsOk (t : Th) : Prop := ∃ (pre : List (List Nat)) (tail : List (Bool × List Nat)), t.ans = pre.map (fun w => (true, w)) ++ tail ∧ pre.length = t.call ∧ tail.length ≤ 1 ∧ ∀ y ∈ tail, y.1 = false
theorem wc_ {pre : List (List Nat)} {y : Bool × List Nat} {c : Nat} {g : Bool × List Nat → Bool × List Nat} (h : pre.length = c) : (pre.map (fun w => (true, w)) ++ [y]).modify c g = pre.map (fun w => (true, w)) ++ [g y] := by
 subst h
 induction pre with
 | nil => rfl
 | cons a l ih => simp only [List.map_cons, List.cons_append, List.length_cons, List.modify_succ_cons, ih]
theorem begun_ok {t : Th} (h : AnsOk t) : ∃ (pre : List (List Nat)) (y : Bool × List Nat), t.begun.ans = pre.map (fun w => (true, w)) ++ [y] ∧ pre.length = t.begun.call ∧ y.1 = false := by
 obtain ⟨pre, tail, e, hp, hl, hf⟩ := h
 unfold Th.begun
 match tail, hl with
 | [], _ =>
  rw [if_pos (by rw [e]; simp [hp])]
  exact ⟨pre, (false, []), by simp [e], hp, rfl⟩
 | [y], _ =>
  rw [if_neg (by rw [e]; simp [hp])]
  exact ⟨pre, y, e, hp, hf y (by simp)⟩
theorem done_ok {t : Th} {pre : List (List Nat)} {y : Bool × List Nat} (e : t.ans = pre.map (fun w => (true, w)) ++ [y]) (hp : pre.length = t.call) : AnsOk t.done := by
 refine ⟨pre ++ [y.2], [], ?_, by simp [Th.done, hp], by simp, fun z hz => by simp at hz⟩
 unfold Th.done
 simp only
 rw [e, wc_ hp]
 simp
theorem own_ok {t : Th} {i : In} {pre : List (List Nat)} {y : Bool × List Nat} (e : t.ans = pre.map (fun w => (true, w)) ++ [y]) (hp : pre.length = t.call) (hy : y.1 = false) : AnsOk (own t i) := by
 have base : ∀ u : Th, u.ans = t.ans → u.call = t.call → AnsOk u := fun u h1 h2 => ⟨pre, [y], by rw [h1, e], by rw [h2, hp], by simp, fun z hz => by rw [List.mem_singleton.1 hz]; exact hy⟩
 unfold own
 simp only
 split <;> first
  | exact base _ rfl rfl
  | (split <;> exact base _ rfl rfl)
  | skip
 ·refine ⟨pre, [(y.1, y.2 ++ [t.r i.a])], ?_, hp, by simp, fun z hz => by rw [List.mem_singleton.1 hz]; exact hy⟩
  unfold Th.tell
  simp only
  rw [e, wc_ hp]
theorem on_ok : ∀ {f : Nat} {t t' : Th}, AnsOk t → onF f t = some t' → AnsOk t' := by
 intro f
 induction f with
 | zero => intro t t' _ h; cases h
 | succ f ih =>
  intro t t' ha h
  unfold onF at h
  obtain ⟨pre, y, e, hp, hy⟩ := begun_ok ha
  split at h
  ·cases h; exact ha
  split at h
  ·cases h; exact ha
  split at h
  ·cases h; exact ⟨pre, [y], e, hp, by simp, fun z hz => by rw [List.mem_singleton.1 hz]; exact hy⟩
  split at h
  ·exact ih (done_ok e hp) h
  ·exact ih (own_ok e hp hy) h
theorem op_ok {f : Nat} {w w' : Wd} {t t' : Th} (ha : AnsOk t) (h : opF f w t = some (w', t')) : AnsOk t' := by
 unfold opF at h
 split at h
 ·simp only [Option.map_eq_some_iff] at h
  obtain ⟨u, hu, e⟩ := h
  cases e
  exact on_ok (t := { t with pc := t.pc + 1, r := _ }) ha hu
 ·cases h
theorem te_ {f : Nat} {s s' : St} {k : Nat} (h : ∀ t ∈ s.l, AnsOk t) (ht : turn f s k = some s') : ∀ t ∈ s'.l, AnsOk t := by
 unfold turn at ht
 split at ht
 ·rename_i t hk
  simp only [Option.map_eq_some_iff] at ht
  obtain ⟨y, hy, rfl⟩ := ht
  intro u hu
  rcases List.mem_or_eq_of_mem_set hu with hu | rfl
  ·exact h u hu
  ·exact op_ok (w' := y.1) (h t (List.mem_of_getElem? hk)) hy
 ·cases ht; exact h
theorem pa_ {f : Nat} : ∀ {o : List (Option Nat)} {s s' : St}, (∀ t ∈ s.l, AnsOk t) → byOrder f s o = some s' → ∀ t ∈ s'.l, AnsOk t
 | [], s, s', h, e => by cases e; exact h
 | none :: o, s, s', h, e => pa_ (o := o) h e
 | some k :: o, s, s', h, e => by
  unfold byOrder at e
  split at e
  ·cases ht : turn f s k with
   | none => rw [ht] at e; cases e
   | some s1 => rw [ht] at e; exact pa_ (te_ h ht) e
  ·exact pa_ h e
theorem tk_ {f : Nat} : ∀ {m k : Nat} {s : St} {q : Bool} {y : St × Bool}, (∀ t ∈ s.l, AnsOk t) → round f m k s q = some y → ∀ t ∈ y.1.l, AnsOk t
 | 0, k, s, q, y, h, e => by cases e; exact h
 | m + 1, k, s, q, y, h, e => by
  unfold round at e
  split at e
  ·cases ht : turn f s k with
   | none => rw [ht] at e; cases e
   | some s1 => rw [ht] at e; exact tk_ (te_ h ht) e
  ·exact tk_ h e
theorem rounds_ok {f : Nat} : ∀ {g : Nat} {s s' : St}, (∀ t ∈ s.l, AnsOk t) → rounds f g s = some s' → ∀ t ∈ s'.l, AnsOk t
 | 0, s, s', h, e => by cases e
 | g + 1, s, s', h, e => by
  unfold rounds at e
  cases hr : round f s.l.length 0 s false with
  | none => rw [hr] at e; cases e
  | some y =>
   rw [hr, Option.bind_some] at e
   split at e
   ·exact rounds_ok (tk_ h hr) e
   ·cases e; exact tk_ h hr
theorem begin_ok {f : Nat} : ∀ {l l' : List Th}, (∀ t ∈ l, AnsOk t) → begin_ f l = some l' → ∀ t ∈ l', AnsOk t
 | [], l', h, e => by cases e; exact fun t ht => by simp at ht
 | t :: l, l', h, e => by
  unfold begin_ at e
  cases ho : onF f t with
  | none => rw [ho] at e; cases e
  | some u =>
   rw [ho, Option.bind_some] at e
   simp only [Option.map_eq_some_iff] at e
   obtain ⟨l1, h1, rfl⟩ := e
   intro v hv
   rcases List.mem_cons.1 hv with rfl | hv
   ·exact on_ok (h t (by simp)) ho
   ·exact begin_ok (fun w hw => h w (by simp [hw])) h1 v hv
theorem play_ok {f g : Nat} {w : Wd} {o : List (Option Nat)} {l : List (List Cl)} {st : St} (h : play f g w o l = some st) : ∀ t ∈ st.l, AnsOk t := by
 unfold play at h
 cases hb : begin_ f (l.map fun c => { calls := c }) with
 | none => rw [hb] at h; cases h
 | some l1 =>
  rw [hb, Option.bind_some] at h
  have h1 := begin_ok (fun t ht => by
   obtain ⟨c, _, rfl⟩ := List.mem_map.1 ht
   exact ⟨[], [], rfl, rfl, by simp, fun y hy => by simp at hy⟩) hb
  cases hbo : byOrder f ⟨w, l1, []⟩ o with
  | none => rw [hbo] at h; cases h
  | some s1 =>
   rw [hbo, Option.bind_some] at h
   exact rounds_ok (pa_ (s := ⟨w, l1, []⟩) h1 hbo) h
def AnsN (m : Nat) (t : Th) : Prop := t.ans.length ≤ m ∧ ∀ y ∈ t.ans, y.2.length ≤ m
theorem AnsN.le {m m' : Nat} {t : Th} (h : AnsN m t) (hm : m ≤ m') : AnsN m' t := ⟨Nat.le_trans h.1 hm, fun y hy => Nat.le_trans (h.2 y hy) hm⟩
theorem modify_all {p : Bool × List Nat → Prop} {g : Bool × List Nat → Bool × List Nat} {l : List (Bool × List Nat)} {c : Nat} (h : ∀ y ∈ l, p y ∧ p (g y)) : ∀ y ∈ l.modify c g, p y := fun y hy => by
 obtain ⟨i, hi⟩ := List.mem_iff_getElem?.1 hy
 rw [List.getElem?_modify] at hi
 obtain ⟨z, hz, rfl⟩ := Option.map_eq_some_iff.1 hi
 have := h z (List.mem_of_getElem? hz)
 split
 ·exact this.2
 ·exact this.1
theorem begun_n {m : Nat} {t : Th} (h : AnsN m t) : t.begun.ans.length ≤ m + 1 ∧ ∀ y ∈ t.begun.ans, y.2.length ≤ m := by
 unfold Th.begun
 split
 ·refine ⟨by simp [h.1], fun y hy => ?_⟩
  rcases List.mem_append.1 hy with hy | hy
  ·exact h.2 y hy
  ·rw [List.mem_singleton.1 hy]; exact Nat.zero_le _
 ·exact ⟨Nat.le_succ_of_le h.1, h.2⟩
theorem own_n {m : Nat} {t : Th} {i : In} (h : t.ans.length ≤ m + 1 ∧ ∀ y ∈ t.ans, y.2.length ≤ m) : AnsN (m + 1) (own t i) := by
 have base : ∀ u : Th, u.ans = t.ans → AnsN (m + 1) u := fun u h1 => ⟨h1 ▸ h.1, fun y hy => Nat.le_succ_of_le (h.2 y (h1 ▸ hy))⟩
 unfold own
 simp only
 split <;> first
  | exact base _ rfl
  | (split <;> exact base _ rfl)
  | skip
 refine ⟨by unfold Th.tell; simpa using h.1, ?_⟩
 unfold Th.tell
 refine modify_all (p := fun y => y.2.length ≤ m + 1) fun y hy => ⟨Nat.le_succ_of_le (h.2 y hy), ?_⟩
 simpa using h.2 y hy
theorem done_n {m : Nat} {t : Th} (h : t.ans.length ≤ m + 1 ∧ ∀ y ∈ t.ans, y.2.length ≤ m) : AnsN (m + 1) t.done := by
 refine ⟨by unfold Th.done; simpa using h.1, ?_⟩
 unfold Th.done
 exact modify_all (p := fun y => y.2.length ≤ m + 1) fun y hy => ⟨Nat.le_succ_of_le (h.2 y hy), Nat.le_succ_of_le (h.2 y hy)⟩
theorem on_n : ∀ {f m : Nat} {t t' : Th}, AnsN m t → onF f t = some t' → AnsN (m + f) t' := by
 intro f
 induction f with
 | zero => intro m t t' _ h; cases h
 | succ f ih =>
  intro m t t' ha h
  unfold onF at h
  have hb := begun_n ha
  split at h
  ·cases h; exact ha.le (by omega)
  split at h
  ·cases h; exact AnsN.le (t := { t with over := true }) ha (by omega)
  split at h
  ·cases h; exact ⟨by have := hb.1; omega, fun y hy => by have := hb.2 y hy; omega⟩
  split at h
  ·exact (ih (done_n hb) h).le (by omega)
  ·exact (ih (own_n hb) h).le (by omega)
theorem op_n {f m : Nat} {w w' : Wd} {t t' : Th} (ha : AnsN m t) (h : opF f w t = some (w', t')) : AnsN (m + f) t' := by
 unfold opF at h
 split at h
 ·simp only [Option.map_eq_some_iff] at h
  obtain ⟨u, hu, e⟩ := h
  cases e
  exact on_n (t := { t with pc := t.pc + 1, r := _ }) ha hu
 ·cases h
def StN (f : Nat) (s : St) : Prop := ∀ t ∈ s.l, AnsN (f * (s.tr.length + 1)) t
theorem turn_n {f : Nat} {s s' : St} {k : Nat} (h : StN f s) (ht : turn f s k = some s') : StN f s' := by
 unfold turn at ht
 split at ht
 ·rename_i t hk
  simp only [Option.map_eq_some_iff] at ht
  obtain ⟨y, hy, rfl⟩ := ht
  intro u hu
  show AnsN (f * ((s.tr ++ [(k, t.mark)]).length + 1)) u
  have e : f * ((s.tr ++ [(k, t.mark)]).length + 1) = f * (s.tr.length + 1) + f := by rw [List.length_append]; show f * (s.tr.length + 1 + 1) = _; rw [Nat.mul_succ]
  rw [e]
  rcases List.mem_or_eq_of_mem_set hu with hu | rfl
  ·exact (h u hu).le (by omega)
  ·exact op_n (w' := y.1) (h t (List.mem_of_getElem? hk)) hy
 ·cases ht; exact h
theorem qy_ {f : Nat} : ∀ {o : List (Option Nat)} {s s' : St}, StN f s → byOrder f s o = some s' → StN f s'
 | [], s, s', h, e => by cases e; exact h
 | none :: o, s, s', h, e => qy_ (o := o) h e
 | some k :: o, s, s', h, e => by
  unfold byOrder at e
  split at e
  ·cases ht : turn f s k with
   | none => rw [ht] at e; cases e
   | some s1 => rw [ht] at e; exact qy_ (turn_n h ht) e
  ·exact qy_ h e
theorem wp_ {f : Nat} : ∀ {m k : Nat} {s : St} {q : Bool} {y : St × Bool}, StN f s → round f m k s q = some y → StN f y.1
 | 0, k, s, q, y, h, e => by cases e; exact h
 | m + 1, k, s, q, y, h, e => by
  unfold round at e
  split at e
  ·cases ht : turn f s k with
   | none => rw [ht] at e; cases e
   | some s1 => rw [ht] at e; exact wp_ (turn_n h ht) e
  ·exact wp_ h e
theorem rounds_n {f : Nat} : ∀ {g : Nat} {s s' : St}, StN f s → rounds f g s = some s' → StN f s'
 | 0, s, s', h, e => by cases e
 | g + 1, s, s', h, e => by
  unfold rounds at e
  cases hr : round f s.l.length 0 s false with
  | none => rw [hr] at e; cases e
  | some y =>
   rw [hr, Option.bind_some] at e
   split at e
   ·exact rounds_n (wp_ h hr) e
   ·cases e; exact wp_ h hr
theorem begin_n {f : Nat} : ∀ {l l' : List Th}, (∀ t ∈ l, AnsN 0 t) → begin_ f l = some l' → ∀ t ∈ l', AnsN f t
 | [], l', h, e => by cases e; exact fun t ht => by simp at ht
 | t :: l, l', h, e => by
  unfold begin_ at e
  cases ho : onF f t with
  | none => rw [ho] at e; cases e
  | some u =>
   rw [ho, Option.bind_some] at e
   simp only [Option.map_eq_some_iff] at e
   obtain ⟨l1, h1, rfl⟩ := e
   intro v hv
   rcases List.mem_cons.1 hv with rfl | hv
   ·have := on_n (h t (by simp)) ho
    rwa [Nat.zero_add] at this
   ·exact begin_n (fun w hw => h w (by simp [hw])) h1 v hv
theorem play_n {f g : Nat} {w : Wd} {o : List (Option Nat)} {l : List (List Cl)} {st : St} (h : play f g w o l = some st) : StN f st := by
 unfold play at h
 cases hb : begin_ f (l.map fun c => { calls := c }) with
 | none => rw [hb] at h; cases h
 | some l1 =>
  rw [hb, Option.bind_some] at h
  have h1 : StN f ⟨w, l1, []⟩ := fun t ht => by
   have := begin_n (fun t ht => by
    obtain ⟨c, _, rfl⟩ := List.mem_map.1 ht
    exact ⟨Nat.le_refl 0, fun y hy => by simp at hy⟩) hb t ht
   exact this.le (by show f ≤ f * (0 + 1); omega)
  cases hbo : byOrder f ⟨w, l1, []⟩ o with
  | none => rw [hbo] at h; cases h
  | some s1 =>
   rw [hbo, Option.bind_some] at h
   exact rounds_n (qy_ h1 hbo) h
end
end Go.PB.Mach
namespace Go.PB
open Go
section
def Dup (c : HProp) : Prop := ∀ (L : List HProp) (h : Hp), Star (c :: L) h → Star (c :: c :: L) h
theorem mw_ {b o : Nat} {vs : List Value} : Dup (fro b o vs) := fun L h s => fro_two s
theorem qe_ {c : HProp} {M L : List HProp} {h : Hp} (s : Star (all (c :: M) :: L) h) : Star (c :: all M :: L) h :=
 bp_ (bt_ (M := c :: M) s) (fun _ z => z) fun _ z => bm_ z
theorem kf_ {c : HProp} {M L : List HProp} {h : Hp} (s : Star (c :: all M :: L) h) : Star (all (c :: M) :: L) h :=
 bm_ (M := c :: M) (bp_ s (fun _ z => z) fun _ z => bt_ z)
theorem dup_all : ∀ {M : List HProp}, (∀ c ∈ M, Dup c) → Dup (all M)
 | [], _ => fun L h s => bm_ (M := []) s
 | c :: M, hM => fun L h s => by
  have s1 := hM c (by simp) _ _ (qe_ s)
  have s2 : Star (all M :: c :: c :: L) h := Ent.star (.take (.there (.there .here)) (.take .here (.take .here .refl))) s1
  have s3 := dup_all (fun d hd => hM d (by simp [hd])) _ _ s2
  have s4 : Star (c :: all M :: c :: all M :: L) h := Ent.star (.take (.there (.there .here)) (.take .here (.take (.there .here) (.take .here .refl)))) s3
  exact kf_ (bp_ s4 (fun _ z => z) fun _ z => bp_ z (fun _ z => z) fun _ z => kf_ z)
theorem dup_many {c : HProp} (hc : Dup c) {L : List HProp} {h : Hp} (s : Star (c :: L) h) : ∀ n, Star (all (List.replicate n c) :: c :: L) h
 | 0 => bm_ (M := []) s
 | n + 1 => by
  have s1 := dup_many hc s n
  have s2 := hc _ _ (cy_ s1)
  have s3 : Star (c :: all (List.replicate n c) :: c :: L) h := Ent.star (.take .here (.take (.there .here) (.take .here .refl))) s2
  rw [List.replicate_succ]
  exact kf_ s3
theorem xk_ : ∀ {As Bs L : List HProp} {h : Hp}, As.length = Bs.length → Star (all As :: all Bs :: L) h → Star (all (List.zipWith (fun a b => all [a, b]) As Bs) :: L) h
 | [], [], L, h, _, s => bm_ (M := []) (cg_ (cg_ s))
 | [], b :: Bs, L, h, e, s => by simp at e
 | a :: As, [], L, h, e, s => by simp at e
 | a :: As, b :: Bs, L, h, e, s => by
  have s1 := qe_ s
  have s2 : Star (all (b :: Bs) :: a :: all As :: L) h := Ent.star (.take (.there (.there .here)) (.take .here (.take .here .refl))) s1
  have s3 := qe_ s2
  have s4 : Star (all As :: all Bs :: a :: b :: L) h := Ent.star (.take (.there (.there (.there .here))) (.take (.there .here) (.take (.there .here) (.take .here .refl)))) s3
  have s5 := xk_ (by simpa using e) s4
  have s6 : Star (a :: b :: all (List.zipWith (fun a b => all [a, b]) As Bs) :: L) h := Ent.star (.take (.there .here) (.take (.there .here) (.take .here .refl))) s5
  exact kf_ (bm_ (M := [_, _]) s6)
theorem all_mono : ∀ {As Bs L : List HProp} {h : Hp}, As.length = Bs.length → (∀ (i : Nat) a b, As[i]? = some a → Bs[i]? = some b → ∀ h, a h → b h) → Star (all As :: L) h → Star (all Bs :: L) h
 | [], [], L, h, _, _, s => s
 | [], b :: Bs, L, h, e, _, s => by simp at e
 | a :: As, [], L, h, e, _, s => by simp at e
 | a :: As, b :: Bs, L, h, e, m, s => by
  have s1 := qe_ s
  refine kf_ (bp_ s1 (m 0 a b rfl rfl) fun h z => ?_)
  exact all_mono (by simpa using e) (fun i a b ha hb => m (i + 1) a b ha hb) z
theorem ky_ : ∀ {M L : List HProp} {h : Hp}, Star (M ++ L) h → Star (all L :: M) h
 | [], L, h, s => bm_ (L := []) (by rw [List.append_nil]; exact s)
 | c :: M, L, h, s => cy_ (bp_ (L := M ++ L) s (fun _ z => z) fun _ z => ky_ z)
theorem zeros_rep {n : Nat} {v : Value} : zeros n [v] = List.replicate n v := by
 unfold zeros
 induction n with
 | zero => rfl
 | succ n ih => rw [List.replicate_succ, List.flatten_cons, ih, List.replicate_succ]; rfl
end
end Go.PB
namespace Go.Proofs.Ytdcbnbmahndecaa
open Go Go.PB
attribute [local irreducible] Mo Bin Eql Tr Wo Ap Wle
section
def gotC (gb k : Nat) (pre : List (List Nat)) : HProp := fun h => ∃ y : Value × List (Value × List Nat), y.2.map (·.2) = pre ∧ all [arr gb k [y.1], vec 1 y.1 (y.2.map (·.1)), all (y.2.map rowT)] h
def he_ (t : Mach.Th) : List (List Nat) := (t.ans.filter (·.1)).map (·.2)
def rgPv (gb : Nat) (q : Nat × Mach.Th) : HProp := fun h => Star [gotC gb q.1 (he_ q.2)] h
theorem wr_ {gb : Nat} : ∀ q h, Star [rgPv gb q] h → rgPv gb q h := fun q h st => bt_ (M := [_]) st
def yesA (pre : List (List Nat)) : List (Bool × List Nat) := pre.map fun w => (true, w)
theorem yesA_len {pre : List (List Nat)} : (yesA pre).length = pre.length := by simp [yesA]
theorem yesA_snoc {pre : List (List Nat)} {w : List Nat} : yesA pre ++ [(true, w)] = yesA (pre ++ [w]) := by simp [yesA]
theorem sv_ {pre : List (List Nat)} : ((yesA pre).filter (·.1)).map (·.2) = pre := by
 induction pre with
 | nil => rfl
 | cons a l ih => simp only [yesA, List.map_cons] at ih ⊢; simp [List.filter_cons, ih]
theorem doneOf_T {cs : List Mach.Cl} {c p : Nat} {r : Nat → Nat} {pre : List (List Nat)} {said : List Nat} : he_ (Mach.T cs c p r (yesA pre) said) = pre := by
 unfold he_ Mach.T
 simp only [List.filter_append, List.map_append, sv_]
 simp
theorem told_of {t : Mach.Th} (h : Mach.AnsOk t) : Told t.ans (he_ t) := by
 obtain ⟨pre, tail, e, hp, hl, hf⟩ := h
 have h1 : tail.filter (·.1) = [] := List.filter_eq_nil_iff.2 fun y hy => by rw [hf y hy]; decide
 have h2 : he_ t = pre := by
  unfold he_
  rw [e, List.filter_append, h1, List.append_nil]
  exact sv_
 rw [h2]
 exact ⟨tail, e, hf⟩
theorem hd_ {M L : List HProp} {b o : Nat} {v : Value} (r : Rd M b o v) : Rd (all M :: L) b o v := fun h s =>
 r h (cg_ (ky_ (bt_ s)))
theorem rdso_vec {L F : List HProp} {a : Option Addr} {n c : Nat} {cs : List Value} (hh : Has L (vec 1 (.slice a n c) cs) F) (hn : cs.length = n * 1) (hz : a = none → n = 0) (hy : ∀ y, a = some y → y = ⟨y.block, y.off, none⟩) : RdsO L a n cs := by
 refine ⟨by omega, ?_⟩
 cases a with
 | none => exact .inl (hz rfl)
 | some y =>
  obtain ⟨b, o, sp⟩ := y
  cases hy _ rfl
  exact .inr ⟨b, o, rfl, fun i v hi => dc_ hh hi⟩
theorem alls_ex {Y : Type} : ∀ {M : List HProp} {C : Nat → Y → HProp} {Q : Nat → Y → Prop} (hM : ∀ (k : Nat) c, M[k]? = some c → ∀ h, c h → ∃ y, Q k y ∧ C k y h) {L : List HProp} {h : Hp}, Star (all M :: L) h →
  ∃ ys : List Y, (ys.length = M.length ∧ ∀ (k : Nat) y, ys[k]? = some y → Q k y) ∧ Star (all (ys.mapIdx C) :: L) h
 | [], C, Q, hM, L, h, s => ⟨[], ⟨rfl, fun k y hy => by simp at hy⟩, s⟩
 | c :: M, C, Q, hM, L, h, s => by
  obtain ⟨h1, h2, sp, hc, hr⟩ := qe_ s
  obtain ⟨y, hq, hy⟩ := hM 0 c rfl h1 hc
  obtain ⟨ys, ⟨hl, hQ⟩, hs⟩ := alls_ex (C := fun k => C (k + 1)) (Q := fun k => Q (k + 1)) (fun k c hk => hM (k + 1) c hk) hr
  refine ⟨y :: ys, ⟨by simp [hl], fun k z hz => ?_⟩, ?_⟩
  ·cases k with
   | zero => cases hz; exact hq
   | succ k => exact hQ k z hz
  ·rw [List.mapIdx_cons]
   exact kf_ ⟨h1, h2, sp, hy, hs⟩
theorem rd_item {M L : List HProp} {c : HProp} {k b o : Nat} {v : Value} (e : M[k]? = some c) (r : Rd [c] b o v) : Rd (all M :: L) b o v := fun h s => by
 obtain ⟨h1, h2, sp, hc, hr⟩ := PB.star_pick e s
 exact (Rd.of (R := all (M.eraseIdx k) :: L) .here r) h ⟨h1, h2, sp, hc, hr⟩
def Shp (v : Value) (n : Nat) : Prop := ∃ a c, v = .slice a n c ∧ (a = none → n = 0) ∧ ∀ y, a = some y → y = ⟨y.block, y.off, none⟩
theorem shp_vec {v : Value} {cs : List Value} {h : Hp} (hv : vec 1 v cs h) : Shp v cs.length := by
 obtain ⟨a, n, c, rfl, hn, _, hz, hy⟩ := bi_ (by omega) h hv
 obtain rfl : n = cs.length := by omega
 exact ⟨a, c, rfl, hz, hy⟩
theorem shp_rows {ι : Type} {f : ι → Value × List Nat} {l : List ι} {h : Hp} (s : all (l.map fun y => vec 1 (f y).1 ((f y).2.map num)) h) : ∀ z ∈ l, Shp (f z).1 (f z).2.length := fun z hz => by
 obtain ⟨i, hi⟩ := List.mem_iff_getElem?.1 hz
 have s1 : Star (all (l.map fun y => vec 1 (f y).1 ((f y).2.map num)) :: []) h := kb_ s
 obtain ⟨h1, h2, sp, hc, hr⟩ := PB.star_pick (i := i) (c := vec 1 (f z).1 ((f z).2.map num)) (by rw [List.getElem?_map, hi]; rfl) s1
 have := shp_vec hc
 simpa using this
def gotY (gb k : Nat) (y : Value × List (Value × List Nat)) : HProp := all [arr gb k [y.1], vec 1 y.1 (y.2.map (·.1)), all (y.2.map rowT)]
def GotQ (l : List (List (List Nat))) (k : Nat) (y : Value × List (Value × List Nat)) : Prop := l[k]? = some (y.2.map (·.2)) ∧ Shp y.1 y.2.length ∧ ∀ z ∈ y.2, Shp z.1 z.2.length
theorem gots_ex {gb : Nat} {l : List Mach.Th} {L : List HProp} {h : Hp} (s : Star (all (l.mapIdx fun k t => rgPv gb (k, t)) :: L) h) :
  ∃ ys : List (Value × List (Value × List Nat)), (ys.length = l.length ∧ ∀ (k : Nat) y, ys[k]? = some y → GotQ (l.map he_) k y) ∧ Star (all (ys.mapIdx (gotY gb)) :: L) h := by
 obtain ⟨ys, ⟨h1, h2⟩, h3⟩ := alls_ex (C := gotY gb) (Q := GotQ (l.map he_)) (fun k c hk h hc => by
  rw [List.getElem?_mapIdx, Option.map_eq_some_iff] at hk
  obtain ⟨t, ht, rfl⟩ := hk
  obtain ⟨h1, h2, sp, ⟨y, hy, hc⟩, _⟩ := hc
  have sg : gotY gb k y h1 := hc
  have hh := wr_ (gb := gb) (k, t)
  refine ⟨y, ⟨?_, ?_, ?_⟩, ?_⟩
  ·rw [List.getElem?_map, ht, hy]; rfl
  ·obtain ⟨g1, g2, sp1, _, g3, g4, sp2, hv, _⟩ := hc
   simpa using shp_vec hv
  ·obtain ⟨g1, g2, sp1, _, g3, g4, sp2, hv, g5, g6, sp3, hr, _⟩ := hc
   exact shp_rows (f := fun y : Value × List Nat => y) hr
  ·have s1 : Star (gotY gb k y :: []) h := ⟨h1, h2, sp, sg, ‹_›⟩
   exact bt_ (M := [_, _, _]) s1) s
 exact ⟨ys, ⟨by simpa using h1, h2⟩, h3⟩
theorem Rd.deep {M L F : List HProp} {c : HProp} {k b o : Nat} {v : Value} (hh : Has L (all M) F) (e : M[k]? = some c) (r : Rd [c] b o v) : Rd L b o v := Rd.of hh (rd_item e r)
theorem gots_at {gb : Nat} {l : List (List (List Nat))} {ys : List (Value × List (Value × List Nat))} {L F : List HProp} (hh : Has L (all (ys.mapIdx (gotY gb))) F) (hl : ys.length = l.length) (hq : ∀ (k : Nat) y, ys[k]? = some y → GotQ l k y) : GotsAt L (some ⟨gb, 0, none⟩) l := fun k pre hk => by
 have hlt := (List.getElem?_eq_some_iff.1 hk).1
 obtain ⟨y, hy⟩ : ∃ y, ys[k]? = some y := ⟨ys[k]'(by omega), List.getElem?_eq_getElem _⟩
 obtain ⟨q1, ⟨a, c, ev, hz, hs⟩, q3⟩ := hq k y hy
 rw [hk] at q1
 obtain rfl : pre = y.2.map (·.2) := by simpa using q1
 have e : (ys.mapIdx (gotY gb))[k]? = some (gotY gb k y) := by rw [List.getElem?_mapIdx, hy]; rfl
 refine ⟨gb, 0, y.1, rfl, Rd.deep hh e (hd_ (Rd.row (k := 0) rfl (by omega))), a, c, by rw [ev]; simp, fun j ws hj => ?_⟩
 rw [List.getElem?_map, Option.map_eq_some_iff] at hj
 obtain ⟨z, hz1, rfl⟩ := hj
 obtain ⟨a', c', ev', hz', hs'⟩ := q3 z (List.mem_of_getElem? hz1)
 have hjl := (List.getElem?_eq_some_iff.1 hz1).1
 cases a with
 | none => have := hz rfl; omega
 | some w =>
  obtain ⟨b, o, sp⟩ := w
  cases hs _ rfl
  refine ⟨b, o, a', c', rfl, ?_, fun i v hi => ?_⟩
  ·refine Rd.deep hh e (hd_ (M := [_, _, _]) (dc_ (cs := y.2.map (·.1)) (by rw [ev]; exact (.there .here)) ?_))
   rw [List.getElem?_map, hz1, ← ev']; rfl
  ·cases a' with
   | none => have := hz' rfl; have := (List.getElem?_eq_some_iff.1 hi).1; omega
   | some w' =>
    obtain ⟨b', o', sp'⟩ := w'
    cases hs' _ rfl
    have e2 : (y.2.map rowT)[j]? = some (rowT z) := by rw [List.getElem?_map, hz1]; rfl
    refine ⟨b', o', rfl, Rd.deep hh e (hd_ (M := [_, _, _]) (Rd.deep (.there (.there .here)) e2 (dc_ (n := z.2.length) (sz := 1) (c := c') (F := []) (cs := z.2.map num) ?_ (by rw [List.getElem?_map, hi]; rfl))))⟩
    have : rowT z = vec 1 (.slice (some ⟨b', o', none⟩) z.2.length c') (z.2.map num) := by unfold rowT; rw [ev']
    rw [this]
    exact .here
def ansY (_k : Nat) (y : Value × List (Bool × Value × List Nat)) : HProp := all [vec 2 y.1 (y.2.map ansV).flatten, all (y.2.map ansT)]
def AnsQ (os : List (Value × List (Bool × List Nat))) (k : Nat) (y : Value × List (Bool × Value × List Nat)) : Prop := os[k]? = some (y.1, y.2.map ansOf) ∧ Shp y.1 y.2.length ∧ ∀ z ∈ y.2, Shp z.2.1 z.2.2.length
theorem anss_ex {os : List (Value × List (Bool × List Nat))} {L : List HProp} {h : Hp} (s : Star (all (os.map ansK) :: L) h) :
  ∃ ys : List (Value × List (Bool × Value × List Nat)), (ys.length = os.length ∧ ∀ (k : Nat) y, ys[k]? = some y → AnsQ os k y) ∧ Star (all (ys.mapIdx ansY) :: L) h := by
 obtain ⟨ys, ⟨h1, h2⟩, h3⟩ := alls_ex (C := ansY) (Q := AnsQ os) (fun k c hk h hc => by
  rw [List.getElem?_map, Option.map_eq_some_iff] at hk
  obtain ⟨y, hy, rfl⟩ := hk
  obtain ⟨al, hal, hc⟩ := hc
  refine ⟨(y.1, al), ⟨?_, ?_, ?_⟩, hc⟩
  ·rw [hy, hal]
  ·obtain ⟨g1, g2, sp1, hv, _⟩ := hc
   obtain ⟨a, n, c, e, hn, _, hz, hs⟩ := bi_ (by omega) _ hv
   obtain rfl : n = al.length := by rw [gj_ (k := 2) (fun _ => rfl)] at hn; omega
   exact ⟨a, c, e, hz, hs⟩
  ·obtain ⟨g1, g2, sp1, hv, g5, g6, sp3, hr, _⟩ := hc
   exact shp_rows (f := fun y : Bool × Value × List Nat => y.2) hr) s
 exact ⟨ys, ⟨by simpa using h1, h2⟩, h3⟩
theorem anss_at {os : List (Value × List (Bool × List Nat))} {ys : List (Value × List (Bool × Value × List Nat))} {a : Option Addr} {n c : Nat} {L F F' : List HProp} (hv : Has L (vec 1 (.slice a n c) (os.map (·.1))) F') (hn : (os.map (·.1)).length = n * 1) (hz : a = none → n = 0) (hs : ∀ y, a = some y → y = ⟨y.block, y.off, none⟩)
  (hh : Has L (all (ys.mapIdx ansY)) F) (hl : ys.length = os.length) (hq : ∀ (k : Nat) y, ys[k]? = some y → AnsQ os k y) : AnssAt L a (os.map (·.2)) := fun k ans hk => by
 have hlt := (List.getElem?_eq_some_iff.1 hk).1
 simp only [List.length_map] at hlt hn
 obtain ⟨y, hy⟩ : ∃ y, ys[k]? = some y := ⟨ys[k]'(by omega), List.getElem?_eq_getElem _⟩
 obtain ⟨q1, ⟨ya, yc, ev, yz, yh⟩, q3⟩ := hq k y hy
 rw [List.getElem?_map, q1] at hk
 obtain rfl : ans = y.2.map ansOf := by simpa using hk.symm
 have e : (ys.mapIdx ansY)[k]? = some (ansY k y) := by rw [List.getElem?_mapIdx, hy]; rfl
 cases a with
 | none => have := hz rfl; omega
 | some w =>
  obtain ⟨b, o, sp⟩ := w
  cases hs _ rfl
  refine ⟨b, o, y.1, rfl, dc_ hv (by rw [List.getElem?_map, q1]; rfl), ya, yc, by rw [ev]; simp, fun j q hj => ?_⟩
  rw [List.getElem?_map, Option.map_eq_some_iff] at hj
  obtain ⟨z, hz1, rfl⟩ := hj
  obtain ⟨a', c', ev', hz', hs'⟩ := q3 z (List.mem_of_getElem? hz1)
  have hjl := (List.getElem?_eq_some_iff.1 hz1).1
  cases ya with
  | none => have := yz rfl; omega
  | some w =>
   obtain ⟨b1, o1, sp⟩ := w
   cases yh _ rfl
   have hf : ∀ i, i < 2 → ((y.2.map ansV).flatten)[2 * j + i]? = (ansV z)[i]? := fun i hi => hv_ (f := ansV) (k := 2) (fun _ => rfl) _ _ _ _ hz1 hi
   refine ⟨b1, o1, a', c', rfl, ?_, ?_, fun i v hi => ?_⟩
   ·exact Rd.deep hh e (hd_ (M := [_, _]) (dc_ (i := 2 * j) (cs := (y.2.map ansV).flatten) (by rw [ev]; exact .here) (hf 0 (by omega))))
   ·have := Rd.deep (b := b1) (o := o1 + (2 * j + 1)) (v := z.2.1) hh e (hd_ (M := [_, _]) (dc_ (i := 2 * j + 1) (cs := (y.2.map ansV).flatten) (by rw [ev]; exact .here) (hf 1 (by omega))))
    rw [ev', ← Nat.add_assoc] at this
    exact this
   ·cases a' with
    | none => have := hz' rfl; have := (List.getElem?_eq_some_iff.1 hi).1; simp only [ansOf] at this; omega
    | some w' =>
     obtain ⟨b', o', sp'⟩ := w'
     cases hs' _ rfl
     have e2 : (y.2.map ansT)[j]? = some (ansT z) := by rw [List.getElem?_map, hz1]; rfl
     refine ⟨b', o', rfl, Rd.deep hh e (hd_ (M := [_, _]) (Rd.deep (.there .here) e2 (dc_ (n := z.2.2.length) (sz := 1) (c := c') (F := []) (cs := z.2.2.map num) ?_ (by rw [List.getElem?_map]; simp only [ansOf] at hi; rw [hi]; rfl))))⟩
     have : ansT z = vec 1 (.slice (some ⟨b', o', none⟩) z.2.2.length c') (z.2.2.map num) := by unfold ansT; rw [ev']
     rw [this]
     exact .here
theorem trC_CP : ∀ {l : List (Nat × Nat × Nat)}, (l.map trC).flatten = trCP (l.map fun e => (e.1, mkII e.2))
 | [] => rfl
 | e :: l => by
  have := trC_CP (l := l)
  simp only [List.map_cons, List.flatten_cons, trCP, this]
  rfl
theorem rdtr_vec {L F : List HProp} {a : Option Addr} {n c : Nat} {tr : List (Nat × (Int × Int))} (hh : Has L (vec 3 (.slice a n c) (trCP tr)) F) (hn : tr.length = n) (hz : a = none → n = 0) (hs : ∀ y, a = some y → y = ⟨y.block, y.off, none⟩) : RdTr L a tr := fun i t hi => by
 have hlt := (List.getElem?_eq_some_iff.1 hi).1
 cases a with
 | none => have := hz rfl; omega
 | some w =>
  obtain ⟨b, o, sp⟩ := w
  cases hs _ rfl
  refine ⟨b, o, rfl, fun j v hj => ?_⟩
  have hjl := (List.getElem?_eq_some_iff.1 hj).1
  rw [Nat.add_assoc]
  refine dc_ hh ?_
  exact (hv_ (f := fun t : Nat × (Int × Int) => [Value.int .i64 (t.1 : Nat), .int .u8 t.2.1, .int .i64 t.2.2]) (k := 3) (fun _ => rfl) _ _ _ _ hi (by simpa using hjl)).trans hj
theorem cut_le {st : Mach.St} : (Mach.St.cut st).length ≤ st.l.length := by
 unfold Mach.St.cut
 exact Nat.le_trans (List.length_filter_le _ _) (by simp)
theorem star_exs {ι : Type} {P : ι → Prop} {c : ι → HProp} {L : List HProp} {h : Hp} (s : ∃ y, P y ∧ Star (c y :: L) h) : Star ((fun h => ∃ y, P y ∧ c y h) :: L) h := by
 obtain ⟨y, hp, h1, h2, sp, hc, hr⟩ := s
 exact ⟨h1, h2, sp, ⟨y, hp, hc⟩, hr⟩
theorem rdi_vec {L F : List HProp} {a : Option Addr} {n c : Nat} {l : List Nat} (hh : Has L (vec 1 (.slice a n c) (cutC l)) F) (hn : l.length = n) (hz : a = none → n = 0) (hs : ∀ y, a = some y → y = ⟨y.block, y.off, none⟩) : RdI L a l := fun i t hi => by
 have hlt := (List.getElem?_eq_some_iff.1 hi).1
 cases a with
 | none => have := hz rfl; omega
 | some w =>
  obtain ⟨b, o, sp⟩ := w
  cases hs _ rfl
  exact ⟨b, o, rfl, dc_ hh (by unfold cutC; rw [List.getElem?_map, hi]; rfl)⟩
end
section
structure ThRo (Ro : HProp) (p8 ib rb gt qb qo nt qc gb gc k r : Nat) (a : Option Addr) (c : Nat) (l : List (Int × Nat)) : Prop where
 h1 : Rd [Ro] p8 0 (.slice (some ⟨qb, qo, none⟩) nt qc)
 h2 : Rd [Ro] qb (qo + k) (.slice a l.length c)
 h3 : ∀ (i : Nat) y, l[i]? = some y → ∃ b o, a = some ⟨b, o, none⟩ ∧ Rds [Ro] b (o + 2 * i) [.int .i64 y.1, .int .u64 (y.2 : Nat)]
 h4 : Rd [Ro] ib 0 (.int .i64 (k : Nat))
 h5 : Rd [Ro] rb 0 (.pointer (some ⟨r, 0, none⟩))
 h6 : Rd [Ro] gt 0 (.slice (some ⟨gb, 0, none⟩) nt gc)
 hk : k < nt
 hl : l.length ≤ 16
 ok : ∀ y ∈ l, (-9223372036854775808 ≤ y.1 ∧ y.1 ≤ 9223372036854775807) ∧ y.2 < 18446744073709551616
def fv_ (n : Nat) (l : List (Int × Nat)) : List Mach.Cl := l.map fun y => fh_ n (y.1 % 3).toNat y.2
theorem mz_ {n : Nat} {l : List (Int × Nat)} (h : ∀ y ∈ l, y.2 < 18446744073709551616) : fy_ n (fv_ n l) := fun i cl hi => by
 simp only [fv_, List.getElem?_map, Option.map_eq_some_iff] at hi
 obtain ⟨y, hy, rfl⟩ := hi
 exact ⟨_, _, rfl, h y (List.mem_of_getElem? hy)⟩
section
variable {n j r b gb gd k : Nat} {sb says turn fin wg : Nat}
abbrev ringG (n r b gb gd : Nat) : Game := wG (rowD (n + 2)) (bx_ r b) (n + 2) [(r, 2, .slice (some ⟨b, 0, none⟩) n n)] (arr gd 0 [.bool true]) (rgPv gb)
abbrev ringP (n r b gd sb says turn fin gb k : Nat) (pre : List (List Nat)) (f : Nat → Nat) : HProp := plC (bx_ r b) (n + 2) [(r, 2, .slice (some ⟨b, 0, none⟩) n n)] (arr gd 0 [.bool true]) sb says turn fin (gotC gb k pre) f
theorem ring_at_p {pre : List (List Nat)} (h : r ≠ b) (hn : n = 2 ^ j) (hj : j ≤ 10) : RingAt (kk_ (rowD (n + 2)) (bx_ r b) (n + 2) _ (ft_ h n) (arr gd 0 [.bool true]) (rgPv gb) wr_ sb says turn fin wg k (gotC gb k pre)) r b n j where
 hn := hn
 hk := hj
 hdr := fun s h hs => by
  obtain ⟨h1, h2, s1, hc, _⟩ := hs
  obtain ⟨h3, h4, s2, hd, _⟩ := hc
  exact ⟨rfl, .inl (s1.o1 _ _ _ (s2.o1 _ _ _ (hd.2 (r, 2, .slice (some ⟨b, 0, none⟩) n n) (List.mem_singleton.2 rfl))))⟩
 a0 := rfl
 a1 := rfl
 a2 := fun i _ => by show bx_ r b (2 + i) = _; rw [Nat.add_comm]; rfl
def thInv (n r b gb gd k sb says turn fin wg p8 ib rb gt : Nat) (l : List (Int × Nat)) (Ro : HProp) (F : List HProp) : PB.Inv (Nat × List (List Nat) × PlS) TX where
 e := fun i => [(0, gateV sb), (1, .pointer (some ⟨p8, 0, none⟩)), (2, .pointer (some ⟨ib, 0, none⟩)), (3, .pointer (some ⟨rb, 0, none⟩)), (4, .pointer (some ⟨gd, 0, none⟩)), (5, .pointer (some ⟨gt, 0, none⟩)), (7, .int .i64 (i.1 : Nat))]
 L := fun i => ringP n r b gd sb says turn fin gb k i.2.1 i.2.2.f :: Ro :: F
 x := fun i => tx (ringG n r b gb gd) says turn fin wg (.busy i.2.2.g ((k, i.2.2.t) : Nat × Mach.Th) i.2.2.n)
 ok := fun i => i.1 ≤ l.length ∧ i.2.1.length = i.1 ∧ Mach.onF 20 (Mach.Bt (fv_ n l) i.1 (yesA i.2.1)) = some i.2.2.t ∧ ∀ q, q < n + 2 → i.2.2.f q = i.2.2.g q
set_option maxHeartbeats 2000000 in
theorem thr_ok {p8 ib rb gt qb qo nt qc gc c : Nat} {a : Option Addr} {l : List (Int × Nat)} {Ro : HProp} (h : r ≠ b) (hn : n = 2 ^ j) (hj : j ≤ 10) (O : ThRo Ro p8 ib rb gt qb qo nt qc gb gc k r a c l) {t0 : Mach.Th} (ht0 : Mach.onF 20 (Mach.Bt (fv_ n l) 0 []) = some t0) :
  ThrOk (ringG n r b gb gd) (fun s => (s, ((k, t0) : Nat × Mach.Th))) (.func (.func 26) #[] #[.pointer (some ⟨p8, 0, none⟩), .pointer (some ⟨ib, 0, none⟩), .pointer (some ⟨rb, 0, none⟩), .pointer (some ⟨gd, 0, none⟩), .pointer (some ⟨gt, 0, none⟩)]) (all [Ro, gotC gb k []]) where
 run := by
  refine ⟨_, _, _, rfl, inferInstance, fun sb says turn fin wg (s : Nat → Nat) m F hok => ?_⟩
  have hle : n ≤ 1024 := by rw [hn]; exact fp_ hj
  show Tr Try.prog tH _ [gateV sb, .pointer (some ⟨p8, 0, none⟩), .pointer (some ⟨ib, 0, none⟩), .pointer (some ⟨rb, 0, none⟩), .pointer (some ⟨gd, 0, none⟩), .pointer (some ⟨gt, 0, none⟩)] _ (tx (ringG n r b gb gd) says turn fin wg (.busy s ((k, t0) : Nat × Mach.Th) m)) _
  refine da_ (ringP n r b gd sb says turn fin gb k [] s :: Ro :: F) (fun hp st => ?_) ?_
  ·have s1 : Star (wds (bx_ r b) (n + 2) [(r, 2, .slice (some ⟨b, 0, none⟩) n n)] s :: arr gd 0 [.bool true] :: seatR sb says turn fin :: all [Ro, gotC gb k []] :: F) hp := bt_ (M := [_, _]) st
   have s2 : Star (Ro :: gotC gb k [] :: wds (bx_ r b) (n + 2) [(r, 2, .slice (some ⟨b, 0, none⟩) n n)] s :: arr gd 0 [.bool true] :: seatR sb says turn fin :: F) hp := bt_ (M := [_, _]) (Ent.star (.take (.there (.there (.there .here))) .refl) s1)
   exact bm_ (M := [_, _, _, _]) (Ent.star (.take (.there (.there .here)) (.take (.there (.there .here)) (.take (.there (.there .here)) (.take (.there .here) .refl)))) s2)
  refine bd_ Try.func26 rfl Try.ntmps26 (by simp) fun um Q _ hQ => ?_
  simp only [argE, Nat.zero_add, Nat.reduceAdd]
  repeat (first | refine bb_ ?_ | (refine wR ?_; try simp only [oS]) | refine ba_ ?_ | refine wA ?_ | refine bg_ ?_)
  refine co_ (thInv n r b gb gd k sb says turn fin wg p8 ib rb gt l Ro F) (fun i => l.length - i.1) (0, [], ⟨s, s, t0, m⟩) ⟨Nat.zero_le _, rfl, ht0, fun _ _ => rfl⟩ ⟨rfl, rfl, rfl, rfl, rfl, rfl, rfl, trivial⟩ .refl rfl ?_
  rintro ⟨i, pre, s⟩ ⟨hi, hpre, hon, hfg⟩
  dsimp only at hi hpre hon hfg
  simp only [thInv]
  have q1 : ∀ {c : HProp}, Rd (c :: Ro :: F) p8 0 (.slice (some ⟨qb, qo, none⟩) nt qc) := fun {c} => .there (Rd.of .here O.h1)
  have q2 : ∀ {c' : HProp}, Rd (c' :: Ro :: F) qb (qo + k) (.slice a l.length c) := fun {c} => .there (Rd.of .here O.h2)
  have q4 : ∀ {c : HProp}, Rd (c :: Ro :: F) ib 0 (.int .i64 (k : Nat)) := fun {c} => .there (Rd.of .here O.h4)
  have q5 : ∀ {c : HProp}, Rd (c :: Ro :: F) rb 0 (.pointer (some ⟨r, 0, none⟩)) := fun {c} => .there (Rd.of .here O.h5)
  have hkn := O.hk
  have hl16 := O.hl
  by_cases hlt : i < l.length
  ·obtain ⟨y, hy⟩ : ∃ y, l[i]? = some y := ⟨l[i], List.getElem?_eq_getElem hlt⟩
   obtain ⟨b3, o3, rfl, r3⟩ := O.h3 i y hy
   have q3 : ∀ {c' : HProp}, Rds (c' :: Ro :: F) b3 (o3 + 2 * i) [.int .i64 y.1, .int .u64 (y.2 : Nat)] := fun {c} q v hq => .there (Rd.of .here (r3 q v hq))
   obtain ⟨hy1, hy2⟩ := O.ok y (List.mem_of_getElem? hy)
   obtain ⟨kind, v⟩ := y
   simp only at hy1 hy2 q3
   have e3 := Int.emod_nonneg kind (by decide : (3 : Int) ≠ 0)
   obtain ⟨kd, hkd⟩ : ∃ kd : Nat, kind % 3 = kd := ⟨(kind % 3).toNat, by omega⟩
   have hcl : (fv_ n l)[i]? = some (fh_ n kd v) := by
    simp only [fv_, List.getElem?_map, hy, Option.map_some]
    rw [hkd, Int.toNat_natCast]
   have hdone := done_plays (addr := bx_ r b) (K := [(r, 2, .slice (some ⟨b, 0, none⟩) n n)]) (A := ft_ h n) (Z := arr gd 0 [.bool true]) (Pv := rgPv gb) (hPv := wr_) (sb := sb) (says := says) (turn := turn) (fin := fin) (wg := wg) (k := k) (Pm := gotC gb k pre) hn hj hy2 (mz_ fun y hy => (O.ok y hy).2) hcl (by rw [yesA_len]; exact hpre)
    (fun p r said hp hm => kb_ (by rw [doneOf_T]; exact hm)) hon hfg
   repeat (first | (apply wo_po; apply cf_; exact rfl; exact rfl; omega; exact trivial) | (apply wo_po; apply bc_; exact rfl; (first | exact q1 | exact q2 | exact q4); exact trivial) | refine wlssT ?_ | refine bb_ ?_ | (refine wR ?_; try simp only [oS]) | refine ba_ ?_ | refine wM ?_ | refine wE ?_ | refine wT ?_ | refine bk_ ?_ | refine bg_ ?_)
   refine bv_ (List.range' 0 15) (by kernel_rfl) ?_
   repeat (first | (apply be_; exact rfl; exact rfl; exact trivial; intro L; apply cf_; exact rfl; exact rfl; omega) | (apply be_; exact rfl; exact rfl; exact trivial; intro L; apply ff_; exact rfl; exact rfl; omega) | (apply bn_; exact rfl; exact rfl; exact trivial; apply bc_; exact rfl; (first | exact q1 | exact q2 | exact q4 | exact q5)) | (apply bn_; exact rfl; exact rfl; exact trivial; apply ch_ (vs := [.int .i64 kind, .int .u64 (v : Nat)]); exact rfl; exact rfl; exact q3) | refine aM ?_)
   refine jk_ (Pd' := []) rfl rfl (by kernel_rfl) trivial rfl rfl (.cons rfl (.cons rfl (.cons rfl .nil))) (done_tr (A := kk_ (rowD (n + 2)) (bx_ r b) (n + 2) _ (ft_ h n) (arr gd 0 [.bool true]) (rgPv gb) wr_ sb says turn fin wg k (gotC gb k pre)) (ring_at_p h hn hj) hy1 hkd hy2 hdone .here) (fun v L' x' _ p hp => by cases hp) ?_
   rintro w L' x' ⟨told, s', bv, ⟨hon', hfg', hok'⟩, rfl, rfl, rfl⟩
   refine ap_star (L' := wds (bx_ r b) (n + 2) [(r, 2, .slice (some ⟨b, 0, none⟩) n n)] s'.f :: arr gd 0 [.bool true] :: seatR sb says turn fin :: gotC gb k pre :: vec 1 bv (told.map num) :: Ro :: F) (fun hp st => bt_ (M := [_, _, _, _]) (cy_ st)) (fun p hp => by cases hp) ?_
   repeat (first | refine aM ?_ | refine aA ?_ | (apply be_; exact rfl; exact rfl; exact gY; intro L; apply cb_; exact rfl; exact rfl) | refine ca_ ?_)
   repeat (first | refine wS ?_ | refine weqlT ?_ | refine bb_ ?_ | (refine wR ?_; try simp only [oS]) | refine ba_ ?_ | refine wM ?_ | refine wK ?_ | refine wL ?_)
   refine de_ (gotC gb k pre :: wds (bx_ r b) (n + 2) [(r, 2, .slice (some ⟨b, 0, none⟩) n n)] s'.f :: arr gd 0 [.bool true] :: seatR sb says turn fin :: vec 1 bv (told.map num) :: Ro :: F) (fun hp st => Ent.star (.take (.there (.there (.there .here))) .refl) st) ?_
   refine we_ex (d := fun (y : Value × List (Value × List Nat)) h => y.2.map (·.2) = pre ∧ all [arr gb k [y.1], vec 1 y.1 (y.2.map (·.1)), all (y.2.map rowT)] h) .here fun y => jn_ .here fun hsn => qi_ .here ?_
   obtain ⟨gv, sl⟩ := y
   simp only [List.cons_append, List.nil_append] at hsn ⊢
   refine cx_ (bu_ (.there .here) (bi_ (by omega))) ?_
   rintro ⟨ga, gn, gcap, rfl, hgn, _⟩
   refine cx_ (bu_ (.there (.there (.there (.there (.there (.there .here)))))) (bi_ (by omega))) ?_
   rintro ⟨ba, bn, bcap, rfl, hbn, _⟩
   have hsl : sl.length = pre.length := by rw [← hsn]; simp
   have hgn : gn = i := by simp at hgn; omega
   subst hgn
   have w0 : Rd (arr gb k [.slice ga gn gcap] :: vec 1 (.slice ga gn gcap) (sl.map (·.1)) :: all (sl.map rowT) :: wds (bx_ r b) (n + 2) [(r, 2, .slice (some ⟨b, 0, none⟩) n n)] s'.f :: arr gd 0 [.bool true] :: seatR sb says turn fin :: vec 1 (.slice ba bn bcap) (told.map num) :: Ro :: F) gb (0 + k) (.slice ga gn gcap) := Rd.row (k := 0) rfl (by omega)
   have w4 : Rd (arr gb k [.slice ga gn gcap] :: vec 1 (.slice ga gn gcap) (sl.map (·.1)) :: all (sl.map rowT) :: wds (bx_ r b) (n + 2) [(r, 2, .slice (some ⟨b, 0, none⟩) n n)] s'.f :: arr gd 0 [.bool true] :: seatR sb says turn fin :: vec 1 (.slice ba bn bcap) (told.map num) :: Ro :: F) ib 0 (.int .i64 (k : Nat)) := Rd.of (.there (.there (.there (.there (.there (.there (.there .here))))))) O.h4
   have w6 : Rd (arr gb k [.slice ga gn gcap] :: vec 1 (.slice ga gn gcap) (sl.map (·.1)) :: all (sl.map rowT) :: wds (bx_ r b) (n + 2) [(r, 2, .slice (some ⟨b, 0, none⟩) n n)] s'.f :: arr gd 0 [.bool true] :: seatR sb says turn fin :: vec 1 (.slice ba bn bcap) (told.map num) :: Ro :: F) gt 0 (.slice (some ⟨gb, 0, none⟩) nt gc) := Rd.of (.there (.there (.there (.there (.there (.there (.there .here))))))) O.h6
   refine bv_ (List.range' 0 11) (by kernel_rfl) ?_
   repeat (first | (apply be_; exact rfl; exact rfl; exact trivial; intro L; apply cf_; exact rfl; exact rfl; omega) | (apply bn_; exact rfl; exact rfl; exact trivial; apply bc_; exact rfl; (first | exact w0 | exact w4 | exact w6)) | refine aM ?_)
   refine gb_ rfl rfl rfl rfl trivial (bo_ (sz := 1) (vs := [.slice ba bn bcap]) rfl (.cons rfl .nil) rfl (by intro v hv; cases (List.mem_singleton.1 hv); exact rfl) (by omega)) ?_ ?_
   ·rintro v L' ⟨sb2, rfl, rfl⟩ p hp
    replace hp := (List.mem_filter.1 hp).1
    simp only [List.mem_cons, List.not_mem_nil, or_false] at hp
    repeat (rcases hp with rfl | hp; · first | exact .inl rfl | exact .inr ⟨_, rfl, trivial, bc_ rfl (Rd.there (by first | exact w0 | exact w4 | exact w6))⟩)
   rintro v' L' ⟨sb2, rfl, rfl⟩
   refine gb_ rfl rfl rfl rfl trivial (cz_ (sz := 1) (new := [.slice ba bn bcap]) rfl rfl rfl rfl (.there (.there .here)) rfl (.inr ⟨_, _, rfl, Rds.all .here⟩) (by intro v hv; cases (List.mem_singleton.1 hv); exact rfl) (by simp only [db_]; omega)) ?_ ?_
   ·rintro v L' rfl p hp
    replace hp := (List.mem_filter.1 (List.mem_filter.1 hp).1).1
    simp only [List.mem_cons, List.not_mem_nil, or_false] at hp
    have v0 : Rd (vec 1 v (sl.map (·.1) ++ [.slice ba bn bcap]) :: arr sb2 0 [.slice ba bn bcap] :: arr gb k [.slice ga gn gcap] :: all (sl.map rowT) :: wds (bx_ r b) (n + 2) [(r, 2, .slice (some ⟨b, 0, none⟩) n n)] s'.f :: arr gd 0 [.bool true] :: seatR sb says turn fin :: vec 1 (.slice ba bn bcap) (told.map num) :: Ro :: F) gb (0 + k) (.slice ga gn gcap) := .there (.there (Rd.row (k := 0) rfl (by omega)))
    have v4 := Rd.of ((.there (.there (.there (.there (.there (.there (.there (.there .here)))))))) : Has (vec 1 v (sl.map (·.1) ++ [.slice ba bn bcap]) :: arr sb2 0 [.slice ba bn bcap] :: arr gb k [.slice ga gn gcap] :: all (sl.map rowT) :: wds (bx_ r b) (n + 2) [(r, 2, .slice (some ⟨b, 0, none⟩) n n)] s'.f :: arr gd 0 [.bool true] :: seatR sb says turn fin :: vec 1 (.slice ba bn bcap) (told.map num) :: Ro :: F) Ro _) O.h4
    have v6 := Rd.of ((.there (.there (.there (.there (.there (.there (.there (.there .here)))))))) : Has (vec 1 v (sl.map (·.1) ++ [.slice ba bn bcap]) :: arr sb2 0 [.slice ba bn bcap] :: arr gb k [.slice ga gn gcap] :: all (sl.map rowT) :: wds (bx_ r b) (n + 2) [(r, 2, .slice (some ⟨b, 0, none⟩) n n)] s'.f :: arr gd 0 [.bool true] :: seatR sb says turn fin :: vec 1 (.slice ba bn bcap) (told.map num) :: Ro :: F) Ro _) O.h6
    repeat (rcases hp with rfl | hp; · first | exact .inl rfl | exact .inr ⟨_, rfl, trivial, bc_ rfl (by first | exact v0 | exact v4 | exact v6)⟩)
   rintro v' L' rfl
   refine hc_ (bu_ .here (bi_ (by omega))) ?_
   rintro ⟨va, vn, vc, rfl, _⟩
   repeat (first | (apply be_; exact rfl; exact rfl; exact trivial; intro L; apply cf_; exact rfl; exact rfl; omega))
   refine cc_ rfl rfl rfl rfl rfl trivial (cn_ rfl rfl rfl (Wt.row (k := 0) (vs := [.slice ga gn gcap]) (Nat.lt_succ_self 0) (by omega) (.there (.there .here)))) ?_
   rintro v' L' ⟨rfl, rfl⟩
   refine ca_ ?_
   repeat (first | (refine wR ?_; try simp only [oS]) | refine ba_ ?_ | refine wM ?_ | refine wA ?_ | refine wadd ?_)
   refine dt_ (B := tH) (I := thInv n r b gb gd k sb says turn fin wg p8 ib rb gt l Ro F) (R := fun q => l.length - q.1 < l.length - gn) (gn + 1, pre ++ [told], s') (by show l.length - (gn + 1) < l.length - gn; omega) ⟨by show gn + 1 ≤ l.length; omega, by simp [hpre], by rw [← yesA_snoc]; exact hon', hfg'⟩ ?_ (fun hp st => ?_) rfl
   ·exact ⟨rfl, rfl, rfl, rfl, rfl, rfl, rfl, trivial⟩
   ·have s1 : Star (all (sl.map rowT) :: rowT (Value.slice ba bn bcap, told) :: vec 1 (.slice va vn vc) (sl.map (·.1) ++ [.slice ba bn bcap]) :: arr gb k [.slice va vn vc] :: wds (bx_ r b) (n + 2) [(r, 2, .slice (some ⟨b, 0, none⟩) n n)] s'.f :: arr gd 0 [.bool true] :: seatR sb says turn fin :: Ro :: F) hp := Ent.star (.take (.there (.there (.there .here))) (.take (.there (.there (.there (.there (.there (.there .here)))))) (.take .here (.drop (.take .here .refl))))) st
    have s2 := bt_ s1
    have s3 : Star (all ((sl ++ [((Value.slice ba bn bcap, told) : Value × List Nat)]).map rowT) :: vec 1 (.slice va vn vc) ((sl ++ [((Value.slice ba bn bcap, told) : Value × List Nat)]).map (·.1)) :: arr gb k [.slice va vn vc] :: wds (bx_ r b) (n + 2) [(r, 2, .slice (some ⟨b, 0, none⟩) n n)] s'.f :: arr gd 0 [.bool true] :: seatR sb says turn fin :: Ro :: F) hp := bm_ (by
     rw [List.map_append, List.map_append, List.append_assoc]
     exact s2)
    have s4 := bm_ (M := [_, _, _]) (Ent.star (.take (.there (.there .here)) (.take (.there .here) (.take .here .refl))) s3)
    have s5 : Star (gotC gb k (pre ++ [told]) :: wds (bx_ r b) (n + 2) [(r, 2, .slice (some ⟨b, 0, none⟩) n n)] s'.f :: arr gd 0 [.bool true] :: seatR sb says turn fin :: Ro :: F) hp := bp_ s4 (fun h z => ⟨(Value.slice va vn vc, sl ++ [((Value.slice ba bn bcap, told) : Value × List Nat)]), (show List.map (·.2) (sl ++ [((Value.slice ba bn bcap, told) : Value × List Nat)]) = pre ++ [told] from by rw [List.map_append]; exact congrArg (· ++ [told]) hsn), z⟩) fun _ z => z
    exact bm_ (M := [_, _, _, _]) (Ent.star (.take (.there .here) (.take (.there .here) (.take (.there .here) (.take .here .refl)))) s5)
  ·obtain rfl : i = l.length := by omega
   repeat (first | (apply wo_po; apply cf_; exact rfl; exact rfl; omega; exact trivial) | (apply wo_po; apply bc_; exact rfl; (first | exact q1 | exact q2 | exact q4); exact trivial) | refine wlssF ?_ | refine bb_ ?_ | (refine wR ?_; try simp only [oS]) | refine ba_ ?_ | refine wM ?_ | refine wE ?_ | refine wF ?_ | refine cm_ ?_)
   (first | refine or0 Try.func26 Try.results26 hQ ?_ | refine on0 Try.func26 Try.results26 hQ ?_)
   have hnone : (fv_ n l)[l.length]? = none := List.getElem?_eq_none_iff.2 (by simp [fv_])
   rw [Mach.on_over (f := 19) hnone] at hon
   have hst := (Option.some.inj hon).symm
   refine ⟨s.g, ((k, s.t) : Nat × Mach.Th), s.n, rfl, ?_, fun hp st => ?_⟩
   ·show mPlan _ (k, s.t) = none
    unfold mPlan
    rw [if_pos (by rw [hst])]
   ·have s1 : Star (wds (bx_ r b) (n + 2) [(r, 2, .slice (some ⟨b, 0, none⟩) n n)] s.f :: arr gd 0 [.bool true] :: seatR sb says turn fin :: gotC gb k pre :: Ro :: F) hp := bt_ (M := [_, _, _, _]) st
    have s2 := bm_ (M := [_, _]) (bp_ s1 (qk_ hfg) fun _ z => z)
    have e : he_ s.t = pre := by rw [hst]; exact sv_
    refine bp_ s2 (fun _ z => z) fun hq z => bp_ z (fun _ z => z) fun hq z => bp_ z (fun hq z => ?_) fun hq z => cg_ z
    show Star [gotC gb k (he_ s.t)] hq
    rw [e]; exact kb_ z
end
end
end Go.Proofs.Ytdcbnbmahndecaa
namespace Go.Proofs.Ytdcbnbmahndecaa
open Go Go.PB
attribute [local irreducible] Mo Bin Eql Tr Wo Ap
section
theorem mo_sliceHd {P : Program} {e : Env} {ty : TypeId} {L : List HProp} {t el sz n c u : Nat} {a : Option Addr} {k : IntKind} {j : Int} {o hi : Operand} [p : SlT P t el] [s : Siz P el sz] (hx : ev e o = some (.slice a n c)) (hh : ev e hi = some (.int k j)) (hj : j = (u : Nat)) (hu : u ≤ c) :
  Mo P e (.slice t o none (some hi) none) ty L fun v' L' => v' = .slice a u c ∧ L' = L := by
 have h := mo_slice (P := P) (e := e) (ty := ty) (L := L) (t := t) (l := 0) (u := u) hx .no (.yes hh hj) (Nat.zero_le _) hu
 have e1 : (if c = 0 then a else a.map (·.add (0 * sz))) = a := by
  split
  ·rfl
  ·cases a with
   | none => rfl
   | some y => simp [Addr.add]
 rw [e1] at h
 exact h
abbrev RW := Option Addr × Nat × List (Int × Nat)
def rv (y : RW) : Value := .slice y.1 y.2.2.length y.2.1
def ThsAt (L : List HProp) (a : Option Addr) (rs : List RW) : Prop := ∀ (i : Nat) y, rs[i]? = some y → ∃ b o, a = some ⟨b, o, none⟩ ∧ Rd L b (o + i) (rv y) ∧ DoAt L y.1 y.2.2 ∧ y.2.2.length ≤ y.2.1
def cutR (y : RW) : RW := (y.1, y.2.1, y.2.2.take 16)
def fewR (rs : List RW) : List RW := if rs = [] then [(none, 0, [])] else (rs.take 4).map cutR
section
variable {B : Hand} [Lets B] {L F : List HProp} {x : B.X}
def fewInv (x : B.X) (a : Option Addr) (c : Nat) (rs : List RW) (L : List HProp) : Inv (Nat × Value) B.X where
 e := fun i => [(0, .slice a rs.length c), (3, i.2), (4, .int .i64 (i.1 : Nat))]
 L := fun i => vec 1 i.2 (((rs.take i.1).map cutR).map rv) :: L
 x := fun _ => x
 ok := fun i => i.1 ≤ rs.length ∧ i.1 ≤ 4
theorem few_tr {a : Option Addr} {c : Nat} {rs : List RW} (hr : ThsAt L a rs) :
  Tr Try.prog B 25 [.slice a rs.length c] L x fun v L' x' => L' = vec 1 v ((fewR rs).map rv) :: L ∧ x' = x := by
 refine Tr.post (R := fun v L' x' => x' = x ∧ ∀ h, Star L' h → Star (vec 1 v ((fewR rs).map rv) :: L) h) ?_
  (by rintro v L' x' ⟨rfl, h2⟩; exact ⟨_, ⟨rfl, rfl⟩, h2⟩)
 refine bd_ Try.func25 rfl Try.ntmps25 (by simp) fun um Q _ hQ => ?_
 simp only [argE, Nat.zero_add, Nat.reduceAdd]
 repeat (first | refine bb_ ?_ | (refine wR ?_; try simp only [oS]) | refine ba_ ?_ | refine wA ?_ | refine bg_ ?_)
 refine de_ (vec 1 (.slice none 0 0) (((rs.take 0).map cutR).map rv) :: L) (fun h st => dr_ st) ?_
 refine co_ (fewInv x a c rs L) (fun i => rs.length - i.1) (0, .slice none 0 0) ⟨Nat.zero_le _, Nat.zero_le _⟩ ⟨rfl, rfl, rfl, trivial⟩ .refl rfl ?_
 rintro ⟨i, v⟩ ⟨hil, hi4⟩
 simp only at hil hi4
 simp only [fewInv]
 refine cx_ (bu_ .here (bi_ (by omega))) ?_
 rintro ⟨va, vn, vc, rfl, hvn, _⟩
 have hvn : vn = i := by simp at hvn; omega
 subst hvn
 by_cases hgo : vn < rs.length ∧ vn < 4
 ·obtain ⟨hlt, h4⟩ := hgo
  obtain ⟨y, hy⟩ : ∃ k, rs[vn]? = some k := ⟨rs[vn], List.getElem?_eq_getElem hlt⟩
  obtain ⟨b, o, rfl, hrd, hdo, hcap⟩ := hr vn y hy
  obtain ⟨ya, yc, yl⟩ := y
  simp only [rv] at hrd hdo hcap
  have hrk : ∀ {d : HProp}, Rd (d :: L) b (o + vn) (.slice ya yl.length yc) := fun {d} => .there hrd
  have hmin : min (yl.length : Int) 16 = ((yl.take 16).length : Nat) := by rw [List.length_take]; omega
  have hle16 : (yl.take 16).length ≤ yc := by rw [List.length_take]; omega
  repeat (first | refine wlssT ?_ | refine bb_ ?_ | (refine wR ?_; try simp only [oS]) | refine ba_ ?_ | refine wM ?_ | refine wK ?_ | refine wE ?_ | refine wT ?_ | refine bk_ ?_ | refine bg_ ?_)
  refine bv_ (List.range' 0 15) (by kernel_rfl) ?_
  repeat (first | (apply be_; exact rfl; exact rfl; exact trivial; intro L; apply cf_; exact rfl; exact rfl; omega) | (apply bn_; exact rfl; exact rfl; exact trivial; apply bc_; exact rfl; exact hrk) | (apply be_; exact rfl; exact rfl; exact trivial; intro L; apply vp_; exact rfl; exact rfl) | (apply be_; exact rfl; exact rfl; exact trivial; intro L; apply mo_sliceHd; exact rfl; exact rfl; exact hmin; exact hle16) | refine aM ?_ | (apply be_; exact rfl; exact rfl; exact gY; intro L; apply ms_; exact rfl))
  refine gb_ rfl rfl rfl rfl trivial (bo_ (sz := 1) (vs := [.slice ya (yl.take 16).length yc]) rfl (.cons rfl .nil) rfl (by intro v hv; cases (List.mem_singleton.1 hv); exact rfl) (by omega)) ?_ ?_
  ·rintro v L' ⟨sb2, rfl, rfl⟩ p hp
   replace hp := (List.mem_filter.1 hp).1
   simp only [List.mem_cons, List.not_mem_nil, or_false] at hp
   repeat (rcases hp with rfl | hp; · first | exact .inl rfl | exact .inr ⟨_, rfl, trivial, bc_ rfl (Rd.there hrk)⟩)
   all_goals first | (subst hp; first | exact .inl rfl | exact .inr ⟨_, rfl, trivial, bc_ rfl (Rd.there hrk)⟩)
  rintro v' L' ⟨sb2, rfl, rfl⟩
  refine cc_ rfl rfl rfl rfl rfl trivial (cz_ (sz := 1) (new := [.slice ya (yl.take 16).length yc]) rfl rfl rfl rfl (.there .here) rfl (.inr ⟨_, _, rfl, Rds.all .here⟩) (by intro v hv; cases (List.mem_singleton.1 hv); exact rfl) (by simp only [db_]; omega)) ?_
  rintro v' L' rfl
  repeat (first | refine aA ?_ | refine ca_ ?_)
  repeat (first | (refine wR ?_; try simp only [oS]) | refine ba_ ?_ | refine wM ?_ | refine wA ?_ | refine wadd ?_)
  refine dm_ (I := fewInv x (some ⟨b, o, none⟩) c rs L) (R := fun j => rs.length - j.1 < rs.length - vn) (vn + 1, v') (by show rs.length - (vn + 1) < rs.length - vn; omega) ⟨by show vn + 1 ≤ rs.length; omega, by show vn + 1 ≤ 4; omega⟩ ?_ ?_ rfl
  exact ⟨rfl, rfl, rfl, trivial⟩
  show Ent _ (vec 1 v' (((rs.take (vn + 1)).map cutR).map rv) :: _)
  rw [show ((rs.take (vn + 1)).map cutR).map rv = ((rs.take vn).map cutR).map rv ++ [.slice ya (yl.take 16).length yc] by rw [List.take_add_one, hy]; simp [cutR, rv]]
  exact (.take .here (.drop .refl))
 ·have hend : rs.take vn = rs.take 4 := by
   by_cases h4 : vn = 4
   ·rw [h4]
   ·have : vn = rs.length := by omega
    rw [this, List.take_length, List.take_of_length_le (by omega)]
  rw [hend]
  by_cases h0 : rs = []
  ·subst h0
   obtain rfl : vn = 0 := by simp at hil; omega
   repeat (first | (apply wo_mo; apply bo_ (sz := 1) (vs := [.slice none 0 0]); exact rfl; exact .cons rfl .nil; exact rfl; (intro v hv; cases (List.mem_singleton.1 hv); exact rfl); omega; exact trivial) | refine wlssF ?_ | refine weqlT ?_ | refine bb_ ?_ | (refine wR ?_; try simp only [oS]) | refine ba_ ?_ | refine wM ?_ | (apply wo_no; exact rfl) | refine wJ ?_ | refine wE ?_ | refine wT ?_ | refine wF ?_ | refine cm_ ?_)
   rintro v' L' ⟨nb, rfl, rfl⟩
   repeat (first | (apply wo_mo; apply cz_ (sz := 1) (new := [.slice none 0 0]); exact rfl; exact rfl; exact rfl; exact rfl; exact (.there .here); exact rfl; exact .inr ⟨_, _, rfl, Rds.all .here⟩; (intro v hv; cases (List.mem_singleton.1 hv); exact rfl); (simp only [db_]; omega); exact trivial))
   rintro v' L' rfl
   repeat (first | refine bb_ ?_ | (refine wR ?_; try simp only [oS]) | refine ba_ ?_ | refine wM ?_ | refine wA ?_ | refine br_ ?_)
   (first | refine or1 Try.func25 Try.results25 hQ rfl ?_ | refine on1 Try.func25 Try.results25 hQ rfl ?_)
   exact ⟨rfl, fun h st => Ent.star (.take .here (.drop .refl)) st⟩
  ·have he : fewR rs = (rs.take 4).map cutR := if_neg h0
   have hpos : 0 < rs.length := List.length_pos_iff.2 h0
   have hvp : 0 < vn := by omega
   by_cases hv : vn < rs.length
   ·obtain rfl : vn = 4 := by omega
    repeat (first | refine wlssT ?_ | refine wlssF ?_ | refine weqlF ?_ | refine bb_ ?_ | (refine wR ?_; try simp only [oS]) | refine ba_ ?_ | refine wM ?_ | refine wA ?_ | refine wK ?_ | refine wE ?_ | refine wF ?_ | refine br_ ?_ | refine bk_ ?_ | refine cm_ ?_)
    (first | refine or1 Try.func25 Try.results25 hQ rfl ?_ | refine on1 Try.func25 Try.results25 hQ rfl ?_)
    exact ⟨rfl, fun h st => by rw [he]; exact st⟩
   ·obtain rfl : vn = rs.length := by omega
    repeat (first | refine wlssF ?_ | refine weqlF ?_ | refine bb_ ?_ | (refine wR ?_; try simp only [oS]) | refine ba_ ?_ | refine wM ?_ | refine wA ?_ | (apply wo_no; exact rfl) | refine wJ ?_ | refine wE ?_ | refine wF ?_ | refine br_ ?_ | refine bk_ ?_ | refine cm_ ?_)
    (first | refine or1 Try.func25 Try.results25 hQ rfl ?_ | refine on1 Try.func25 Try.results25 hQ rfl ?_)
    exact ⟨rfl, fun h st => by rw [he]; exact st⟩
end
end
section
abbrev CY := (Option Addr × Nat) × Nat × Mach.Cl
def clV (y : CY) : List Value := [.slice y.1.1 y.2.1 y.1.2, .slice none 0 0]
def clK (y : CY) : HProp := clC (.slice y.1.1 y.2.1 y.1.2) (.slice none 0 0) y.2.2
def cwOf (a : Option Addr) (c : Nat) (ys : List CY) : CW := ⟨a, c, fun i => match ys[i]? with | some y => y.1 | none => (none, 0), fun _ => (none, 0)⟩
theorem star_pick {c : HProp} {F : List HProp} : ∀ {M : List HProp} {i : Nat} {h : Hp}, M[i]? = some c → Star (M ++ F) h → ∃ R, Star (c :: R) h
 | [], i, h, hi, s => by simp at hi
 | d :: M, 0, h, hi, s => by cases hi; exact ⟨_, s⟩
 | d :: M, i + 1, h, hi, s => by
  obtain ⟨h1, h2, sp, hd, hr⟩ := s
  obtain ⟨R, hR⟩ := star_pick (M := M) (i := i) hi hr
  refine ⟨d :: R, ?_⟩
  exact cy_ ⟨h1, h2, sp, hd, hR⟩
theorem code_close {a : Option Addr} {n c : Nat} {ys : List CY} {F : List HProp} (hd : ∀ y ∈ ys, y.2.2.data = []) {h : Hp} (s : Star (vec 2 (.slice a n c) (ys.map clV).flatten :: all (ys.map clK) :: F) h) : codeC (cwOf a c ys) (ys.map (·.2.2)) h := by
 intro i cl hi
 rw [List.getElem?_map, Option.map_eq_some_iff] at hi
 obtain ⟨y, hy, rfl⟩ := hi
 have hyd := hd y (List.mem_of_getElem? hy)
 obtain ⟨a', n', c', e, hn, _, hz, hya⟩ := bu_ (L := vec 2 (.slice a n c) (ys.map clV).flatten :: all (ys.map clK) :: F) .here (bi_ (by omega)) h s
 cases e
 have hlen : (ys.map clV).flatten.length = ys.length * 2 := gj_ (k := 2) (fun _ => rfl) ys
 have hil := (List.getElem?_eq_some_iff.1 hy).1
 cases a with
 | none => have := hz rfl; omega
 | some ad =>
  obtain ⟨cb, co, sp⟩ := ad
  cases hya _ rfl
  have key : ∀ j v, (clV y)[j]? = some v → j < 2 → h.can ⟨cb, co + 2 * i + j, none⟩ v := fun j v hj hj2 => by
   have := (dc_ (i := 2 * i + j) (v := v) (L := vec 2 (.slice (some ⟨cb, co, none⟩) n c) (ys.map clV).flatten :: all (ys.map clK) :: F) .here (by rw [hv_ (k := 2) (fun _ => rfl) ys i j y hy hj2]; exact hj)) h s
   rwa [← Nat.add_assoc] at this
  obtain ⟨R, s2⟩ := star_pick (M := ys.map clK) (i := i) (c := clK y) (by rw [List.getElem?_map, hy]; rfl) (bt_ (cy_ s))
  have s3 : Star (vec 7 (.slice y.1.1 y.2.1 y.1.2) (y.2.2.code.map inC).flatten :: vec 1 (.slice none 0 0) (y.2.2.data.map num) :: R) h := bt_ (M := [_, _]) s2
  obtain ⟨ya, yn, yc, e, hn7, _, hz7, hy7⟩ := bu_ (L := vec 7 (.slice y.1.1 y.2.1 y.1.2) (y.2.2.code.map inC).flatten :: vec 1 (.slice none 0 0) (y.2.2.data.map num) :: R) .here (bi_ (by omega)) h s3
  simp only [Value.slice.injEq] at e
  obtain ⟨e1, e2, e3⟩ := e
  have h7 : (y.2.2.code.map inC).flatten.length = y.2.2.code.length * 7 := gj_ (k := 7) (fun _ => rfl) _
  have hm : y.2.1 = y.2.2.code.length := by omega
  refine ⟨cb, co, rfl, ?_, ?_, fun j z hz' => ?_, fun j v hv => ?_⟩
  ·have := key 0 _ rfl (by omega)
   simp only [cwOf, hy]
   rw [← hm]; exact this
  ·have := key 1 _ rfl (by omega)
   rw [hyd]; exact this
  ·have hjl := (List.getElem?_eq_some_iff.1 hz').1
   cases ya with
   | none => have := hz7 rfl; omega
   | some w =>
    obtain ⟨kb, ko, sp⟩ := w
    cases hy7 _ rfl
    refine ⟨kb, ko, by simp only [cwOf, hy]; exact e1, fun m v hmv => ?_⟩
    have hm7 : m < 7 := (List.getElem?_eq_some_iff.1 hmv).1
    rw [e1] at s3
    have := (dc_ (i := 7 * j + m) (v := v) (L := vec 7 (.slice (some ⟨kb, ko, none⟩) y.2.1 y.1.2) (y.2.2.code.map inC).flatten :: vec 1 (.slice none 0 0) (y.2.2.data.map num) :: R) .here (by rw [hv_ (k := 7) (fun _ => rfl) _ _ _ _ hz' hm7]; exact hmv)) h s3
    rwa [← Nat.add_assoc] at this
  ·rw [hyd] at hv; simp at hv
end
section
def intC (l : List Int) : List Value := l.map fun k => .int .i64 k
def kd_ (m : Nat) (l : List Int) : List Int := (l.take 2000).map fun k => k % ((m : Int) + 1)
section
variable {B : Hand} [Lets B] {L F : List HProp} {x : B.X}
def yb_ (x : B.X) (u : Value) (m : Nat) (l : List Int) (L : List HProp) : Inv (Nat × Value) B.X where
 e := fun i => [(0, u), (1, .int .i64 (m : Nat)), (5, i.2), (6, .int .i64 (i.1 : Nat))]
 L := fun i => vec 1 i.2 (intC ((l.take i.1).map fun k => k % ((m : Int) + 1))) :: L
 x := fun _ => x
 ok := fun i => i.1 ≤ l.length ∧ i.1 ≤ 2000
theorem order_tr {a : Option Addr} {c m : Nat} {l : List Int} (hr : RdsO L a l.length (intC l)) (hm : m < 1000000) (hi : ∀ k ∈ l, -9223372036854775808 ≤ k ∧ k ≤ 9223372036854775807) :
  Tr Try.prog B 27 [.slice a l.length c, .int .i64 (m : Nat)] L x fun v L' x' => L' = vec 1 v (intC (kd_ m l)) :: L ∧ x' = x := by
 refine bd_ Try.func27 rfl Try.ntmps27 (by simp) fun um Q _ hQ => ?_
 simp only [argE, Nat.zero_add, Nat.reduceAdd]
 repeat (first | refine bb_ ?_ | (refine wR ?_; try simp only [oS]) | refine ba_ ?_ | refine wA ?_ | refine bg_ ?_)
 refine de_ (vec 1 (.slice none 0 0) (intC ((l.take 0).map fun k => k % ((m : Int) + 1))) :: L) (fun h st => dr_ st) ?_
 refine co_ (yb_ x (.slice a l.length c) m l L) (fun i => l.length - i.1) (0, .slice none 0 0) ⟨Nat.zero_le _, Nat.zero_le _⟩ ⟨rfl, rfl, rfl, rfl, trivial⟩ .refl rfl ?_
 rintro ⟨i, v⟩ ⟨hil, hi2⟩
 simp only at hil hi2
 simp only [yb_]
 refine cx_ (bu_ .here (bi_ (by omega))) ?_
 rintro ⟨va, vn, vc, rfl, hvn, _⟩
 have hvn : vn = i := by simp [intC] at hvn; omega
 subst hvn
 by_cases hlt : vn < l.length
 ·by_cases h2 : vn < 2000
  ·obtain ⟨b, o, rfl, hrd⟩ := hr.rds (by omega)
   obtain ⟨k, hk⟩ : ∃ k, l[vn]? = some k := ⟨l[vn], List.getElem?_eq_getElem hlt⟩
   have hrk : ∀ {d : HProp}, Rd (d :: L) b (o + vn) (.int .i64 k) := fun {d} => .there (hrd vn _ (by simp [intC, hk]))
   repeat (first | (apply wo_po; apply cf_; exact rfl; exact rfl; omega; exact trivial) | (apply wo_po; apply bc_; exact rfl; exact hrk; exact trivial) | refine wlssT ?_ | refine bb_ ?_ | (refine wR ?_; try simp only [oS]) | refine ba_ ?_ | refine wM ?_ | refine wK ?_ | refine wadd ?_ | refine wE ?_ | refine wT ?_ | refine bk_ ?_ | refine bg_ ?_)
   refine bj_ (.cons rfl (.cons rfl .nil)) trivial (kx_ (hi k (List.mem_of_getElem? hk)) (by omega)) ?_
   rintro v1 L1 x1 ⟨rfl, rfl, rfl⟩
   repeat (first | (apply wo_mo; apply bo_ (sz := 1) (vs := [.int .i64 (k % ((m : Int) + 1))]); exact rfl; exact .cons rfl .nil; exact rfl; (intro v hv; cases (List.mem_singleton.1 hv); exact rfl); omega; exact trivial))
   rintro v' L' ⟨nb, rfl, rfl⟩
   repeat (first | (apply wo_mo; apply cz_ (sz := 1) (new := [.int .i64 (k % ((m : Int) + 1))]); exact rfl; exact rfl; exact rfl; exact rfl; exact (.there .here); exact rfl; exact .inr ⟨_, _, rfl, Rds.all .here⟩; (intro v hv; cases (List.mem_singleton.1 hv); exact rfl); (simp only [db_]; omega); exact trivial))
   rintro v' L' rfl
   repeat (first | (refine wR ?_; try simp only [oS]) | refine ba_ ?_ | refine wM ?_ | refine wA ?_ | refine wadd ?_)
   refine dm_ (I := yb_ x1 (.slice (some ⟨b, o, none⟩) l.length c) m l L) (R := fun j => l.length - j.1 < l.length - vn) (vn + 1, v') (by show l.length - (vn + 1) < l.length - vn; omega) ⟨by omega, by omega⟩ ?_ ?_ rfl
   exact ⟨rfl, rfl, rfl, rfl, trivial⟩
   show Ent _ (vec 1 v' (intC ((l.take (vn + 1)).map fun k => k % ((m : Int) + 1))) :: _)
   rw [show intC ((l.take (vn + 1)).map fun k => k % ((m : Int) + 1)) = intC ((l.take vn).map fun k => k % ((m : Int) + 1)) ++ [.int .i64 (k % ((m : Int) + 1))] by rw [List.take_add_one, hk]; simp [intC]]
   exact (.take .here (.drop .refl))
  ·obtain rfl : vn = 2000 := by omega
   repeat (first | refine wlssT ?_ | refine wlssF ?_ | refine bb_ ?_ | (refine wR ?_; try simp only [oS]) | refine ba_ ?_ | refine wM ?_ | refine wA ?_ | refine wK ?_ | refine wE ?_ | refine wF ?_ | refine br_ ?_ | refine cm_ ?_)
   (first | refine or1 Try.func27 Try.results27 hQ rfl ?_ | refine on1 Try.func27 Try.results27 hQ rfl ?_)
   exact ⟨rfl, rfl⟩
 ·obtain rfl : vn = l.length := by omega
  repeat (first | refine wlssF ?_ | refine bb_ ?_ | (refine wR ?_; try simp only [oS]) | refine ba_ ?_ | refine wM ?_ | refine wA ?_ | (apply wo_no; exact rfl) | refine wJ ?_ | refine wE ?_ | refine wF ?_ | refine br_ ?_ | refine cm_ ?_)
  (first | refine or1 Try.func27 Try.results27 hQ rfl ?_ | refine on1 Try.func27 Try.results27 hQ rfl ?_)
  refine ⟨?_, rfl⟩
  unfold kd_
  rw [List.take_of_length_le (by omega), List.take_of_length_le (by omega)]
end
end
end Go.Proofs.Ytdcbnbmahndecaa
namespace Go.Proofs.Ytdcbnbmahndecaa
open Go Go.PB
attribute [local irreducible] Mo Bin Eql Tr Wo Ap Wle
section
theorem vx_ {g : Game} : ∀ {ts : List (Thr g)} {s : g.σ}, (∀ t ∈ ts, ∀ s, (t.ini s).1 = s) → (dx_ ts s).1 = s
 | [], s, _ => rfl
 | t :: ts, s, h => by
  show (dx_ ts (t.ini s).1).1 = s
  rw [h t (by simp) s]
  exact vx_ fun u hu => h u (by simp [hu])
section
variable {D : Wds} {U : (Nat → Nat) → HProp} {Pv : Nat × Mach.Th → HProp} {F : List HProp}
theorem rel_step {p : PS (mG D U Pv)} {k : Int} (h : ∃ st, Rel p st) : ∃ st, Rel (takeF p k).1 st := by
 obtain ⟨st, h⟩ := h
 by_cases h0 : k < 0
 ·have ht : takeF p k = (p, false) := by unfold takeF; rw [if_pos h0]
  rw [ht]; exact ⟨st, h⟩
 ·obtain ⟨n, rfl⟩ : ∃ n : Nat, k = n := ⟨k.toNat, by omega⟩
  obtain ⟨st', _, h2, _⟩ := xg_ h n
  exact ⟨st', h2⟩
theorem rel_start {ts : List (Thr (mG D U Pv))} {cc : List (List Mach.Cl)} {s0 : (mG D U Pv).σ} (hb : Begins D U Pv 0 ts cc) (h0 : D.ok s0) : ∃ st, Rel (D := D) (U := U) (Pv := Pv) ⟨(dx_ ts s0).1, (dx_ ts s0).2, []⟩ st := by
 obtain ⟨l, h1, h2, h3, h4, h5⟩ := vs_ ts cc 0 s0 hb
 exact ⟨⟨D.W s0, l, []⟩, ⟨congrArg D.W h4.symm, (mm_ ts (show (mG D U Pv).σ from s0)).trans h2.symm, fun k => (h5 k).trans (by rw [Nat.zero_add]), rfl, Nat.zero_le _, h3, (show D.ok (dx_ ts (show (mG D U Pv).σ from s0)).1 from h4.symm ▸ h0)⟩⟩
theorem rel_cut {p : PS (mG D U Pv)} {st : Mach.St} (h : Rel p st) {n : Nat} (hn : n = st.l.length) : cutN (mG D U Pv) p.qs n = Mach.St.cut st := by
 subst hn
 unfold cutN Mach.St.cut
 apply List.filter_congr
 intro k _
 have hq := h.qs k
 cases hl : st.l[k]? with
 | none => rw [hl] at hq; rw [hq]; rfl
 | some t =>
  rw [hl] at hq
  rw [hq]
  show ((mPlan D (k, t)).isSome) = !t.over
  unfold mPlan
  cases ho : t.over <;> simp [ho]
theorem pv_list {qs : List (Nat × Mach.Th)} {l : List Mach.Th} (hq : ∀ k : Nat, qs[k]? = (l[k]?).map fun t => (k, t)) : qs.map Pv = l.mapIdx fun k t => Pv (k, t) := by
 apply List.ext_getElem?
 intro k
 rw [List.getElem?_map, List.getElem?_mapIdx, hq k]
 cases l[k]? <;> rfl
theorem mplays_tr {oa ta : Option Addr} {on oc tn tc : Nat} {order : List Int} {ts : List (Thr (mG D U Pv))} {cc : List (List Mach.Cl)} {s0 : (mG D U Pv).σ} (hb : Begins D U Pv 0 ts cc) (h0 : D.ok s0) (hini : ∀ t ∈ ts, ∀ s, (t.ini s).1 = s) (hts : ∀ t ∈ ts, ThrOk (mG D U Pv) t.ini t.fv t.M) (h1 : 0 < ts.length) (h16 : ts.length ≤ 16) (hor : order.length ≤ 16384)
  (hrt : RdsO F ta tn (ts.map Thr.fv)) (hro : RdsO F oa on (order.map fun k => .int .i64 k)) :
  Tr Try.prog mT 28 [.slice oa on oc, .slice ta tn tc] (U s0 :: all (ts.map Thr.M) :: F) .idle fun v L' x' =>
   ∃ tv cv st f', v = .tuple #[.agg #[tv, cv], .int .i64 0] ∧ x' = .idle ∧ Mach.play D.fu 16385 (D.W s0) (order.map fun k => if k < 0 then none else some k.toNat) cc = some st ∧ st.w = D.W f' ∧ st.tr.length ≤ 16384 ∧ st.l.length = cc.length ∧
    L' = vec 3 tv (trCP (st.tr.map fun e => (e.1, mkII e.2))) :: vec 1 cv (cutC (Mach.St.cut st)) :: U f' :: all (st.l.mapIdx fun k t => Pv (k, t)) :: F := by
 obtain ⟨st, hp, hr, hl⟩ := play_rel (o := order) hb h0
 refine Tr.mono (plays_tr (g := mG D U Pv) (order := order) (ts := ts) (s0 := s0) (fun p => ∃ st, Rel p st) (fun j hj => ?_) (rel_start hb h0) (fun p k h => rel_step h) (fun p ⟨st, h⟩ _ => h.ok) (fun _ _ z => z) hts h1 h16 hor hrt hro) ?_
 ·have e : (dx_ (ts.take j) s0).1 = s0 := vx_ fun t ht => hini t (List.mem_of_mem_take ht)
  rw [e]; exact h0
 ·rintro v L' x' ⟨tv, cv, rfl, rfl, rfl⟩
  refine ⟨tv, cv, st, (playF ts s0 order).s, rfl, rfl, hp, hr.w, hr.le, hl, ?_⟩
  rw [hr.tr, rel_cut hr (by rw [hl, hb.len])]
  exact congrArg (fun z => vec 3 tv (trCP (st.tr.map fun e => (e.1, mkII e.2))) :: vec 1 cv (cutC (Mach.St.cut st)) :: U (playF ts s0 order).s :: all z :: F) (pv_list (Pv := Pv) hr.qs)
end
end
section
theorem row_cells {b : Nat} {v : Value} {L : List HProp} : ∀ (n o : Nat) {h : Hp}, Star (arr b o (List.replicate n v) :: L) h → Star (all ((List.range' o n).map fun i => arr b i [v]) :: L) h
 | 0, o, h, s => bm_ (M := []) (cg_ s)
 | n + 1, o, h, s => by
  rw [List.replicate_succ] at s
  have s1 : Star (arr b o [v] :: arr b (o + 1) (List.replicate n v) :: L) h := star_cut (us := [v]) s
  rw [List.range'_succ, List.map_cons]
  exact kf_ (bp_ s1 (fun _ z => z) fun _ z => row_cells n (o + 1) z)
theorem got_nil {gb i : Nat} : ∀ h, arr gb i [.slice none 0 0] h → gotC gb i [] h := fun h z => by
 refine ⟨(.slice none 0 0, []), rfl, ?_⟩
 have s : Star (arr gb i [.slice none 0 0] :: []) h := kb_ z
 have s1 : Star (vec 1 (.slice none 0 0) [] :: all [] :: arr gb i [.slice none 0 0] :: []) h := dr_ (bm_ (M := []) s)
 exact Ent.star (.take (.there (.there .here)) (.take .here (.take .here .refl))) s1
theorem vec_row {b o n c : Nat} {cs : List Value} : ∀ h, vec 1 (.slice (some ⟨b, o, none⟩) n c) cs h → ∃ sp, arr b o (cs ++ sp) h := fun h z => by
 rcases z with ⟨e, _⟩ | ⟨b', o', n', c', sp, e, h1, h2, h3, h4⟩
 ·cases e
 ·cases e; exact ⟨sp, h4⟩
abbrev TH := Nat × (Option Addr × Nat × List CY)
def boxes (ts : List TH) : List HProp := ts.mapIdx fun i y => arr y.1 0 [.int .i64 (i : Nat)]
def thM (RoS : HProp) (gb i : Nat) (t : TH) : HProp := all [all [RoS, arr t.1 0 [.int .i64 (i : Nat)]], gotC gb i []]
theorem deal {RoS : HProp} (hd : Dup RoS) {gb : Nat} {ts : List TH} {L : List HProp} {h : Hp} (s : Star (RoS :: all (boxes ts) :: arr gb 0 (List.replicate ts.length (.slice none 0 0)) :: L) h) : Star (all (ts.mapIdx (thM RoS gb)) :: RoS :: L) h := by
 have s1 := dup_many hd s ts.length
 have s2 : Star (all (List.replicate ts.length RoS) :: all (boxes ts) :: arr gb 0 (List.replicate ts.length (.slice none 0 0)) :: RoS :: L) h := Ent.star (.take .here (.take (.there .here) (.take (.there .here) (.take .here .refl)))) s1
 have s3 := xk_ (by simp [boxes]) s2
 have s4 := row_cells ts.length 0 (cy_ s3)
 have s5 : Star (all ((List.range' 0 ts.length).map fun i => gotC gb i []) :: _) h := all_mono (by simp) (fun i a b ha hb => by
  rw [List.getElem?_map, Option.map_eq_some_iff] at ha hb
  obtain ⟨k, hk, rfl⟩ := ha
  obtain ⟨k', hk', rfl⟩ := hb
  rw [hk] at hk'
  cases hk'
  exact got_nil) s4
 have s6 := xk_ (by simp [boxes]) (cy_ s5)
 have e : List.zipWith (fun a b => all [a, b]) (List.zipWith (fun a b => all [a, b]) (List.replicate ts.length RoS) (boxes ts)) ((List.range' 0 ts.length).map fun i => gotC gb i []) = ts.mapIdx (thM RoS gb) := by
  apply List.ext_getElem?
  intro i
  by_cases hi : i < ts.length
  ·simp [boxes, thM, hi, List.getElem?_zipWith, List.getElem?_range']
  ·have h1 : (ts.mapIdx (thM RoS gb))[i]? = none := List.getElem?_eq_none_iff.2 (by simp; omega)
   rw [h1]
   apply List.getElem?_eq_none_iff.2
   simp [boxes]; omega
 rw [e] at s6
 exact s6
def t0Of (t : TH) : Mach.Th := (Mach.onF 20 (Mach.Bt (t.2.2.2.map (·.2.2)) 0 [])).getD (Mach.Bt [] 0 [])
abbrev rpF (p8 rb gd gt : Nat) (y : TH) : Value := .func (.func 26) #[] #[.pointer (some ⟨p8, 0, none⟩), .pointer (some ⟨y.1, 0, none⟩), .pointer (some ⟨rb, 0, none⟩), .pointer (some ⟨gd, 0, none⟩), .pointer (some ⟨gt, 0, none⟩)]
def hi_ (n r b p8 rb gd gt gb : Nat) (RoS : HProp) (ts : List TH) : List (Thr (ringG n r b gb gd)) := ts.mapIdx fun i t => ⟨rpF p8 rb gd gt t, fun s => (s, ((i, t0Of t) : Nat × Mach.Th)), thM RoS gb i t⟩
def ccOf (ts : List TH) : List (List Mach.Cl) := ts.map fun t => t.2.2.2.map (·.2.2)
theorem thrs_begin {n j r b p8 rb gd gt gb : Nat} {RoS : HProp} {ts : List TH} (hn : n = 2 ^ j) (hj : j ≤ 10) (hc : ∀ t ∈ ts, fy_ n (t.2.2.2.map (·.2.2))) : Begins (rowD (n + 2)) (fun f => all [wds (bx_ r b) (n + 2) [(r, 2, .slice (some ⟨b, 0, none⟩) n n)] f, arr gd 0 [.bool true]]) (rgPv gb) 0 (hi_ n r b p8 rb gd gt gb RoS ts) (ccOf ts) where
 len := by simp [hi_, ccOf]
 ini := fun k t c ht hcc => by
  simp only [ccOf, List.getElem?_map, Option.map_eq_some_iff] at hcc
  obtain ⟨y, hy, rfl⟩ := hcc
  simp only [hi_, List.getElem?_mapIdx, hy, Option.map_some, Option.some.injEq] at ht
  subst ht
  obtain ⟨t', h1, h2, h3⟩ := mo_ hn hj (hc y (List.mem_of_getElem? hy))
  refine ⟨t', h2, h3, fun s => ?_⟩
  show (s, ((k, t0Of y) : Nat × Mach.Th)) = _
  unfold t0Of
  rw [h1, Nat.zero_add]; rfl
abbrev roS (qb qo qc p8 rb gt gb r : Nat) (rs : List RW) (sp : List Value) (L : List HProp) : HProp := all [fro qb qo (rs.map rv ++ sp), fro p8 0 [.slice (some ⟨qb, qo, none⟩) rs.length qc], fro rb 0 [.pointer (some ⟨r, 0, none⟩)], fro gt 0 [.slice (some ⟨gb, 0, none⟩) rs.length rs.length], all L]
theorem thrs_ok {n j r b p8 rb gd gt gb qb qo qc : Nat} {rs : List RW} {sp : List Value} {L : List HProp} {ts : List TH} (hne : r ≠ b) (hn : n = 2 ^ j) (hj : j ≤ 10) (hrow : ∀ (i : Nat) y, rs[i]? = some y → DoAt L y.1 y.2.2 ∧ y.2.2.length ≤ 16) (hts : ts.length = rs.length)
  (hg : ∀ (i : Nat) t y, ts[i]? = some t → rs[i]? = some y → t.2.2.2.map (·.2.2) = fv_ n y.2.2) : ∀ t ∈ hi_ n r b p8 rb gd gt gb (roS qb qo qc p8 rb gt gb r rs sp L) ts, ThrOk (ringG n r b gb gd) t.ini t.fv t.M := by
 intro t ht
 obtain ⟨i, hi⟩ := List.mem_iff_getElem?.1 ht
 simp only [hi_, List.getElem?_mapIdx, Option.map_eq_some_iff] at hi
 obtain ⟨y, hy, rfl⟩ := hi
 have hil := (List.getElem?_eq_some_iff.1 hy).1
 obtain ⟨z, hz⟩ : ∃ z, rs[i]? = some z := ⟨rs[i]'(by omega), List.getElem?_eq_getElem (by omega)⟩
 obtain ⟨hdo, h16⟩ := hrow i z hz
 have hcl := hg i y z hy hz
 obtain ⟨t', h1, _, _⟩ := mo_ hn hj (mz_ (n := n) (l := z.2.2) fun w hw => (hdo.rng w hw).2)
 have ht0 : t0Of y = t' := by unfold t0Of; rw [hcl, h1]; rfl
 have lift : ∀ {b o v}, Rd [fro qb qo (rs.map rv ++ sp), fro p8 0 [.slice (some ⟨qb, qo, none⟩) rs.length qc], fro rb 0 [.pointer (some ⟨r, 0, none⟩)], fro gt 0 [.slice (some ⟨gb, 0, none⟩) rs.length rs.length], all L] b o v → Rd [all [roS qb qo qc p8 rb gt gb r rs sp L, arr y.1 0 [.int .i64 (i : Nat)]]] b o v := fun h => hd_ (hd_ h)
 have O : ThRo (all [roS qb qo qc p8 rb gt gb r rs sp L, arr y.1 0 [.int .i64 (i : Nat)]]) p8 y.1 rb gt qb qo rs.length qc gb rs.length i r z.1 z.2.1 z.2.2 :=
  {
   h1 := lift (.there (Rd.fro (k := 0) rfl rfl))
   h2 := lift (Rd.fro (k := i) (by rw [List.getElem?_append_left (by rw [List.length_map]; omega), List.getElem?_map, hz]; rfl) rfl)
   h3 := fun q w hw => by
    obtain ⟨b', o', e, r1, r2⟩ := hdo.at_ q w hw
    refine ⟨b', o', e, fun m v hm => ?_⟩
    match m, hm with
    | 0, hm => cases hm; exact lift (.there (.there (.there (.there (hd_ r1)))))
    | 1, hm => cases hm; exact lift (.there (.there (.there (.there (hd_ r2)))))
   h4 := hd_ (.there (.row0 rfl))
   h5 := lift (.there (.there (Rd.fro (k := 0) rfl rfl)))
   h6 := lift (.there (.there (.there (Rd.fro (k := 0) rfl rfl))))
   hk := by omega
   hl := h16
   ok := hdo.rng }
 show ThrOk (ringG n r b gb gd) (fun s => (s, ((i, t0Of y) : Nat × Mach.Th))) (rpF p8 rb gd gt y) (thM _ gb i y)
 rw [ht0]
 exact thr_ok hne hn hj O h1
theorem thrs_M {n r b p8 rb gd gt gb : Nat} {RoS : HProp} {ts : List TH} : (hi_ n r b p8 rb gd gt gb RoS ts).map Thr.M = ts.mapIdx (thM RoS gb) := by
 apply List.ext_getElem?
 intro k
 simp only [hi_, List.getElem?_map, List.getElem?_mapIdx]
 cases ts[k]? <;> rfl
theorem thrs_fv {n r b p8 rb gd gt gb : Nat} {RoS : HProp} {ts : List TH} : (hi_ n r b p8 rb gd gt gb RoS ts).map Thr.fv = ts.map (rpF p8 rb gd gt) := by
 apply List.ext_getElem?
 intro k
 simp only [hi_, List.getElem?_map, List.getElem?_mapIdx]
 cases ts[k]? <;> rfl
theorem thrs_ini {n r b p8 rb gd gt gb : Nat} {RoS : HProp} {ts : List TH} : ∀ t ∈ hi_ n r b p8 rb gd gt gb RoS ts, ∀ s, (t.ini s).1 = s := fun t ht s => by
 obtain ⟨i, hi⟩ := List.mem_iff_getElem?.1 ht
 simp only [hi_, List.getElem?_mapIdx, Option.map_eq_some_iff] at hi
 obtain ⟨y, hy, rfl⟩ := hi
 rfl
end
end Go.Proofs.Ytdcbnbmahndecaa
namespace Go.Proofs.Ytdcbnbmahndecaa
open Go Go.PB
attribute [local irreducible] Mo Bin Eql Tr Wo Ap
section
section
variable {B : Hand} [Lets B] {x : B.X} {n k : Nat}
theorem done_comes {addr : Nat → Nat × Nat} {K : List (Nat × Nat × Value)} {A : Apart addr (n + 2) K} {nb : Nat} (hn : n = 2 ^ k) (hk : k ≤ 10) {kd v : Nat} (hv : v < 18446744073709551616) (f : Nat → Nat) :
  ∃ told f' ms, DoneT (tt_ x addr (n + 2) K A nb) n kd v (f, []) (fun told' s' => told' = told ∧ s' = (f', ms.map mkI)) ∧ Mach.Comes 30 9 ⟨[rowOf (n + 2) f], 1⟩ (fh_ n kd v) ⟨[rowOf (n + 2) f'], 1⟩ told ms ∧ ms.length ≤ 4 ∧ told.length ≤ 2 := by
 have hpos : 0 < n := by rw [hn]; exact Nat.two_pow_pos k
 by_cases k0 : kd = 0
 ·rw [show fh_ n kd v = Mach.putCl n v from if_pos k0]
  have h := Mach.put_alone hn hk (gu_ (f := f)) hv (cd_ (by omega)) (cd_ (by omega))
  have hm : f 1 % n < n := Nat.mod_lt _ hpos
  split at h
  ·rename_i hd
   rw [qr_, qr_] at h
   refine ⟨_, _, _, (iff_of_eq (if_pos k0)).mpr ?_, h, by simp, by simp⟩
   refine ⟨by simp, by omega, by simp, by omega, ?_⟩
   show if n ≤ (f 1 + 18446744073709551616 - f 0) % 18446744073709551616 then _ else _
   rw [if_neg (by omega)]
   refine ⟨by simp, (show 2 + f 1 % n < n + 2 by omega), by simp, by omega, rfl, ?_⟩
   rw [Nat.add_comm 2]
   rfl
  ·rename_i hd
   refine ⟨_, _, _, (iff_of_eq (if_pos k0)).mpr ?_, h, by simp, by simp⟩
   refine ⟨by simp, by omega, by simp, by omega, ?_⟩
   show if n ≤ (f 1 + 18446744073709551616 - f 0) % 18446744073709551616 then _ else _
   rw [if_pos (by omega)]
   exact ⟨rfl, rfl⟩
 ·by_cases k1 : kd = 1
  ·rw [show fh_ n kd v = Mach.takeCl n from (if_neg k0).trans (if_pos k1)]
   have hm : f 0 % n < n := Nat.mod_lt _ hpos
   have h := Mach.take_alone hn hk (gu_ (f := f)) (cd_ (by omega)) (cd_ (by omega)) (cd_ (by omega))
   split at h
   ·rename_i hd
    refine ⟨_, _, _, (iff_of_eq ((if_neg k0).trans (if_pos k1))).mpr ?_, h, by simp, by simp⟩
    refine ⟨by simp, by omega, by simp, by omega, ?_⟩
    show if f 0 = f 1 then _ else _
    rw [if_pos hd]
    exact ⟨rfl, rfl⟩
   ·rename_i hd
    rw [qr_] at h
    refine ⟨_, _, _, (iff_of_eq ((if_neg k0).trans (if_pos k1))).mpr ?_, h, by simp, by simp⟩
    refine ⟨by simp, by omega, by simp, by omega, ?_⟩
    show if f 0 = f 1 then _ else _
    rw [if_neg hd]
    refine ⟨by simp, (show 2 + f 0 % n < n + 2 by omega), by simp, by omega, ?_, ?_⟩
    ·rw [Nat.add_comm 2]; rfl
    ·rw [Nat.add_comm 2]; rfl
  ·rw [show fh_ n kd v = Mach.lenCl n from (if_neg k0).trans (if_neg k1)]
   have h := Mach.len_alone hn hk (cd_ (N := n + 2) (f := f) (i := 1) (by omega)) (cd_ (by omega))
   refine ⟨_, _, _, (iff_of_eq ((if_neg k0).trans (if_neg k1))).mpr ?_, h, by simp, by simp⟩
   exact ⟨by simp, by omega, by simp, by omega, rfl, rfl⟩
end
end
section
variable {B : Hand} [Lets B] {L F : List HProp} {x : B.X}
def mayInv (x : B.X) (L : List HProp) (n : Int) : Inv Nat B.X where
 e := fun k => [(0, .int .i64 n), (3, .int .i64 ((2 ^ k : Nat) : Int))]
 L := fun _ => L
 x := fun _ => x
 ok := fun k => k ≤ 11 ∧ ∀ j, j < k → n ≠ ((2 ^ j : Nat) : Int)
theorem may_tr {n : Int} {q : Bool} (hq : q = true ↔ ∃ k, k ≤ 10 ∧ n = ((2 ^ k : Nat) : Int)) :
  Tr Try.prog B 15 [.int .i64 n] L x fun v L' x' => v = .bool q ∧ L' = L ∧ x' = x := by
 refine bd_ Try.func15 rfl Try.ntmps15 (by simp) fun um Q _ hQ => ?_
 simp only [argE, Nat.zero_add, Nat.reduceAdd]
 repeat (first | (fail) | refine wlssT ?_ | refine wlssF ?_ | refine wleqT ?_ | refine wleqF ?_ | refine wgtrT ?_ | refine wgtrF ?_ | refine wgeqT ?_ | refine wgeqF ?_ | refine weqlT ?_ | refine weqlF ?_ | refine wneqT ?_ | refine wneqF ?_ | refine bb_ ?_ | (refine wR ?_; try simp only [oS]) | refine ba_ ?_ | refine wM ?_ | refine wA ?_ | (apply wo_no; exact rfl) | (apply wo_nu; exact rfl) | refine wK ?_ | refine wJ ?_ | refine wN ?_ | refine wD ?_ | (apply wo_po; apply cb_; exact rfl; exact rfl; exact gY) | (apply wo_po; apply dq_; exact rfl; exact gY) | refine wL ?_ | (apply wo_po; apply bh_; exact rfl; exact rfl; exact sb_; exact gY) | (apply wo_po; apply bh_; exact rfl; exact rfl; exact sd_; exact gY) | (apply wo_po; apply bh_; exact rfl; exact rfl; exact sc_; exact gY) | (apply wo_po; apply bh_; exact rfl; exact rfl; exact pc_; exact gY) | (apply wo_po; apply bh_; exact rfl; exact rfl; exact ha_; exact gY) | (apply wo_po; apply bh_; exact rfl; exact rfl; exact pb_; exact gY) | refine wadd ?_ | refine wsub ?_ | (apply wo_po; apply bh_; exact rfl; exact rfl; apply dv_; apply dg_; exact gY) | (apply wo_po; apply bh_; exact rfl; exact rfl; apply gf_; apply dg_; exact gY) | (apply wo_po; apply bh_; exact rfl; exact rfl; apply dv_; apply df_; exact gY) | (apply wo_po; apply bh_; exact rfl; exact rfl; apply gf_; apply df_; exact gY) | (apply wo_po; apply bh_; exact rfl; exact rfl; apply dv_; apply fr_; exact gY) | (apply wo_po; apply bh_; exact rfl; exact rfl; apply gf_; apply fr_; exact gY) | (apply wo_po; apply bh_; exact rfl; exact rfl; apply dv_; apply gk_; exact gY) | refine wE ?_ | (apply wo_po; apply dz_; exact rfl; (first | exact dd_ (by omega) (by omega) | exact wrap_u64 (by omega) (by omega)); exact gY) | (apply wo_po; apply vp_; exact rfl; exact rfl; exact gY) | refine wT ?_ | refine wF ?_ | refine br_ ?_ | refine bk_ ?_ | refine we_label ?_ | refine bg_ ?_ | refine we_scope ?_ | refine cm_ ?_)
 refine co_ (mayInv x L n) (fun k => 11 - k) 0 ⟨by omega, fun j hj => by omega⟩ ⟨rfl, rfl, trivial⟩ .refl rfl ?_
 rintro k ⟨hk, hno⟩
 dsimp only [mayInv] at hk hno ⊢
 obtain ⟨m, hm⟩ : ∃ m, 2 ^ k = m := ⟨_, rfl⟩
 have h2 : 2 ^ (k + 1) = 2 * m := by rw [← hm]; omega
 rw [hm]
 by_cases hc : k ≤ 10
 ·have hle : m ≤ 1024 := by rw [← hm]; exact fp_ hc
  have hpos : 0 < m := by rw [← hm]; exact Nat.two_pow_pos k
  by_cases he : (m : Int) = n
  ·repeat (first | (fail) | refine wlssT ?_ | refine wlssF ?_ | refine wleqT ?_ | refine wleqF ?_ | refine wgtrT ?_ | refine wgtrF ?_ | refine wgeqT ?_ | refine wgeqF ?_ | refine weqlT ?_ | refine weqlF ?_ | refine wneqT ?_ | refine wneqF ?_ | refine bb_ ?_ | (refine wR ?_; try simp only [oS]) | refine ba_ ?_ | refine wM ?_ | refine wA ?_ | (apply wo_no; exact rfl) | (apply wo_nu; exact rfl) | refine wK ?_ | refine wJ ?_ | refine wN ?_ | refine wD ?_ | (apply wo_po; apply cb_; exact rfl; exact rfl; exact gY) | (apply wo_po; apply dq_; exact rfl; exact gY) | refine wL ?_ | (apply wo_po; apply bh_; exact rfl; exact rfl; exact sb_; exact gY) | (apply wo_po; apply bh_; exact rfl; exact rfl; exact sd_; exact gY) | (apply wo_po; apply bh_; exact rfl; exact rfl; exact sc_; exact gY) | (apply wo_po; apply bh_; exact rfl; exact rfl; exact pc_; exact gY) | (apply wo_po; apply bh_; exact rfl; exact rfl; exact ha_; exact gY) | (apply wo_po; apply bh_; exact rfl; exact rfl; exact pb_; exact gY) | refine wadd ?_ | refine wsub ?_ | (apply wo_po; apply bh_; exact rfl; exact rfl; apply dv_; apply dg_; exact gY) | (apply wo_po; apply bh_; exact rfl; exact rfl; apply gf_; apply dg_; exact gY) | (apply wo_po; apply bh_; exact rfl; exact rfl; apply dv_; apply df_; exact gY) | (apply wo_po; apply bh_; exact rfl; exact rfl; apply gf_; apply df_; exact gY) | (apply wo_po; apply bh_; exact rfl; exact rfl; apply dv_; apply fr_; exact gY) | (apply wo_po; apply bh_; exact rfl; exact rfl; apply gf_; apply fr_; exact gY) | (apply wo_po; apply bh_; exact rfl; exact rfl; apply dv_; apply gk_; exact gY) | refine wE ?_ | (apply wo_po; apply dz_; exact rfl; (first | exact dd_ (by omega) (by omega) | exact wrap_u64 (by omega) (by omega)); exact gY) | (apply wo_po; apply vp_; exact rfl; exact rfl; exact gY) | refine wT ?_ | refine wF ?_ | refine br_ ?_ | refine bk_ ?_ | refine we_label ?_ | refine bg_ ?_ | refine we_scope ?_ | refine cm_ ?_)
   (first | refine or1 Try.func15 Try.results15 hQ rfl ?_ | refine on1 Try.func15 Try.results15 hQ rfl ?_)
   have : q = true := hq.2 ⟨k, hc, by rw [hm, he]⟩
   exact ⟨by rw [this], rfl, rfl⟩
  ·repeat (first | (apply wo_po; apply bh_; exact rfl; exact rfl; apply bin_mul; exact dd_ (by omega) (by omega); exact trivial) | refine wlssT ?_ | refine wlssF ?_ | refine wleqT ?_ | refine wleqF ?_ | refine wgtrT ?_ | refine wgtrF ?_ | refine wgeqT ?_ | refine wgeqF ?_ | refine weqlT ?_ | refine weqlF ?_ | refine wneqT ?_ | refine wneqF ?_ | refine bb_ ?_ | (refine wR ?_; try simp only [oS]) | refine ba_ ?_ | refine wM ?_ | refine wA ?_ | (apply wo_no; exact rfl) | (apply wo_nu; exact rfl) | refine wK ?_ | refine wJ ?_ | refine wN ?_ | refine wD ?_ | (apply wo_po; apply cb_; exact rfl; exact rfl; exact gY) | (apply wo_po; apply dq_; exact rfl; exact gY) | refine wL ?_ | (apply wo_po; apply bh_; exact rfl; exact rfl; exact sb_; exact gY) | (apply wo_po; apply bh_; exact rfl; exact rfl; exact sd_; exact gY) | (apply wo_po; apply bh_; exact rfl; exact rfl; exact sc_; exact gY) | (apply wo_po; apply bh_; exact rfl; exact rfl; exact pc_; exact gY) | (apply wo_po; apply bh_; exact rfl; exact rfl; exact ha_; exact gY) | (apply wo_po; apply bh_; exact rfl; exact rfl; exact pb_; exact gY) | refine wadd ?_ | refine wsub ?_ | (apply wo_po; apply bh_; exact rfl; exact rfl; apply dv_; apply dg_; exact gY) | (apply wo_po; apply bh_; exact rfl; exact rfl; apply gf_; apply dg_; exact gY) | (apply wo_po; apply bh_; exact rfl; exact rfl; apply dv_; apply df_; exact gY) | (apply wo_po; apply bh_; exact rfl; exact rfl; apply gf_; apply df_; exact gY) | (apply wo_po; apply bh_; exact rfl; exact rfl; apply dv_; apply fr_; exact gY) | (apply wo_po; apply bh_; exact rfl; exact rfl; apply gf_; apply fr_; exact gY) | (apply wo_po; apply bh_; exact rfl; exact rfl; apply dv_; apply gk_; exact gY) | refine wE ?_ | (apply wo_po; apply dz_; exact rfl; (first | exact dd_ (by omega) (by omega) | exact wrap_u64 (by omega) (by omega)); exact gY) | (apply wo_po; apply vp_; exact rfl; exact rfl; exact gY) | refine wT ?_ | refine wF ?_ | refine br_ ?_ | refine bk_ ?_ | refine we_label ?_ | refine bg_ ?_ | refine we_scope ?_ | refine cm_ ?_)
   refine dm_ (I := mayInv x L n) (R := fun i' => 11 - i' < 11 - k) (k + 1) (by omega) ⟨by omega, fun j hj => ?_⟩ ⟨rfl, ?_, trivial⟩ .refl rfl
   ·by_cases e : j = k
    ·subst e; rw [hm]; exact fun h => he h.symm
    ·exact hno j (by omega)
   ·show some (Value.int .i64 (2 * (m : Int))) = some (Value.int .i64 ((2 ^ (k + 1) : Nat) : Int))
    rw [h2, Int.natCast_mul]
    rfl
 ·have : k = 11 := by omega
  subst this
  have hm' : m = 2048 := hm.symm
  subst hm'
  repeat (first | (fail) | refine wlssT ?_ | refine wlssF ?_ | refine wleqT ?_ | refine wleqF ?_ | refine wgtrT ?_ | refine wgtrF ?_ | refine wgeqT ?_ | refine wgeqF ?_ | refine weqlT ?_ | refine weqlF ?_ | refine wneqT ?_ | refine wneqF ?_ | refine bb_ ?_ | (refine wR ?_; try simp only [oS]) | refine ba_ ?_ | refine wM ?_ | refine wA ?_ | (apply wo_no; exact rfl) | (apply wo_nu; exact rfl) | refine wK ?_ | refine wJ ?_ | refine wN ?_ | refine wD ?_ | (apply wo_po; apply cb_; exact rfl; exact rfl; exact gY) | (apply wo_po; apply dq_; exact rfl; exact gY) | refine wL ?_ | (apply wo_po; apply bh_; exact rfl; exact rfl; exact sb_; exact gY) | (apply wo_po; apply bh_; exact rfl; exact rfl; exact sd_; exact gY) | (apply wo_po; apply bh_; exact rfl; exact rfl; exact sc_; exact gY) | (apply wo_po; apply bh_; exact rfl; exact rfl; exact pc_; exact gY) | (apply wo_po; apply bh_; exact rfl; exact rfl; exact ha_; exact gY) | (apply wo_po; apply bh_; exact rfl; exact rfl; exact pb_; exact gY) | refine wadd ?_ | refine wsub ?_ | (apply wo_po; apply bh_; exact rfl; exact rfl; apply dv_; apply dg_; exact gY) | (apply wo_po; apply bh_; exact rfl; exact rfl; apply gf_; apply dg_; exact gY) | (apply wo_po; apply bh_; exact rfl; exact rfl; apply dv_; apply df_; exact gY) | (apply wo_po; apply bh_; exact rfl; exact rfl; apply gf_; apply df_; exact gY) | (apply wo_po; apply bh_; exact rfl; exact rfl; apply dv_; apply fr_; exact gY) | (apply wo_po; apply bh_; exact rfl; exact rfl; apply gf_; apply fr_; exact gY) | (apply wo_po; apply bh_; exact rfl; exact rfl; apply dv_; apply gk_; exact gY) | refine wE ?_ | (apply wo_po; apply dz_; exact rfl; (first | exact dd_ (by omega) (by omega) | exact wrap_u64 (by omega) (by omega)); exact gY) | (apply wo_po; apply vp_; exact rfl; exact rfl; exact gY) | refine wT ?_ | refine wF ?_ | refine br_ ?_ | refine bk_ ?_ | refine we_label ?_ | refine bg_ ?_ | refine we_scope ?_ | refine cm_ ?_)
  (first | refine or1 Try.func15 Try.results15 hQ rfl ?_ | refine on1 Try.func15 Try.results15 hQ rfl ?_)
  have : q = false := by
   cases q with
   | false => rfl
   | true =>
    obtain ⟨j, hj, e⟩ := hq.1 rfl
    exact absurd e (hno j (by omega))
  exact ⟨by rw [this], rfl, rfl⟩
end
section
section
variable {B : Hand} [Lets B] {L F G : List HProp} {x : B.X} {n k : Nat}
theorem wt_ {kd v : Nat} (hn : n ≤ 1024) (hv : v < 18446744073709551616) : (fh_ n kd v).ok = true := by
 unfold fh_
 split
 ·simp [Mach.Cl.ok, Mach.putCl, Mach.In.ok]; omega
 split
 ·simp [Mach.Cl.ok, Mach.takeCl, Mach.In.ok]; omega
 ·simp [Mach.Cl.ok, Mach.lenCl, Mach.In.ok]; omega
theorem ring_at_n {r b nb : Nat} (h : r ≠ b) (hn : n = 2 ^ k) (hk : k ≤ 10) : RingAt (tt_ x (bx_ r b) (n + 2) _ (ft_ h n) nb) r b n k where
 hn := hn
 hk := hk
 hdr := fun s h hs => by
  obtain ⟨h1, h2, s1, hc, _⟩ := hs
  obtain ⟨h3, h4, s2, hd, _⟩ := hc
  exact ⟨rfl, .inl (s1.o1 _ _ _ (s2.o1 _ _ _ (hd.2 (r, 2, .slice (some ⟨b, 0, none⟩) n n) (List.mem_singleton.2 rfl))))⟩
 a0 := rfl
 a1 := rfl
 a2 := fun i _ => by show bx_ r b (2 + i) = _; rw [Nat.add_comm]; rfl
theorem done_n {r b nb : Nat} {f : Nat → Nat} (h : r ≠ b) (hn : n = 2 ^ k) (hk : k ≤ 10) {kind : Int} {kd v : Nat} (hr : -9223372036854775808 ≤ kind ∧ kind ≤ 9223372036854775807) (hkd : kind % 3 = kd) (hv : v < 18446744073709551616)
  (hh : Has L (hs_ nb []) G) (hw : Has G (wds (bx_ r b) (n + 2) [(r, 2, .slice (some ⟨b, 0, none⟩) n n)] f) F) :
  Tr Try.prog B 19 [.pointer (some ⟨r, 0, none⟩), .iface 48 (.pointer (some ⟨nb, 0, none⟩)), .agg #[.int .i64 kind, .int .u64 (v : Nat)]] L x fun w L' x' => ∃ told f' ms bv, Mach.Comes 30 9 ⟨[rowOf (n + 2) f], 1⟩ (fh_ n kd v) ⟨[rowOf (n + 2) f'], 1⟩ told ms ∧ ms.length ≤ 4 ∧ told.length ≤ 2 ∧ w = .tuple #[bv, .int .i64 0] ∧ L' = vec 1 bv (told.map num) :: wds (bx_ r b) (n + 2) [(r, 2, .slice (some ⟨b, 0, none⟩) n n)] f' :: hs_ nb (ms.map mkI) :: F ∧ x' = x := by
 obtain ⟨told, f', ms, h1, h2, h3, h4⟩ := done_comes (B := B) (x := x) (addr := bx_ r b) (K := _) (A := ft_ h n) (nb := nb) (kd := kd) hn hk hv f
 refine da_ ((tt_ x (bx_ r b) (n + 2) _ (ft_ h n) nb).C (f, []) :: F) (fun hp st => ?_) ?_
 ·exact bm_ (M := [_, _]) (cy_ (bp_ (hh.star st) (fun _ y => y) (fun _ y => hw.star y)))
 refine (done_tr (A := tt_ x (bx_ r b) (n + 2) _ (ft_ h n) nb) (ring_at_n h hn hk) hr hkd hv h1 .here).post ?_
 rintro v' L' x' ⟨told', s', bv, ⟨rfl, rfl⟩, rfl, rfl, rfl⟩
 refine ⟨_, ⟨told', f', ms, bv, h2, h3, h4, rfl, rfl, rfl⟩, fun hp st => ?_⟩
 exact bp_ st (fun _ y => y) (fun _ y => bt_ (M := [_, _]) y)
theorem new_nopow {n : Nat} (h1 : 1 ≤ n) (h2 : n ≤ 1024) (h : ¬ ∃ k, k ≤ 10 ∧ n = 2 ^ k) :
  Tr Try.prog B 10 [.int .i64 (n : Nat)] L x fun v L' x' => v = .tuple #[.pointer none, .int .i64 2] ∧ L' = L ∧ x' = x := by
 have hand : ¬ IntKind.i64.wrap (BitVec.ofInt IntKind.i64.bits (n : Int) &&& BitVec.ofInt IntKind.i64.bits ((n : Int) - 1)).toNat = 0 := by
  have e1 : ((n : Int) - 1) = ((n - 1 : Nat) : Int) := by omega
  rw [e1, and_i64 (by omega) (by omega)]
  intro h0
  exact h ((vd_ h1 h2).1 (by omega))
 obtain ⟨q, hq⟩ : ∃ q, IntKind.i64.wrap (BitVec.ofInt IntKind.i64.bits (n : Int) &&& BitVec.ofInt IntKind.i64.bits ((n : Int) - 1)).toNat = q := ⟨_, rfl⟩
 rw [hq] at hand
 refine bd_ Try.func10 rfl Try.ntmps10 (by simp) fun um Q _ hQ => ?_
 simp only [argE, Nat.zero_add, Nat.reduceAdd]
 repeat (first | (apply wo_po; apply bh_; exact rfl; exact rfl; apply jt_; exact hq; exact gY) | refine wlssF ?_ | refine wgtrF ?_ | refine wneqT ?_ | refine bb_ ?_ | (refine wR ?_; try simp only [oS]) | refine ba_ ?_ | refine wM ?_ | refine wA ?_ | refine wJ ?_ | refine wsub ?_ | refine wT ?_ | refine br_ ?_)
 (first | refine or2 Try.func10 Try.results10 hQ rfl rfl ?_ | refine on2 Try.func10 Try.results10 hQ rfl rfl ?_)
 exact ⟨rfl, rfl, rfl⟩
end
end
end Go.Proofs.Ytdcbnbmahndecaa
namespace Go.Proofs.Ytdcbnbmahndecaa
open Go Go.PB
attribute [local irreducible] Mo Bin Eql Tr Wo Ap Wle
attribute [local instance] Pass.of_no
section
def thC1 (y : TH) : Value := .slice y.2.1 y.2.2.2.length y.2.2.1
def jo_ (y : TH) : HProp := codeC (cwOf y.2.1 y.2.2.1 y.2.2.2) (y.2.2.2.map (·.2.2))
def thGood (n : Nat) (rs : List RW) (ts : List TH) : Prop := ∀ (i : Nat) t y, ts[i]? = some t → rs[i]? = some y → t.2.2.2.map (·.2.2) = fv_ n y.2.2
def rpFix (p8 rb gd gt gb r b n : Nat) (qv : Value) (rs : List RW) (L : List HProp) : List HProp :=
 arr gd 0 [.bool true] :: arr gt 0 [.slice (some ⟨gb, 0, none⟩) rs.length rs.length] :: arr gb 0 (zeros rs.length [.slice none 0 0]) :: arr rb 0 [.pointer (some ⟨r, 0, none⟩)] :: wds (bx_ r b) (n + 2) [(r, 2, .slice (some ⟨b, 0, none⟩) n n)] (fun _ => 0) :: arr p8 0 [qv] :: vec 1 qv (rs.map rv) :: L
def rpOut (p8 rb gd gt gb r b n : Nat) (qv ov : Value) (rs : List RW) (L : List HProp) : PB.Inv (Nat × Nat × Value × Value × List TH) MX where
 e := fun i => [(2, ov), (7, .int .i64 (n : Nat)), (8, .pointer (some ⟨p8, 0, none⟩)), (9, .pointer (some ⟨rb, 0, none⟩)), (11, .pointer (some ⟨gt, 0, none⟩)), (12, .pointer (some ⟨gd, 0, none⟩)), (13, i.2.2.1), (14, i.2.2.2.1), (15, .pointer (some ⟨i.2.1, 0, none⟩))]
 L := fun i => arr i.2.1 0 [.int .i64 (i.1 : Nat)] :: vec 1 i.2.2.1 (i.2.2.2.2.map (rpF p8 rb gd gt)) :: vec 1 i.2.2.2.1 (i.2.2.2.2.map thC1) :: all (boxes i.2.2.2.2) :: all (i.2.2.2.2.map jo_) :: rpFix p8 rb gd gt gb r b n qv rs L
 x := fun _ => .idle
 ok := fun i => i.1 ≤ rs.length ∧ i.2.2.2.2.length = i.1 ∧ thGood n rs i.2.2.2.2
def rpIn (p8 rb gd gt gb r b n i ib : Nat) (qv ov tv cv : Value) (rs : List RW) (ts : List TH) (row : List (Int × Nat)) (fv : Value) (L : List HProp) : PB.Inv (Nat × Value × List CY) MX where
 e := fun k => [(2, ov), (7, .int .i64 (n : Nat)), (8, .pointer (some ⟨p8, 0, none⟩)), (9, .pointer (some ⟨rb, 0, none⟩)), (11, .pointer (some ⟨gt, 0, none⟩)), (12, .pointer (some ⟨gd, 0, none⟩)), (13, tv), (14, cv), (15, .pointer (some ⟨ib, 0, none⟩)), (16, k.2.1), (17, .int .i64 (k.1 : Nat))]
 L := fun k => vec 2 k.2.1 (k.2.2.map clV).flatten :: all (k.2.2.map clK) :: arr ib 0 [.int .i64 (i : Nat)] :: vec 1 tv (ts.map (rpF p8 rb gd gt) ++ [fv]) :: vec 1 cv (ts.map thC1) :: all (boxes ts) :: all (ts.map jo_) :: rpFix p8 rb gd gt gb r b n qv rs L
 x := fun _ => .idle
 ok := fun k => k.1 ≤ row.length ∧ k.2.2.length = k.1 ∧ k.2.2.map (·.2.2) = (fv_ n row).take k.1
theorem js_ {L : List HProp} : ∀ (M : List HProp) {b o : Nat} {v : Value}, Rd L b o v → Rd (M ++ L) b o v
 | [], b, o, v, h => h
 | c :: M, b, o, v, h => .there (js_ M h)
theorem few_at {L : List HProp} {a : Option Addr} {rs : List RW} (h : ThsAt L a rs) : ∀ (i : Nat) y, (fewR rs)[i]? = some y → DoAt L y.1 y.2.2 ∧ y.2.2.length ≤ 16 := by
 intro i y hy
 unfold fewR at hy
 split at hy
 ·have : y = (none, 0, []) := by
   have := List.mem_of_getElem? hy
   simpa using this
  subst this
  exact ⟨⟨fun z hz => by simp at hz, fun j z hz => by simp at hz⟩, by simp⟩
 ·rw [List.getElem?_map, Option.map_eq_some_iff] at hy
  obtain ⟨z, hz, rfl⟩ := hy
  rw [List.getElem?_take] at hz
  split at hz
  ·obtain ⟨b, o, _, _, hd, _⟩ := h i z hz
   refine ⟨⟨fun w hw => hd.rng w (List.mem_of_mem_take hw), fun j w hw => ?_⟩, by simp only [cutR, List.length_take]; omega⟩
   simp only [cutR, List.getElem?_take] at hw
   split at hw
   ·exact hd.at_ j w hw
   ·cases hw
  ·cases hz
theorem callCl_data {n kd v : Nat} : (fh_ n kd v).data = [] := by
 unfold fh_
 split
 ·rfl
 split <;> rfl
theorem boxes_snoc {ts : List TH} {t : TH} : boxes (ts ++ [t]) = boxes ts ++ [arr t.1 0 [.int .i64 (ts.length : Nat)]] := by
 unfold boxes
 rw [List.mapIdx_append]
 simp
theorem thGood_snoc {n : Nat} {rs : List RW} {ts : List TH} {t : TH} {y : RW} (h : thGood n rs ts) (hy : rs[ts.length]? = some y) (ht : t.2.2.2.map (·.2.2) = fv_ n y.2.2) : thGood n rs (ts ++ [t]) := fun i u z hu hz => by
 by_cases hi : i < ts.length
 ·rw [List.getElem?_append_left hi] at hu
  exact h i u z hu hz
 ·rw [List.getElem?_append_right (by omega)] at hu
  have hlt := (List.getElem?_eq_some_iff.1 hu).1
  simp only [List.length_cons, List.length_nil] at hlt
  obtain rfl : i = ts.length := by omega
  rw [Nat.sub_self] at hu
  cases hu
  rw [hy] at hz
  cases hz
  exact ht
theorem rdso_lift {L : List HProp} (M : List HProp) {a : Option Addr} {n : Nat} {vs : List Value} (h : RdsO L a n vs) : RdsO (M ++ L) a n vs :=
 ⟨h.1, h.2.imp id fun ⟨b, o, e, r⟩ => ⟨b, o, e, fun i v hi => js_ M (r i v hi)⟩⟩
def ccK (ts : List TH) : Calls := ts.map fun t => (cwOf t.2.1 t.2.2.1 t.2.2.2, t.2.2.2.map (·.2.2))
theorem ccK_calls {ts : List TH} : (ccK ts).map (·.2) = ccOf ts := by
 simp only [ccK, ccOf, List.map_map]; rfl
theorem ccK_v {ts : List TH} : (ccK ts).map cvK = ts.map thC1 := by
 simp only [ccK, List.map_map]
 apply List.map_congr_left
 intro t _
 show Value.slice t.2.1 (t.2.2.2.map (·.2.2)).length t.2.2.1 = Value.slice t.2.1 t.2.2.2.length t.2.2.1
 rw [List.length_map]
theorem codes_ok {n : Nat} {ts : List TH} {F : List HProp} (hn : n ≤ 1024) (hl : ts.length < 1000) (hc : ∀ t ∈ ts, fy_ n (t.2.2.2.map (·.2.2))) (h16 : ∀ t ∈ ts, t.2.2.2.length < 1000000) : CallsOk (all (ts.map jo_) :: F) (ccK ts) where
 n := by simpa [ccK] using hl
 obs := fun y hy h s => by
  obtain ⟨t, ht, rfl⟩ := List.mem_map.1 hy
  obtain ⟨i, hi⟩ := List.mem_iff_getElem?.1 ht
  obtain ⟨R, hR⟩ := star_pick (M := ts.map jo_) (i := i) (c := jo_ t) (by rw [List.getElem?_map, hi]; rfl) (bt_ s)
  obtain ⟨h1, h2, sp, hc1, _⟩ := hR
  exact code_mono sp hc1
 ok := fun y hy => by
  obtain ⟨t, ht, rfl⟩ := List.mem_map.1 hy
  rw [List.all_eq_true]
  intro cl hcl
  obtain ⟨i, hi⟩ := List.mem_iff_getElem?.1 hcl
  obtain ⟨kd, v, rfl, hv⟩ := hc t ht i cl hi
  exact wt_ hn hv
 len := fun y hy => by
  obtain ⟨t, ht, rfl⟩ := List.mem_map.1 hy
  simpa using h16 t ht
set_option maxHeartbeats 4000000 in
theorem rplays_tr {L : List HProp} {slots : Int} {ta oa : Option Addr} {tc oc : Nat} {rs0 : List RW} {order : List Int} (hL : Dup (all L)) (hs : -9223372036854775808 ≤ slots ∧ slots ≤ 9223372036854775807) (hr0 : ThsAt L ta rs0) (hro : RdsO L oa order.length (intC order)) (hoi : ∀ k ∈ order, -9223372036854775808 ≤ k ∧ k ≤ 9223372036854775807) :
  Tr Try.prog mT 5 [.int .i64 slots, .slice ta rs0.length tc, .slice oa order.length oc] L .idle fun v L' x' => v = .bool true ∧ x' = .idle := by
 refine bd_ Try.func5 rfl Try.ntmps5 (by simp) fun um Q _ hQ => ?_
 simp only [argE, Nat.zero_add, Nat.reduceAdd]
 repeat (first | refine bb_ ?_ | (refine wR ?_; try simp only [oS]) | refine ba_ ?_ | refine wM ?_ | refine wA ?_)
 refine bj_ (.cons rfl .nil) trivial (width_tr hs) ?_
 rintro v1 L1 x1 ⟨j, hj3, rfl, eL, rfl⟩
 subst L1
 obtain ⟨n, hn⟩ : ∃ n, n = 2 ^ j := ⟨_, rfl⟩
 have hj : j ≤ 10 := by omega
 rw [← hn]
 have hle : n ≤ 1024 := by rw [hn]; exact fp_ hj
 have hpos : 0 < n := by rw [hn]; exact Nat.two_pow_pos j
 repeat (first | refine bb_ ?_ | (refine wR ?_; try simp only [oS]) | refine ba_ ?_ | refine wM ?_ | refine wA ?_)
 refine bj_ (.cons rfl .nil) trivial (few_tr hr0) ?_
 rintro qv L2 x1 ⟨rfl, rfl⟩
 have hrs : 0 < (fewR rs0).length ∧ (fewR rs0).length ≤ 4 := by
  unfold fewR
  split
  ·simp
  ·rename_i h0
   have := List.length_pos_iff.2 h0
   simp only [List.length_map, List.length_take]; omega
 have hrow := few_at hr0
 generalize hrsd : fewR rs0 = rs at hrs hrow
 refine cw_ (bu_ .here (bi_ (by omega))) ?_
 rintro ⟨qa, qn, qc, rfl, hqn, _, hqz, hqy⟩
 have hqn : qn = rs.length := by simp at hqn; omega
 subst hqn
 cases qa with
 | none => have := hqz rfl; omega
 | some ad =>
 obtain ⟨qb, qo, sp⟩ := ad
 have := hqy _ rfl
 simp only [Addr.mk.injEq, true_and] at this
 subst this
 repeat (first | (apply wo_mo; apply cj_; exact trivial))
 rintro v' L' ⟨p8, rfl, rfl⟩
 repeat (first | refine wS ?_ | refine bb_ ?_ | (refine wR ?_; try simp only [oS]) | refine ba_ ?_ | refine wM ?_)
 refine bj_ (.cons rfl .nil) trivial (new_tr hn hj) ?_
 rintro v1 L2 x1 ⟨r, b, rfl, rfl, rfl⟩
 refine cw_ (p := r ≠ b) (fun h st => ?_) ?_
 ·obtain ⟨vs, e⟩ := qf_ (v := .int .u64 0) hpos
  rw [e] at st
  exact wk_ st
 intro hne
 repeat (first | (apply wo_mo; apply cj_; exact trivial) | refine wM ?_ | (apply wo_po; apply cb_; exact rfl; exact rfl; exact gY))
 rintro v' L' ⟨rb, rfl, rfl⟩
 repeat (first | refine wS ?_ | refine wneqF ?_ | refine bb_ ?_ | (refine wR ?_; try simp only [oS]) | refine ba_ ?_ | refine wM ?_ | refine wA ?_ | refine wL ?_)
 refine bj_ (.cons rfl .nil) rfl (slots_tr (.there (Rd.row (k := 2) rfl rfl))) ?_
 rintro v1 L2 x1 ⟨rfl, rfl, rfl⟩
 repeat (first | (apply wo_mo; apply mo_make (n := rs.length); exact rfl; exact rfl; exact rfl; omega; omega; exact trivial) | refine wneqF ?_ | refine bb_ ?_ | (refine wR ?_; try simp only [oS]) | refine ba_ ?_ | refine wM ?_ | refine wJ ?_ | refine wL ?_ | refine wE ?_ | refine wF ?_ | refine bk_ ?_)
 rintro v' L' ⟨gb, rfl, rfl⟩
 repeat (first | (apply wo_mo; apply cj_; exact trivial))
 rintro v' L' ⟨gt, rfl, rfl⟩
 repeat (first | refine wS ?_ | (apply wo_mo; apply cj_; exact trivial) | refine bb_ ?_ | (refine wR ?_; try simp only [oS]) | refine ba_ ?_)
 rintro v' L' ⟨gd, rfl, rfl⟩
 repeat (first | refine wS ?_ | (apply wo_mo; apply cj_; exact trivial) | refine bb_ ?_ | (refine wR ?_; try simp only [oS]) | refine ba_ ?_ | refine wA ?_)
 rintro v' L' ⟨ib, rfl, rfl⟩
 repeat (first | refine wS ?_ | refine ba_ ?_ | refine bg_ ?_)
 refine de_ ((rpOut p8 rb gd gt gb r b n (.slice (some ⟨qb, qo, none⟩) rs.length qc) (.slice oa order.length oc) rs L).L (0, ib, .slice none 0 0, .slice none 0 0, [])) (fun h st => ?_) ?_
 ·have s1 : Star (arr r 0 [.int .u64 0, .int .u64 0, .slice (some ⟨b, 0, none⟩) n n] :: arr b 0 (zeros n [.int .u64 0]) :: arr ib 0 [.int .i64 0] :: arr gd 0 [.bool true] :: arr gt 0 [.slice (some ⟨gb, 0, none⟩) rs.length rs.length] :: arr gb 0 (zeros rs.length [.slice none 0 0]) :: arr rb 0 [.pointer (some ⟨r, 0, none⟩)] :: arr p8 0 [.slice (some ⟨qb, qo, none⟩) rs.length qc] :: vec 1 (.slice (some ⟨qb, qo, none⟩) rs.length qc) (rs.map rv) :: L) h := Ent.star (.take (.there (.there (.there (.there (.there .here))))) (.take (.there (.there (.there (.there (.there .here))))) .refl)) st
  have s2 := tm_ s1
  have s3 : Star (all [] :: all [] :: vec 1 (.slice none 0 0) [] :: vec 1 (.slice none 0 0) [] :: _) h := bm_ (M := []) (bm_ (M := []) (dr_ (dr_ s2)))
  exact Ent.star (.take (.there (.there (.there (.there (.there .here))))) (.take (.there (.there .here)) (.take (.there (.there .here)) (.take .here (.take .here (.take (.there .here) (.take (.there .here) (.take (.there .here) (.take (.there .here) .refl))))))))) s3
 refine co_ (rpOut p8 rb gd gt gb r b n (.slice (some ⟨qb, qo, none⟩) rs.length qc) (.slice oa order.length oc) rs L) (fun i => rs.length - i.1) (0, ib, .slice none 0 0, .slice none 0 0, []) ⟨Nat.zero_le _, rfl, fun i t y h => by simp at h⟩ ⟨rfl, rfl, rfl, rfl, rfl, rfl, rfl, rfl, rfl, trivial⟩ .refl rfl ?_
 rintro ⟨i, ib, tv, cv, ts⟩ ⟨hi, hts, hgood⟩
 dsimp only at hi hts hgood
 simp only [rpOut, rpFix]
 refine cx_ (bu_ (.there .here) (bi_ (by omega))) ?_
 rintro ⟨tva, tvn, tvc, rfl, htvn, _⟩
 have htvn : tvn = i := by simp at htvn; omega
 subst htvn
 refine cx_ (bu_ (.there (.there .here)) (bi_ (by omega))) ?_
 rintro ⟨cva, cvn, cvc, rfl, hcvn, _⟩
 have hcvn : cvn = tvn := by simp at hcvn; omega
 subst hcvn
 by_cases hlt : cvn < rs.length
 ·obtain ⟨y, hy⟩ : ∃ y, rs[cvn]? = some y := ⟨rs[cvn], List.getElem?_eq_getElem hlt⟩
  obtain ⟨ya, yc, row⟩ := y
  repeat (first | (apply wo_po; apply kn_ (first := []) (cap := [_, _, _, _, _]) (vf := []); exact .nil; exact .cons rfl (.cons rfl (.cons rfl (.cons rfl (.cons rfl .nil)))); exact trivial) | (apply wo_mo; apply bo_ (sz := 1) (vs := [rpF p8 rb gd gt (ib, (none, 0, []))]); exact rfl; exact .cons rfl .nil; exact rfl; (intro v hv; cases (List.mem_singleton.1 hv); exact rfl); omega; exact trivial) | refine wlssT ?_ | refine bb_ ?_ | (refine wR ?_; try simp only [oS]) | refine ba_ ?_ | refine wM ?_ | refine wL ?_ | refine wE ?_ | refine wT ?_ | refine bk_ ?_ | refine bg_ ?_)
  rintro v' L' ⟨nb, rfl, rfl⟩
  repeat (first | (apply wo_mo; apply cz_ (sz := 1) (new := [rpF p8 rb gd gt (ib, (none, 0, []))]); exact rfl; exact rfl; exact rfl; exact rfl; exact (.there (.there .here)); exact rfl; exact .inr ⟨_, _, rfl, Rds.all .here⟩; (intro v hv; cases (List.mem_singleton.1 hv); exact rfl); (simp only [db_]; omega); exact trivial))
  rintro tv' L' rfl
  repeat (first | refine bb_ ?_ | (refine wR ?_; try simp only [oS]) | refine ba_ ?_ | refine wA ?_ | refine bg_ ?_)
  obtain ⟨hdo, h16⟩ := hrow cvn _ hy
  simp only at hdo h16
  have hrowv : ∀ {tv v16 : Value} {ys : List CY}, Rd (vec 2 v16 (ys.map clV).flatten :: all (ys.map clK) :: arr ib 0 [.int .i64 (cvn : Nat)] :: vec 1 tv (ts.map (rpF p8 rb gd gt) ++ [rpF p8 rb gd gt (ib, (none, 0, []))]) :: vec 1 (.slice cva cvn cvc) (ts.map thC1) :: all (boxes ts) :: all (ts.map jo_) :: rpFix p8 rb gd gt gb r b n (.slice (some ⟨qb, qo, none⟩) rs.length qc) rs L) qb (qo + cvn) (.slice ya row.length yc) := fun {tv v16 ys} =>
   dc_ (i := cvn) (cs := rs.map rv) (.there (.there (.there (.there (.there (.there (.there (.there (.there (.there (.there (.there (.there .here))))))))))))) (by rw [List.getElem?_map, hy]; rfl)
  refine de_ ((rpIn p8 rb gd gt gb r b n cvn ib (.slice (some ⟨qb, qo, none⟩) rs.length qc) (.slice oa order.length oc) tv' (.slice cva cvn cvc) rs ts row (rpF p8 rb gd gt (ib, (none, 0, []))) L).L (0, .slice none 0 0, [])) (fun h st => ?_) ?_
  ·exact dr_ (bm_ (M := []) (Ent.star (.take (.there (.there .here)) (.take .here (.drop .refl))) st))
  refine co_ (rpIn p8 rb gd gt gb r b n cvn ib (.slice (some ⟨qb, qo, none⟩) rs.length qc) (.slice oa order.length oc) tv' (.slice cva cvn cvc) rs ts row (rpF p8 rb gd gt (ib, (none, 0, []))) L) (fun i => row.length - i.1) (0, .slice none 0 0, []) ⟨Nat.zero_le _, rfl, by simp⟩ ⟨rfl, rfl, rfl, rfl, rfl, rfl, rfl, rfl, rfl, rfl, rfl, trivial⟩ .refl rfl ?_
  rintro ⟨m, v16, ys⟩ ⟨hm, hys, hyc⟩
  dsimp only at hm hys hyc
  simp only [rpIn]
  refine cx_ (bu_ .here (bi_ (by omega))) ?_
  rintro ⟨va, vn, vc, rfl, hvn, _⟩
  have hvn : vn = m := by rw [gj_ (k := 2) (fun _ => rfl)] at hvn; omega
  subst hvn
  have w15 : Rd (vec 2 (.slice va vn vc) (ys.map clV).flatten :: all (ys.map clK) :: arr ib 0 [.int .i64 (cvn : Nat)] :: vec 1 tv' (ts.map (rpF p8 rb gd gt) ++ [rpF p8 rb gd gt (ib, (none, 0, []))]) :: vec 1 (.slice cva cvn cvc) (ts.map thC1) :: all (boxes ts) :: all (ts.map jo_) :: rpFix p8 rb gd gt gb r b n (.slice (some ⟨qb, qo, none⟩) rs.length qc) rs L) ib 0 (.int .i64 (cvn : Nat)) := .there (.there (.row0 rfl))
  have w8 : Rd (vec 2 (.slice va vn vc) (ys.map clV).flatten :: all (ys.map clK) :: arr ib 0 [.int .i64 (cvn : Nat)] :: vec 1 tv' (ts.map (rpF p8 rb gd gt) ++ [rpF p8 rb gd gt (ib, (none, 0, []))]) :: vec 1 (.slice cva cvn cvc) (ts.map thC1) :: all (boxes ts) :: all (ts.map jo_) :: rpFix p8 rb gd gt gb r b n (.slice (some ⟨qb, qo, none⟩) rs.length qc) rs L) p8 0 (.slice (some ⟨qb, qo, none⟩) rs.length qc) := js_ [_, _, _, _, _, _, _, _, _, _, _, _] (.row0 rfl)
  by_cases hlm : vn < row.length
  ·obtain ⟨z, hz⟩ : ∃ z, row[vn]? = some z := ⟨row[vn], List.getElem?_eq_getElem hlm⟩
   obtain ⟨b3, o3, rfl, z1, z2⟩ := hdo.at_ vn z hz
   obtain ⟨hz1, hz2⟩ := hdo.rng z (List.mem_of_getElem? hz)
   obtain ⟨kind, u⟩ := z
   simp only at z1 z2 hz1 hz2
   have e3 := Int.emod_nonneg kind (by decide : (3 : Int) ≠ 0)
   obtain ⟨kd, hkd⟩ : ∃ kd : Nat, kind % 3 = kd := ⟨(kind % 3).toNat, by omega⟩
   have w3 : Rds (vec 2 (.slice va vn vc) (ys.map clV).flatten :: all (ys.map clK) :: arr ib 0 [.int .i64 (cvn : Nat)] :: vec 1 tv' (ts.map (rpF p8 rb gd gt) ++ [rpF p8 rb gd gt (ib, (none, 0, []))]) :: vec 1 (.slice cva cvn cvc) (ts.map thC1) :: all (boxes ts) :: all (ts.map jo_) :: rpFix p8 rb gd gt gb r b n (.slice (some ⟨qb, qo, none⟩) rs.length qc) rs L) b3 (o3 + 2 * vn) [.int .i64 kind, .int .u64 (u : Nat)] := fun q v hq => by
    match q, hq with
    | 0, hq => cases hq; exact js_ [_, _, _, _, _, _, _, _, _, _, _, _, _, _] z1
    | 1, hq => cases hq; exact js_ [_, _, _, _, _, _, _, _, _, _, _, _, _, _] z2
   repeat (first | (apply wo_po; apply cf_; exact rfl; exact rfl; omega; exact trivial) | (apply wo_po; apply ff_; exact rfl; exact rfl; omega; exact trivial) | (apply wo_po; apply bc_; exact rfl; (first | exact w8 | exact w15 | exact hrowv); exact trivial) | (apply wo_po; apply ch_ (vs := [.int .i64 kind, .int .u64 (u : Nat)]); exact rfl; exact rfl; exact w3; exact trivial) | refine wlssT ?_ | refine bb_ ?_ | (refine wR ?_; try simp only [oS]) | refine ba_ ?_ | refine wM ?_ | refine wE ?_ | refine wT ?_ | refine bk_ ?_ | refine bg_ ?_)
   refine bj_ (.cons rfl (.cons rfl .nil)) trivial (call_tr (by omega) hle hz1 hkd) ?_
   rintro v1 L1 x1 ⟨kb, m, rfl, rfl, rfl⟩
   repeat (first | (apply wo_mo; apply bo_ (sz := 2) (vs := [.agg #[.slice (some ⟨kb, 0, none⟩) m m, .slice none 0 0]]); exact rfl; exact .cons rfl .nil; exact rfl; (intro v hv; cases (List.mem_singleton.1 hv); exact rfl); omega; exact trivial))
   rintro v' L' ⟨nb3, rfl, rfl⟩
   repeat (first | (apply wo_mo; apply cz_ (sz := 2) (new := [.slice (some ⟨kb, 0, none⟩) m m, .slice none 0 0]); exact rfl; exact rfl; exact rfl; exact rfl; exact (.there (.there .here)); exact rfl; exact .inr ⟨_, _, rfl, Rds.all .here⟩; (intro v hv; simp at hv; rcases hv with rfl | rfl <;> rfl); (simp only [db_]; omega); exact trivial))
   rintro v2 L' rfl
   repeat (first | (refine wR ?_; try simp only [oS]) | refine ba_ ?_ | refine wM ?_ | refine wA ?_ | refine wadd ?_)
   have hcl : (fv_ n row)[vn]? = some (fh_ n kd u) := by
    simp only [fv_, List.getElem?_map, hz, Option.map_some]
    rw [hkd, Int.toNat_natCast]
   refine dt_ (B := mT) (I := rpIn p8 rb gd gt gb r b n cvn ib (.slice (some ⟨qb, qo, none⟩) rs.length qc) (.slice oa order.length oc) tv' (.slice cva cvn cvc) rs ts row (rpF p8 rb gd gt (ib, (none, 0, []))) L) (R := fun q => row.length - q.1 < row.length - vn) (vn + 1, v2, ys ++ [((some ⟨kb, 0, none⟩, m), m, fh_ n kd u)]) (by show row.length - (vn + 1) < row.length - vn; omega) ⟨by show vn + 1 ≤ row.length; omega, by simp [hys], by rw [List.map_append, hyc, List.take_add_one, hcl]; rfl⟩ ?_ (fun hp st => ?_) rfl
   ·exact ⟨rfl, rfl, rfl, rfl, rfl, rfl, rfl, rfl, rfl, rfl, rfl, trivial⟩
   ·have s1 : Star (all (ys.map clK) :: clK ((some ⟨kb, 0, none⟩, m), m, fh_ n kd u) :: vec 2 v2 ((ys.map clV).flatten ++ [.slice (some ⟨kb, 0, none⟩) m m, .slice none 0 0]) :: arr ib 0 [.int .i64 (cvn : Nat)] :: _) hp := Ent.star (.take (.there (.there (.there .here))) (.take (.there (.there .here)) (.take .here (.drop .refl)))) st
    have s2 := bt_ s1
    have s3 : Star (all ((ys ++ [(((some ⟨kb, 0, none⟩, m), m, fh_ n kd u) : CY)]).map clK) :: vec 2 v2 ((ys ++ [(((some ⟨kb, 0, none⟩, m), m, fh_ n kd u) : CY)]).map clV).flatten :: arr ib 0 [.int .i64 (cvn : Nat)] :: _) hp := bm_ (by
     rw [List.map_append, List.map_append, List.flatten_append, List.append_assoc]
     exact s2)
    exact cy_ s3
  ·obtain rfl : vn = row.length := by omega
   have hyc' : ys.map (·.2.2) = fv_ n row := by rw [hyc, List.take_of_length_le (by simp [fv_])]
   repeat (first | (apply wo_po; apply cf_; exact rfl; exact rfl; omega; exact trivial) | (apply wo_po; apply bc_; exact rfl; (first | exact w8 | exact w15 | exact hrowv); exact trivial) | refine wlssF ?_ | refine bb_ ?_ | (refine wR ?_; try simp only [oS]) | refine ba_ ?_ | refine wM ?_ | refine wE ?_ | refine wF ?_ | refine cm_ ?_)
   repeat (first | (apply wo_mo; apply bo_ (sz := 1) (vs := [.slice va row.length vc]); exact rfl; exact .cons rfl .nil; exact rfl; (intro v hv; cases (List.mem_singleton.1 hv); exact rfl); omega; exact trivial))
   rintro v' L' ⟨nb4, rfl, rfl⟩
   repeat (first | (apply wo_mo; apply cz_ (sz := 1) (new := [.slice va row.length vc]); exact rfl; exact rfl; exact rfl; exact rfl; exact (.there (.there (.there (.there (.there .here))))); exact rfl; exact .inr ⟨_, _, rfl, Rds.all .here⟩; (intro v hv; cases (List.mem_singleton.1 hv); exact rfl); (simp only [db_]; omega); exact trivial))
   rintro cv' L' rfl
   repeat (first | (apply wo_mo; apply cj_; exact trivial) | refine bb_ ?_ | (refine wR ?_; try simp only [oS]) | refine ba_ ?_ | refine wA ?_ | refine wL ?_)
   rintro v' L' ⟨ib2, rfl, rfl⟩
   repeat (first | refine wS ?_ | (refine wR ?_; try simp only [oS]) | refine ba_ ?_ | refine wL ?_ | refine wadd ?_)
   let t : TH := (ib, (va, vc, ys))
   have hyl : ys.length = row.length := hys
   refine dt_ (B := mT) (I := rpOut p8 rb gd gt gb r b n (.slice (some ⟨qb, qo, none⟩) rs.length qc) (.slice oa order.length oc) rs L) (R := fun q => rs.length - q.1 < rs.length - cvn) (cvn + 1, ib2, tv', cv', ts ++ [t]) (by show rs.length - (cvn + 1) < rs.length - cvn; omega) ⟨by show cvn + 1 ≤ rs.length; omega, by simp [hts], thGood_snoc hgood (by rw [hts]; exact hy) hyc'⟩ ?_ (fun hp st => ?_) rfl
   ·exact ⟨rfl, rfl, rfl, rfl, rfl, rfl, rfl, rfl, rfl, trivial⟩
   ·have s1 := Ent.star (.take (.there (.there (.there .here))) (.take (.there (.there (.there .here))) (.take .here (.take (.there (.there (.there .here))) (.take .here (.take (.there (.there .here)) (.take (.there .here) (.drop (.take .here .refl))))))))) st
    have s2 := bp_ (d := jo_ t) (bm_ (M := [_, _]) s1) (fun h z => code_close (a := va) (n := row.length) (c := vc) (ys := ys) (F := []) (fun y hy => by
     have hm : y.2.2 ∈ fv_ n row := by rw [← hyc']; exact List.mem_map_of_mem hy
     obtain ⟨w, _, hw⟩ := List.mem_map.1 hm
     rw [← hw]; exact callCl_data) z) fun _ z => z
    have s3 := bt_ (Ent.star (.take (.there (.there (.there (.there .here)))) (.take (.there (.there (.there (.there .here)))) .refl)) s2)
    have s4 : Star (all (boxes (ts ++ [t])) :: _) hp := bm_ (by
     rw [boxes_snoc, List.append_assoc, hts]
     exact s3)
    have s5 := bt_ (Ent.star (.take (.there (.there (.there (.there (.there .here))))) (.take (.there .here) .refl)) s4)
    have s6 : Star (all ((ts ++ [t]).map jo_) :: _) hp := bm_ (by
     rw [List.map_append, List.append_assoc]
     exact s5)
    have s7 := Ent.star (.take (.there (.there .here)) (.take (.there (.there .here)) (.take (.there (.there .here)) (.take (.there .here) (.take .here .refl))))) s6
    have e1 : (ts ++ [t]).map (rpF p8 rb gd gt) = ts.map (rpF p8 rb gd gt) ++ [rpF p8 rb gd gt (ib, (none, 0, []))] := by rw [List.map_append]; rfl
    have e2 : (ts ++ [t]).map thC1 = ts.map thC1 ++ [.slice va row.length vc] := by rw [List.map_append]; show _ ++ [Value.slice va ys.length vc] = _; rw [hyl]
    show Star (_ :: vec 1 tv' ((ts ++ [t]).map (rpF p8 rb gd gt)) :: vec 1 cv' ((ts ++ [t]).map thC1) :: _) hp
    rw [e1, e2]
    exact s7
 ·obtain rfl : cvn = rs.length := by omega
  repeat (first | refine wlssF ?_ | refine bb_ ?_ | (refine wR ?_; try simp only [oS]) | refine ba_ ?_ | refine wM ?_ | refine wL ?_ | refine wE ?_ | refine wF ?_ | refine cm_ ?_)
  refine bj_ (.cons rfl (.cons rfl .nil)) trivial (order_tr (m := rs.length) (rdso_lift [_, _, _, _, _, _, _, _, _, _, _, _] hro) (by omega) hoi) ?_
  rintro odv L1 x1 ⟨rfl, rfl⟩
  refine cw_ (bu_ (.there (.there .here)) (bi_ (by omega))) ?_
  rintro ⟨a', n', c', e, htn', _, htz, hty⟩
  cases e
  refine cw_ (bu_ .here (bi_ (by omega))) ?_
  rintro ⟨oda, odn, odc, rfl, hodn, _, hodz, hody⟩
  repeat (first | refine bb_ ?_ | (refine wR ?_; try simp only [oS]) | refine ba_ ?_ | refine wM ?_ | refine wA ?_)
  refine hw_ (b := gt) (o := 0) (.there (.there (.there (.there (.there (.there (.there .here))))))) ?_
  refine hw_ (b := rb) (o := 0) (.there (.there (.there (.there (.there (.there (.there (.there (.there .here))))))))) ?_
  refine hw_ (b := p8) (o := 0) (.there (.there (.there (.there (.there (.there (.there (.there (.there (.there (.there .here))))))))))) ?_
  refine fo_ ((fun h => ∃ sp, arr qb qo (rs.map rv ++ sp) h) :: _) (fun h st => bp_ (Ent.star (.take (.there (.there (.there (.there (.there (.there (.there (.there (.there (.there (.there (.there .here)))))))))))) .refl) st) vec_row fun _ z => z) ?_
  refine wo_ex .here fun sp => ?_
  refine hw_ (b := qb) (o := qo) .here ?_
  let RoS : HProp := roS qb qo qc p8 rb gt gb r rs sp L
  have hRoS : Dup RoS := dup_all (by
   intro c hc
   simp only [List.mem_cons, List.not_mem_nil, or_false] at hc
   rcases hc with rfl | rfl | rfl | rfl | rfl
   ·exact mw_
   ·exact mw_
   ·exact mw_
   ·exact mw_
   ·exact hL)
  refine fo_ (all [wds (bx_ r b) (n + 2) [(r, 2, .slice (some ⟨b, 0, none⟩) n n)] (fun _ => 0), arr gd 0 [.bool true]] :: all ((hi_ n r b p8 rb gd gt gb RoS ts).map Thr.M) :: RoS :: vec 1 (.slice oda odn odc) (intC (kd_ rs.length order)) :: vec 1 (.slice tva rs.length tvc) (ts.map (rpF p8 rb gd gt)) :: vec 1 (.slice cva rs.length cvc) (ts.map thC1) :: all (ts.map jo_) :: []) (fun h st => ?_) ?_
  ·have s1 := ky_ (M := [_, _, _, _, _, _, _, _, _, _, _, _, _]) st
   have s2 : Star (RoS :: _) h := bm_ (M := [_, _, _, _, _]) (Ent.star (.take (.there .here) (.take (.there .here) (.take (.there .here) (.take (.there .here) (.take .here .refl))))) s1)
   have s3 := Ent.star (.take .here (.take (.there (.there (.there (.there .here)))) (.take (.there (.there (.there (.there (.there (.there .here)))))) (.take .here (.drop .refl))))) s2
   rw [zeros_rep, ← hts] at s3
   have s4 := deal hRoS s3
   rw [hts] at s4
   rw [thrs_M]
   exact bm_ (M := [_, _]) (Ent.star (.take (.there (.there (.there (.there (.there (.there (.there .here))))))) (.take (.there (.there (.there (.there (.there (.there .here)))))) (.take .here .refl))) s4)
  have hcalls : ∀ t ∈ ts, fy_ n (t.2.2.2.map (·.2.2)) := fun t ht => by
   obtain ⟨i, hi⟩ := List.mem_iff_getElem?.1 ht
   have hil := (List.getElem?_eq_some_iff.1 hi).1
   rw [hgood i t _ hi (List.getElem?_eq_getElem (by omega))]
   exact mz_ fun w hw => ((hrow i _ (List.getElem?_eq_getElem (by omega))).1.rng w hw).2
  have hlen : (hi_ n r b p8 rb gd gt gb RoS ts).length = rs.length := by rw [← hts]; simp [hi_]
  refine bj_ (.cons rfl (.cons rfl .nil)) trivial (mplays_tr (D := rowD (n + 2)) (order := kd_ rs.length order) (ts := hi_ n r b p8 rb gd gt gb RoS ts) (cc := ccOf ts) (s0 := (fun _ => 0 : Nat → Nat)) (thrs_begin hn hj hcalls) fc_ thrs_ini (thrs_ok hne hn hj hrow hts hgood) (by omega) (by omega) (by simp only [kd_, List.length_map, List.length_take]; omega)
   (by rw [thrs_fv]; exact rdso_vec (.there (.there .here)) (by simp [hts]) htz hty) (rdso_vec (.there .here) hodn hodz hody)) ?_
  rintro v1 L1 x1 ⟨tv2, cv2, st, f', rfl, rfl, hplay, hw, htr, hstl, rfl⟩
  refine cw_ (bu_ .here (bi_ (by omega))) ?_
  rintro ⟨a1, n1, c1, rfl, hn1, _, hz1, hy1⟩
  obtain rfl : n1 = st.tr.length := by rw [pi_] at hn1; simp at hn1; omega
  refine cw_ (bu_ (.there .here) (bi_ (by omega))) ?_
  rintro ⟨a2, n2, c2, rfl, hn2, _, hz2, hy2⟩
  obtain rfl : n2 = (Mach.St.cut st).length := by simp [cutC] at hn2; omega
  repeat (first | (apply wo_mo; apply cj_; exact trivial) | refine wM ?_ | (apply wo_po; apply cb_; exact rfl; exact rfl; exact gY))
  rintro v' L' ⟨pb, rfl, rfl⟩
  repeat (first | (apply wo_pm; apply ck_ (c := 0) (k := 0) (a := 0) (vs := [.slice none 0 0, .slice none 0 0]); exact rfl; exact rfl; exact rfl; (intro w hw; simp [Value.cells] at hw; rcases hw with rfl | rfl <;> rfl); exact rfl; exact Nat.le_refl 2; exact .here; exact trivial) | refine bb_ ?_ | (refine wR ?_; try simp only [oS]) | refine ba_ ?_ | refine wM ?_ | refine wA ?_)
  refine bj_ (.cons rfl .nil) trivial (world_tr hle) ?_
  rintro v1 L1 x1 ⟨wv, lv, rfl, rfl, rfl⟩
  refine cw_ (bu_ .here gh_) ?_
  rintro ⟨⟨wa, wn, wc, rfl⟩, la, ln, lc, rfl⟩
  repeat (first | refine wM ?_)
  have e0 : rowOf (n + 2) (fun _ => 0) = List.replicate (n + 2) 0 := by
   apply List.ext_getElem?
   intro i
   by_cases hi : i < n + 2
   ·rw [cd_ hi]; simp [hi]
   ·simp [rowOf, hi]
  have hplay' : Mach.play 30 16385 ⟨[List.replicate (n + 2) 0], 1⟩ ((kd_ rs.length order).map fun k => if k < 0 then none else some k.toNat) ((ccK ts).map (·.2)) = some st := by
   rw [ccK_calls, ← e0]; exact hplay
  obtain rfl : odn = (kd_ rs.length order).length := by simp [intC] at hodn; omega
  have hol : (kd_ rs.length order).length < 1000000 := by simp only [kd_, List.length_map, List.length_take]; omega
  have hob : ∀ k ∈ kd_ rs.length order, -9223372036854775808 ≤ k ∧ k ≤ 9223372036854775807 := fun k hk => by
   obtain ⟨z, _, rfl⟩ := List.mem_map.1 hk
   have h1 := Int.emod_nonneg z (by omega : (rs.length : Int) + 1 ≠ 0)
   have h2 := Int.emod_lt_of_pos z (by omega : (0 : Int) < (rs.length : Int) + 1)
   omega
  have hys16 : ∀ t ∈ ts, t.2.2.2.length < 1000000 := fun t ht => by
   obtain ⟨i, hi⟩ := List.mem_iff_getElem?.1 ht
   have hil := (List.getElem?_eq_some_iff.1 hi).1
   have h1 := hgood i t _ hi (List.getElem?_eq_getElem (by omega))
   have h2 := (hrow i _ (List.getElem?_eq_getElem (by omega))).2
   have h3 := congrArg List.length h1
   simp only [List.length_map, fv_] at h3
   omega
  rw [← ccK_v]
  refine bj_ (.cons rfl (.cons rfl (.cons rfl .nil))) trivial (play_tr (w := ⟨[List.replicate (n + 2) 0], 1⟩) (st := st) (o := kd_ rs.length order) (cc := ccK ts) (f := 30) (g := 16385) hplay' (by omega) (CallsOk.there (CallsOk.there (CallsOk.there (CallsOk.there (CallsOk.there (CallsOk.there (CallsOk.there (CallsOk.there (codes_ok hle (by omega) hcalls hys16)))))))) ) hol hob ?_ .here (.there (.there (.there (.there (.there (.there (.there (.there .here))))))))) ?_
  ·intro i k hk
   have hil := (List.getElem?_eq_some_iff.1 hk).1
   cases oda with
   | none => have := hodz rfl; omega
   | some y =>
    obtain ⟨ob, oo, sp2⟩ := y
    cases hody _ rfl
    exact ⟨ob, oo, rfl, dc_ (i := i) (.there (.there (.there (.there (.there (.there .here)))))) (by simp [intC, hk])⟩
  rintro v2 L2 x2 ⟨trv, cutv, ansv, wv2, lv2, os, rfl, rfl, hos, hst⟩
  refine fo_ _ hst ?_
  refine cw_ (bu_ .here (bi_ (by omega))) ?_
  rintro ⟨a3, n3, c3, rfl, hn3, _, hz3, hy3⟩
  refine cw_ (bu_ (.there .here) (bi_ (by omega))) ?_
  rintro ⟨a4, n4, c4, rfl, hn4, _, hz4, hy4⟩
  refine cw_ (bu_ (.there (.there .here)) (bi_ (by omega))) ?_
  rintro ⟨a5, n5, c5, rfl, hn5, _, hz5, hy5⟩
  refine cw_ (bu_ (.there (.there (.there (.there .here)))) gh_) ?_
  rintro ⟨⟨wa2, wn2, wc2, rfl⟩, la2, ln2, lc2, rfl⟩
  repeat (first | (apply wo_mo; apply cj_; exact trivial) | refine wM ?_ | (apply wo_po; apply cb_; exact rfl; exact rfl; exact gY))
  rintro v' L' ⟨pb2, rfl, rfl⟩
  repeat (first | (apply wo_mo; apply cj_; exact trivial))
  rintro v' L' ⟨wb2, rfl, rfl⟩
  repeat (first | (apply wo_pm; apply ck_ (c := 0) (k := 0) (a := 0) (vs := [.slice none 0 0, .slice none 0 0]); exact rfl; exact rfl; exact rfl; (intro w hw; simp [Value.cells] at hw; rcases hw with rfl | rfl <;> rfl); exact rfl; exact Nat.le_refl 2; (first | exact .here | exact .there .here); exact trivial) | refine weqlT ?_ | refine bb_ ?_ | (refine wR ?_; try simp only [oS]) | refine ba_ ?_ | refine wM ?_ | refine wA ?_)
  repeat (first | (apply wo_po; apply bc_; exact rfl; exact js_ [_, _, _, _, _, _, _, _, _, _, _, _] (hd_ (M := [_, _]) (.there (.row0 rfl))); exact gY) | (apply wo_po; apply ch_ (vs := [.slice a1 st.tr.length c1, .slice a2 (Mach.St.cut st).length c2]); exact rfl; exact rfl; exact Rds.all (.there (.there (.there (.there (.there (.there (.there (.there (.there .here))))))))); exact gY) | (apply wo_po; apply ch_ (vs := [.slice a3 n3 c3, .slice a4 n4 c4]); exact rfl; exact rfl; exact Rds.all (.there .here); exact gY) | refine wM ?_ | refine wK ?_)
  obtain rfl : n3 = st.tr.length := by rw [trC_CP, pi_] at hn3; simp at hn3; omega
  obtain rfl : n4 = (Mach.St.cut st).length := by simp at hn4; omega
  obtain rfl : n5 = st.l.length := by
   have := congrArg List.length hos
   simp only [List.length_map] at this hn5
   omega
  have hl4 : st.l.length ≤ 4 := by rw [hstl]; simp only [ccOf, List.length_map]; omega
  obtain ⟨trp, htrp⟩ : ∃ trp, trp = st.tr.map fun e => (e.1, mkII e.2) := ⟨_, rfl⟩
  have htl : st.tr.length = trp.length := by rw [htrp]; simp
  rw [trC_CP, ← htrp, htl]
  rw [htl] at hz1 hz3
  refine bj_ (.cons rfl (.cons rfl .nil)) rfl (xr_ (tr := trp) (cut := st.cut) (rdtr_vec (.there (.there (.there (.there (.there (.there (.there (.there (.there (.there .here)))))))))) rfl hz1 hy1) (rdtr_vec (.there (.there .here)) rfl hz3 hy3) (rdi_vec (.there (.there (.there (.there (.there (.there (.there (.there (.there (.there (.there .here))))))))))) rfl hz2 hy2) (rdi_vec (.there (.there (.there .here))) rfl hz4 hy4) (by omega) (by have := cut_le (st := st); omega)) ?_
  rintro v L1 x1 ⟨rfl, rfl, rfl⟩
  repeat (first | (apply wo_po; apply bc_; exact rfl; exact js_ [_, _, _, _, _, _, _, _, _, _, _, _, _, _] (hd_ (js_ [_, _, _] (Rd.fro (k := 0) rfl rfl))); exact gY) | refine wM ?_ | refine wK ?_)
  refine fo_ ((fun h => ∃ ys : List (Value × List (Value × List Nat)), (ys.length = st.l.length ∧ ∀ (k : Nat) y, ys[k]? = some y → GotQ (st.l.map he_) k y) ∧ all (ys.mapIdx (gotY gb)) h) :: (fun h => ∃ ys : List (Value × List (Bool × Value × List Nat)), (ys.length = os.length ∧ ∀ (k : Nat) y, ys[k]? = some y → AnsQ os k y) ∧ all (ys.mapIdx ansY) h) :: vec 1 (.slice a5 st.l.length c5) (os.map (·.1)) :: []) (fun h s => ?_) ?_
  ·have s1 : Star (all (st.l.mapIdx fun k t => rgPv gb (k, t)) :: all (os.map ansK) :: vec 1 (.slice a5 st.l.length c5) (os.map (·.1)) :: _) h := Ent.star (.take (.there (.there (.there (.there (.there (.there (.there (.there (.there (.there (.there (.there (.there .here))))))))))))) (.take (.there (.there (.there (.there (.there .here))))) (.take (.there (.there (.there (.there .here)))) .refl))) s
   exact star_exs (gots_ex (bp_ s1 (fun _ z => z) fun _ z => star_exs (anss_ex (cg_ (ky_ (M := [_, _]) z)))))
  refine wo_ex (c := fun (ys : List (Value × List (Value × List Nat))) h => (ys.length = st.l.length ∧ ∀ (k : Nat) y, ys[k]? = some y → GotQ (st.l.map he_) k y) ∧ all (ys.mapIdx (gotY gb)) h) .here fun gys => wo_and .here fun hgys => ?_
  refine wo_ex (c := fun (ys : List (Value × List (Bool × Value × List Nat))) h => (ys.length = os.length ∧ ∀ (k : Nat) y, ys[k]? = some y → AnsQ os k y) ∧ all (ys.mapIdx ansY) h) (.there .here) fun ays => wo_and .here fun hays => ?_
  obtain ⟨anss, hanss⟩ : ∃ anss, anss = os.map (·.2) := ⟨_, rfl⟩
  have hal : st.l.length = anss.length := by rw [hanss, hos, List.length_map]
  have hga : GotsAt (all (ays.mapIdx ansY) :: all (gys.mapIdx (gotY gb)) :: vec 1 (.slice a5 st.l.length c5) (os.map (·.1)) :: []) (some ⟨gb, 0, none⟩) (st.l.map he_) := gots_at (.there .here) (by rw [hgys.1, List.length_map]) hgys.2
  have haa : AnssAt (all (ays.mapIdx ansY) :: all (gys.mapIdx (gotY gb)) :: vec 1 (.slice a5 st.l.length c5) (os.map (·.1)) :: []) a5 anss := hanss ▸ anss_at (.there (.there .here)) hn5 hz5 hy5 .here hays.1 hays.2
  have hrl : rs.length = anss.length := by rw [← hal, hstl]; simp only [ccOf, List.length_map]; omega
  have hbig := Mach.play_n hplay
  have hany : ∀ a ∈ anss, ∃ t ∈ st.l, a = t.ans := fun a ha => by
   rw [hanss, hos] at ha
   obtain ⟨t, ht, rfl⟩ := List.mem_map.1 ha
   exact ⟨t, ht, rfl⟩
  have hfu : (rowD (n + 2)).fu * (st.tr.length + 1) < 1000000000 := by show 30 * _ < _; omega
  rw [hal] at hga haa ⊢
  simp only [hrl]
  refine bj_ (.cons rfl (.cons rfl .nil)) rfl (wg_ (got := st.l.map he_) (anss := anss) hga haa (by rw [List.length_map, hal]) (fun k pre ans hp ha => ?_) (by omega) (fun a ha => ?_) fun a ha y hy => ?_) ?_
  ·rw [hanss, hos, List.getElem?_map, Option.map_eq_some_iff] at ha
   rw [List.getElem?_map, Option.map_eq_some_iff] at hp
   obtain ⟨t, ht, rfl⟩ := ha
   obtain ⟨t', ht', rfl⟩ := hp
   rw [ht] at ht'
   cases ht'
   exact told_of (Mach.play_ok hplay t (List.mem_of_getElem? ht))
  ·obtain ⟨t, ht, rfl⟩ := hany a ha
   exact Nat.lt_of_le_of_lt (hbig t ht).1 hfu
  ·obtain ⟨t, ht, rfl⟩ := hany a ha
   exact Nat.lt_of_le_of_lt ((hbig t ht).2 y hy) hfu
  rintro v1 L1 x1 ⟨rfl, rfl, rfl⟩
  repeat (first | refine wM ?_ | refine wK ?_)
  refine bj_ .nil rfl pg_ ?_
  rintro v L' x' ⟨rfl, rfl, rfl⟩
  repeat (first | refine ba_ ?_ | refine wA ?_ | refine wK ?_ | refine br_ ?_)
  (first | refine or1 Try.func5 Try.results5 hQ rfl ?_ | refine on1 Try.func5 Try.results5 hQ rfl ?_)
  exact ⟨rfl, rfl⟩
end
end Go.Proofs.Ytdcbnbmahndecaa
namespace Go.Proofs.Ytdcbnbmahndecaa
open Go Go.PB
attribute [local irreducible] Mo Bin Eql Tr Wo Ap
section
section
variable {B : Hand} [Lets B] {L F G : List HProp} {x : B.X} {n k : Nat}
def ts_ (x : B.X) (r b n t7 : Nat) (a : Option Addr) (l : List (Int × Nat)) (cap : Nat) (Z : HProp) : Inv (Nat × (Nat → Nat) × Value × Value) B.X where
 e := fun i => [(0, .int .i64 (n : Nat)), (1, .slice a l.length cap), (5, .pointer (some ⟨r, 0, none⟩)), (7, .pointer (some ⟨t7, 0, none⟩)), (8, .int .i64 (i.1 : Nat))]
 L := fun i => [wds (bx_ r b) (n + 2) [(r, 2, .slice (some ⟨b, 0, none⟩) n n)] i.2.1, arr t7 0 [i.2.2.1, i.2.2.2], wvC i.2.2.1 i.2.2.2 ⟨[rowOf (n + 2) i.2.1], 1⟩, Z]
 x := fun _ => x
 ok := fun i => i.1 ≤ 60
def pt_ (x : B.X) (r b n t7 nb i : Nat) (a : Option Addr) (l : List (Int × Nat)) (cap : Nat) (Z : HProp) (f' : Nat → Nat) (bv : Value) (told : List Nat) (ms : List (Nat × Nat)) (wv lv : Value) : Inv (Value × Value × Value × Value × Nat) B.X where
 e := fun y => [(0, .int .i64 (n : Nat)), (1, .slice a l.length cap), (5, .pointer (some ⟨r, 0, none⟩)), (7, .pointer (some ⟨t7, 0, none⟩)), (8, .int .i64 (i : Nat)), (9, .pointer (some ⟨nb, 0, none⟩)), (10, bv), (11, .int .i64 0), (12, y.1), (13, .pointer (some ⟨y.2.2.2.2, 0, none⟩)), (14, y.2.1)]
 L := fun y => [vec 1 y.1 (told.map num), vec 2 y.2.1 (ms.map mkC).flatten, arr y.2.2.2.2 0 [y.2.2.1, y.2.2.2.1], wvC y.2.2.1 y.2.2.2.1 ⟨[rowOf (n + 2) f'], 1⟩, vec 1 bv (told.map num), hs_ nb (ms.map mkI), wds (bx_ r b) (n + 2) [(r, 2, .slice (some ⟨b, 0, none⟩) n n)] f', arr t7 0 [wv, lv], Z]
 x := fun _ => x
 ok := fun _ => True
theorem notes_tr {slots : Int} (h1 : -9223372036854775808 ≤ slots ∧ slots ≤ 9223372036854775807) {a : Option Addr} {l : List (Int × Nat)} {cap : Nat} {Z : HProp} (hl : DoAt [Z] a l) :
  Tr Try.prog B 4 [.int .i64 slots, .slice a l.length cap] [Z] x fun v L' x' => v = .bool true ∧ x' = x ∧ ∀ h, Star L' h → Star [Z] h := by
 by_cases hm : ∃ k, k ≤ 10 ∧ slots = ((2 ^ k : Nat) : Int)
 ·obtain ⟨k, hk, rfl⟩ := hm
  obtain ⟨n, hn⟩ : ∃ n, n = 2 ^ k := ⟨_, rfl⟩
  rw [← hn]
  have hle : n ≤ 1024 := by rw [hn]; exact fp_ hk
  have hpos : 0 < n := by rw [hn]; exact Nat.two_pow_pos k
  refine bd_ Try.func4 rfl Try.ntmps4 (by simp) fun um Q _ hQ => ?_
  simp only [argE, Nat.zero_add, Nat.reduceAdd]
  repeat (first | refine bb_ ?_ | (refine wR ?_; try simp only [oS]) | refine ba_ ?_ | refine wM ?_ | refine wA ?_)
  refine bj_ (.cons rfl .nil) trivial (new_tr hn hk) ?_
  rintro v L' x' ⟨r, b, rfl, rfl, rfl⟩
  refine cw_ (p := r ≠ b) (fun h st => ?_) ?_
  ·obtain ⟨vs, e⟩ := qf_ (v := .int .u64 0) hpos
   rw [e] at st
   exact wk_ st
  intro hne
  repeat (first | refine bb_ ?_ | (refine wR ?_; try simp only [oS]) | refine ba_ ?_ | refine wM ?_ | refine wA ?_ | (apply wo_po; apply cb_; exact rfl; exact rfl; exact gY))
  refine bj_ (.cons rfl .nil) trivial (may_tr (n := (n : Int)) (q := true) ⟨fun _ => ⟨k, hk, by rw [hn]⟩, fun _ => rfl⟩) ?_
  rintro v L' x' ⟨rfl, rfl, rfl⟩
  have hrd : ∀ {F : List HProp}, Rd (arr r 0 [.int .u64 0, .int .u64 0, .slice (some ⟨b, 0, none⟩) n n] :: F) r 2 (.slice (some ⟨b, 0, none⟩) n n) := fun {F} => Rd.row (k := 2) rfl rfl
  repeat (first | refine wneqF ?_ | refine bb_ ?_ | (refine wR ?_; try simp only [oS]) | refine ba_ ?_ | refine wM ?_ | refine wJ ?_ | (apply wo_po; apply dq_; exact rfl; exact gY) | (apply wo_po; apply bh_; exact rfl; exact rfl; apply gf_; apply dg_; exact gY) | refine wF ?_ | refine bk_ ?_)
  refine bj_ (.cons rfl .nil) rfl (slots_tr hrd) ?_
  rintro v L' x' ⟨rfl, rfl, rfl⟩
  repeat (first | refine wneqF ?_ | refine bb_ ?_ | (refine wR ?_; try simp only [oS]) | refine ba_ ?_ | refine wM ?_ | refine wJ ?_ | refine wF ?_ | refine bk_ ?_)
  refine bj_ (.cons rfl .nil) trivial (world_tr hle) ?_
  rintro v L' x' ⟨wv, lv, rfl, rfl, rfl⟩
  refine cw_ (bu_ .here gh_) ?_
  rintro ⟨⟨wa, wn, wc, rfl⟩, la, ln, lc, rfl⟩
  repeat (first | (apply wo_mo; apply cj_; exact trivial))
  rintro v' L' ⟨t7, rfl, rfl⟩
  repeat (first | (apply wo_pm; apply ck_ (b := t7) (c := 0) (k := 0) (a := 0) (vs := [.slice none 0 0, .slice none 0 0]); exact rfl; exact rfl; exact rfl; (intro w hw; simp [Value.cells] at hw; rcases hw with rfl | rfl <;> rfl); exact rfl; exact Nat.le_refl 2; exact .here; exact trivial) | refine bb_ ?_ | (refine wR ?_; try simp only [oS]) | refine ba_ ?_ | refine wA ?_)
  refine bg_ ?_
  refine de_ ((ts_ x' r b n t7 a l cap Z).L (0, (fun _ => 0), .slice wa wn wc, .slice la ln lc)) (fun h st => ?_) ?_
  ·have s1 : Star (arr r 0 [.int .u64 0, .int .u64 0, .slice (some ⟨b, 0, none⟩) n n] :: arr b 0 (zeros n [.int .u64 0]) :: arr t7 0 [.slice wa wn wc, .slice la ln lc] :: wvC (.slice wa wn wc) (.slice la ln lc) ⟨[List.replicate (n + 2) 0], 1⟩ :: [Z]) h := Ent.star (.take (.there (.there .here)) (.take (.there (.there .here)) .refl)) st
   have s2 := tm_ s1
   have e : rowOf (n + 2) (fun _ => 0) = List.replicate (n + 2) 0 := by
    apply List.ext_getElem?
    intro i
    by_cases hi : i < n + 2
    ·rw [cd_ hi]; simp [hi]
    ·simp [rowOf, hi]
   show Star (_ :: _ :: wvC _ _ ⟨[rowOf (n + 2) (fun _ => 0)], 1⟩ :: _) h
   rw [e]
   exact s2
  refine co_ (ts_ x' r b n t7 a l cap Z) (fun i => 60 - i.1) (0, (fun _ => 0), _, _) (by show 0 ≤ 60; omega) ⟨rfl, rfl, rfl, rfl, rfl, trivial⟩ .refl rfl ?_
  rintro ⟨i, f, wv, lv⟩ hi
  dsimp only [ts_] at hi ⊢
  by_cases hci : i < l.length
  ·by_cases hci2 : i < 60
   ·obtain ⟨y, hy⟩ : ∃ y, l[i]? = some y := ⟨l[i], by simp [hci]⟩
    obtain ⟨bb, oo, rfl, r1, r2⟩ := hl.at_ i y hy
    obtain ⟨y1, y2⟩ := hl.rng y (List.mem_of_getElem? hy)
    have w1 := Int.emod_nonneg y.1 (by omega : (3 : Int) ≠ 0)
    obtain ⟨kd, hkd⟩ : ∃ kd : Nat, y.1 % 3 = kd := ⟨(y.1 % 3).toNat, by omega⟩
    have hdo0 : Rds [Z] bb (oo + 2 * i) [.int .i64 y.1, .int .u64 (y.2 : Nat)] := by
     intro j v hj
     match j, hj with
     | 0, hj => cases hj; exact r1
     | 1, hj => cases hj; exact r2
    have hdo : ∀ {F G : List HProp}, Has F (Z) G → Rds F bb (oo + 2 * i) [.int .i64 y.1, .int .u64 (y.2 : Nat)] := fun hF j v hj => Rd.of hF (hdo0 j v hj)
    repeat (first | refine wlssT ?_ | refine bb_ ?_ | (refine wR ?_; try simp only [oS]) | refine ba_ ?_ | refine wM ?_ | refine wK ?_ | refine wE ?_ | refine wT ?_ | refine bk_ ?_ | refine bg_ ?_)
    refine bj_ .nil trivial tu_ ?_
    rintro v L' x1 ⟨nb, rfl, rfl, rfl⟩
    have hdo1 : ∀ {c1 c2 c3 c4 : HProp}, Rds (c1 :: c2 :: c3 :: c4 :: [Z]) bb (oo + 2 * i) [.int .i64 y.1, .int .u64 (y.2 : Nat)] := fun {c1 c2 c3 c4} j v hj => .there (.there (.there (.there (hdo0 j v hj))))
    repeat (first | (apply wo_po; apply gv_; exact rfl; exact trivial) | (apply wo_po; apply ce_ (r := oo + 2 * i); exact rfl; exact rfl; omega; omega; omega; exact trivial) | (apply wo_po; apply ch_ (vs := [.int .i64 y.1, .int .u64 (y.2 : Nat)]); exact rfl; exact rfl; exact hdo1; exact trivial) | refine bb_ ?_ | (refine wR ?_; try simp only [oS]) | refine ba_ ?_ | refine wM ?_ | refine wA ?_)
    refine bj_ (.cons rfl (.cons rfl (.cons rfl .nil))) trivial (done_n hne hn hk y1 hkd y2 .here .here) ?_
    rintro v L' x2 ⟨told, f', ms, bv, hcomes, hms, htold, rfl, rfl, rfl⟩
    repeat (first | refine bb_ ?_ | refine ba_ ?_ | refine wM ?_ | refine wA ?_ | (apply wo_po; apply cb_; exact rfl; exact rfl; exact gY))
    refine qj_ (pt_ x2 r b n t7 nb i (some ⟨bb, oo, none⟩) l cap Z f' bv told ms wv lv) ?_ ?_
    ·refine bv_ (List.range' 0 16) (by kernel_rfl) ?_
     repeat (first | (apply be_; exact rfl; exact rfl; exact trivial; intro L; apply ce_ (r := oo + 2 * i); exact rfl; exact rfl; omega; omega; omega) | (apply bn_; exact rfl; exact rfl; exact trivial; apply ch_ (vs := [wv, lv]); exact rfl; exact rfl; exact Rds.all (.there (.there (.there .here)))) | (apply bn_; exact rfl; exact rfl; exact trivial; apply ch_ (vs := [.int .i64 y.1, .int .u64 (y.2 : Nat)]); exact rfl; exact rfl; exact hdo (.there (.there (.there (.there (.there .here)))))) | refine aM ?_)
     refine ap_fork (f := 12) (ord' := [0, 1, 2, 3, 4, 5, 12, 6, 7, 8, 9, 10, 11, 13, 14, 15]) (by kernel_rfl) (by kernel_rfl) (by kernel_rfl) (by kernel_rfl) ?_ ?_
     ·refine ap1_call rfl rfl trivial rfl rfl (.cons rfl (.cons rfl .nil)) (call_tr (by omega) hle y1 hkd) ?_ ?_
      ·rintro v L' x' ⟨kb, m, rfl, rfl, rfl⟩ p hp
       replace hp := (List.mem_filter.1 hp).1
       simp only [List.mem_cons, List.not_mem_nil, or_false] at hp
       rcases hp with rfl | rfl | rfl | rfl | rfl | rfl <;> first | exact .inl rfl | exact .inr ⟨_, rfl, trivial, ch_ (vs := [wv, lv]) rfl rfl (Rds.all (.there (.there (.there (.there .here)))))⟩ | exact .inr ⟨_, rfl, trivial, ch_ (vs := [.int .i64 y.1, .int .u64 (y.2 : Nat)]) rfl rfl (hdo (.there (.there (.there (.there (.there (.there .here)))))))⟩
      rintro v L' x' ⟨kb, m, rfl, rfl, rfl⟩
      refine ap_fork (f := 12) (ord' := [0, 1, 2, 3, 4, 5, 6, 12, 7, 8, 9, 10, 11, 13, 14, 15]) (by kernel_rfl) (by kernel_rfl) (by kernel_rfl) (by kernel_rfl) ?_ ?_
      ·refine ap1_call (Pd' := []) rfl (by kernel_rfl) trivial rfl rfl (.cons rfl (.cons rfl .nil)) (qd_ hcomes (wt_ hle y2) (by omega) (.there (.there (.there (.there (.there .here))))) .here) (fun v L' x' _ p hp => by cases hp) ?_
       rintro v L' x' ⟨tv, wv', lv', mv, rfl, rfl, rfl⟩
       repeat (first | refine aM ?_ | (apply be_; exact rfl; exact rfl; exact gY; intro L; apply cb_; exact rfl; exact rfl))
       refine hc_ (bu_ (.there .here) gh_) ?_
       rintro ⟨⟨wa', wn', wc', rfl⟩, la', ln', lc', rfl⟩
       refine gb_ rfl rfl rfl rfl trivial cj_ ?_ ?_
       ·rintro v L' ⟨nb2, rfl, rfl⟩ p hp
        replace hp := (List.mem_filter.1 hp).1
        simp only [List.mem_cons, List.not_mem_nil, or_false] at hp
        rcases hp with rfl | rfl | rfl | rfl <;> exact .inl rfl
       rintro v L' ⟨nb2, rfl, rfl⟩
       repeat (first | refine aA ?_)
       refine cc_ rfl rfl rfl rfl rfl trivial (ck_ (b := nb2) (c := 0) (k := 0) (a := 0) (vs := [.slice none 0 0, .slice none 0 0]) rfl rfl rfl (by intro w hw; simp [Value.cells] at hw; rcases hw with rfl | rfl <;> rfl) rfl (Nat.le_refl 2) .here) ?_
       rintro v' L' ⟨rfl, rfl⟩
       repeat (first | refine aA ?_ | refine ca_ ?_)
       refine wu_ (I := pt_ _ r b n t7 nb i (some ⟨bb, oo, none⟩) l cap Z f' bv told ms wv lv) (tv, mv, .slice wa' wn' wc', .slice la' ln' lc', nb2) trivial ⟨rfl, rfl, rfl, rfl, rfl, rfl, rfl, rfl, rfl, rfl, rfl, trivial⟩ (fun h st => ?_) rfl
       have s1 : Star (arr nb2 0 [.slice wa' wn' wc', .slice la' ln' lc'] :: vec 1 tv (told.map num) :: wvC (.slice wa' wn' wc') (.slice la' ln' lc') ⟨[rowOf (n + 2) f'], 1⟩ :: vec 2 mv (ms.map mkC).flatten :: wvC wv lv ⟨[rowOf (n + 2) f], 1⟩ :: vec 1 bv (told.map num) :: wds (bx_ r b) (n + 2) [(r, 2, .slice (some ⟨b, 0, none⟩) n n)] f' :: hs_ nb (ms.map mkI) :: arr t7 0 [wv, lv] :: [Z]) h := st
       exact Ent.star (.take (.there .here) (.take (.there (.there .here)) (.take .here (.take .here (.take (.there .here) (.take (.there (.there .here)) (.take (.there .here) (.take (.there .here) (.take (.there .here) (.drop .refl)))))))))) s1
      ·refine kg_ rfl rfl rfl trivial cj_ ?_ ?_
       ·rintro v L' ⟨nb2, rfl, rfl⟩ p hp
        replace hp := (List.mem_filter.1 hp).1
        replace hp := (List.mem_filter.1 hp).1
        simp only [List.mem_cons, List.not_mem_nil, or_false] at hp
        rcases hp with rfl | rfl | rfl | rfl | rfl | rfl <;> first | exact .inl rfl | exact .inr ⟨_, rfl, trivial, ch_ (vs := [wv, lv]) rfl rfl (Rds.all (.there (.there (.there (.there (.there .here))))))⟩ | exact .inr ⟨_, rfl, trivial, ch_ (vs := [.int .i64 y.1, .int .u64 (y.2 : Nat)]) rfl rfl (hdo (.there (.there (.there (.there (.there (.there (.there .here))))))))⟩
       rintro v L' ⟨nb2, rfl, rfl⟩
       refine jk_ (Pd' := []) rfl rfl (by kernel_rfl) trivial rfl rfl (.cons rfl (.cons rfl .nil)) (qd_ hcomes (wt_ hle y2) (by omega) (.there (.there (.there (.there (.there (.there .here)))))) (.there .here)) (fun v L' x' _ p hp => by cases hp) ?_
       rintro v L' x' ⟨tv, wv', lv', mv, rfl, rfl, rfl⟩
       refine ap_star (L' := _) (fun h st => Ent.star (.take (.there (.there (.there (.there .here)))) (.take .here (.take .here (.take .here (.take .here .refl))))) st) (fun p hp => by cases hp) ?_
       repeat (first | refine aM ?_ | refine aA ?_ | (apply be_; exact rfl; exact rfl; exact gY; intro L; apply cb_; exact rfl; exact rfl))
       refine hc_ (bu_ (.there (.there .here)) gh_) ?_
       rintro ⟨⟨wa', wn', wc', rfl⟩, la', ln', lc', rfl⟩
       skip
       refine cc_ rfl rfl rfl rfl rfl trivial (ck_ (b := nb2) (c := 0) (k := 0) (a := 0) (vs := [.slice none 0 0, .slice none 0 0]) rfl rfl rfl (by intro w hw; simp [Value.cells] at hw; rcases hw with rfl | rfl <;> rfl) rfl (Nat.le_refl 2) .here) ?_
       rintro v' L' ⟨rfl, rfl⟩
       repeat (first | refine aA ?_ | refine ca_ ?_)
       refine wu_ (I := pt_ _ r b n t7 nb i (some ⟨bb, oo, none⟩) l cap Z f' bv told ms wv lv) (tv, mv, .slice wa' wn' wc', .slice la' ln' lc', nb2) trivial ⟨rfl, rfl, rfl, rfl, rfl, rfl, rfl, rfl, rfl, rfl, rfl, trivial⟩ (fun h st => ?_) rfl
       have s1 : Star (arr nb2 0 [.slice wa' wn' wc', .slice la' ln' lc'] :: vec 1 tv (told.map num) :: wvC (.slice wa' wn' wc') (.slice la' ln' lc') ⟨[rowOf (n + 2) f'], 1⟩ :: vec 2 mv (ms.map mkC).flatten :: wvC wv lv ⟨[rowOf (n + 2) f], 1⟩ :: vec 1 bv (told.map num) :: wds (bx_ r b) (n + 2) [(r, 2, .slice (some ⟨b, 0, none⟩) n n)] f' :: hs_ nb (ms.map mkI) :: arr t7 0 [wv, lv] :: [Z]) h := st
       exact Ent.star (.take (.there .here) (.take (.there (.there .here)) (.take .here (.take .here (.take (.there .here) (.take (.there (.there .here)) (.take (.there .here) (.take (.there .here) (.take (.there .here) (.drop .refl)))))))))) s1
     ·refine kg_ rfl rfl rfl trivial cj_ ?_ ?_
      ·rintro v L' ⟨nb2, rfl, rfl⟩ p hp
       replace hp := (List.mem_filter.1 hp).1
       simp only [List.mem_cons, List.not_mem_nil, or_false] at hp
       rcases hp with rfl | rfl | rfl | rfl | rfl | rfl <;> first | exact .inl rfl | exact .inr ⟨_, rfl, trivial, ch_ (vs := [wv, lv]) rfl rfl (Rds.all (.there (.there (.there (.there .here)))))⟩ | exact .inr ⟨_, rfl, trivial, ch_ (vs := [.int .i64 y.1, .int .u64 (y.2 : Nat)]) rfl rfl (hdo (.there (.there (.there (.there (.there (.there .here)))))))⟩
      rintro v L' ⟨nb2, rfl, rfl⟩
      refine jk_ rfl rfl rfl trivial rfl rfl (.cons rfl (.cons rfl .nil)) (call_tr (by omega) hle y1 hkd) ?_ ?_
      ·rintro v L' x' ⟨kb, m, rfl, rfl, rfl⟩ p hp
       replace hp := (List.mem_filter.1 hp).1
       replace hp := (List.mem_filter.1 hp).1
       simp only [List.mem_cons, List.not_mem_nil, or_false] at hp
       rcases hp with rfl | rfl | rfl | rfl | rfl | rfl <;> first | exact .inl rfl | exact .inr ⟨_, rfl, trivial, ch_ (vs := [wv, lv]) rfl rfl (Rds.all (.there (.there (.there (.there (.there .here))))))⟩ | exact .inr ⟨_, rfl, trivial, ch_ (vs := [.int .i64 y.1, .int .u64 (y.2 : Nat)]) rfl rfl (hdo (.there (.there (.there (.there (.there (.there (.there .here))))))))⟩
      rintro v L' x' ⟨kb, m, rfl, rfl, rfl⟩
      refine jk_ (Pd' := []) rfl rfl (by kernel_rfl) trivial rfl rfl (.cons rfl (.cons rfl .nil)) (qd_ hcomes (wt_ hle y2) (by omega) (.there (.there (.there (.there (.there (.there .here)))))) .here) (fun v L' x' _ p hp => by cases hp) ?_
      rintro v L' x' ⟨tv, wv', lv', mv, rfl, rfl, rfl⟩
      refine ap_star (L' := _) (fun h st => Ent.star (.take (.there (.there (.there (.there .here)))) (.take .here (.take .here (.take .here (.take .here .refl))))) st) (fun p hp => by cases hp) ?_
      repeat (first | refine aM ?_ | refine aA ?_ | (apply be_; exact rfl; exact rfl; exact gY; intro L; apply cb_; exact rfl; exact rfl))
      refine hc_ (bu_ (.there (.there .here)) gh_) ?_
      rintro ⟨⟨wa', wn', wc', rfl⟩, la', ln', lc', rfl⟩
      skip
      refine cc_ rfl rfl rfl rfl rfl trivial (ck_ (b := nb2) (c := 0) (k := 0) (a := 0) (vs := [.slice none 0 0, .slice none 0 0]) rfl rfl rfl (by intro w hw; simp [Value.cells] at hw; rcases hw with rfl | rfl <;> rfl) rfl (Nat.le_refl 2) .here) ?_
      rintro v' L' ⟨rfl, rfl⟩
      repeat (first | refine aA ?_ | refine ca_ ?_)
      refine wu_ (I := pt_ _ r b n t7 nb i (some ⟨bb, oo, none⟩) l cap Z f' bv told ms wv lv) (tv, mv, .slice wa' wn' wc', .slice la' ln' lc', nb2) trivial ⟨rfl, rfl, rfl, rfl, rfl, rfl, rfl, rfl, rfl, rfl, rfl, trivial⟩ (fun h st => ?_) rfl
      have s1 : Star (arr nb2 0 [.slice wa' wn' wc', .slice la' ln' lc'] :: vec 1 tv (told.map num) :: wvC (.slice wa' wn' wc') (.slice la' ln' lc') ⟨[rowOf (n + 2) f'], 1⟩ :: vec 2 mv (ms.map mkC).flatten :: wvC wv lv ⟨[rowOf (n + 2) f], 1⟩ :: vec 1 bv (told.map num) :: wds (bx_ r b) (n + 2) [(r, 2, .slice (some ⟨b, 0, none⟩) n n)] f' :: hs_ nb (ms.map mkI) :: arr t7 0 [wv, lv] :: [Z]) h := st
      exact Ent.star (.take (.there .here) (.take (.there (.there .here)) (.take .here (.take .here (.take (.there .here) (.take (.there (.there .here)) (.take (.there .here) (.take (.there .here) (.take (.there .here) (.drop .refl)))))))))) s1
    ·rintro ⟨tv, mv, wv', lv', nb2⟩ _
     dsimp only [pt_]
     refine cx_ (bu_ .here (bi_ (by omega))) ?_
     rintro ⟨ta, tn, tc, rfl, htn, _, hta, hta2⟩
     refine cx_ (bu_ (.there .here) (bi_ (by omega))) ?_
     rintro ⟨ma, mn, mc, rfl, hmn, _, hma, hma2⟩
     refine cx_ (bu_ (.there (.there (.there (.there .here)))) (bi_ (by omega))) ?_
     rintro ⟨ba, bn, bc, rfl, hbn, _, hba, hba2⟩
     refine cx_ (bu_ (.there (.there (.there .here))) gh_) ?_
     rintro ⟨⟨wa', wn', wc', rfl⟩, la', ln', lc', rfl⟩
     have htn' : tn = told.length := by simp at htn; omega
     have hbn' : bn = told.length := by simp at hbn; omega
     have hmn' : mn = (ms.map mkI).length := by rw [gj_ (k := 2) (fun _ => rfl)] at hmn; simp; omega
     repeat (first | refine wneqF ?_ | refine bb_ ?_ | (refine wR ?_; try simp only [oS]) | refine wM ?_)
     refine bj_ (.cons rfl (.cons rfl .nil)) rfl (sh_ (l := told) (l' := told) hbn' htn' (by omega) (RdV.vec (.there (.there (.there (.there .here)))) hba2 (fun h => List.length_eq_zero_iff.1 (by rw [← hbn']; exact hba h))) (RdV.vec .here hta2 (fun h => List.length_eq_zero_iff.1 (by rw [← htn']; exact hta h)))) ?_
     rintro v L' x' ⟨rfl, rfl, rfl⟩
     rw [decide_eq_true (rfl : told = told)]
     repeat (first | refine wM ?_ | refine wJ ?_ | (apply wo_po; apply dq_; exact rfl; exact gY))
     refine bj_ (.cons rfl .nil) rfl (marks_tr (by simp; omega) (.there (.there (.there (.there (.there .here)))))) ?_
     rintro v L' x' ⟨rfl, rfl⟩
     refine cw_ (bu_ .here (bi_ (by omega))) ?_
     rintro ⟨na, nn, nc, rfl, hnn, _, hna, hna2⟩
     have hnn' : nn = (ms.map mkI).length := by rw [flat2] at hnn; omega
     repeat (first | refine wM ?_)
     refine bj_ (.cons rfl (.cons rfl .nil)) rfl (same_marks_tr (l := ms.map mkI) (l' := ms.map mkI) hnn' hmn' (by simp at hnn'; omega) (RdM.vec .here hna2 (fun h => List.length_eq_zero_iff.1 (by rw [← hnn']; exact hna h))) (RdM.vec (n := mn) (c := mc) (by rw [← marks_flat]; exact (.there (.there (.there .here)))) hma2 (fun h => List.length_eq_zero_iff.1 (by rw [← hmn']; exact hma h)))) ?_
     rintro v L' x' ⟨rfl, rfl, rfl⟩
     rw [decide_eq_true (rfl : ms.map mkI = ms.map mkI)]
     repeat (first | (apply wo_po; apply ch_ (vs := [.slice wa' wn' wc', .slice la' ln' lc']); exact rfl; exact rfl; exact Rds.all (.there (.there (.there (.there .here)))); exact trivial) | (apply wo_pm; apply ck_ (b := t7) (c := 0) (k := 0) (a := 0) (vs := [wv, lv]); exact rfl; exact rfl; exact rfl; (intro w hw; simp [Value.cells] at hw; rcases hw with rfl | rfl <;> rfl); exact rfl; exact Nat.le_refl 2; exact (.there (.there (.there (.there (.there (.there (.there (.there .here)))))))); exact trivial) | (refine wR ?_; try simp only [oS]) | refine ba_ ?_ | refine wM ?_ | refine wA ?_ | refine wJ ?_ | (apply wo_po; apply dq_; exact rfl; exact gY) | refine wadd ?_ | refine wF ?_ | refine bk_ ?_)
     refine dt_ (I := ts_ _ r b n t7 (some ⟨bb, oo, none⟩) l cap Z) (R := fun i' => 60 - i'.1 < 60 - i) (i + 1, f', .slice wa' wn' wc', .slice la' ln' lc') (by show 60 - (i + 1) < 60 - i; omega) (by show i + 1 ≤ 60; omega) ⟨rfl, rfl, rfl, rfl, rfl, trivial⟩ (fun h st => ?_) rfl
     exact Ent.star (.take (.there (.there (.there (.there (.there (.there (.there .here))))))) (.take (.there (.there (.there (.there (.there (.there (.there .here))))))) (.take (.there (.there (.there (.there (.there .here))))) (.take (.there (.there (.there (.there (.there (.there .here)))))) (.drop (.drop (.drop (.drop (.drop (.drop .refl)))))))))) st
   ·repeat (first | refine wlssT ?_ | refine wlssF ?_ | refine bb_ ?_ | (refine wR ?_; try simp only [oS]) | refine ba_ ?_ | refine wM ?_ | refine wK ?_ | refine wE ?_ | refine wF ?_ | refine cm_ ?_)
    refine bj_ .nil trivial pg_ ?_
    rintro v L' x' ⟨rfl, rfl, rfl⟩
    repeat (first | refine ba_ ?_ | refine wA ?_ | refine br_ ?_)
    (first | refine or1 Try.func4 Try.results4 hQ rfl ?_ | refine on1 Try.func4 Try.results4 hQ rfl ?_)
    exact ⟨rfl, rfl, fun h st => Ent.star (.drop (.drop (.drop .refl))) st⟩
  ·repeat (first | refine wlssF ?_ | refine bb_ ?_ | (refine wR ?_; try simp only [oS]) | refine ba_ ?_ | refine wM ?_ | (apply wo_no; exact rfl) | refine wJ ?_ | refine wE ?_ | refine wF ?_ | refine cm_ ?_)
   refine bj_ .nil trivial pg_ ?_
   rintro v L' x' ⟨rfl, rfl, rfl⟩
   repeat (first | refine ba_ ?_ | refine wA ?_ | refine br_ ?_)
   (first | refine or1 Try.func4 Try.results4 hQ rfl ?_ | refine on1 Try.func4 Try.results4 hQ rfl ?_)
   exact ⟨rfl, rfl, fun h st => Ent.star (.drop (.drop (.drop .refl))) st⟩
 ·have hno : ∀ L : List HProp, Tr Try.prog B 10 [.int .i64 slots] L x fun v L' x' => v = .tuple #[.pointer none, .int .i64 2] ∧ L' = L ∧ x' = x := by
   intro L
   by_cases hb : slots < 1 ∨ 1024 < slots
   ·exact new_tr' hb
   ·obtain ⟨n, rfl⟩ : ∃ n : Nat, slots = n := ⟨slots.toNat, by omega⟩
    refine new_nopow (by omega) (by omega) ?_
    rintro ⟨k, hk, rfl⟩
    exact hm ⟨k, hk, rfl⟩
  refine bd_ Try.func4 rfl Try.ntmps4 (by simp) fun um Q _ hQ => ?_
  simp only [argE, Nat.zero_add, Nat.reduceAdd]
  repeat (first | refine bb_ ?_ | (refine wR ?_; try simp only [oS]) | refine ba_ ?_ | refine wM ?_ | refine wA ?_)
  refine bj_ (.cons rfl .nil) trivial (hno _) ?_
  rintro v L' x' ⟨rfl, rfl, rfl⟩
  repeat (first | refine bb_ ?_ | (refine wR ?_; try simp only [oS]) | refine ba_ ?_ | refine wM ?_ | refine wA ?_ | (apply wo_po; apply cb_; exact rfl; exact rfl; exact gY))
  refine bj_ (.cons rfl .nil) trivial (may_tr (n := slots) (q := false) ⟨fun h => (by cases h), fun h => absurd h hm⟩) ?_
  rintro v L' x' ⟨rfl, rfl, rfl⟩
  repeat (first | refine weqlT ?_ | refine bb_ ?_ | (refine wR ?_; try simp only [oS]) | refine ba_ ?_ | refine wM ?_ | refine wK ?_ | (apply wo_po; apply dq_; exact rfl; exact gY) | (apply wo_po; apply bh_; exact rfl; exact rfl; apply gf_; apply dg_; exact gY) | refine wT ?_)
  refine bj_ .nil rfl pg_ ?_
  rintro v L' x' ⟨rfl, rfl, rfl⟩
  repeat (first | refine ba_ ?_ | refine wA ?_ | refine wK ?_ | refine br_ ?_)
  (first | refine or1 Try.func4 Try.results4 hQ rfl ?_ | refine on1 Try.func4 Try.results4 hQ rfl ?_)
  exact ⟨rfl, rfl, fun h st => Ent.star .refl st⟩
end
end
section
section
variable {B : Hand} [Lets B] {L F : List HProp} {x : B.X} {v0 : Option Addr} {gv : Value} {v : Nat}
def ku_ (L : List HProp) (v : Option Addr) : Prop := v = none ∨ ∃ r, v = some ⟨r, 0, none⟩ ∧ Rd L r 2 (.slice none 0 0)
theorem ku_.there {c : HProp} (h : ku_ L v0) : ku_ (c :: L) v0 := h.imp id fun ⟨r, e, hr⟩ => ⟨r, e, .there hr⟩
theorem qm_ (h : ku_ L v0) : Tr Try.prog B 38 [.pointer v0] L x fun v L' x' => v = .bool false ∧ L' = L ∧ x' = x := by
 rcases h with rfl | ⟨r, rfl, hr⟩
 ·refine bd_ Try.func38 rfl Try.ntmps38 (by simp) fun um Q _ hQ => ?_
  simp only [argE, Nat.zero_add, Nat.reduceAdd]
  repeat (first | refine bb_ ?_ | (refine wR ?_; try simp only [oS]) | refine ba_ ?_ | refine wM ?_ | refine wA ?_ | (apply wo_no; exact rfl) | refine wJ ?_ | (apply wo_po; apply bh_; exact rfl; exact rfl; apply dv_; apply dg_; exact gY) | refine br_ ?_)
  (first | refine or1 Try.func38 Try.results38 hQ rfl ?_ | refine on1 Try.func38 Try.results38 hQ rfl ?_)
  exact ⟨rfl, rfl, rfl⟩
 ·refine bd_ Try.func38 rfl Try.ntmps38 (by simp) fun um Q _ hQ => ?_
  simp only [argE, Nat.zero_add, Nat.reduceAdd]
  repeat (first | (apply wo_po; apply bc_; exact rfl; exact hr; exact rfl) | refine bb_ ?_ | (refine wR ?_; try simp only [oS]) | refine ba_ ?_ | refine wM ?_ | refine wA ?_ | refine wK ?_ | refine wN ?_ | refine wD ?_ | (apply wo_po; apply bh_; exact rfl; exact rfl; apply dv_; apply dg_; exact gY) | (apply wo_po; apply bh_; exact rfl; exact rfl; apply dv_; apply df_; exact gY) | refine br_ ?_)
  (first | refine or1 Try.func38 Try.results38 hQ rfl ?_ | refine on1 Try.func38 Try.results38 hQ rfl ?_)
  exact ⟨rfl, rfl, rfl⟩
theorem put_nil (h : ku_ L v0) : Tr Try.prog B 12 [.pointer v0, gv, .int .u64 (v : Nat)] L x fun v L' x' => v = .tuple #[.bool false, .int .i64 1] ∧ L' = L ∧ x' = x := by
 refine bd_ Try.func12 rfl Try.ntmps12 (by simp) fun um Q _ hQ => ?_
 simp only [argE, Nat.zero_add, Nat.reduceAdd]
 repeat (first | refine bb_ ?_ | (refine wR ?_; try simp only [oS]) | refine ba_ ?_ | refine wM ?_ | refine wA ?_)
 refine bj_ (.cons rfl .nil) trivial (qm_ h) ?_
 rintro v1 L1 x1 ⟨rfl, rfl, rfl⟩
 repeat (first | refine bb_ ?_ | (refine wR ?_; try simp only [oS]) | refine ba_ ?_ | refine wA ?_ | (apply wo_po; apply dq_; exact rfl; exact gY) | refine wT ?_ | refine br_ ?_)
 (first | refine or2 Try.func12 Try.results12 hQ rfl rfl ?_ | refine on2 Try.func12 Try.results12 hQ rfl rfl ?_)
 exact ⟨rfl, rfl, rfl⟩
theorem take_nil (h : ku_ L v0) : Tr Try.prog B 13 [.pointer v0, gv] L x fun v L' x' => v = .tuple #[.int .u64 0, .bool false, .int .i64 1] ∧ L' = L ∧ x' = x := by
 refine bd_ Try.func13 rfl Try.ntmps13 (by simp) fun um Q _ hQ => ?_
 simp only [argE, Nat.zero_add, Nat.reduceAdd]
 repeat (first | refine bb_ ?_ | (refine wR ?_; try simp only [oS]) | refine ba_ ?_ | refine wM ?_ | refine wA ?_)
 refine bj_ (.cons rfl .nil) trivial (qm_ h) ?_
 rintro v1 L1 x1 ⟨rfl, rfl, rfl⟩
 repeat (first | refine bb_ ?_ | (refine wR ?_; try simp only [oS]) | refine ba_ ?_ | refine wA ?_ | (apply wo_po; apply dq_; exact rfl; exact gY) | refine wT ?_ | refine br_ ?_)
 (first | refine or3 Try.func13 Try.results13 hQ rfl rfl rfl ?_ | refine on3 Try.func13 Try.results13 hQ rfl rfl rfl ?_)
 exact ⟨rfl, rfl, rfl⟩
theorem len_nil (h : ku_ L v0) : Tr Try.prog B 14 [.pointer v0, gv] L x fun v L' x' => v = .tuple #[.int .i64 0, .int .i64 1] ∧ L' = L ∧ x' = x := by
 refine bd_ Try.func14 rfl Try.ntmps14 (by simp) fun um Q _ hQ => ?_
 simp only [argE, Nat.zero_add, Nat.reduceAdd]
 repeat (first | refine bb_ ?_ | (refine wR ?_; try simp only [oS]) | refine ba_ ?_ | refine wM ?_ | refine wA ?_)
 refine bj_ (.cons rfl .nil) trivial (qm_ h) ?_
 rintro v1 L1 x1 ⟨rfl, rfl, rfl⟩
 repeat (first | refine bb_ ?_ | (refine wR ?_; try simp only [oS]) | refine ba_ ?_ | refine wA ?_ | (apply wo_po; apply dq_; exact rfl; exact gY) | refine wT ?_ | refine br_ ?_)
 (first | refine or2 Try.func14 Try.results14 hQ rfl rfl ?_ | refine on2 Try.func14 Try.results14 hQ rfl rfl ?_)
 exact ⟨rfl, rfl, rfl⟩
theorem slots_nil (h : ku_ L v0) : Tr Try.prog B 16 [.pointer v0] L x fun v L' x' => v = .int .i64 0 ∧ L' = L ∧ x' = x := by
 refine bd_ Try.func16 rfl Try.ntmps16 (by simp) fun um Q _ hQ => ?_
 simp only [argE, Nat.zero_add, Nat.reduceAdd]
 repeat (first | refine bb_ ?_ | (refine wR ?_; try simp only [oS]) | refine ba_ ?_ | refine wM ?_ | refine wA ?_)
 refine bj_ (.cons rfl .nil) trivial (qm_ h) ?_
 rintro v1 L1 x1 ⟨rfl, rfl, rfl⟩
 repeat (first | refine bb_ ?_ | (refine wR ?_; try simp only [oS]) | refine ba_ ?_ | refine wA ?_ | (apply wo_po; apply dq_; exact rfl; exact gY) | refine wT ?_ | refine br_ ?_)
 (first | refine or1 Try.func16 Try.results16 hQ rfl ?_ | refine on1 Try.func16 Try.results16 hQ rfl ?_)
 exact ⟨rfl, rfl, rfl⟩
theorem done_nil (h : ku_ L v0) {kd : Nat} (hkd : kd < 3) (hv : v < 18446744073709551616) :
  Tr Try.prog B 19 [.pointer v0, gv, .agg #[.int .i64 (kd : Nat), .int .u64 (v : Nat)]] L x fun w L' x' => ∃ m vb, w = .tuple #[.slice (some ⟨vb, 0, none⟩) (m + 1) (m + 1), .int .i64 1] ∧ L' = arr vb 0 (List.replicate (m + 1) (num 0)) :: L ∧ x' = x := by
 refine Tr.post (R := fun w L' x' => ∃ m vb, w = .tuple #[.slice (some ⟨vb, 0, none⟩) (m + 1) (m + 1), .int .i64 1] ∧ x' = x ∧ ∀ h, Star L' h → Star (arr vb 0 (List.replicate (m + 1) (num 0)) :: L) h) ?_
  (by rintro v L' x' ⟨m, vb, rfl, rfl, hs⟩; exact ⟨_, ⟨m, vb, rfl, rfl, rfl⟩, hs⟩)
 have hw : ((kd : Nat) : Int) % 3 = (kd : Nat) := by omega
 refine bd_ Try.func19 rfl Try.ntmps19 (by simp) fun um Q _ hQ => ?_
 simp only [argE, Nat.zero_add, Nat.reduceAdd]
 repeat (first | (apply wo_mo; apply cr_; exact rfl; exact trivial) | refine bb_ ?_ | (refine wR ?_; try simp only [oS]))
 rintro v' L' ⟨cb, rfl, rfl⟩
 refine jm_ (arr cb 0 [.int .i64 (kd : Nat), .int .u64 (v : Nat)] :: L) .refl ?_
 repeat (first | refine bb_ ?_ | (refine wR ?_; try simp only [oS]) | refine ba_ ?_ | refine wA ?_ | refine wD ?_ | refine wL ?_)
 refine bj_ (.cons rfl (.cons rfl .nil)) trivial (kx_ (by omega) (by omega)) ?_
 rintro v' L' x' ⟨rfl, rfl, rfl⟩
 rw [hw]
 by_cases k0 : kd = 0
 ·subst k0
  repeat (first | refine weqlT ?_ | refine bb_ ?_ | (refine wR ?_; try simp only [oS]) | refine ba_ ?_ | refine wM ?_ | refine wA ?_ | refine wD ?_ | refine wL ?_ | refine wT ?_ | refine bg_ ?_)
  refine bj_ (.cons rfl (.cons rfl (.cons rfl .nil))) trivial (put_nil h.there) ?_
  rintro v' L' x' ⟨rfl, rfl, rfl⟩
  repeat (first | refine bb_ ?_ | (refine wR ?_; try simp only [oS]) | refine ba_ ?_ | refine wM ?_ | refine wA ?_ | (apply wo_po; apply cb_; exact rfl; exact rfl; exact gY))
  refine bj_ (.cons rfl .nil) trivial (yes_tr (q := false)) ?_
  rintro v' L' x' ⟨rfl, rfl, rfl⟩
  repeat (first | (apply wo_mo; apply bo_ (sz := 1) (vs := [num 0]); exact rfl; exact .cons rfl .nil; exact rfl; (intro v hv; simp only [List.mem_cons, List.not_mem_nil, or_false] at hv; (first | (rcases hv with rfl | rfl <;> rfl) | (subst hv; rfl))); omega; exact trivial))
  rintro v' L' ⟨vb, rfl, rfl⟩
  repeat (first | refine ba_ ?_ | refine wM ?_ | refine wA ?_ | refine br_ ?_)
  (first | refine or2 Try.func19 Try.results19 hQ rfl rfl ?_ | refine on2 Try.func19 Try.results19 hQ rfl rfl ?_)
  exact ⟨0, vb, rfl, rfl, fun h st => Ent.star (.take .here (.drop .refl)) st⟩
 by_cases k1 : kd = 1
 ·subst k1
  repeat (first | refine weqlT ?_ | refine weqlF ?_ | refine bb_ ?_ | (refine wR ?_; try simp only [oS]) | refine ba_ ?_ | refine wM ?_ | refine wA ?_ | refine wT ?_ | refine wF ?_ | refine bg_ ?_)
  refine bj_ (.cons rfl (.cons rfl .nil)) trivial (take_nil h.there) ?_
  rintro v' L' x' ⟨rfl, rfl, rfl⟩
  repeat (first | refine bb_ ?_ | (refine wR ?_; try simp only [oS]) | refine ba_ ?_ | refine wM ?_ | refine wA ?_ | (apply wo_po; apply cb_; exact rfl; exact rfl; exact gY))
  refine bj_ (.cons rfl .nil) trivial (yes_tr (q := false)) ?_
  rintro v' L' x' ⟨rfl, rfl, rfl⟩
  repeat (first | (apply wo_mo; apply bo_ (sz := 1) (vs := [num 0, num 0]); exact rfl; exact .cons rfl (.cons rfl .nil); exact rfl; (intro v hv; simp only [List.mem_cons, List.not_mem_nil, or_false] at hv; (first | (rcases hv with rfl | rfl <;> rfl) | (subst hv; rfl))); omega; exact trivial))
  rintro v' L' ⟨vb, rfl, rfl⟩
  repeat (first | refine ba_ ?_ | refine wM ?_ | refine wA ?_ | refine br_ ?_)
  (first | refine or2 Try.func19 Try.results19 hQ rfl rfl ?_ | refine on2 Try.func19 Try.results19 hQ rfl rfl ?_)
  exact ⟨1, vb, rfl, rfl, fun h st => Ent.star (.take .here (.drop .refl)) st⟩
 ·obtain rfl : kd = 2 := by omega
  repeat (first | refine weqlF ?_ | refine bb_ ?_ | (refine wR ?_; try simp only [oS]) | refine ba_ ?_ | refine wM ?_ | refine wA ?_ | refine wF ?_ | refine bk_ ?_ | refine bg_ ?_)
  refine bj_ (.cons rfl (.cons rfl .nil)) trivial (len_nil h.there) ?_
  rintro v' L' x' ⟨rfl, rfl, rfl⟩
  repeat (first | refine bb_ ?_ | (refine wR ?_; try simp only [oS]) | refine ba_ ?_ | refine wM ?_ | refine wA ?_ | (apply wo_po; apply cb_; exact rfl; exact rfl; exact gY) | (apply wo_po; apply dz_; exact rfl; (first | exact dd_ (by omega) (by omega) | exact wrap_u64 (by omega) (by omega)); exact gY))
  repeat (first | (apply wo_mo; apply bo_ (sz := 1) (vs := [num 0]); exact rfl; exact .cons rfl .nil; exact rfl; (intro v hv; simp only [List.mem_cons, List.not_mem_nil, or_false] at hv; (first | (rcases hv with rfl | rfl <;> rfl) | (subst hv; rfl))); omega; exact trivial))
  rintro v' L' ⟨vb, rfl, rfl⟩
  repeat (first | refine ba_ ?_ | refine wM ?_ | refine wA ?_ | refine br_ ?_)
  (first | refine or2 Try.func19 Try.results19 hQ rfl rfl ?_ | refine on2 Try.func19 Try.results19 hQ rfl rfl ?_)
  exact ⟨0, vb, rfl, rfl, fun h st => Ent.star (.take .here (.drop .refl)) st⟩
def noneInv (x : B.X) (v0 : Option Addr) (nb : Nat) (L : List HProp) : Inv (Nat × Value × Int) B.X where
 e := fun i => [(0, .pointer v0), (3, .pointer (some ⟨nb, 0, none⟩)), (4, .int .i64 (i.1 : Nat)), (2, .bool false)]
 L := fun i => hs_ nb [] :: L
 x := fun _ => x
 ok := fun i => i.1 ≤ 3
theorem none_tr (h : ku_ L v0) : Tr Try.prog B 37 [.pointer v0] L x fun v L' x' => v = .bool true ∧ L' = L ∧ x' = x := by
 refine Tr.post (R := fun v L' x' => v = .bool true ∧ x' = x ∧ ∀ h, Star L' h → Star L h) ?_
  (by rintro v L' x' ⟨rfl, rfl, h2⟩; exact ⟨_, ⟨rfl, rfl, rfl⟩, h2⟩)
 refine bd_ Try.func37 rfl Try.ntmps37 (by simp) fun um Q _ hQ => ?_
 simp only [argE, Nat.zero_add, Nat.reduceAdd]
 repeat (first | refine bb_ ?_ | (refine wR ?_; try simp only [oS]) | refine ba_ ?_ | refine wA ?_)
 refine bj_ .nil trivial tu_ ?_
 rintro v1 L1 x1 ⟨nb, rfl, rfl, rfl⟩
 repeat (first | refine bb_ ?_ | (refine wR ?_; try simp only [oS]) | refine ba_ ?_ | refine wA ?_ | refine bg_ ?_)
 refine co_ (noneInv x1 v0 nb L) (fun i => 3 - i.1) (0, .nilFunc, 0) (by show 0 ≤ 3; omega) ⟨rfl, rfl, rfl, rfl, trivial⟩ .refl rfl ?_
 rintro ⟨i, u, w⟩ hi
 replace hi : i ≤ 3 := hi
 simp only [noneInv]
 by_cases hlt : i < 3
 ·repeat (first | (apply wo_po; apply dj_ (pv := [(0, _), (1, _)]); exact rfl; exact .cons rfl (.cons rfl .nil); exact rfl; exact trivial) | (apply wo_po; apply gv_; exact rfl; exact trivial) | refine wlssT ?_ | refine bb_ ?_ | (refine wR ?_; try simp only [oS]) | refine ba_ ?_ | refine wM ?_ | refine wT ?_ | refine bk_ ?_ | refine bg_ ?_)
  refine bj_ (.cons rfl (.cons rfl (.cons rfl .nil))) trivial (done_nil (v := 7) h.there hlt (by omega)) ?_
  rintro v1 L1 x1 ⟨m, vb, rfl, rfl, rfl⟩
  have hr0 : Rd (arr vb 0 (List.replicate (m + 1) (num 0)) :: hs_ nb [] :: L) vb (0 + 0) (num 0) := Rd.row (k := 0) (by rw [List.replicate_succ]; rfl) rfl
  repeat (first | (apply wo_po; apply ce_ (r := 0 + 0); exact rfl; exact rfl; omega; omega; rfl; exact gY) | (apply wo_po; apply bc_; exact rfl; exact hr0; exact gY) | refine wneqF ?_ | refine bb_ ?_ | (refine wR ?_; try simp only [oS]) | refine ba_ ?_ | refine wM ?_ | refine wA ?_ | refine wJ ?_ | (apply wo_po; apply cb_; exact rfl; exact rfl; exact gY) | refine wadd ?_ | refine wF ?_ | refine bk_ ?_)
  refine dm_ (I := noneInv _ v0 nb L) (R := fun j => 3 - j.1 < 3 - i) (i + 1, .nilFunc, 0) (by show 3 - (i + 1) < 3 - i; omega) (by show i + 1 ≤ 3; omega) ⟨rfl, rfl, rfl, rfl, trivial⟩ (.take (.there .here) (.drop .refl)) rfl
 ·obtain rfl : i = 3 := by omega
  repeat (first | refine wlssF ?_ | refine bb_ ?_ | (refine wR ?_; try simp only [oS]) | refine ba_ ?_ | refine wM ?_ | refine wF ?_ | refine cm_ ?_)
  refine bj_ (.cons rfl .nil) trivial (slots_nil h.there) ?_
  rintro v1 L1 x1 ⟨rfl, rfl, rfl⟩
  repeat (first | refine weqlT ?_ | refine wM ?_)
  refine bj_ (.cons rfl .nil) rfl (marks_tr (marks := []) (by decide) .here) ?_
  rintro mv L1 x1 ⟨rfl, rfl⟩
  refine cw_ (bu_ .here (bi_ (by omega))) ?_
  rintro ⟨ma, mn, mc, rfl, hmn, _⟩
  obtain rfl : mn = 0 := by simp at hmn; omega
  repeat (first | refine weqlT ?_ | refine ba_ ?_ | refine wA ?_ | refine wK ?_ | refine wE ?_ | refine br_ ?_)
  (first | refine or1 Try.func37 Try.results37 hQ rfl ?_ | refine on1 Try.func37 Try.results37 hQ rfl ?_)
  exact ⟨rfl, rfl, fun h st => Ent.star (.drop (.drop .refl)) st⟩
end
end
end Go.Proofs.Ytdcbnbmahndecaa
