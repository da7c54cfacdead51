/-
  Part 6 of 9.
-/
import Derived.Test.YtdcbnbmahndecaaPn5
import Derived.Test.YtdcbnbmahndecaaPn3
import Derived.Test.YtdcbnbmahndecaaPn4
set_option linter.unusedVariables false
set_option linter.unusedSimpArgs false
namespace Go.Proofs.Ytdcbnbmahndecaa
open Go Go.PB
attribute [local irreducible] Mo Bin Eql Tr Wo Ap
section
variable {B : Hand} [Lets B] {L F G : List HProp} {x : B.X}
theorem round_full {f : Nat} {s : Mach.St} {b : Bool} (h : 16384 ≤ s.tr.length) : ∀ m k, Mach.round f m k s b = some (s, b) := by
 intro m
 induction m with
 | zero => intro k; rfl
 | succ m ih =>
  intro k
  unfold Mach.round
  rw [may_full h, if_neg (by decide)]
  exact ih (k + 1)
def rndInv (b6 b8 wb pb : Nat) (ov tv lv : Value) (pts : List PT) (f : Nat) (st : Mach.St) (x : B.X) (F : List HProp) : Inv (Nat × Bool × Value × Mach.St × List (PT × Mach.Th)) B.X where
 e := fun i => [(1, ov), (2, tv), (6, .pointer (some ⟨b6, 0, none⟩)), (8, .pointer (some ⟨b8, 0, none⟩)), (9, .pointer (some ⟨wb, 0, none⟩)), (10, lv), (13, .pointer (some ⟨pb, 0, none⟩)), (16, .bool i.2.1)]
 L := fun i => arr pb 0 [i.2.2.1, .slice none 0 0] :: vec 3 i.2.2.1 (i.2.2.2.1.tr.map trC).flatten :: vec 1 lv (i.2.2.2.2.map ptrK) :: all (i.2.2.2.2.map thK) :: wdC wb i.2.2.2.1.w :: F
 x := fun _ => x
 ok := fun i => (if i.2.1 = true then Mach.rounds f i.1 i.2.2.2.1 = some st else i.2.2.2.1 = st) ∧ i.2.2.2.2.map (·.1) = pts ∧ PlayOk f i.2.2.2.1 i.2.2.2.2
def rndIn (b6 b8 wb pb : Nat) (ov tv lv : Value) (pts : List PT) (f : Nat) (r : Mach.St × Bool) (x : B.X) (F : List HProp) : Inv (Nat × Bool × Value × Mach.St × List (PT × Mach.Th)) B.X where
 e := fun i => [(1, ov), (2, tv), (6, .pointer (some ⟨b6, 0, none⟩)), (8, .pointer (some ⟨b8, 0, none⟩)), (9, .pointer (some ⟨wb, 0, none⟩)), (10, lv), (13, .pointer (some ⟨pb, 0, none⟩)), (16, .bool i.2.1), (17, .int .i64 (i.1 : Nat))]
 L := fun i => arr pb 0 [i.2.2.1, .slice none 0 0] :: vec 3 i.2.2.1 (i.2.2.2.1.tr.map trC).flatten :: vec 1 lv (i.2.2.2.2.map ptrK) :: all (i.2.2.2.2.map thK) :: wdC wb i.2.2.2.1.w :: F
 x := fun _ => x
 ok := fun i => i.1 ≤ pts.length ∧ Mach.round f (pts.length - i.1) i.1 i.2.2.2.1 i.2.1 = some r ∧ i.2.2.2.2.map (·.1) = pts ∧ PlayOk f i.2.2.2.1 i.2.2.2.2
set_option maxHeartbeats 8000000 in
theorem play_tail2 {um : FrameMode} {Q : PB.End → FrameMode → Hp → B.X → Prop} [pkk : Pass (leave Try.prog B 29 .normal Q) ⟨[], um⟩] {b6 b8 wb pb : Nat} {ov0 tv trv : Value} {st s1 : Mach.St} {cc : Calls} {f g : Nat} {pts : List PT} {q : List (PT × Mach.Th)} {qa : Option Addr} {qc : Nat}
  (hp : Mach.rounds f g s1 = some st) (hf : 16384 * (f + 1) + f < 1000000000) (hcc : CallsOk F cc) (hpc : pts.map (fun p => (p.cw, p.cs)) = cc) (hq1 : q.map (·.1) = pts) (pk : PlayOk f s1 q) (hqa : qa = none → q.length = 0) (hqa2 : ∀ y, qa = some y → y = ⟨y.block, y.off, none⟩)
  (hQ : ∀ v L' x' h', playR x F st v L' x' → Star L' h' → Q (.ret v) um h' x') :
  We Try.prog B .normal 159 (wn_ 7 ((Try.f29.body).getD .skip)) (leave Try.prog B 29 .normal Q)
   [(1, ov0), (2, tv), (6, .pointer (some ⟨b6, 0, none⟩)), (8, .pointer (some ⟨b8, 0, none⟩)), (9, .pointer (some ⟨wb, 0, none⟩)), (10, .slice qa q.length qc), (13, .pointer (some ⟨pb, 0, none⟩))] ⟨[], um⟩
   (arr pb 0 [trv, .slice none 0 0] :: vec 3 trv (s1.tr.map trC).flatten :: vec 1 (.slice qa q.length qc) (q.map ptrK) :: all (q.map thK) :: wdC wb s1.w :: arr b6 0 [.slice none 0 0, .slice none 0 0] :: arr b8 0 [.slice none 0 0, .slice none 0 0] :: F) x := by
 have hcn := hcc.n
 have hpn : pts.length = cc.length := by rw [← hpc, List.length_map]
 have hqn : q.length = pts.length := by rw [← hq1, List.length_map]
 obtain ⟨R2, hR2⟩ : ∃ R2, R2 = arr b6 0 [.slice none 0 0, .slice none 0 0] :: arr b8 0 [.slice none 0 0, .slice none 0 0] :: F := ⟨_, rfl⟩
 have hcc2 : CallsOk R2 cc := by rw [hR2]; exact hcc.there.there
 rw [← hR2, hqn]
 rw [hqn] at hqa
 repeat (first | refine bb_ ?_ | (refine wR ?_; try simp only [oS]) | refine ba_ ?_ | refine wA ?_)
 refine qj_ (mr_ b6 b8 wb pb ov0 tv (.slice qa pts.length qc) pts f st x R2) ?_ ?_
 ·refine bg_ ?_
  refine co_ (rndInv b6 b8 wb pb ov0 tv (.slice qa pts.length qc) pts f st x R2) (fun i => if i.2.1 = true then i.1 + 1 else 0) (g, true, trv, s1, q) ⟨by rw [if_pos rfl]; exact hp, hq1, pk⟩ ⟨rfl, rfl, rfl, rfl, rfl, rfl, rfl, rfl, trivial⟩ .refl rfl ?_
  clear hp hq1 pk hqn q s1 trv
  rintro ⟨g, left, trv, s, q⟩ ⟨hg, hq1, pk⟩
  dsimp only [rndInv] at hg hq1 pk ⊢
  cases left with
  | false =>
   rw [if_neg (by decide)] at hg
   subst hg
   repeat (first | refine bb_ ?_ | (refine wR ?_; try simp only [oS]) | refine ba_ ?_ | refine wM ?_ | refine wF ?_ | refine cm_ ?_)
   refine gp_ (I := mr_ b6 b8 wb pb ov0 tv (.slice qa pts.length qc) pts f s x R2) (trv, q) ⟨hq1, pk⟩ ⟨rfl, rfl, rfl, rfl, rfl, rfl, rfl, trivial⟩ .refl rfl
  | true =>
   rw [if_pos rfl] at hg
   obtain ⟨g, rfl⟩ : ∃ g', g = g' + 1 := by
    cases g with
    | zero => cases hg
    | succ g => exact ⟨g, rfl⟩
   have hsl : s.l.length = pts.length := by rw [← pk.l, List.length_map, ← hq1, List.length_map]
   unfold Mach.rounds at hg
   cases hr : Mach.round f s.l.length 0 s false with
   | none => rw [hr] at hg; cases hg
   | some r =>
   rw [hr, Option.bind_some] at hg
   rw [hsl] at hr
   repeat (first | refine bb_ ?_ | (refine wR ?_; try simp only [oS]) | refine ba_ ?_ | refine wM ?_ | refine wT ?_ | refine bk_ ?_)
   refine bg_ ?_
   repeat (first | refine bb_ ?_ | (refine wR ?_; try simp only [oS]) | refine ba_ ?_ | refine wA ?_)
   refine bg_ ?_
   refine co_ (rndIn b6 b8 wb pb ov0 tv (.slice qa pts.length qc) pts f r x R2) (fun i => pts.length - i.1) (0, false, trv, s, q) ⟨Nat.zero_le _, hr, hq1, pk⟩ ⟨rfl, rfl, rfl, rfl, rfl, rfl, rfl, rfl, rfl, trivial⟩ .refl rfl ?_
   clear hr hq1 pk hsl q s trv
   rintro ⟨k, left, trv, s, q⟩ ⟨hk, hr, hq1, pk⟩
   dsimp only [rndIn] at hk hr hq1 pk ⊢
   have hqn : q.length = pts.length := by rw [← hq1, List.length_map]
   have htr := pk.tr
   refine cx_ (bu_ (.there .here) (bi_ (by omega))) ?_
   rintro ⟨ra, rn, rc, rfl, hrn, _⟩
   have hrnn := tr_len hrn
   subst hrnn
   by_cases hc : k < pts.length
   ·by_cases hc2 : s.tr.length < 16384
    ·obtain ⟨⟨pt, t⟩, hqk⟩ : ∃ z, q[k]? = some z := ⟨q[k], by simp⟩
     have hlk : s.l[k]? = some t := by rw [← pk.l, List.getElem?_map, hqk]; rfl
     obtain ⟨⟨qb, qo, sp⟩, rfl⟩ : ∃ z, qa = some z := by
      cases qa with
      | none => have : pts.length = 0 := hqa rfl; omega
      | some z => exact ⟨z, rfl⟩
     cases hqa2 _ rfl
     have hpt : pts[k]? = some pt := by rw [← hq1, List.getElem?_map, hqk]; rfl
     have hccm : (pt.cw, pt.cs) ∈ cc := by rw [← hpc]; exact List.mem_map.2 ⟨pt, List.mem_of_getElem? hpt, rfl⟩
     rw [show pts.length - k = (pts.length - (k + 1)) + 1 by omega] at hr
     unfold Mach.round at hr
     refine de_ (thK (pt, t) :: arr pb 0 [.slice ra s.tr.length rc, .slice none 0 0] :: vec 3 (.slice ra s.tr.length rc) (s.tr.map trC).flatten :: vec 1 (.slice (some ⟨qb, qo, none⟩) pts.length qc) (q.map ptrK) :: all ((q.map thK).eraseIdx k) :: wdC wb s.w :: R2) (fun h st => ?_) ?_
     ·have s1 : Star (all (q.map thK) :: arr pb 0 [.slice ra s.tr.length rc, .slice none 0 0] :: vec 3 (.slice ra s.tr.length rc) (s.tr.map trC).flatten :: vec 1 (.slice (some ⟨qb, qo, none⟩) pts.length qc) (q.map ptrK) :: wdC wb s.w :: R2) h := by
       refine Ent.star ?_ st
       repeat (first | exact Ent.refl | (apply Ent.take; (repeat (first | exact Has.here | apply Has.there))) | apply Ent.drop)
      have s2 := star_pick (i := k) (c := thK (pt, t)) (by rw [List.getElem?_map, hqk]; rfl) s1
      refine Ent.star ?_ s2
      exact (.take .here (.take (.there .here) (.take (.there .here) (.take (.there .here) (.take .here .refl)))))
     refine we_ex .here fun y => jn_ .here fun e1 => jn_ .here fun hr2 => qi_ .here ?_
     obtain ⟨av, al⟩ := y
     refine fi_ (arr pt.tb 0 (bf_ pt.cv t av) :: vec 2 av (al.map ansV).flatten :: all (al.map ansT) :: arr pb 0 [.slice ra s.tr.length rc, .slice none 0 0] :: vec 3 (.slice ra s.tr.length rc) (s.tr.map trC).flatten :: vec 1 (.slice (some ⟨qb, qo, none⟩) pts.length qc) (q.map ptrK) :: all ((q.map thK).eraseIdx k) :: wdC wb s.w :: R2) .refl ?_
     have hpv : Rd (arr pt.tb 0 (bf_ pt.cv t av) :: vec 2 av (al.map ansV).flatten :: all (al.map ansT) :: arr pb 0 [.slice ra s.tr.length rc, .slice none 0 0] :: vec 3 (.slice ra s.tr.length rc) (s.tr.map trC).flatten :: vec 1 (.slice (some ⟨qb, qo, none⟩) pts.length qc) (q.map ptrK) :: all ((q.map thK).eraseIdx k) :: wdC wb s.w :: R2) qb (qo + k) (.pointer (some ⟨pt.tb, 0, none⟩)) := dc_ (.there (.there (.there (.there (.there .here))))) (by rw [List.getElem?_map, hqk]; rfl)
     have hov : Rd (arr pt.tb 0 (bf_ pt.cv t av) :: vec 2 av (al.map ansV).flatten :: all (al.map ansT) :: arr pb 0 [.slice ra s.tr.length rc, .slice none 0 0] :: vec 3 (.slice ra s.tr.length rc) (s.tr.map trC).flatten :: vec 1 (.slice (some ⟨qb, qo, none⟩) pts.length qc) (q.map ptrK) :: all ((q.map thK).eraseIdx k) :: wdC wb s.w :: R2) pt.tb 28 (.bool t.over) := Rd.row0 rfl
     cases hto : t.over with
     | true =>
      rw [hto] at hov
      rw [if_neg (by rw [may_over hlk hto]; decide)] at hr
      repeat (first | (apply wo_po; apply cf_; exact rfl; exact rfl; omega; exact gY) | (apply wo_po; apply bc_; exact rfl; exact hpv; exact gY) | (apply wo_po; apply bc_; exact rfl; exact hov; exact gY) | refine wlssT ?_ | refine bb_ ?_ | (refine wR ?_; try simp only [oS]) | refine ba_ ?_ | refine wM ?_ | refine wA ?_ | refine wK ?_ | refine wN ?_ | refine wD ?_ | (apply wo_po; apply dq_; exact rfl; exact gY) | refine wL ?_ | refine wadd ?_ | refine wE ?_ | refine wT ?_ | refine wF ?_ | refine bk_ ?_ | refine bg_ ?_)
      refine dt_ (I := rndIn b6 b8 wb pb ov0 tv (.slice (some ⟨qb, qo, none⟩) pts.length qc) pts f r x R2) (R := fun i' => pts.length - i'.1 < pts.length - k) (k + 1, left, .slice ra s.tr.length rc, s, q) (by simp only; omega) ⟨by simp only; omega, hr, hq1, pk⟩ ⟨rfl, rfl, rfl, rfl, rfl, rfl, rfl, rfl, rfl, trivial⟩ (fun h st => ?_) rfl
      dsimp only [rndIn]
      have s1 := gi_ (y := (av, al)) e1 hr2 st
      have s2 : Star (thK (pt, t) :: all ((q.map thK).eraseIdx k) :: arr pb 0 [.slice ra s.tr.length rc, .slice none 0 0] :: vec 3 (.slice ra s.tr.length rc) (s.tr.map trC).flatten :: vec 1 (.slice (some ⟨qb, qo, none⟩) pts.length qc) (q.map ptrK) :: wdC wb s.w :: R2) h := by
       refine Ent.star ?_ s1
       exact (.take .here (.take (.there (.there (.there .here))) .refl))
      have s3 := hf_ (M := q.map thK) (by simp; omega) s2
      rw [ga_ (by rw [List.getElem?_map, hqk]; rfl)] at s3
      refine Ent.star ?_ s3
      exact (.take (.there .here) (.take (.there .here) (.take (.there .here) (.take .here .refl))))
     | false =>
      rw [hto] at hov
      rw [if_pos (may_true hc2 hlk hto)] at hr
      cases htn : Mach.turn f s k with
      | none => rw [htn] at hr; cases hr
      | some s' =>
      rw [htn, Option.bind_some] at hr
      obtain ⟨w', t', hop, rfl, pk', hgood, hcl, htold⟩ := te_ pk hf hqk hc2 hto htn
      repeat (first | (apply wo_po; apply cf_; exact rfl; exact rfl; omega; exact gY) | (apply wo_po; apply bc_; exact rfl; exact hpv; exact gY) | (apply wo_po; apply bc_; exact rfl; exact hov; exact gY) | refine wlssT ?_ | refine bb_ ?_ | (refine wR ?_; try simp only [oS]) | refine ba_ ?_ | refine wM ?_ | refine wK ?_ | refine wN ?_ | refine wD ?_ | (apply wo_po; apply dq_; exact rfl; exact gY) | refine wL ?_ | refine wE ?_ | refine wT ?_ | refine bk_ ?_ | refine bg_ ?_)
      obtain ⟨GG, hGG⟩ : ∃ GG, GG = arr pb 0 [.slice ra s.tr.length rc, .slice none 0 0] :: vec 3 (.slice ra s.tr.length rc) (s.tr.map trC).flatten :: vec 1 (.slice (some ⟨qb, qo, none⟩) pts.length qc) (q.map ptrK) :: all ((q.map thK).eraseIdx k) :: R2 := ⟨_, rfl⟩
      have hobs : Obs GG (codeC pt.cw pt.cs) := by rw [hGG]; exact (hcc2.obs _ hccm).there.there.there.there
      have hptr : ∀ d1 d2 : HProp, Rd (d1 :: d2 :: GG) qb (qo + k) (.pointer (some ⟨pt.tb, 0, none⟩)) := fun d1 d2 => by rw [hGG]; exact dc_ (.there (.there (.there (.there .here)))) (by rw [List.getElem?_map, hqk]; rfl)
      have htrv : ∀ d1 d2 : HProp, Rd (d1 :: d2 :: GG) pb 0 (.slice ra s.tr.length rc) := fun d1 d2 => by rw [hGG]; exact .there (.there (Rd.row0 rfl))
      refine de_ (thC pt.tb (pt.cw.v pt.cs.length) t :: wdC wb s.w :: GG) (fun h st => ?_) ?_
      ·rw [hGG]
       have s1 := gi_ (y := (av, al)) e1 hr2 st
       refine Ent.star ?_ s1
       exact (.take .here (.take (.there (.there (.there (.there .here)))) .refl))
      refine bv_ (List.range' 0 13) (by kernel_rfl) ?_
      repeat (first | (apply be_; exact rfl; exact rfl; exact trivial; intro L; apply cf_; exact rfl; exact rfl; exact hc) | (apply bn_; exact rfl; exact rfl; exact trivial; apply bc_; exact rfl; exact hptr _ _) | (apply bn_; exact rfl; exact rfl; exact trivial; apply bc_; exact rfl; exact htrv _ _) | refine aM ?_ | refine aD ?_)
      refine jk_ rfl rfl rfl trivial rfl rfl (.cons rfl (.cons rfl .nil)) (op_tr (cw := pt.cw) (cs := pt.cs) (G := GG) hop hgood (by omega) hcl htold .here .here hobs) ?_ ?_
      ·rintro v L' x' ⟨rfl, rfl, rfl⟩ p hp
       replace hp := (List.mem_filter.1 hp).1
       simp only [List.mem_cons, List.not_mem_nil, or_false] at hp
       rcases hp with rfl | rfl | rfl | rfl | rfl | rfl | rfl <;> first | exact .inl rfl | exact .inr ⟨_, rfl, trivial, bc_ rfl (htrv _ _)⟩ | exact .inr ⟨_, rfl, trivial, bc_ rfl (hptr _ _)⟩
      rintro v L' x1 ⟨rfl, rfl, rfl⟩
      repeat (first | (apply be_; exact rfl; exact rfl; exact trivial; intro L; apply dj_ (pv := [(0, _), (1, _)]); exact rfl; exact .cons rfl (.cons rfl .nil); exact rfl))
      refine gb_ rfl rfl rfl rfl trivial (bo_ (sz := 3) (vs := [.agg #[.int .i64 (k : Nat), .int .u8 (t.mark.1 : Nat), .int .i64 (t.mark.2 : Nat)]]) rfl (.cons rfl .nil) rfl (by intro v hv; cases (List.mem_singleton.1 hv); exact rfl) (by omega)) ?_ ?_
      ·rintro v L' ⟨sb, rfl, rfl⟩ p hp
       replace hp := (List.mem_filter.1 hp).1
       rcases List.mem_cons.1 hp with rfl | hp
       ·exact .inl rfl
       replace hp := (List.mem_filter.1 hp).1
       simp only [List.mem_cons, List.not_mem_nil, or_false] at hp
       rcases hp with rfl | rfl | rfl | rfl | rfl | rfl | rfl <;> first | exact .inl rfl | exact .inr ⟨_, rfl, trivial, bc_ rfl (.there (htrv _ _))⟩ | exact .inr ⟨_, rfl, trivial, bc_ rfl (.there (hptr _ _))⟩
      rintro v' L' ⟨sb, rfl, rfl⟩
      subst hGG
      refine cc_ rfl rfl rfl rfl rfl trivial (cz_ (sz := 3) (new := [.int .i64 (k : Nat), .int .u8 (t.mark.1 : Nat), .int .i64 (t.mark.2 : Nat)]) rfl rfl rfl rfl (.there (.there (.there (.there .here)))) rfl (.inr ⟨_, _, rfl, Rds.all .here⟩) (by intro v hv; simp at hv; rcases hv with rfl | rfl | rfl <;> rfl) (by simp only [db_]; omega)) ?_
      rintro v' L' rfl
      refine hc_ (bu_ .here (bi_ (by omega))) ?_
      rintro ⟨ua, un, uc, rfl, _⟩
      repeat (first | refine aD ?_)
      refine cc_ rfl rfl rfl rfl rfl trivial (cn_ rfl rfl rfl (Wt.row0 (k := 0) (.there (.there (.there (.there .here)))) (Nat.succ_pos 1))) ?_
      rintro v' L' ⟨rfl, rfl⟩
      refine ca_ ?_
      repeat (first | (refine wR ?_; try simp only [oS]) | refine ba_ ?_ | refine wM ?_ | refine wA ?_ | refine wadd ?_)
      refine dt_ (I := rndIn b6 b8 wb pb ov0 tv (.slice (some ⟨qb, qo, none⟩) pts.length qc) pts f r x1 R2) (R := fun i' => pts.length - i'.1 < pts.length - k) (k + 1, true, .slice ua un uc, ⟨w', s.l.set k t', s.tr ++ [(k, t.mark)]⟩, q.set k (pt, t')) (by simp only; omega) ⟨by simp only; omega, hr, by simp only [List.map_set, hq1]; exact ga_ hpt, pk'⟩ ⟨rfl, rfl, rfl, rfl, rfl, rfl, rfl, rfl, rfl, trivial⟩ (fun h st => ?_) rfl
      dsimp only [rndIn]
      have s1 : Star (thK (pt, t') :: all ((q.map thK).eraseIdx k) :: arr pb 0 [.slice ua un uc, .slice none 0 0] :: vec 3 (.slice ua un uc) ((s.tr.map trC).flatten ++ trC (k, t.mark)) :: vec 1 (.slice (some ⟨qb, qo, none⟩) pts.length qc) (q.map ptrK) :: wdC wb w' :: R2) h := by
       refine Ent.star ?_ st
       exact (.take (.there (.there .here)) (.take (.there (.there (.there (.there (.there .here))))) (.take (.there (.there (.there .here))) (.take .here (.take (.there (.there .here)) (.take (.there .here) (.drop .refl)))))))
      have s2 := hf_ (M := q.map thK) (by simp; omega) s1
      rw [List.map_set, List.map_set, ga_ (l := q.map ptrK) (by rw [List.getElem?_map, hqk]; rfl), show ((s.tr ++ [(k, t.mark)]).map trC).flatten = (s.tr.map trC).flatten ++ trC (k, t.mark) by simp]
      refine Ent.star ?_ s2
      exact (.take (.there .here) (.take (.there .here) (.take (.there .here) (.take .here .refl))))
    ·rw [round_full (by omega)] at hr
     cases hr
     have hg' : if left = true then Mach.rounds f g s = some st else s = st := by
      dsimp only at hg
      cases left with
      | true => rw [if_pos rfl] at hg ⊢; exact hg
      | false => rw [if_neg (by decide)] at hg ⊢; exact Option.some.inj hg
     repeat (first | refine wlssT ?_ | refine wlssF ?_ | refine bb_ ?_ | (refine wR ?_; try simp only [oS]) | refine ba_ ?_ | refine wM ?_ | refine wK ?_ | refine wD ?_ | refine wL ?_ | refine wE ?_ | refine wF ?_ | refine cm_ ?_)
     refine dm_ (I := rndInv b6 b8 wb pb ov0 tv (.slice qa pts.length qc) pts f st x R2) (R := fun i' => (if i'.2.1 = true then i'.1 + 1 else 0) < (if true = true then g + 1 + 1 else 0)) (g, left, .slice ra s.tr.length rc, s, q) (by dsimp only; rw [if_pos rfl]; split <;> omega) ⟨hg', hq1, pk⟩ ⟨rfl, rfl, rfl, rfl, rfl, rfl, rfl, rfl, trivial⟩ .refl rfl
   ·rw [show pts.length - k = 0 by omega] at hr
    cases hr
    have hg' : if left = true then Mach.rounds f g s = some st else s = st := by
     dsimp only at hg
     cases left with
     | true => rw [if_pos rfl] at hg ⊢; exact hg
     | false => rw [if_neg (by decide)] at hg ⊢; exact Option.some.inj hg
    repeat (first | refine wlssF ?_ | refine bb_ ?_ | (refine wR ?_; try simp only [oS]) | refine ba_ ?_ | refine wM ?_ | (apply wo_no; exact rfl) | refine wJ ?_ | refine wE ?_ | refine wF ?_ | refine cm_ ?_)
    refine dm_ (I := rndInv b6 b8 wb pb ov0 tv (.slice qa pts.length qc) pts f st x R2) (R := fun i' => (if i'.2.1 = true then i'.1 + 1 else 0) < (if true = true then g + 1 + 1 else 0)) (g, left, .slice ra s.tr.length rc, s, q) (by dsimp only; rw [if_pos rfl]; split <;> omega) ⟨hg', hq1, pk⟩ ⟨rfl, rfl, rfl, rfl, rfl, rfl, rfl, rfl, trivial⟩ .refl rfl
 ·rintro ⟨trv, q⟩ ⟨hq1, pk⟩
  dsimp only [mr_] at hq1 pk ⊢
  have hqn2 : q.length = pts.length := by rw [← hq1, List.length_map]
  rw [hR2]
  rw [← hqn2] at hqa ⊢
  exact play_tail3 (by omega) pk.l hqa hqa2 hQ
end
section
variable {B : Hand} [Lets B] {L F G : List HProp} {x : B.X}
set_option maxHeartbeats 8000000 in
theorem play_tail {um : FrameMode} {Q : PB.End → FrameMode → Hp → B.X → Prop} [pkk : Pass (leave Try.prog B 29 .normal Q) ⟨[], um⟩] {b6 b8 wb pb : Nat} {tv : Value} {w : Mach.Wd} {st s1 : Mach.St} {oa : Option Addr} {oc : Nat} {o : List Int} {cc : Calls} {f g : Nat} {pts : List PT} {l0 : List Mach.Th} {q : List (PT × Mach.Th)} {qa : Option Addr} {qc : Nat}
  (hby : Mach.byOrder f ⟨w, l0, []⟩ (o.map fun k => if k < 0 then none else some k.toNat) = some s1) (hp : Mach.rounds f g s1 = some st) (hf : 16384 * (f + 1) + f < 1000000000) (hcc : CallsOk F cc) (ho : o.length < 1000000) (hoi : ∀ k ∈ o, -9223372036854775808 ≤ k ∧ k ≤ 9223372036854775807)
  (hor : ∀ i k, o[i]? = some k → ∃ b p, oa = some ⟨b, p, none⟩ ∧ Rd F b (p + i) (.int .i64 k)) (hpc : pts.map (fun p => (p.cw, p.cs)) = cc) (hq1 : q.map (·.1) = pts) (pk : PlayOk f ⟨w, l0, []⟩ q) (hqa : qa = none → q.length = 0) (hqa2 : ∀ y, qa = some y → y = ⟨y.block, y.off, none⟩)
  (hQ : ∀ v L' x' h', playR x F st v L' x' → Star L' h' → Q (.ret v) um h' x') :
  We Try.prog B .normal 159 (wn_ 6 ((Try.f29.body).getD .skip)) (leave Try.prog B 29 .normal Q)
   [(1, .slice oa o.length oc), (2, tv), (6, .pointer (some ⟨b6, 0, none⟩)), (8, .pointer (some ⟨b8, 0, none⟩)), (9, .pointer (some ⟨wb, 0, none⟩)), (10, .slice qa q.length qc), (13, .pointer (some ⟨pb, 0, none⟩))] ⟨[], um⟩
   (arr pb 0 [.slice none 0 0, .slice none 0 0] :: vec 1 (.slice qa q.length qc) (q.map ptrK) :: all (q.map thK) :: wdC wb w :: arr b6 0 [.slice none 0 0, .slice none 0 0] :: arr b8 0 [.slice none 0 0, .slice none 0 0] :: F) x := by
 obtain ⟨R2, hR2⟩ : ∃ R2, R2 = arr b6 0 [.slice none 0 0, .slice none 0 0] :: arr b8 0 [.slice none 0 0, .slice none 0 0] :: F := ⟨_, rfl⟩
 have hcc2 : CallsOk R2 cc := by rw [hR2]; exact hcc.there.there
 have hor2 : ∀ i k, o[i]? = some k → ∃ b p, oa = some ⟨b, p, none⟩ ∧ Rd R2 b (p + i) (.int .i64 k) := fun i k h => by
  obtain ⟨b, p, h1, h2⟩ := hor i k h
  exact ⟨b, p, h1, by rw [hR2]; exact .there (.there h2)⟩
 rw [← hR2]
 obtain ⟨oN, hoN⟩ : ∃ oN, oN = o.map fun k : Int => if k < 0 then none else some k.toNat := ⟨_, rfl⟩
 have hoNl : oN.length = o.length := by rw [hoN, List.length_map]
 rw [← hoN] at hby
 have hcn := hcc.n
 have hqn : q.length = cc.length := by rw [← hpc, ← hq1, List.length_map, List.length_map]
 repeat (first | refine bb_ ?_ | (refine wR ?_; try simp only [oS]) | refine ba_ ?_ | refine wA ?_)
 refine qj_ (mr_ b6 b8 wb pb (.slice oa o.length oc) tv (.slice qa q.length qc) pts f s1 x R2) ?_ ?_
 rotate_left
 ·rintro ⟨trv, q2⟩ ⟨hq2, pk2⟩
  dsimp only [mr_] at hq2 pk2 ⊢
  have hqn2 : q2.length = q.length := by rw [← List.length_map (f := (·.1)), hq2, ← hq1, List.length_map]
  rw [hR2]
  rw [← hqn2] at hqa ⊢
  exact play_tail2 hp hf hcc hpc hq2 pk2 hqa hqa2 hQ
 refine bg_ ?_
 refine de_ ((hq_ b6 b8 wb pb (.slice oa o.length oc) tv (.slice qa q.length qc) pts f oN s1 x R2).L (0, .slice none 0 0, ⟨w, l0, []⟩, q)) (fun h st => bp_ st (fun _ z => z) (fun _ z => dr_ z)) ?_
 obtain ⟨nq, hnq⟩ : ∃ nq, nq = q.length := ⟨_, rfl⟩
 rw [← hnq] at hqa hqn ⊢
 refine co_ (hq_ b6 b8 wb pb (.slice oa o.length oc) tv (.slice qa nq qc) pts f oN s1 x R2) (fun i => oN.length - i.1) (0, .slice none 0 0, ⟨w, l0, []⟩, q) ⟨Nat.zero_le _, hby, hq1, pk⟩ ⟨rfl, rfl, rfl, rfl, rfl, rfl, rfl, rfl, trivial⟩ .refl rfl ?_
 clear hby pk hq1 hnq q w l0
 rintro ⟨i, trv, s, q⟩ ⟨hi, hby, hq1, pk⟩
 dsimp only [hq_] at hi hby hq1 pk ⊢
 have hqn2 : q.length = nq := by rw [hqn, ← hpc, ← hq1, List.length_map, List.length_map]
 have hsl : s.l.length = nq := by rw [← pk.l, List.length_map]; exact hqn2
 refine cx_ (bu_ (.there .here) (bi_ (by omega))) ?_
 rintro ⟨ra, rn, rc, rfl, hrn, _⟩
 have hrnn := tr_len hrn
 subst hrnn
 have htr := pk.tr
 by_cases hc : i < o.length
 ·by_cases hc2 : s.tr.length < 16384
  ·obtain ⟨ki, hk⟩ : ∃ k, o[i]? = some k := ⟨o[i], by simp [hc]⟩
   obtain ⟨k1, k2⟩ := hoi ki (List.mem_of_getElem? hk)
   obtain ⟨ob, op, rfl, hkr⟩ := hor2 i ki hk
   have hdrop : oN.drop i = (if ki < 0 then none else some ki.toNat) :: oN.drop (i + 1) := by
    rw [List.drop_eq_getElem_cons (by omega : i < oN.length)]
    congr 1
    have : oN[i]? = some (if ki < 0 then none else some ki.toNat) := by rw [hoN, List.getElem?_map, hk]; rfl
    exact Option.some.inj (by rw [← this]; simp)
   rw [hdrop] at hby
   by_cases hneg : ki < 0
   ·rw [if_pos hneg] at hby
    have hkr' : ∀ {d1 d2 d3 d4 d5 : HProp}, Rd (d1 :: d2 :: d3 :: d4 :: d5 :: R2) ob (op + i) (.int .i64 ki) := fun {d1 d2 d3 d4 d5} => .there (.there (.there (.there (.there hkr))))
    repeat (first | (apply wo_po; apply ce_ (r := op + i); exact rfl; exact rfl; omega; omega; omega; exact trivial) | (apply wo_po; apply bc_; exact rfl; exact hkr'; exact trivial) | refine wlssT ?_ | refine bb_ ?_ | (refine wR ?_; try simp only [oS]) | refine ba_ ?_ | refine wM ?_ | refine wA ?_ | (apply wo_no; exact rfl) | refine wK ?_ | refine wD ?_ | refine wL ?_ | refine wadd ?_ | refine wE ?_ | refine wT ?_ | refine bk_ ?_ | refine bg_ ?_ | refine cm_ ?_)
    refine dm_ (I := hq_ b6 b8 wb pb (.slice (some ⟨ob, op, none⟩) o.length oc) tv (.slice qa nq qc) pts f oN s1 x R2) (R := fun i' => oN.length - i'.1 < oN.length - i) (i + 1, _, s, q) (by simp only; omega) ⟨by simp only; omega, hby, hq1, pk⟩ ⟨rfl, rfl, rfl, rfl, rfl, rfl, rfl, rfl, trivial⟩ .refl rfl
   rw [if_neg hneg] at hby
   obtain ⟨k, rfl⟩ : ∃ k : Nat, ki = k := ⟨ki.toNat, by omega⟩
   rw [Int.toNat_natCast] at hby
   unfold Mach.byOrder at hby
   by_cases hkq : k < nq
   ·obtain ⟨⟨pt, t⟩, hqk⟩ : ∃ z, q[k]? = some z := ⟨q[k], by simp⟩
    have hlk : s.l[k]? = some t := by rw [← pk.l, List.getElem?_map, hqk]; rfl
    obtain ⟨⟨qb, qo, sp⟩, rfl⟩ : ∃ z, qa = some z := by
     cases qa with
     | none => have : nq = 0 := hqa rfl; omega
     | some z => exact ⟨z, rfl⟩
    cases hqa2 _ rfl
    have hpt : pts[k]? = some pt := by rw [← hq1, List.getElem?_map, hqk]; rfl
    have hccm : (pt.cw, pt.cs) ∈ cc := by rw [← hpc]; exact List.mem_map.2 ⟨pt, List.mem_of_getElem? hpt, rfl⟩
    refine de_ (thK (pt, t) :: arr pb 0 [.slice ra s.tr.length rc, .slice none 0 0] :: vec 3 (.slice ra s.tr.length rc) (s.tr.map trC).flatten :: vec 1 (.slice (some ⟨qb, qo, none⟩) nq qc) (q.map ptrK) :: all ((q.map thK).eraseIdx k) :: wdC wb s.w :: R2) (fun h st => ?_) ?_
    ·have s1 : Star (all (q.map thK) :: arr pb 0 [.slice ra s.tr.length rc, .slice none 0 0] :: vec 3 (.slice ra s.tr.length rc) (s.tr.map trC).flatten :: vec 1 (.slice (some ⟨qb, qo, none⟩) nq qc) (q.map ptrK) :: wdC wb s.w :: R2) h := by
      refine Ent.star ?_ st
      repeat (first | exact Ent.refl | (apply Ent.take; (repeat (first | exact Has.here | apply Has.there))) | apply Ent.drop)
     have s2 := star_pick (i := k) (c := thK (pt, t)) (by rw [List.getElem?_map, hqk]; rfl) s1
     refine Ent.star ?_ s2
     repeat (first | exact Ent.refl | (apply Ent.take; (repeat (first | exact Has.here | apply Has.there))) | apply Ent.drop)
    refine we_ex .here fun y => jn_ .here fun e1 => jn_ .here fun hr => qi_ .here ?_
    obtain ⟨av, al⟩ := y
    refine fi_ (arr pt.tb 0 (bf_ pt.cv t av) :: vec 2 av (al.map ansV).flatten :: all (al.map ansT) :: arr pb 0 [.slice ra s.tr.length rc, .slice none 0 0] :: vec 3 (.slice ra s.tr.length rc) (s.tr.map trC).flatten :: vec 1 (.slice (some ⟨qb, qo, none⟩) nq qc) (q.map ptrK) :: all ((q.map thK).eraseIdx k) :: wdC wb s.w :: R2) .refl ?_
    have hkr' : ∀ {d1 d2 d3 d4 d5 d6 d7 d8 : HProp}, Rd (d1 :: d2 :: d3 :: d4 :: d5 :: d6 :: d7 :: d8 :: R2) ob (op + i) (.int .i64 k) := fun {d1 d2 d3 d4 d5 d6 d7 d8} => .there (.there (.there (.there (.there (.there (.there (.there hkr)))))))
    have hpv : Rd (arr pt.tb 0 (bf_ pt.cv t av) :: vec 2 av (al.map ansV).flatten :: all (al.map ansT) :: arr pb 0 [.slice ra s.tr.length rc, .slice none 0 0] :: vec 3 (.slice ra s.tr.length rc) (s.tr.map trC).flatten :: vec 1 (.slice (some ⟨qb, qo, none⟩) nq qc) (q.map ptrK) :: all ((q.map thK).eraseIdx k) :: wdC wb s.w :: R2) qb (qo + k) (.pointer (some ⟨pt.tb, 0, none⟩)) := dc_ (.there (.there (.there (.there (.there .here))))) (by rw [List.getElem?_map, hqk]; rfl)
    have hov : Rd (arr pt.tb 0 (bf_ pt.cv t av) :: vec 2 av (al.map ansV).flatten :: all (al.map ansT) :: arr pb 0 [.slice ra s.tr.length rc, .slice none 0 0] :: vec 3 (.slice ra s.tr.length rc) (s.tr.map trC).flatten :: vec 1 (.slice (some ⟨qb, qo, none⟩) nq qc) (q.map ptrK) :: all ((q.map thK).eraseIdx k) :: wdC wb s.w :: R2) pt.tb 28 (.bool t.over) := Rd.row0 rfl
    cases hto : t.over with
    | true =>
     rw [hto] at hov
     rw [if_neg (by rw [may_over hlk hto]; decide)] at hby
     repeat (first | (apply wo_po; apply ce_ (r := op + i); exact rfl; exact rfl; omega; omega; omega; exact trivial) | (apply wo_po; apply bc_; exact rfl; exact hkr'; exact trivial) | (apply wo_po; apply cf_; exact rfl; exact rfl; omega; exact gY) | (apply wo_po; apply bc_; exact rfl; exact hpv; exact gY) | (apply wo_po; apply bc_; exact rfl; exact hov; exact gY) | refine wlssT ?_ | refine wlssF ?_ | refine wgeqF ?_ | refine bb_ ?_ | (refine wR ?_; try simp only [oS]) | refine ba_ ?_ | refine wM ?_ | refine wA ?_ | refine wK ?_ | refine wJ ?_ | refine wN ?_ | refine wD ?_ | refine wL ?_ | refine wadd ?_ | refine wE ?_ | refine wT ?_ | refine bk_ ?_ | refine bg_ ?_ | refine cm_ ?_)
     refine dt_ (I := hq_ b6 b8 wb pb (.slice (some ⟨ob, op, none⟩) o.length oc) tv (.slice (some ⟨qb, qo, none⟩) nq qc) pts f oN s1 x R2) (R := fun i' => oN.length - i'.1 < oN.length - i) (i + 1, .slice ra s.tr.length rc, s, q) (by simp only; omega) ⟨by simp only; omega, hby, hq1, pk⟩ ⟨rfl, rfl, rfl, rfl, rfl, rfl, rfl, rfl, trivial⟩ (fun h st => ?_) rfl
     dsimp only [hq_]
     have s1 := gi_ (y := (av, al)) e1 hr st
     have s2 : Star (thK (pt, t) :: all ((q.map thK).eraseIdx k) :: arr pb 0 [.slice ra s.tr.length rc, .slice none 0 0] :: vec 3 (.slice ra s.tr.length rc) (s.tr.map trC).flatten :: vec 1 (.slice (some ⟨qb, qo, none⟩) nq qc) (q.map ptrK) :: wdC wb s.w :: R2) h := by
      refine Ent.star ?_ s1
      exact (.take .here (.take (.there (.there (.there .here))) .refl))
     have s3 := hf_ (M := q.map thK) (by simp; omega) s2
     rw [ga_ (by rw [List.getElem?_map, hqk]; rfl)] at s3
     refine Ent.star ?_ s3
     repeat (first | exact Ent.refl | (apply Ent.take; (repeat (first | exact Has.here | apply Has.there))) | apply Ent.drop)
    | false =>
     rw [hto] at hov
     rw [if_pos (may_true hc2 hlk hto)] at hby
     cases htn : Mach.turn f s k with
     | none => rw [htn] at hby; cases hby
     | some s' =>
     rw [htn, Option.bind_some] at hby
     obtain ⟨w', t', hop, rfl, pk', hgood, hcl, htold⟩ := te_ pk hf hqk hc2 hto htn
     repeat (first | (apply wo_po; apply ce_ (r := op + i); exact rfl; exact rfl; omega; omega; omega; exact trivial) | (apply wo_po; apply bc_; exact rfl; exact hkr'; exact trivial) | (apply wo_po; apply cf_; exact rfl; exact rfl; omega; exact gY) | (apply wo_po; apply bc_; exact rfl; exact hpv; exact gY) | (apply wo_po; apply bc_; exact rfl; exact hov; exact gY) | refine wlssT ?_ | refine wlssF ?_ | refine wgeqF ?_ | refine bb_ ?_ | (refine wR ?_; try simp only [oS]) | refine ba_ ?_ | refine wM ?_ | refine wA ?_ | refine wK ?_ | refine wJ ?_ | refine wN ?_ | refine wD ?_ | refine wL ?_ | refine wE ?_ | refine wT ?_ | refine wF ?_ | refine bk_ ?_ | refine bg_ ?_)
     obtain ⟨GG, hGG⟩ : ∃ GG, GG = arr pb 0 [.slice ra s.tr.length rc, .slice none 0 0] :: vec 3 (.slice ra s.tr.length rc) (s.tr.map trC).flatten :: vec 1 (.slice (some ⟨qb, qo, none⟩) nq qc) (q.map ptrK) :: all ((q.map thK).eraseIdx k) :: R2 := ⟨_, rfl⟩
     have hobs : Obs GG (codeC pt.cw pt.cs) := by rw [hGG]; exact (hcc2.obs _ hccm).there.there.there.there
     have hptr : ∀ d1 d2 : HProp, Rd (d1 :: d2 :: GG) qb (qo + k) (.pointer (some ⟨pt.tb, 0, none⟩)) := fun d1 d2 => by rw [hGG]; exact dc_ (.there (.there (.there (.there .here)))) (by rw [List.getElem?_map, hqk]; rfl)
     have htrv : ∀ d1 d2 : HProp, Rd (d1 :: d2 :: GG) pb 0 (.slice ra s.tr.length rc) := fun d1 d2 => by rw [hGG]; exact .there (.there (Rd.row0 rfl))
     refine de_ (thC pt.tb (pt.cw.v pt.cs.length) t :: wdC wb s.w :: GG) (fun h st => ?_) ?_
     ·rw [hGG]
      have s1 := gi_ (y := (av, al)) e1 hr st
      refine Ent.star ?_ s1
      exact (.take .here (.take (.there (.there (.there (.there .here)))) .refl))
     refine bv_ (List.range' 0 13) (by kernel_rfl) ?_
     repeat (first | (apply be_; exact rfl; exact rfl; exact trivial; intro L; apply cf_; exact rfl; exact rfl; exact hkq) | (apply bn_; exact rfl; exact rfl; exact trivial; apply bc_; exact rfl; exact hptr _ _) | (apply bn_; exact rfl; exact rfl; exact trivial; apply bc_; exact rfl; exact htrv _ _) | refine aM ?_ | refine aD ?_)
     refine jk_ rfl rfl rfl trivial rfl rfl (.cons rfl (.cons rfl .nil)) (op_tr (cw := pt.cw) (cs := pt.cs) (G := GG) hop hgood (by omega) hcl htold .here .here hobs) ?_ ?_
     ·rintro v L' x' ⟨rfl, rfl, rfl⟩ p hp
      replace hp := (List.mem_filter.1 hp).1
      simp only [List.mem_cons, List.not_mem_nil, or_false] at hp
      rcases hp with rfl | rfl | rfl | rfl | rfl | rfl | rfl <;> first | exact .inl rfl | exact .inr ⟨_, rfl, trivial, bc_ rfl (htrv _ _)⟩ | exact .inr ⟨_, rfl, trivial, bc_ rfl (hptr _ _)⟩
     rintro v L' x1 ⟨rfl, rfl, rfl⟩
     repeat (first | (apply be_; exact rfl; exact rfl; exact trivial; intro L; apply dj_ (pv := [(0, _), (1, _)]); exact rfl; exact .cons rfl (.cons rfl .nil); exact rfl))
     refine gb_ rfl rfl rfl rfl trivial (bo_ (sz := 3) (vs := [.agg #[.int .i64 (k : Nat), .int .u8 (t.mark.1 : Nat), .int .i64 (t.mark.2 : Nat)]]) rfl (.cons rfl .nil) rfl (by intro v hv; cases (List.mem_singleton.1 hv); exact rfl) (by omega)) ?_ ?_
     ·rintro v L' ⟨sb, rfl, rfl⟩ p hp
      replace hp := (List.mem_filter.1 hp).1
      rcases List.mem_cons.1 hp with rfl | hp
      ·exact .inl rfl
      replace hp := (List.mem_filter.1 hp).1
      simp only [List.mem_cons, List.not_mem_nil, or_false] at hp
      rcases hp with rfl | rfl | rfl | rfl | rfl | rfl | rfl <;> first | exact .inl rfl | exact .inr ⟨_, rfl, trivial, bc_ rfl (.there (htrv _ _))⟩ | exact .inr ⟨_, rfl, trivial, bc_ rfl (.there (hptr _ _))⟩
     rintro v' L' ⟨sb, rfl, rfl⟩
     subst hGG
     refine cc_ rfl rfl rfl rfl rfl trivial (cz_ (sz := 3) (new := [.int .i64 (k : Nat), .int .u8 (t.mark.1 : Nat), .int .i64 (t.mark.2 : Nat)]) rfl rfl rfl rfl (.there (.there (.there (.there .here)))) rfl (.inr ⟨_, _, rfl, Rds.all .here⟩) (by intro v hv; simp at hv; rcases hv with rfl | rfl | rfl <;> rfl) (by simp only [db_]; omega)) ?_
     rintro v' L' rfl
     refine hc_ (bu_ .here (bi_ (by omega))) ?_
     rintro ⟨ua, un, uc, rfl, _⟩
     repeat (first | refine aD ?_)
     refine cc_ rfl rfl rfl rfl rfl trivial (cn_ rfl rfl rfl (Wt.row0 (k := 0) (.there (.there (.there (.there .here)))) (Nat.succ_pos 1))) ?_
     rintro v' L' ⟨rfl, rfl⟩
     refine ca_ ?_
     repeat (first | (refine wR ?_; try simp only [oS]) | refine ba_ ?_ | refine wM ?_ | refine wA ?_ | refine wadd ?_)
     refine dt_ (I := hq_ b6 b8 wb pb (.slice (some ⟨ob, op, none⟩) o.length oc) tv (.slice (some ⟨qb, qo, none⟩) nq qc) pts f oN s1 x1 R2) (R := fun i' => oN.length - i'.1 < oN.length - i) (i + 1, .slice ua un uc, ⟨w', s.l.set k t', s.tr ++ [(k, t.mark)]⟩, q.set k (pt, t')) (by simp only; omega) ⟨by simp only; omega, hby, by simp only [List.map_set, hq1]; exact ga_ hpt, pk'⟩ ⟨rfl, rfl, rfl, rfl, rfl, rfl, rfl, rfl, trivial⟩ (fun h st => ?_) rfl
     dsimp only [hq_]
     have s1 : Star (thK (pt, t') :: all ((q.map thK).eraseIdx k) :: arr pb 0 [.slice ua un uc, .slice none 0 0] :: vec 3 (.slice ua un uc) ((s.tr.map trC).flatten ++ trC (k, t.mark)) :: vec 1 (.slice (some ⟨qb, qo, none⟩) nq qc) (q.map ptrK) :: wdC wb w' :: R2) h := by
      refine Ent.star ?_ st
      exact (.take (.there (.there .here)) (.take (.there (.there (.there (.there (.there .here))))) (.take (.there (.there (.there .here))) (.take .here (.take (.there (.there .here)) (.take (.there .here) (.drop .refl)))))))
     have s2 := hf_ (M := q.map thK) (by simp; omega) s1
     rw [List.map_set, List.map_set, ga_ (l := q.map ptrK) (by rw [List.getElem?_map, hqk]; rfl), show ((s.tr ++ [(k, t.mark)]).map trC).flatten = (s.tr.map trC).flatten ++ trC (k, t.mark) by simp]
     refine Ent.star ?_ s2
     repeat (first | exact Ent.refl | (apply Ent.take; (repeat (first | exact Has.here | apply Has.there))) | apply Ent.drop)
   ·rw [if_neg (by rw [may_none (List.getElem?_eq_none (by omega))]; decide)] at hby
    have hkr' : ∀ {d1 d2 d3 d4 d5 : HProp}, Rd (d1 :: d2 :: d3 :: d4 :: d5 :: R2) ob (op + i) (.int .i64 k) := fun {d1 d2 d3 d4 d5} => .there (.there (.there (.there (.there hkr))))
    repeat (first | (apply wo_po; apply ce_ (r := op + i); exact rfl; exact rfl; omega; omega; omega; exact trivial) | (apply wo_po; apply bc_; exact rfl; exact hkr'; exact trivial) | refine wlssT ?_ | refine wlssF ?_ | refine wgeqT ?_ | refine bb_ ?_ | (refine wR ?_; try simp only [oS]) | refine ba_ ?_ | refine wM ?_ | refine wA ?_ | (apply wo_no; exact rfl) | refine wK ?_ | refine wJ ?_ | refine wD ?_ | refine wL ?_ | refine wadd ?_ | refine wE ?_ | refine wT ?_ | refine bk_ ?_ | refine bg_ ?_ | refine cm_ ?_)
    refine dm_ (I := hq_ b6 b8 wb pb (.slice (some ⟨ob, op, none⟩) o.length oc) tv (.slice qa nq qc) pts f oN s1 x R2) (R := fun i' => oN.length - i'.1 < oN.length - i) (i + 1, _, s, q) (by simp only; omega) ⟨by simp only; omega, hby, hq1, pk⟩ ⟨rfl, rfl, rfl, rfl, rfl, rfl, rfl, rfl, trivial⟩ .refl rfl
  ·rw [byOrder_full (by omega)] at hby
   cases hby
   repeat (first | refine wlssT ?_ | refine wlssF ?_ | refine bb_ ?_ | (refine wR ?_; try simp only [oS]) | refine ba_ ?_ | refine wM ?_ | refine wK ?_ | refine wD ?_ | refine wL ?_ | refine wE ?_ | refine wF ?_ | refine cm_ ?_)
   refine gp_ (I := mr_ b6 b8 wb pb (.slice oa o.length oc) tv (.slice qa nq qc) pts f s1 x R2) (_, q) ⟨hq1, pk⟩ ⟨rfl, rfl, rfl, rfl, rfl, rfl, rfl, trivial⟩ .refl rfl
 ·have : oN.drop i = [] := List.drop_eq_nil_of_le (by omega)
  rw [this] at hby
  cases hby
  repeat (first | refine wlssF ?_ | refine bb_ ?_ | (refine wR ?_; try simp only [oS]) | refine ba_ ?_ | refine wM ?_ | (apply wo_no; exact rfl) | refine wJ ?_ | refine wE ?_ | refine wF ?_ | refine cm_ ?_)
  refine gp_ (I := mr_ b6 b8 wb pb (.slice oa o.length oc) tv (.slice qa nq qc) pts f s1 x R2) (_, q) ⟨hq1, pk⟩ ⟨rfl, rfl, rfl, rfl, rfl, rfl, rfl, trivial⟩ .refl rfl
end
section
variable {B : Hand} [Lets B] {L F G : List HProp} {x : B.X}
set_option maxHeartbeats 8000000 in
theorem play_tr {wv lv tv : Value} {w : Mach.Wd} {st : Mach.St} {oa : Option Addr} {oc : Nat} {o : List Int} {cc : Calls} {f g : Nat}
  (hp : Mach.play f g w (o.map fun k => if k < 0 then none else some k.toNat) (cc.map (·.2)) = some st) (hf : 16384 * (f + 1) + f < 1000000000) (hcc : CallsOk F cc) (ho : o.length < 1000000) (hoi : ∀ k ∈ o, -9223372036854775808 ≤ k ∧ k ≤ 9223372036854775807)
  (hor : ∀ i k, o[i]? = some k → ∃ b p, oa = some ⟨b, p, none⟩ ∧ Rd F b (p + i) (.int .i64 k)) (hh : Has L (wvC wv lv w) G) (ht : Has G (vec 1 tv (cc.map cvK)) F) :
  Tr Try.prog B 29 [.agg #[wv, lv], .slice oa o.length oc, tv] L x (playR x (vec 1 tv (cc.map cvK) :: wvC wv lv w :: F) st) := by
 refine da_ (wvC wv lv w :: vec 1 tv (cc.map cvK) :: F) (fun h s => bp_ (hh.star s) (fun _ z => z) (fun _ z => ht.star z)) ?_
 clear hh ht
 refine dw_ (bu_ (.there .here) (bi_ (by omega))) ?_
 rintro ⟨ta, tn, tc, rfl, htn, _, hta, hta2⟩
 have htnn : tn = cc.length := by simpa using htn.symm
 subst htnn
 -- the plain play, step by step
 unfold Mach.play at hp
 cases hb : Mach.begin_ f ((cc.map (·.2)).map fun c => { calls := c }) with
 | none => rw [hb] at hp; cases hp
 | some l0 =>
 rw [hb, Option.bind_some] at hp
 cases hby : Mach.byOrder f ⟨w, l0, []⟩ (o.map fun k => if k < 0 then none else some k.toNat) with
 | none => rw [hby] at hp; cases hp
 | some s1 =>
 rw [hby, Option.bind_some] at hp
 refine bd_ Try.func29 rfl Try.ntmps29 (by simp) fun um Q _ hQ => ?_
 simp only [argE, Nat.zero_add, Nat.reduceAdd]
 repeat (first | (apply wo_mo; apply cr_; exact rfl; exact trivial) | refine bb_ ?_ | (refine wR ?_; try simp only [oS]))
 rintro v' L' ⟨b3, rfl, rfl⟩
 repeat (first | (apply wo_mo; apply cj_; exact trivial))
 rintro v' L' ⟨b6, rfl, rfl⟩
 repeat (first | (apply wo_mo; apply cj_; exact trivial) | refine wA ?_)
 rintro v' L' ⟨b8, rfl, rfl⟩
 refine cw_ (bu_ (.there (.there (.there .here))) gh_) ?_
 rintro ⟨⟨wa, wn, wc, rfl⟩, la, ln, lc, rfl⟩
 have hb3 : Rds (arr b8 0 [.slice none 0 0, .slice none 0 0] :: arr b6 0 [.slice none 0 0, .slice none 0 0] :: arr b3 0 [.slice wa wn wc, .slice la ln lc] :: wvC (.slice wa wn wc) (.slice la ln lc) w :: vec 1 (.slice ta cc.length tc) (cc.map cvK) :: F) b3 0 [.slice wa wn wc, .slice la ln lc] := Rds.all (.there (.there .here))
 repeat (first | (apply wo_po; apply ch_ (vs := [.slice wa wn wc, .slice la ln lc]); exact rfl; exact rfl; exact hb3; exact trivial) | refine bb_ ?_ | (refine wR ?_; try simp only [oS]) | refine ba_ ?_)
 refine bj_ (.cons rfl .nil) trivial (copy_tr (.there (.there (.there .here)))) ?_
 rintro v L' x' ⟨wv', lv', rfl, rfl, rfl⟩
 refine cw_ (bu_ .here gh_) ?_
 rintro ⟨⟨wa', wn', wc', rfl⟩, la', ln', lc', rfl⟩
 repeat (first | (apply wo_mo; apply cj_; exact trivial))
 rintro v' L' ⟨wb, rfl, rfl⟩
 repeat (first | (apply wo_pm; apply ck_ (c := 0) (k := 0) (a := 0) (vs := [.slice none 0 0, .slice none 0 0]); exact rfl; exact rfl; exact rfl; (intro w hw; simp [Value.cells] at hw; rcases hw with rfl | rfl <;> rfl); exact rfl; exact Nat.le_refl 2; exact .here; exact trivial) | refine bb_ ?_ | (refine wR ?_; try simp only [oS]) | refine ba_ ?_ | refine wA ?_)
 obtain ⟨R0, hR0⟩ : ∃ R0, R0 = wvC (.slice wa wn wc) (.slice la ln lc) w :: F := ⟨_, rfl⟩
 have hccR : ∀ {d : HProp}, CallsOk R0 cc := fun {d} => by rw [hR0]; exact hcc.there
 refine bg_ ?_
 refine de_ ((md_ b3 b6 b8 wb (.slice oa o.length oc) (.slice ta cc.length tc) cc x' (wdC wb w :: arr b6 0 [.slice none 0 0, .slice none 0 0] :: arr b8 0 [.slice none 0 0, .slice none 0 0] :: R0)).L (0, .slice none 0 0, [])) (fun h st => ?_) ?_
 ·have s1 : Star (arr wb 0 [.slice wa' wn' wc', .slice la' ln' lc'] :: wvC (.slice wa' wn' wc') (.slice la' ln' lc') w :: vec 1 (.slice ta cc.length tc) (cc.map cvK) :: arr b6 0 [.slice none 0 0, .slice none 0 0] :: arr b8 0 [.slice none 0 0, .slice none 0 0] :: R0) h := by
   rw [hR0]
   refine Ent.star ?_ st
   repeat (first | exact Ent.refl | (apply Ent.take; (repeat (first | exact Has.here | apply Has.there))) | apply Ent.drop)
  have s2 := wd_of_wv s1
  dsimp only [md_]
  exact dr_ (bm_ (M := []) (cy_ s2))
 refine co_ (md_ b3 b6 b8 wb (.slice oa o.length oc) (.slice ta cc.length tc) cc x' (wdC wb w :: arr b6 0 [.slice none 0 0, .slice none 0 0] :: arr b8 0 [.slice none 0 0, .slice none 0 0] :: R0)) (fun i => cc.length - i.1) (0, .slice none 0 0, []) ⟨by simp, by simp, by simp⟩ ⟨rfl, rfl, rfl, rfl, rfl, rfl, rfl, trivial⟩ .refl rfl ?_
 rintro ⟨i, av, q⟩ ⟨hi, hq1, hq2⟩
 dsimp only [md_] at hi hq1 hq2 ⊢
 have hccn := hcc.n
 by_cases hc : i < cc.length
 ·obtain ⟨⟨cw, cs⟩, hcs⟩ : ∃ z, cc[i]? = some z := ⟨cc[i], by simp [hc]⟩
  obtain ⟨⟨tb0, to0, sp⟩, rfl⟩ : ∃ z, ta = some z := by
   cases ta with
   | none => have : cc.length = 0 := hta rfl; omega
   | some z => exact ⟨z, rfl⟩
  cases hta2 _ rfl
  refine cx_ (bu_ .here (bi_ (by omega))) ?_
  rintro ⟨qa, qn, qc, rfl, hqn, _⟩
  have hqnn : qn = q.length := by simpa using hqn.symm
  subst hqnn
  have hql : q.length = i := by have := congrArg List.length hq1; simpa [Nat.min_eq_left hi] using this
  have hcv : Rd (vec 1 (.slice qa q.length qc) (q.map ptrK) :: all (q.map thK) :: vec 1 (.slice (some ⟨tb0, to0, none⟩) cc.length tc) (cc.map cvK) :: wdC wb w :: arr b6 0 [.slice none 0 0, .slice none 0 0] :: arr b8 0 [.slice none 0 0, .slice none 0 0] :: R0) tb0 (to0 + i) (cvK (cw, cs)) := dc_ (.there (.there .here)) (by rw [List.getElem?_map, hcs]; rfl)
  repeat (first | (apply wo_po; apply cf_; exact rfl; exact rfl; exact hc; exact trivial) | (apply wo_po; apply bc_; exact rfl; exact hcv; exact trivial) | (apply wo_po; apply dj_ (pv := [(0, _)]); exact rfl; exact .cons rfl .nil; exact rfl; exact trivial) | (apply wo_mo; apply cr_; exact rfl; exact trivial) | refine wlssT ?_ | refine bb_ ?_ | (refine wR ?_; try simp only [oS]) | refine ba_ ?_ | refine wM ?_ | refine wE ?_ | refine wT ?_ | refine bk_ ?_ | refine bg_ ?_)
  rintro v' L' ⟨tb, rfl, rfl⟩
  refine fo_ (thK (⟨tb, cw, cs⟩, { calls := cs }) :: vec 1 (.slice qa q.length qc) (q.map ptrK) :: all (q.map thK) :: vec 1 (.slice (some ⟨tb0, to0, none⟩) cc.length tc) (cc.map cvK) :: wdC wb w :: arr b6 0 [.slice none 0 0, .slice none 0 0] :: arr b8 0 [.slice none 0 0, .slice none 0 0] :: R0) (fun h st => new_th st) ?_
  repeat (first | (apply wo_mo; apply bo_ (sz := 1) (vs := [.pointer (some ⟨tb, 0, none⟩)]); exact rfl; exact .cons rfl .nil; exact rfl; (intro v hv; cases (List.mem_singleton.1 hv); exact rfl); omega; exact trivial))
  rintro v' L' ⟨sb, rfl, rfl⟩
  repeat (first | (apply wo_mo; apply cz_ (sz := 1) (new := [.pointer (some ⟨tb, 0, none⟩)]); exact rfl; exact rfl; exact rfl; exact rfl; exact (.there (.there .here)); exact rfl; exact .inr ⟨_, _, rfl, Rds.all .here⟩; (intro v hv; cases (List.mem_singleton.1 hv); exact rfl); (simp only [db_]; omega); exact trivial))
  rintro v' L' rfl
  repeat (first | (refine wR ?_; try simp only [oS]) | refine ba_ ?_ | refine wM ?_ | refine wA ?_ | refine wadd ?_)
  refine dt_ (I := md_ b3 b6 b8 wb (.slice oa o.length oc) (.slice (some ⟨tb0, to0, none⟩) cc.length tc) cc x' (wdC wb w :: arr b6 0 [.slice none 0 0, .slice none 0 0] :: arr b8 0 [.slice none 0 0, .slice none 0 0] :: R0)) (R := fun i' => cc.length - i'.1 < cc.length - i) (i + 1, v', q ++ [(⟨tb, cw, cs⟩, { calls := cs })]) (by simp only; omega) ⟨by simp only; omega, ?_, ?_⟩ ⟨rfl, rfl, rfl, rfl, rfl, rfl, rfl, trivial⟩ (fun h st => ?_) rfl
  ·simp only [List.map_append, List.map_cons, List.map_nil, hq1]
   rw [List.take_add_one, hcs]; rfl
  ·simp only [List.map_append, List.map_cons, List.map_nil, hq2]
   rw [List.take_add_one, hcs, List.map_append]; rfl
  ·dsimp only [md_]
   rw [List.map_append, List.map_append]
   have s1 : Star (vec 1 v' (q.map ptrK ++ [.pointer (some ⟨tb, 0, none⟩)]) :: thK (⟨tb, cw, cs⟩, { calls := cs }) :: all (q.map thK) :: vec 1 (.slice (some ⟨tb0, to0, none⟩) cc.length tc) (cc.map cvK) :: wdC wb w :: arr b6 0 [.slice none 0 0, .slice none 0 0] :: arr b8 0 [.slice none 0 0, .slice none 0 0] :: R0) h := by
    refine Ent.star ?_ st
    repeat (first | exact Ent.refl | (apply Ent.take; (repeat (first | exact Has.here | apply Has.there))) | apply Ent.drop)
   exact bp_ s1 (fun _ z => z) (fun _ z => jv_ z)
 ·have hi' : i = cc.length := by omega
  subst hi'
  rw [List.take_length] at hq1 hq2
  repeat (first | refine wlssF ?_ | refine bb_ ?_ | (refine wR ?_; try simp only [oS]) | refine ba_ ?_ | refine wM ?_ | refine wA ?_ | refine wE ?_ | refine wF ?_ | refine cm_ ?_)
  obtain ⟨pts, hpts⟩ : ∃ pts, pts = q.map (·.1) := ⟨_, rfl⟩
  have hpc : pts.map (fun p => (p.cw, p.cs)) = cc := by rw [hpts, List.map_map, ← hq1]; rfl
  have hpn : pts.length = cc.length := by rw [← hpc, List.length_map]
  obtain ⟨hbl, hbg⟩ := begin_get hb
  rw [List.map_map] at hb hbl hbg
  have hql : q.length = cc.length := by rw [← hpn, hpts, List.length_map]
  have hl0n : l0.length = cc.length := by rw [hbl]; simp
  refine cx_ (bu_ .here (bi_ (by omega))) ?_
  rintro ⟨qa, qn, qc, rfl, hqn, _, hqa, hqa2⟩
  have hqnn : qn = cc.length := by rw [← hql]; simpa using hqn.symm
  subst hqnn
  obtain ⟨R1, hR1⟩ : ∃ R1, R1 = vec 1 (.slice ta cc.length tc) (cc.map cvK) :: wdC wb w :: arr b6 0 [.slice none 0 0, .slice none 0 0] :: arr b8 0 [.slice none 0 0, .slice none 0 0] :: R0 := ⟨_, rfl⟩
  have hccR1 : CallsOk R1 cc := by rw [hR1, hR0]; exact hcc.there.there.there.there.there
  rw [← hR1]
  refine bg_ ?_
  refine co_ (to_ b6 b8 wb (.slice oa o.length oc) (.slice ta cc.length tc) (.slice qa cc.length qc) pts (cc.map fun y => { calls := y.2 }) l0 x' R1) (fun i => pts.length - i.1) (0, q) ⟨Nat.zero_le _, hpts.symm, by simpa using hq2⟩ ⟨rfl, rfl, rfl, rfl, rfl, rfl, rfl, trivial⟩ .refl rfl ?_
  clear hq1 hq2 hpts hql
  rintro ⟨i, q⟩ ⟨hi, hq1, hq2⟩
  dsimp only [to_] at hi hq1 hq2 ⊢
  have hql : q.length = pts.length := by rw [← hq1, List.length_map]
  by_cases hc2 : i < pts.length
  ·obtain ⟨⟨pt, t⟩, hqi⟩ : ∃ z, q[i]? = some z := ⟨q[i], by simp⟩
   obtain ⟨⟨qb, qo, sp⟩, rfl⟩ : ∃ z, qa = some z := by
    cases qa with
    | none => have : cc.length = 0 := hqa rfl; omega
    | some z => exact ⟨z, rfl⟩
   cases hqa2 _ rfl
   have hpti : pts[i]? = some pt := by rw [← hq1, List.getElem?_map, hqi]; rfl
   have hcci : cc[i]? = some (pt.cw, pt.cs) := by rw [← hpc, List.getElem?_map, hpti]; rfl
   have hccm := List.mem_of_getElem? hcci
   have hti : t = { calls := pt.cs } := by
    have h1 := congrArg (fun l => l[i]?) hq2
    simp only [List.getElem?_map, hqi] at h1
    rw [List.getElem?_append_right (by simp; omega)] at h1
    have h2 : i - (l0.take i).length = 0 := by simp; omega
    rw [h2, List.getElem?_drop, Nat.add_zero, List.getElem?_map, hcci] at h1
    exact Option.some.inj h1
   subst hti
   obtain ⟨t', ht', hl0⟩ := hbg i { calls := pt.cs } (by rw [List.getElem?_map, hcci]; rfl)
   have hpv : Rd (vec 1 (.slice (some ⟨qb, qo, none⟩) cc.length qc) (q.map ptrK) :: thK (pt, { calls := pt.cs }) :: all ((q.map thK).eraseIdx i) :: R1) qb (qo + i) (.pointer (some ⟨pt.tb, 0, none⟩)) := dc_ .here (by rw [List.getElem?_map, hqi]; rfl)
   refine de_ (vec 1 (.slice (some ⟨qb, qo, none⟩) cc.length qc) (q.map ptrK) :: thK (pt, { calls := pt.cs }) :: all ((q.map thK).eraseIdx i) :: R1) (fun h st => bp_ st (fun _ z => z) (fun _ z => star_pick (by rw [List.getElem?_map, hqi]; rfl) z)) ?_
   repeat (first | (apply wo_po; apply cf_; exact rfl; exact rfl; omega; exact trivial) | (apply wo_po; apply bc_; exact rfl; exact hpv; exact trivial) | refine wlssT ?_ | refine bb_ ?_ | (refine wR ?_; try simp only [oS]) | refine ba_ ?_ | refine wM ?_ | refine wE ?_ | refine wT ?_ | refine bk_ ?_ | refine bg_ ?_)
   refine bj_ (.cons rfl (.cons rfl .nil)) trivial (on_tr (cw := pt.cw) (cs := pt.cs) ht' (init_good (hcc.ok _ hccm) (hcc.len _ hccm)) (by omega) (.there .here) ((hccR1.obs _ hccm).there.there)) ?_
   rintro v L' x'' ⟨rfl, rfl, rfl⟩
   repeat (first | (refine wR ?_; try simp only [oS]) | refine ba_ ?_ | refine wM ?_ | refine wA ?_ | refine wadd ?_)
   refine dt_ (I := to_ b6 b8 wb (.slice oa o.length oc) (.slice ta cc.length tc) (.slice (some ⟨qb, qo, none⟩) cc.length qc) pts (cc.map fun y => { calls := y.2 }) l0 x'' R1) (R := fun i' => pts.length - i'.1 < pts.length - i) (i + 1, q.set i (pt, t')) (by simp only; omega) ⟨by simp only; omega, ?_, ?_⟩ ⟨rfl, rfl, rfl, rfl, rfl, rfl, rfl, trivial⟩ (fun h st => ?_) rfl
   ·simp only [List.map_set, hq1]
    exact ga_ hpti
   ·simp only [List.map_set, hq2]
    exact take_set_drop hl0 (by simp; omega)
   ·dsimp only [to_]
    rw [List.map_set, List.map_set, ga_ (l := q.map ptrK) (by rw [List.getElem?_map, hqi]; rfl)]
    have s1 : Star (vec 1 (.slice (some ⟨qb, qo, none⟩) cc.length qc) (q.map ptrK) :: thK (pt, t') :: all ((q.map thK).eraseIdx i) :: R1) h := cy_ st
    exact bp_ s1 (fun _ z => z) (fun _ z => hf_ (by simp; omega) z)
  ·have hi2 : i = pts.length := by omega
   subst hi2
   have hq2' : q.map (·.2) = l0 := by
    rw [hq2, List.take_of_length_le (by rw [hbl]; simp; omega), List.drop_eq_nil_of_le (by simp; omega), List.append_nil]
   clear hq2
   repeat (first | refine wlssF ?_ | refine bb_ ?_ | (refine wR ?_; try simp only [oS]) | refine ba_ ?_ | refine wM ?_ | refine wE ?_ | refine wF ?_ | refine cm_ ?_)
   repeat (first | (apply wo_mo; apply cj_; exact trivial))
   rintro v' L' ⟨pb, rfl, rfl⟩
   refine ba_ ?_
   have hqc : q.length = cc.length := by omega
   have pk : PlayOk f ⟨w, l0, []⟩ q := by
    have hall : ∀ y ∈ q, Good y.1.cs y.2 (16384 * (f + 1)) ∧ Stands y.2 := by
     intro y hy
     obtain ⟨i, hi3⟩ := List.mem_iff_getElem?.1 hy
     have hpti : pts[i]? = some y.1 := by rw [← hq1, List.getElem?_map, hi3]; rfl
     have hcci : cc[i]? = some (y.1.cw, y.1.cs) := by rw [← hpc, List.getElem?_map, hpti]; rfl
     have hccm := List.mem_of_getElem? hcci
     obtain ⟨t', ht', hl0⟩ := hbg i { calls := y.1.cs } (by rw [List.getElem?_map, hcci]; rfl)
     have : l0[i]? = some y.2 := by rw [← hq2', List.getElem?_map, hi3]; rfl
     rw [this] at hl0
     cases hl0
     exact ⟨Good.onF (k := 16384 * (f + 1)) (f := f) (init_good (hcc.ok _ hccm) (hcc.len _ hccm)) hf ht', onF_stands ht'⟩
    exact ⟨hq2', Nat.zero_le _, fun y hy => (hall y hy).1, fun y hy => (hall y hy).2⟩
   refine pd_ (arr pb 0 [.slice none 0 0, .slice none 0 0] :: vec 1 (.slice qa q.length qc) (q.map ptrK) :: all (q.map thK) :: wdC wb w :: arr b6 0 [.slice none 0 0, .slice none 0 0] :: arr b8 0 [.slice none 0 0, .slice none 0 0] :: vec 1 (.slice ta cc.length tc) (cc.map cvK) :: wvC (.slice wa wn wc) (.slice la ln lc) w :: F) (fun h st => ?_) ?_
   ·rw [hR1, hR0] at st
    rw [hqc]
    refine Ent.star ?_ st
    exact (.take .here (.take .here (.take .here (.take (.there .here) (.take (.there .here) (.take (.there .here) (.take .here .refl)))))))
   refine at_sub [(1, .slice oa o.length oc), (2, .slice ta cc.length tc), (6, .pointer (some ⟨b6, 0, none⟩)), (8, .pointer (some ⟨b8, 0, none⟩)), (9, .pointer (some ⟨wb, 0, none⟩)), (10, .slice qa q.length qc), (13, .pointer (some ⟨pb, 0, none⟩))] ⟨rfl, rfl, rfl, rfl, rfl, by rw [hqc]; rfl, rfl, trivial⟩ ?_
   exact play_tail (F := vec 1 (.slice ta cc.length tc) (cc.map cvK) :: wvC (.slice wa wn wc) (.slice la ln lc) w :: F) (l0 := l0) (w := w) hby hp hf hcc.there.there ho hoi (fun i k h => by
    obtain ⟨b, p, h1, h2⟩ := hor i k h
    exact ⟨b, p, h1, .there (.there h2)⟩) hpc hq1 pk (by rw [hqc]; exact hqa) hqa2 hQ
end
section
variable {B : Hand} [Lets B] {L F G : List HProp} {x : B.X}
def clC (kv dv : Value) (cl : Mach.Cl) : HProp := all [vec 7 kv (cl.code.map inC).flatten, vec 1 dv (cl.data.map num)]
theorem code_obs {cb kn kc dn dc c : Nat} {ka da : Option Addr} {cl : Mach.Cl} (hk : kn = cl.code.length) (hd : dn = cl.data.length) (hka : ∀ y, ka = some y → y = ⟨y.block, y.off, none⟩) (hda : ∀ y, da = some y → y = ⟨y.block, y.off, none⟩) (hkn : ka = none → kn = 0) (hdn : da = none → dn = 0) :
  Obs (arr cb 0 [.slice ka kn kc, .slice da dn dc] :: vec 7 (.slice ka kn kc) (cl.code.map inC).flatten :: vec 1 (.slice da dn dc) (cl.data.map num) :: F) (codeC ⟨some ⟨cb, 0, none⟩, c, fun _ => (ka, kc), fun _ => (da, dc)⟩ [cl]) := by
 subst hk
 subst hd
 intro h s i y hy
 obtain ⟨rfl, rfl⟩ : i = 0 ∧ cl = y := by
  cases i with
  | zero => exact ⟨rfl, by simpa using hy⟩
  | succ i => simp at hy
 refine ⟨cb, 0, rfl, (Rd.row0 rfl) h s, (Rd.row0 rfl) h s, fun j z hz => ?_, fun j v hv => ?_⟩
 ·have hlt := (List.getElem?_eq_some_iff.1 hz).1
  cases ka with
  | none => have : cl.code.length = 0 := hkn rfl; omega
  | some a =>
   obtain ⟨kb, ko, sp⟩ := a
   cases hka _ rfl
   refine ⟨kb, ko, rfl, fun m v hm => ?_⟩
   have hm7 : m < 7 := (List.getElem?_eq_some_iff.1 hm).1
   have := (dc_ (i := 7 * j + m) (v := v) (L := arr cb 0 [.slice (some ⟨kb, ko, none⟩) cl.code.length kc, .slice da cl.data.length dc] :: vec 7 (.slice (some ⟨kb, ko, none⟩) cl.code.length kc) (cl.code.map inC).flatten :: vec 1 (.slice da cl.data.length dc) (cl.data.map num) :: F) (.there .here) (by rw [hv_ (k := 7) (fun _ => rfl) _ _ _ _ hz hm7]; exact hm)) h s
   rwa [← Nat.add_assoc] at this
 ·have hlt := (List.getElem?_eq_some_iff.1 hv).1
  cases da with
  | none => have : cl.data.length = 0 := hdn rfl; omega
  | some a =>
   obtain ⟨db, dq, sp⟩ := a
   cases hda _ rfl
   exact ⟨db, dq, rfl, (dc_ (i := j) (v := num v) (L := arr cb 0 [.slice ka cl.code.length kc, .slice (some ⟨db, dq, none⟩) cl.data.length dc] :: vec 7 (.slice ka cl.code.length kc) (cl.code.map inC).flatten :: vec 1 (.slice (some ⟨db, dq, none⟩) cl.data.length dc) (cl.data.map num) :: F) (.there (.there .here)) (by rw [List.getElem?_map, hv]; rfl)) h s⟩
def mkC (m : Nat × Nat) : List Value := [.int .u8 (m.1 : Nat), .int .i64 (m.2 : Nat)]
def mi_ (b5 pb nb : Nat) (ansv : Value) (st : Mach.St) (x : B.X) (F : List HProp) : Inv (Nat × Value) B.X where
 e := fun i => [(5, .pointer (some ⟨b5, 0, none⟩)), (7, .pointer (some ⟨pb, 0, none⟩)), (8, ansv), (9, .pointer (some ⟨nb, 0, none⟩)), (10, i.2), (11, .int .i64 (i.1 : Nat))]
 L := fun i => vec 2 i.2 (((st.tr.take i.1).map (·.2)).map mkC).flatten :: F
 x := fun _ => x
 ok := fun i => i.1 ≤ st.tr.length
set_option maxHeartbeats 8000000 in
theorem alone_tr {wv lv kv dv : Value} {w : Mach.Wd} {cl : Mach.Cl} {st : Mach.St} {f g : Nat} {d : Bool} {told : List Nat} {t : Mach.Th} (hp : Mach.play f g w [] [[cl]] = some st) (hf : 16384 * (f + 1) + f < 1000000000) (hcl : cl.ok = true) (htr : st.tr.length ≤ 16384) (hl : st.l = [t]) (hans : t.ans = [(d, told)])
  (hh : Has L (wvC wv lv w) G) (hc : Has G (clC kv dv cl) F) :
  Tr Try.prog B 20 [.agg #[wv, lv], .agg #[kv, dv]] L x fun v L' x' => ∃ toldV wv' lv' marksV : Value, v = .tuple #[toldV, .agg #[wv', lv'], marksV] ∧ L' = vec 1 toldV (told.map num) :: wvC wv' lv' st.w :: vec 2 marksV ((st.tr.map (·.2)).map mkC).flatten :: wvC wv lv w :: F ∧ x' = x := by
 refine da_ (vec 7 kv (cl.code.map inC).flatten :: vec 1 dv (cl.data.map num) :: wvC wv lv w :: F) (fun h s => ?_) ?_
 ·have s1 : Star (clC kv dv cl :: wvC wv lv w :: F) h := cy_ (bp_ (hh.star s) (fun _ z => z) (fun _ z => hc.star z))
  exact bt_ s1
 clear hh hc
 refine Tr.post (R := fun v L' x' => ∃ toldV wv' lv' marksV : Value, v = .tuple #[toldV, .agg #[wv', lv'], marksV] ∧ x' = x ∧ ∀ h, Star L' h → Star (vec 1 toldV (told.map num) :: wvC wv' lv' st.w :: vec 2 marksV ((st.tr.map (·.2)).map mkC).flatten :: wvC wv lv w :: F) h) ?_
  (by rintro v L' x' ⟨toldV, wv', lv', marksV, rfl, rfl, hs⟩; exact ⟨_, ⟨toldV, wv', lv', marksV, rfl, rfl, rfl⟩, hs⟩)
 refine dw_ (bu_ .here (bi_ (by omega))) ?_
 rintro ⟨ka, kn, kc, rfl, hkn, _, hka, hka2⟩
 refine dw_ (bu_ (.there .here) (bi_ (by omega))) ?_
 rintro ⟨da, dn, dc, rfl, hdn, _, hda, hda2⟩
 refine dw_ (bu_ (.there (.there .here)) gh_) ?_
 rintro ⟨⟨wa, wn, wc, rfl⟩, la, ln, lc, rfl⟩
 have hkn' : kn = cl.code.length := by rw [gj_ (k := 7) (fun _ => rfl)] at hkn; omega
 have hdn' : dn = cl.data.length := by rw [List.length_map] at hdn; omega
 have hclo := hcl
 simp only [Mach.Cl.ok, Bool.and_eq_true, decide_eq_true_eq] at hclo
 refine bd_ Try.func20 rfl Try.ntmps20 (by simp) fun um Q _ hQ => ?_
 simp only [argE, Nat.zero_add, Nat.reduceAdd]
 repeat (first | (apply wo_mo; apply cr_; exact rfl; exact trivial) | refine bb_ ?_ | (refine wR ?_; try simp only [oS]))
 rintro v' L' ⟨b2, rfl, rfl⟩
 repeat (first | (apply wo_mo; apply cr_; exact rfl; exact trivial))
 rintro v' L' ⟨b3, rfl, rfl⟩
 repeat (first | (apply wo_mo; apply cj_; exact trivial) | refine wA ?_)
 rintro v' L' ⟨b5, rfl, rfl⟩
 refine jm_ (arr b5 0 [.slice none 0 0, .slice none 0 0] :: arr b3 0 [.slice ka kn kc, .slice da dn dc] :: arr b2 0 [.slice wa wn wc, .slice la ln lc] :: vec 7 (.slice ka kn kc) (cl.code.map inC).flatten :: vec 1 (.slice da dn dc) (cl.data.map num) :: wvC (.slice wa wn wc) (.slice la ln lc) w :: F) .refl ?_
 have hr2 : ∀ {d1 d2 : HProp} {F : List HProp}, Rds (d1 :: d2 :: arr b2 0 [.slice wa wn wc, .slice la ln lc] :: F) b2 0 [.slice wa wn wc, .slice la ln lc] := fun {d1 d2 F} => Rds.all (.there (.there .here))
 have hr3 : ∀ {d1 : HProp} {F : List HProp}, Rds (d1 :: arr b3 0 [.slice ka kn kc, .slice da dn dc] :: F) b3 0 [.slice ka kn kc, .slice da dn dc] := fun {d1 F} => Rds.all (.there .here)
 repeat (first | (apply wo_po; apply ch_ (vs := [.slice wa wn wc, .slice la ln lc]); exact rfl; exact rfl; exact hr2; exact trivial) | (apply wo_po; apply ch_ (vs := [.slice ka kn kc, .slice da dn dc]); exact rfl; exact rfl; exact hr3; exact trivial) | (apply wo_mo; apply bo_ (sz := 2) (vs := [.agg #[.slice ka kn kc, .slice da dn dc]]); exact rfl; exact .cons rfl .nil; exact rfl; (intro v hv; cases (List.mem_singleton.1 hv); exact rfl); omega; exact trivial) | refine bb_ ?_ | (refine wR ?_; try simp only [oS]) | refine ba_ ?_ | refine wA ?_)
 rintro v' L' ⟨cb, rfl, rfl⟩
 repeat (first | (apply wo_mo; apply bo_ (sz := 1) (vs := [.slice (some ⟨cb, 0, none⟩) 1 1]); exact rfl; exact .cons rfl .nil; exact rfl; (intro v hv; cases (List.mem_singleton.1 hv); exact rfl); omega; exact trivial))
 rintro v' L' ⟨tb, rfl, rfl⟩
 obtain ⟨cw, hcw⟩ : ∃ cw : CW, cw = ⟨some ⟨cb, 0, none⟩, 1, fun _ => (ka, kc), fun _ => (da, dc)⟩ := ⟨_, rfl⟩
 obtain ⟨FF, hFF⟩ : ∃ FF, FF = arr cb 0 [.slice ka kn kc, .slice da dn dc] :: vec 7 (.slice ka kn kc) (cl.code.map inC).flatten :: vec 1 (.slice da dn dc) (cl.data.map num) :: arr b5 0 [.slice none 0 0, .slice none 0 0] :: F := ⟨_, rfl⟩
 have hcc : CallsOk FF [(cw, [cl])] := by
  refine ⟨by show 1 < 1000; omega, fun y hy => ?_, fun y hy => ?_, fun y hy => ?_⟩
  ·cases List.mem_singleton.1 hy
   rw [hFF, hcw]
   exact code_obs hkn' hdn' hka2 hda2 hka hda
  ·cases List.mem_singleton.1 hy
   show ([cl].all Mach.Cl.ok) = true
   simp [hcl]
  ·cases List.mem_singleton.1 hy
   show 1 < 1000000; omega
 refine fo_ (wvC (.slice wa wn wc) (.slice la ln lc) w :: vec 1 (.slice (some ⟨tb, 0, none⟩) 1 1) ([(cw, [cl])].map cvK) :: FF) (fun h st => ?_) ?_
 ·rw [hFF]
  have s1 : Star (arr tb 0 [.slice (some ⟨cb, 0, none⟩) 1 1] :: wvC (.slice wa wn wc) (.slice la ln lc) w :: arr cb 0 [.slice ka kn kc, .slice da dn dc] :: vec 7 (.slice ka kn kc) (cl.code.map inC).flatten :: vec 1 (.slice da dn dc) (cl.data.map num) :: arr b5 0 [.slice none 0 0, .slice none 0 0] :: F) h := by
   refine Ent.star ?_ st
   exact (.take .here (.take (.there (.there (.there (.there (.there (.there .here)))))) (.take .here (.take (.there (.there (.there .here))) (.take (.there (.there (.there .here))) (.take .here (.drop (.drop .refl))))))))
  refine cy_ ?_
  rw [hcw]
  exact jr_ (n := 1) rfl s1
 refine bj_ (.cons rfl (.cons rfl (.cons rfl .nil))) trivial (play_tr (F := FF) (st := st) (o := []) (oa := none) (oc := 0) (cc := [(cw, [cl])]) (f := f) (g := g) hp hf hcc (by show 0 < 1000000; omega) (fun k hk => by cases hk) (fun i k hk => by simp at hk) .here .here) ?_
 rintro v L' x' ⟨trv, cutv, ansv, wv', lv', os, rfl, rfl, hos, hs⟩
 refine fo_ _ hs ?_
 rw [hFF]
 refine cw_ (bu_ .here (bi_ (by omega))) ?_
 rintro ⟨ra, rn, rc, rfl, hrn, _, hra, hra2⟩
 have hrnn := tr_len hrn
 subst hrnn
 refine cw_ (bu_ (.there .here) (bi_ (by omega))) ?_
 rintro ⟨ca, cn, cc, rfl, _⟩
 refine cw_ (bu_ (.there (.there (.there (.there .here)))) gh_) ?_
 rintro ⟨⟨wa', wn', wc', rfl⟩, la', ln', lc', rfl⟩
 repeat (first | (apply wo_mo; apply cj_; exact trivial) | refine wM ?_ | (apply wo_po; apply cb_; exact rfl; exact rfl; exact gY))
 rintro v' L' ⟨pb, rfl, rfl⟩
 repeat (first | (apply wo_mo; apply cj_; exact trivial))
 rintro v' L' ⟨nb, rfl, rfl⟩
 repeat (first | (apply wo_pm; apply ck_ (b := pb) (c := 0) (k := 0) (a := 0) (vs := [.slice none 0 0, .slice none 0 0]); exact rfl; exact rfl; exact rfl; (intro w hw; simp [Value.cells] at hw; rcases hw with rfl | rfl <;> rfl); exact rfl; exact Nat.le_refl 2; exact (.there .here); exact trivial) | (apply wo_pm; apply ck_ (b := nb) (c := 0) (k := 0) (a := 0) (vs := [.slice none 0 0, .slice none 0 0]); exact rfl; exact rfl; exact rfl; (intro w hw; simp [Value.cells] at hw; rcases hw with rfl | rfl <;> rfl); exact rfl; exact Nat.le_refl 2; exact .here; exact trivial) | refine bb_ ?_ | (refine wR ?_; try simp only [oS]) | refine ba_ ?_ | refine wA ?_)
 refine bg_ ?_
 obtain ⟨F4, hF4⟩ : ∃ F4, F4 = vec 1 ansv (os.map (·.1)) :: all (os.map ansK) :: wvC (.slice wa' wn' wc') (.slice la' ln' lc') st.w :: wvC (.slice wa wn wc) (.slice la ln lc) w :: F := ⟨_, rfl⟩
 obtain ⟨F3, hF3⟩ : ∃ F3, F3 = arr nb 0 [.slice wa' wn' wc', .slice la' ln' lc'] :: arr pb 0 [.slice ra st.tr.length rc, .slice ca cn cc] :: vec 3 (.slice ra st.tr.length rc) (st.tr.map trC).flatten :: arr b5 0 [.slice none 0 0, .slice none 0 0] :: F4 := ⟨_, rfl⟩
 refine de_ ((mi_ b5 pb nb ansv st x' F3).L (0, .slice none 0 0)) (fun h hs => ?_) ?_
 ·dsimp only [mi_]
  refine dr_ ?_
  rw [hF3, hF4]
  have s0 : Star (arr nb 0 [.slice wa' wn' wc', .slice la' ln' lc'] :: arr pb 0 [.slice ra st.tr.length rc, .slice ca cn cc] :: vec 3 (.slice ra st.tr.length rc) (st.tr.map trC).flatten :: vec 1 (.slice ca cn cc) (st.cut.map cI) :: vec 1 ansv (os.map (·.1)) :: all (os.map ansK) :: wvC (.slice wa' wn' wc') (.slice la' ln' lc') st.w :: vec 1 (.slice (some ⟨tb, 0, none⟩) 1 1) ([(cw, [cl])].map cvK) :: wvC (.slice wa wn wc) (.slice la ln lc) w :: arr cb 0 [.slice ka kn kc, .slice da dn dc] :: vec 7 (.slice ka kn kc) (cl.code.map inC).flatten :: vec 1 (.slice da dn dc) (cl.data.map num) :: arr b5 0 [.slice none 0 0, .slice none 0 0] :: F) h := hs
  refine Ent.star ?_ s0
  exact (.take .here (.take .here (.take .here (.take (.there (.there (.there (.there (.there (.there (.there (.there (.there .here))))))))) (.take (.there .here) (.take (.there .here) (.take (.there .here) (.take (.there (.there .here)) (.drop (.drop (.drop (.drop (.drop .refl)))))))))))))
 refine co_ (mi_ b5 pb nb ansv st x' F3) (fun i => st.tr.length - i.1) (0, .slice none 0 0) (Nat.zero_le _) ⟨rfl, rfl, rfl, rfl, rfl, rfl, trivial⟩ .refl rfl ?_
 rintro ⟨i, mv⟩ hi
 dsimp only [mi_] at hi ⊢
 have htrl : ∀ d1 : HProp, Rd (d1 :: F3) pb 0 (.slice ra st.tr.length rc) := fun d1 => by rw [hF3]; exact .there (.there (Rd.row0 rfl))
 by_cases hc : i < st.tr.length
 ·obtain ⟨⟨tk, m1, m2⟩, hti⟩ : ∃ z, st.tr[i]? = some z := ⟨st.tr[i], by simp [hc]⟩
  obtain ⟨⟨rb, ro, sp⟩, rfl⟩ : ∃ z, ra = some z := by
   cases ra with
   | none => have : st.tr.length = 0 := hra rfl; omega
   | some z => exact ⟨z, rfl⟩
  cases hra2 _ rfl
  refine cx_ (bu_ .here (bi_ (by omega))) ?_
  rintro ⟨ma, mn, mc, rfl, hmn, _⟩
  have hmn' : mn = i := by
   rw [gj_ (k := 2) (fun _ => rfl)] at hmn
   simp at hmn; omega
  subst hmn'
  have hmk : ∀ d1 : HProp, Rds (d1 :: F3) rb (ro + 3 * mn + 1) [.int .u8 (m1 : Nat), .int .i64 (m2 : Nat)] := fun d1 j v hj => by
   rw [hF3]
   have hj2 : j < 2 := (List.getElem?_eq_some_iff.1 hj).1
   have := dc_ (i := 3 * mn + (1 + j)) (v := v) (L := d1 :: arr nb 0 [.slice wa' wn' wc', .slice la' ln' lc'] :: arr pb 0 [.slice (some ⟨rb, ro, none⟩) st.tr.length rc, .slice ca cn cc] :: vec 3 (.slice (some ⟨rb, ro, none⟩) st.tr.length rc) (st.tr.map trC).flatten :: arr b5 0 [.slice none 0 0, .slice none 0 0] :: F4) (.there (.there (.there .here))) (by
    rw [hv_ (k := 3) (fun _ => rfl) _ _ _ _ hti (by omega)]
    show (trC (tk, m1, m2))[1 + j]? = some v
    rw [← hj]
    show ([.int .i64 (tk : Nat), .int .u8 (m1 : Nat), .int .i64 (m2 : Nat)] : List Value)[1 + j]? = _
    rw [Nat.add_comm]; rfl)
   rwa [← Nat.add_assoc, ← Nat.add_assoc] at this
  repeat (first | (apply wo_po; apply ce_ (r := ro + 3 * mn); exact rfl; exact rfl; omega; omega; omega; exact trivial) | (apply wo_po; apply bc_; exact rfl; exact htrl _; exact trivial) | (apply wo_po; apply ch_ (vs := [.int .u8 (m1 : Nat), .int .i64 (m2 : Nat)]); exact rfl; exact rfl; exact hmk _; exact trivial) | (apply wo_mo; apply bo_ (sz := 2) (vs := [.agg #[.int .u8 (m1 : Nat), .int .i64 (m2 : Nat)]]); exact rfl; exact .cons rfl .nil; exact rfl; (intro v hv; cases (List.mem_singleton.1 hv); exact rfl); omega; exact trivial) | refine wlssT ?_ | refine bb_ ?_ | (refine wR ?_; try simp only [oS]) | refine ba_ ?_ | refine wM ?_ | refine wD ?_ | refine wE ?_ | refine wT ?_ | refine bk_ ?_ | refine bg_ ?_)
  rintro v' L' ⟨sb, rfl, rfl⟩
  repeat (first | (apply wo_mo; apply cz_ (sz := 2) (new := mkC (m1, m2)); exact rfl; exact rfl; exact rfl; exact rfl; exact (.there .here); exact rfl; exact .inr ⟨_, _, rfl, Rds.all .here⟩; (intro v hv; simp [mkC] at hv; rcases hv with rfl | rfl <;> rfl); (simp only [db_]; omega); exact trivial))
  rintro v' L' rfl
  repeat (first | (refine wR ?_; try simp only [oS]) | refine ba_ ?_ | refine wM ?_ | refine wA ?_ | refine wadd ?_)
  refine dm_ (I := mi_ b5 pb nb ansv st x' F3) (R := fun i' => st.tr.length - i'.1 < st.tr.length - mn) (mn + 1, v') (by simp only; omega) (by show mn + 1 ≤ _; omega) ⟨rfl, rfl, rfl, rfl, rfl, rfl, trivial⟩ ?_ rfl
  dsimp only [mi_]
  rw [List.take_add_one, hti]
  have : ((List.map (·.2) (st.tr.take mn ++ (some (tk, m1, m2)).toList)).map mkC).flatten = ((List.map (·.2) (st.tr.take mn)).map mkC).flatten ++ mkC (m1, m2) := by simp
  rw [this]
  exact (.take .here (.drop .refl))
 ·have hi2 : i = st.tr.length := by omega
  subst hi2
  repeat (first | (apply wo_po; apply bc_; exact rfl; exact htrl _; exact trivial) | refine wlssF ?_ | refine bb_ ?_ | (refine wR ?_; try simp only [oS]) | refine ba_ ?_ | refine wM ?_ | refine wD ?_ | refine wE ?_ | refine wF ?_ | refine cm_ ?_)
  rw [List.take_length]
  subst hF3
  subst hF4
  rw [hl] at hos
  obtain ⟨⟨av, aa0⟩, rfl⟩ : ∃ y, os = [y] := by
   have hos1 : os.length = 1 := by have := congrArg List.length hos; simpa using this
   exact List.length_eq_one_iff.1 hos1
  have haa : aa0 = [(d, told)] := by
   simp only [List.map_cons, List.map_nil, hans, List.cons.injEq, and_true] at hos
   exact hos
  subst haa
  refine de_ (ansK (av, [(d, told)]) :: arr nb 0 [.slice wa' wn' wc', .slice la' ln' lc'] :: arr b5 0 [.slice none 0 0, .slice none 0 0] :: vec 1 ansv [av] :: vec 2 mv ((st.tr.map (·.2)).map mkC).flatten :: wvC (.slice wa' wn' wc') (.slice la' ln' lc') st.w :: wvC (.slice wa wn wc) (.slice la ln lc) w :: F) (fun h hs => ?_) ?_
  ·have s1 : Star (all [ansK (av, [(d, told)])] :: arr nb 0 [.slice wa' wn' wc', .slice la' ln' lc'] :: arr b5 0 [.slice none 0 0, .slice none 0 0] :: vec 1 ansv [av] :: vec 2 mv ((st.tr.map (·.2)).map mkC).flatten :: wvC (.slice wa' wn' wc') (.slice la' ln' lc') st.w :: wvC (.slice wa wn wc) (.slice la ln lc) w :: F) h := by
    refine Ent.star ?_ hs
    exact (.take (.there (.there (.there (.there (.there (.there .here)))))) (.take (.there .here) (.take (.there (.there (.there .here))) (.take (.there (.there (.there .here))) (.take .here (.take (.there (.there .here)) (.take (.there (.there .here)) (.drop (.drop .refl)))))))))
   exact bt_ s1
  refine we_ex .here fun al => jn_ .here fun e1 => qi_ .here ?_
  obtain ⟨⟨d', tv, told'⟩, rfl⟩ : ∃ y, al = [y] := by
   have hal1 : al.length = 1 := by have := congrArg List.length e1; simpa using this
   exact List.length_eq_one_iff.1 hal1
  obtain ⟨rfl, rfl⟩ : d' = d ∧ told' = told := by
   simp only [List.map_cons, List.map_nil, ansOf, List.cons.injEq, Prod.mk.injEq, and_true] at e1
   exact e1
  refine de_ (vec 2 av [.bool d', tv] :: vec 1 tv (told'.map num) :: arr nb 0 [.slice wa' wn' wc', .slice la' ln' lc'] :: arr b5 0 [.slice none 0 0, .slice none 0 0] :: vec 1 ansv [av] :: vec 2 mv ((st.tr.map (·.2)).map mkC).flatten :: wvC (.slice wa' wn' wc') (.slice la' ln' lc') st.w :: wvC (.slice wa wn wc) (.slice la ln lc) w :: F) (fun h hs => ?_) ?_
  ·exact bp_ hs (fun _ z => z) (fun _ z => bt_ z)
  refine cx_ (bu_ .here (bi_ (by omega))) ?_
  rintro ⟨aa, an, ac, rfl, han, _, haa, haa2⟩
  have han1 : an = 1 := by simp at han; omega
  subst han1
  obtain ⟨⟨ab, ao, sp⟩, rfl⟩ : ∃ z, aa = some z := by
   cases aa with
   | none => have : (1 : Nat) = 0 := haa rfl; omega
   | some z => exact ⟨z, rfl⟩
  cases haa2 _ rfl
  refine cx_ (bu_ (.there (.there (.there (.there .here)))) (bi_ (by omega))) ?_
  rintro ⟨qa, qn, qc, rfl, hqn, _, hqa, hqa2⟩
  have hqn1 : qn = 1 := by simp at hqn; omega
  subst hqn1
  obtain ⟨⟨qb, qo, sp⟩, rfl⟩ : ∃ z, qa = some z := by
   cases qa with
   | none => have : (1 : Nat) = 0 := hqa rfl; omega
   | some z => exact ⟨z, rfl⟩
  cases hqa2 _ rfl
  obtain ⟨F5, hF5⟩ : ∃ F5, F5 = vec 1 (.slice (some ⟨qb, qo, none⟩) 1 qc) [.slice (some ⟨ab, ao, none⟩) 1 ac] :: vec 2 mv ((st.tr.map (·.2)).map mkC).flatten :: wvC (.slice wa' wn' wc') (.slice la' ln' lc') st.w :: wvC (.slice wa wn wc) (.slice la ln lc) w :: F := ⟨_, rfl⟩
  rw [← hF5]
  have hq0 : ∀ d1 d2 d3 d4 : HProp, Rd (d1 :: d2 :: d3 :: d4 :: F5) qb (qo + 0) (.slice (some ⟨ab, ao, none⟩) 1 ac) := fun d1 d2 d3 d4 => by rw [hF5]; exact dc_ (.there (.there (.there (.there .here)))) rfl
  have ht0 : ∀ {F : List HProp}, Rd (vec 2 (.slice (some ⟨ab, ao, none⟩) 1 ac) [.bool d', tv] :: F) ab (ao + 0 + 1) tv := fun {F} => dc_ (i := 1) .here rfl
  have hn0 : ∀ {d1 d2 : HProp} {F : List HProp}, Rds (d1 :: d2 :: arr nb 0 [.slice wa' wn' wc', .slice la' ln' lc'] :: F) nb 0 [.slice wa' wn' wc', .slice la' ln' lc'] := fun {d1 d2 F} => Rds.all (.there (.there .here))
  refine bv_ (List.range' 0 11) (by kernel_rfl) ?_
  repeat (first | (apply be_; exact rfl; exact rfl; exact trivial; intro L; apply ce_ (r := qo + 0); exact rfl; exact rfl; omega; omega; omega) | (apply be_; exact rfl; exact rfl; exact trivial; intro L; apply ce_ (r := ao + 0); exact rfl; exact rfl; omega; omega; omega) | (apply bn_; exact rfl; exact rfl; exact trivial; apply bc_; exact rfl; exact hq0 _ _ _ _) | (apply bn_; exact rfl; exact rfl; exact trivial; apply bc_; exact rfl; exact ht0) | (apply bn_; exact rfl; exact rfl; exact trivial; apply ch_ (vs := [.slice wa' wn' wc', .slice la' ln' lc']); exact rfl; exact rfl; exact hn0) | refine aM ?_ | refine aA ?_ | refine aD ?_)
  refine cc_ rfl rfl rfl rfl rfl trivial (ck_ (c := 0) (k := 0) (a := 0) (vs := [.slice none 0 0, .slice none 0 0]) rfl rfl rfl (by intro w hw; simp [Value.cells] at hw; rcases hw with rfl | rfl <;> rfl) rfl (Nat.le_refl 2) (.there (.there (.there .here)))) ?_
  rintro v' L' ⟨rfl, rfl⟩
  repeat (first | refine aA ?_ | refine ca_ ?_)
  repeat (first | refine br_ ?_)
  refine fk_ (rs := [.tmp 4, .cell 5 46, .tmp 6]) Try.func20 Try.results20 hQ (.inl rfl) (.cons (.tmp rfl) (.cons (.cell (vs := [.slice wa' wn' wc', .slice la' ln' lc']) rfl rfl (Rds.all (.there (.there (.there .here))))) (.cons (.tmp rfl) .nil))) ?_
  refine ⟨tv, _, _, mv, rfl, rfl, fun h hs => ?_⟩
  rw [hF5] at hs
  refine Ent.star ?_ hs
  exact (.take (.there .here) (.take (.there (.there (.there (.there (.there .here))))) (.take (.there (.there (.there (.there .here)))) (.take (.there (.there (.there (.there .here)))) (.drop (.drop (.drop (.drop .refl))))))))
end
end Go.Proofs.Ytdcbnbmahndecaa
namespace Go.Proofs.Ytdcbnbmahndecaa
open Go Go.PB
attribute [local irreducible] Mo Bin Eql Tr Wo
section
variable {B : Hand} [Lets B]
def mark2 (m : Int × Nat) : List Value := [.int .u8 m.1, .int .i64 (m.2 : Nat)]
def hs_ (nb : Nat) (marks : List (Int × Nat)) : HProp := fun h => ∃ mv, all [arr nb 0 [.bool true, mv], vec 2 mv (marks.map mark2).flatten] h
section
variable {L F : List HProp} {x : B.X} {nb : Nat} {marks : List (Int × Nat)}
theorem flat2 (marks : List (Int × Nat)) : (marks.map mark2).flatten.length = marks.length * 2 := by
 induction marks with
 | nil => rfl
 | cons m l ih => simp only [List.map_cons, List.flatten_cons, List.length_append, ih, mark2, List.length_cons, List.length_nil]; omega
theorem notes_step_tr {op : Int} {w : Nat} (hl : marks.length < 1000000) (hh : Has L (hs_ nb marks) F) :
  Tr Try.prog B 109 [.pointer (some ⟨nb, 0, none⟩), .agg #[.int .u8 op, .int .i64 (w : Nat)]] L x fun v L' x' => v = .tuple #[] ∧ L' = hs_ nb (marks ++ [(op, w)]) :: F ∧ x' = x := by
 refine tr_ex hh fun mv => da_ _ (fun h st => bt_ st) ?_
 refine Tr.post (R := fun v L' x' => v = .tuple #[] ∧ x' = x ∧ ∃ v', ∀ h, Star L' h → Star (arr nb 0 [.bool true, v'] :: vec 2 v' ((marks ++ [(op, w)]).map mark2).flatten :: F) h) ?_
  (by
   rintro v L' x' ⟨rfl, rfl, v', hs⟩
   refine ⟨_, ⟨rfl, rfl, rfl⟩, fun h st => ?_⟩
   exact bp_ (bm_ (M := [_, _]) (hs h st)) (fun _ y => ⟨v', y⟩) (fun _ y => y))
 refine dw_ (bu_ (.there .here) (bi_ (by omega))) ?_
 rintro ⟨ra, rl, rc, rfl, hlen, hrc, hra, hra2⟩
 rw [flat2] at hlen
 have hrl : rl = marks.length := by omega
 subst hrl
 simp only [List.cons_append, List.nil_append]
 refine bd_ Try.func109 rfl Try.ntmps109 (by simp) fun um Q _ hQ => ?_
 simp only [argE, Nat.zero_add, Nat.reduceAdd]
 have hr0 : ∀ {c : HProp}, Rd (c :: arr nb 0 [.bool true, .slice ra marks.length rc] :: vec 2 (.slice ra marks.length rc) (marks.map mark2).flatten :: F) nb 0 (.bool true) := fun {c} => Rd.there (Rd.row (k := 0) rfl rfl)
 have hr1 : ∀ {c : HProp}, Rd (c :: arr nb 0 [.bool true, .slice ra marks.length rc] :: vec 2 (.slice ra marks.length rc) (marks.map mark2).flatten :: F) nb 1 (.slice ra marks.length rc) := fun {c} => Rd.there (Rd.row (k := 1) rfl rfl)
 repeat (first | (apply wo_mo; apply cr_; exact rfl; exact trivial) | refine bb_ ?_ | (refine wR ?_; try simp only [oS]))
 rintro v' L' ⟨pb, rfl, rfl⟩
 have hrds : Rds (arr pb 0 (mark2 (op, w)) :: arr nb 0 [.bool true, .slice ra marks.length rc] :: vec 2 (.slice ra marks.length rc) (marks.map mark2).flatten :: F) pb 0 [.int .u8 op, .int .i64 (w : Nat)] := Rds.all (vs := mark2 (op, w)) .here
 refine jm_ (arr pb 0 (mark2 (op, w)) :: arr nb 0 [.bool true, .slice ra marks.length rc] :: vec 2 (.slice ra marks.length rc) (marks.map mark2).flatten :: F) .refl ?_
 repeat (first | (apply wo_po; apply bc_; exact rfl; exact hr0; exact gY) | refine bb_ ?_ | (refine wR ?_; try simp only [oS]) | refine ba_ ?_ | refine wM ?_ | refine wK ?_ | refine wN ?_ | refine wD ?_ | (apply wo_po; apply bh_; exact rfl; exact rfl; apply dv_; apply dg_; exact gY) | refine wT ?_)
 have hr2 : ∀ {c d : HProp}, Rd (c :: d :: arr nb 0 [.bool true, .slice ra marks.length rc] :: vec 2 (.slice ra marks.length rc) (marks.map mark2).flatten :: F) nb 1 (.slice ra marks.length rc) := fun {c d} => Rd.there hr1
 refine bv_ [0, 1, 2, 3, 4, 5, 6, 7, 8, 9, 10] (by kernel_rfl) ?_
 repeat (first | (apply bn_; exact rfl; exact rfl; exact trivial; apply bc_; exact rfl; exact hr1) | (apply bn_; exact rfl; exact rfl; exact trivial; apply ch_ (vs := [.int .u8 op, .int .i64 (w : Nat)]); exact rfl; exact rfl; exact hrds) | refine aM ?_ | refine aN ?_ | refine aD ?_)
 refine gb_ rfl rfl rfl rfl trivial (bo_ (sz := 2) (vs := [.agg #[.int .u8 op, .int .i64 (w : Nat)]]) rfl (.cons rfl .nil) rfl (by intro v hv; cases (List.mem_singleton.1 hv); exact rfl) (by omega)) ?_ ?_
 ·rintro v L' ⟨sb, rfl, rfl⟩ p hp
  replace hp := (List.mem_filter.1 hp).1
  simp only [List.mem_cons, List.not_mem_nil, or_false] at hp
  rcases hp with rfl | rfl | rfl | rfl | rfl | rfl <;> first | exact .inl rfl | exact .inr ⟨_, rfl, trivial, bc_ rfl hr2⟩ | exact .inr ⟨_, rfl, trivial, ch_ (vs := [.int .u8 op, .int .i64 (w : Nat)]) rfl rfl (fun i v hi => Rd.there (hrds i v hi))⟩
 rintro v L' ⟨sb, rfl, rfl⟩
 refine cc_ rfl rfl rfl rfl rfl trivial (cz_ (sz := 2) (new := mark2 (op, w)) rfl rfl rfl rfl (.there (.there (.there .here))) rfl (.inr ⟨_, _, rfl, Rds.all .here⟩) (by intro v hv; simp [mark2] at hv; rcases hv with rfl | rfl <;> rfl) (by simp only [db_]; omega)) ?_
 rintro v' L' rfl
 refine hc_ (bu_ .here (bi_ (by omega))) ?_
 rintro ⟨qa, ql, qc, rfl, _⟩
 repeat (first | refine aN ?_ | refine aD ?_)
 refine cc_ rfl rfl rfl rfl rfl trivial (cn_ rfl rfl rfl (Wt.row (k := 1) (vs := [.bool true, .slice ra marks.length rc]) (Nat.lt_succ_self 1) rfl (.there (.there (.there .here))))) ?_
 rintro v' L' ⟨rfl, rfl⟩
 refine ca_ ?_
 (first | refine or0 Try.func109 Try.results109 hQ ?_ | refine on0 Try.func109 Try.results109 hQ ?_)
 refine ⟨rfl, rfl, .slice qa ql qc, fun h st => ?_⟩
 rw [show ((marks ++ [(op, w)]).map mark2).flatten = (marks.map mark2).flatten ++ mark2 (op, w) by simp]
 exact (Ent.take (.there (.there (.there .here))) (.take .here (.drop (.drop .refl)))).star st
end
def tt_ (x : B.X) (addr : Nat → Nat × Nat) (N : Nat) (K : List (Nat × Nat × Value)) (A : Apart addr N K) (nb : Nat) : Acc B (.iface 48 (.pointer (some ⟨nb, 0, none⟩))) where
 S := (Nat → Nat) × List (Int × Nat)
 C := fun s => all [wds addr N K s.1, hs_ nb s.2]
 x := fun _ => x
 step := fun op w s R => s.2.length < 1000000 ∧ R (s.1, s.2 ++ [(op, w)])
 addr := addr
 load := fun w s R => w < N ∧ R (s.1 w) s
 store := fun w n s R => w < N ∧ R (upd s.1 w n, s.2)
 cas := fun w a n s R => w < N ∧ if s.1 w = a then R true (upd s.1 w n, s.2) else R false s
 add := fun w n s R => w < N ∧ R ((s.1 w + n) % 18446744073709551616) (upd s.1 w ((s.1 w + n) % 18446744073709551616), s.2)
 swap := fun w n s R => w < N ∧ R (s.1 w) (upd s.1 w n, s.2)
 gate := .inr ⟨_, _, 109, rfl, inferInstance, inferInstance, fun op w s R L F hs hh =>
  da_ _ (fun h st => bt_ (hh.star st)) ((notes_step_tr hs.1 (.there .here)).post fun v L' x' ⟨h1, h2, h3⟩ => ⟨_, ⟨_, hs.2, h1, rfl, h3⟩, fun h st => bm_ (M := [_, _]) (by
   rw [h2] at st
   exact cy_ st)⟩)⟩
 load_ok := fun w s R L F b o ha hl hh => da_ _ (fun h st => bt_ (hh.star st)) (dw_ (bu_ .here fun h hc => (hc.1 w hl.1).1) fun hs =>
  (vq_ (mp_ .here hl.1 ha)).post fun v L' x' ⟨h1, h2, h3⟩ => ⟨_, ⟨s.1 w, s, hs, hl.2, h1, rfl, h3⟩, fun h st => bm_ (M := [_, _]) (by rw [h2] at st; exact st)⟩)
 store_ok := fun w n s R L F b o ha hn hl hh => da_ _ (fun h st => bt_ (hh.star st))
  ((so_ (mk_ A .here hl.1 ha hn)).post fun v L' x' ⟨h1, h2, h3⟩ => ⟨_, ⟨(upd s.1 w n, s.2), hl.2, h1, rfl, h3⟩, fun h st => bm_ (M := [_, _]) (by rw [h2] at st; exact st)⟩)
 cas_ok := fun w m n s R L F b o ha hn hl hh => da_ _ (fun h st => bt_ (hh.star st))
  ((cas_lone (mp_ .here hl.1 ha) (mk_ A .here hl.1 ha hn)).post fun v L' x' ⟨h1, h2, h3⟩ => by
   obtain ⟨h4, h5⟩ := hl
   by_cases e : s.1 w = m
   ·rw [if_pos e] at h5; rw [if_pos (by omega)] at h2; exact ⟨_, ⟨true, _, h5, by rw [h1]; simp [e], rfl, h3⟩, fun h st => bm_ (M := [_, _]) (by rw [h2] at st; exact st)⟩
   ·rw [if_neg e] at h5; rw [if_neg (by omega)] at h2; exact ⟨_, ⟨false, _, h5, by rw [h1]; simp; omega, rfl, h3⟩, fun h st => bm_ (M := [_, _]) (by rw [h2] at st; exact st)⟩)
 add_ok := fun w n s R L F b o ha hn hl hh => da_ _ (fun h st => bt_ (hh.star st))
  ((add_lone (r := ((s.1 w + n) % 18446744073709551616 : Nat)) (mp_ .here hl.1 ha) (by rw [do_]; omega) (mk_ A .here hl.1 ha (Nat.mod_lt _ (by decide)))).post fun v L' x' ⟨h1, h2, h3⟩ => ⟨_, ⟨_, (_, s.2), Nat.mod_lt _ (by decide), hl.2, h1, rfl, h3⟩, fun h st => bm_ (M := [_, _]) (by rw [h2] at st; exact st)⟩)
end
end Go.Proofs.Ytdcbnbmahndecaa
namespace Go.Proofs.Ytdcbnbmahndecaa
open Go Go.PB
attribute [local irreducible] Mo Bin Eql Tr Wo Ap
section
variable {B : Hand} [Lets B] {L F : List HProp} {x : B.X} {nb : Nat} {marks : List (Int × Nat)}
theorem tu_ : Tr Try.prog B 18 [] L x fun v L' x' => ∃ nb, v = .pointer (some ⟨nb, 0, none⟩) ∧ L' = hs_ nb [] :: L ∧ x' = x := by
 refine Tr.post (R := fun v L' x' => ∃ nb, v = .pointer (some ⟨nb, 0, none⟩) ∧ L' = arr nb 0 [.bool true, .slice none 0 0] :: L ∧ x' = x) ?_
  (by
   rintro v L' x' ⟨nb, rfl, rfl, rfl⟩
   refine ⟨_, ⟨nb, rfl, rfl, rfl⟩, fun h st => ?_⟩
   have st2 : Star ([arr nb 0 [.bool true, .slice none 0 0], vec 2 (.slice none 0 0) []] ++ L) h := bp_ st (fun _ y => y) (fun _ y => dr_ y)
   exact bp_ (bm_ st2) (fun _ y => ⟨_, y⟩) (fun _ y => y))
 refine bd_ Try.func18 rfl Try.ntmps18 (by simp) fun um Q _ hQ => ?_
 simp only [argE, Nat.zero_add, Nat.reduceAdd]
 repeat (first | (apply wo_po; apply dj_ (pv := [(0, _)]); exact rfl; exact .cons rfl .nil; exact rfl; exact trivial) | (apply wo_mo; apply cr_; exact rfl; exact trivial) | refine bb_ ?_ | (refine wR ?_; try simp only [oS]) | refine ba_ ?_ | refine wA ?_)
 rintro v' L' ⟨r, rfl, rfl⟩
 repeat (first | refine ba_ ?_ | refine wA ?_ | refine br_ ?_)
 (first | refine or1 Try.func18 Try.results18 hQ rfl ?_ | refine on1 Try.func18 Try.results18 hQ rfl ?_)
 exact ⟨r, rfl, rfl, rfl⟩
theorem clone_tr {a : Option Addr} {n c : Nat} (hl : marks.length < 1000000) (hn : n = marks.length) (ha : (a = none ∧ n = 0) ∨ ∃ b o, a = some ⟨b, o, none⟩ ∧ Rds L b o (marks.map mark2).flatten) :
  Tr Try.prog B 46 [.slice a n c] L x fun v L' x' => L' = vec 2 v (marks.map mark2).flatten :: L ∧ x' = x := by
 subst hn
 rcases ha with ⟨rfl, h0⟩ | ⟨b, o, rfl, hr⟩
 ·refine bd_ Try.func46 rfl Try.ntmps46 (by simp) fun um Q _ hQ => ?_
  simp only [argE, Nat.zero_add, Nat.reduceAdd]
  repeat (first | refine bb_ ?_ | (refine wR ?_; try simp only [oS]) | refine ba_ ?_ | refine wM ?_ | refine wA ?_ | (apply wo_po; apply bh_; exact rfl; exact rfl; apply gf_; apply df_; exact gY) | refine wT ?_ | refine br_ ?_)
  have hm : marks = [] := List.length_eq_zero_iff.1 h0
  refine pd_ (vec 2 (.slice none 0 0) (marks.map mark2).flatten :: L) (fun h st => by rw [hm]; exact dr_ st) ?_
  (first | refine or1 Try.func46 Try.results46 hQ rfl ?_ | refine on1 Try.func46 Try.results46 hQ rfl ?_)
  exact ⟨rfl, rfl⟩
 ·have h1 : ∀ w ∈ (marks.map mark2).flatten, one w = true := by
   intro w hw
   simp only [List.mem_flatten, List.mem_map] at hw
   obtain ⟨l, ⟨m, _, rfl⟩, hw⟩ := hw
   simp only [mark2, List.mem_cons, List.not_mem_nil, or_false] at hw
   rcases hw with rfl | rfl <;> rfl
  refine bd_ Try.func46 rfl Try.ntmps46 (by simp) fun um Q _ hQ => ?_
  simp only [argE, Nat.zero_add, Nat.reduceAdd]
  repeat (first | (apply wo_mo; apply bo_ (sz := 2) (vs := []); exact rfl; exact .nil; exact rfl; (intro v hv; cases hv); omega; exact trivial) | refine bb_ ?_ | (refine wR ?_; try simp only [oS]) | refine ba_ ?_ | refine wM ?_ | refine wA ?_ | (apply wo_po; apply bh_; exact rfl; exact rfl; apply gf_; apply df_; exact gY) | refine wF ?_ | refine bk_ ?_)
  rintro v' L' ⟨nb, rfl, rfl⟩
  refine fo_ (vec 2 (.slice (some ⟨nb, 0, none⟩) 0 0) [] :: L) (fun h st => jr_ (cs := []) rfl st) ?_
  repeat (first | (apply wo_mo; apply cz_ (sz := 2) (new := (marks.map mark2).flatten); exact rfl; exact rfl; exact rfl; exact rfl; exact .here; exact flat2 _; exact .inr ⟨_, _, rfl, fun i v hi => Rd.there (hr i v hi)⟩; exact h1; (simp only [db_]; omega); exact trivial) | refine wM ?_)
  rintro v' L' rfl
  repeat (first | refine ba_ ?_ | refine wA ?_ | refine br_ ?_)
  (first | refine or1 Try.func46 Try.results46 hQ rfl ?_ | refine on1 Try.func46 Try.results46 hQ rfl ?_)
  exact ⟨rfl, rfl⟩
theorem marks_tr (hl : marks.length < 1000000) (hh : Has L (hs_ nb marks) F) :
  Tr Try.prog B 24 [.pointer (some ⟨nb, 0, none⟩)] L x fun v L' x' => L' = vec 2 v (marks.map mark2).flatten :: hs_ nb marks :: F ∧ x' = x := by
 refine tr_ex hh fun mv => da_ _ (fun h st => bt_ st) ?_
 simp only [List.cons_append, List.nil_append]
 refine Tr.post (R := fun v L' x' => L' = vec 2 v (marks.map mark2).flatten :: arr nb 0 [.bool true, mv] :: vec 2 mv (marks.map mark2).flatten :: F ∧ x' = x) ?_
  (by
   rintro v L' x' ⟨rfl, rfl⟩
   exact ⟨_, ⟨rfl, rfl⟩, fun h st => bp_ st (fun _ y => y) (fun _ y => bp_ (bm_ (M := [_, _]) y) (fun _ z => ⟨mv, z⟩) (fun _ z => z))⟩)
 refine dw_ (bu_ (.there .here) (bi_ (by omega))) ?_
 rintro ⟨ra, rl, rc, rfl, hlen, hrc, hra, hra2⟩
 rw [flat2] at hlen
 have hrl : rl = marks.length := by omega
 subst hrl
 have hr0 : Rd (arr nb 0 [.bool true, .slice ra marks.length rc] :: vec 2 (.slice ra marks.length rc) (marks.map mark2).flatten :: F) nb 0 (.bool true) := Rd.row (k := 0) rfl rfl
 have hr1 : Rd (arr nb 0 [.bool true, .slice ra marks.length rc] :: vec 2 (.slice ra marks.length rc) (marks.map mark2).flatten :: F) nb 1 (.slice ra marks.length rc) := Rd.row (k := 1) rfl rfl
 have ha : (ra = none ∧ marks.length = 0) ∨ ∃ b o, ra = some ⟨b, o, none⟩ ∧ Rds (arr nb 0 [.bool true, .slice ra marks.length rc] :: vec 2 (.slice ra marks.length rc) (marks.map mark2).flatten :: F) b o (marks.map mark2).flatten := by
  cases ra with
  | none => exact .inl ⟨rfl, hra rfl⟩
  | some y =>
   obtain ⟨b, o, sp⟩ := y
   cases hra2 _ rfl
   exact .inr ⟨b, o, rfl, fun i v hi => dc_ (.there .here) hi⟩
 refine bd_ Try.func24 rfl Try.ntmps24 (by simp) fun um Q _ hQ => ?_
 simp only [argE, Nat.zero_add, Nat.reduceAdd]
 repeat (first | (apply wo_po; apply bc_; exact rfl; exact hr0; exact gY) | (apply wo_po; apply bc_; exact rfl; exact hr1; exact trivial) | refine bb_ ?_ | (refine wR ?_; try simp only [oS]) | refine ba_ ?_ | refine wM ?_ | refine wA ?_ | refine wJ ?_ | refine wN ?_ | refine wD ?_ | (apply wo_po; apply dq_; exact rfl; exact gY) | (apply wo_po; apply bh_; exact rfl; exact rfl; apply gf_; apply dg_; exact gY) | refine wF ?_ | refine bk_ ?_)
 refine bj_ (.cons rfl .nil) trivial (clone_tr hl rfl ha) ?_
 rintro v L' x' ⟨rfl, rfl⟩
 repeat (first | refine ba_ ?_ | refine wA ?_ | refine br_ ?_)
 (first | refine or1 Try.func24 Try.results24 hQ rfl ?_ | refine on1 Try.func24 Try.results24 hQ rfl ?_)
 exact ⟨rfl, rfl⟩
def RdM (L : List HProp) (a : Option Addr) (l : List (Int × Nat)) : Prop := ∀ i m, l[i]? = some m → ∃ b o, a = some ⟨b, o, none⟩ ∧ Rds L b (o + 2 * i) [.int .u8 m.1, .int .i64 (m.2 : Nat)]
omit [Lets B] in
theorem RdM.vec {a : Option Addr} {n c : Nat} {l : List (Int × Nat)} (hh : Has L (vec 2 (.slice a n c) (l.map mark2).flatten) F) (ha : ∀ y, a = some y → y = ⟨y.block, y.off, none⟩) (hn : a = none → l = []) : RdM L a l := by
 intro i m hi
 cases a with
 | none => rw [hn rfl] at hi; simp at hi
 | some y =>
  obtain ⟨b, o, sp⟩ := y
  cases ha _ rfl
  refine ⟨b, o, rfl, fun j v hj => ?_⟩
  have hj2 : j < 2 := (List.getElem?_eq_some_iff.1 hj).1
  have := dc_ (i := 2 * i + j) (v := v) hh (by rw [hv_ (k := 2) (fun _ => rfl) _ _ _ _ hi hj2]; exact hj)
  rwa [← Nat.add_assoc] at this
def marksInv (x : B.X) (L : List HProp) (a a' : Option Addr) (n c c' : Nat) (l l' : List (Int × Nat)) : Inv Nat B.X where
 e := fun i => [(0, .slice a n c), (1, .slice a' n c'), (5, .int .i64 i)]
 L := fun _ => L
 x := fun _ => x
 ok := fun i => i ≤ n ∧ l.take i = l'.take i
theorem same_marks_tr {a a' : Option Addr} {n n' c c' : Nat} {l l' : List (Int × Nat)} (hn : n = l.length) (hn' : n' = l'.length) (hl : n < 1000000000) (h1 : RdM L a l) (h2 : RdM L a' l') :
  Tr Try.prog B 23 [.slice a n c, .slice a' n' c'] L x fun v L' x' => v = .bool (decide (l = l')) ∧ L' = L ∧ x' = x := by
 by_cases hlen : n = n'
 ·subst hlen
  refine bd_ Try.func23 rfl Try.ntmps23 (by simp) fun um Q _ hQ => ?_
  simp only [argE, Nat.zero_add, Nat.reduceAdd]
  repeat (first | refine wneqF ?_ | refine bb_ ?_ | (refine wR ?_; try simp only [oS]) | refine ba_ ?_ | refine wM ?_ | refine wA ?_ | refine wE ?_ | refine wF ?_ | refine bk_ ?_ | refine bg_ ?_)
  refine co_ (marksInv x L a a' n c c' l l') (fun i => n - i) 0 ⟨by omega, by simp⟩ ⟨rfl, rfl, rfl, trivial⟩ .refl rfl ?_
  rintro i ⟨hi, ht⟩
  dsimp only [marksInv] at hi ht ⊢
  by_cases hc : i < n
  ·obtain ⟨v, hv⟩ : ∃ v, l[i]? = some v := ⟨l[i]'(by omega), by simp⟩
   obtain ⟨v', hv'⟩ : ∃ v, l'[i]? = some v := ⟨l'[i]'(by omega), by simp⟩
   obtain ⟨b1, o1, rfl, r1⟩ := h1 i v hv
   obtain ⟨b2, o2, rfl, r2⟩ := h2 i v' hv'
   obtain ⟨q, hq⟩ : ∃ q, decide (v.1 = v'.1 ∧ (v.2 : Int) = v'.2) = q := ⟨_, rfl⟩
   have heq := eql_two (p := ⟨Try.underlying109⟩) (P := Try.prog) (t := 109) (x := .tmp 20) (y := .tmp 24) (a0 := v.1) (b0 := v'.1) (a1 := v.2) (b1 := v'.2) (k0 := .u8) (k1 := .i64) (by kernel_rfl) (by kernel_rfl) (by decide) (by decide) rfl rfl (by kernel_rfl) (by kernel_rfl)
   rw [hq] at heq
   repeat (first | refine wlssT ?_ | refine bb_ ?_ | (refine wR ?_; try simp only [oS]) | refine ba_ ?_ | refine wM ?_ | refine wE ?_ | refine wT ?_ | refine bk_ ?_ | refine bg_ ?_)
   refine bv_ [0, 1, 2, 3, 4, 5, 6, 7, 8] (by kernel_rfl) ?_
   repeat (first | (apply be_; exact rfl; exact rfl; exact trivial; intro L; apply ce_ (r := o1 + 2 * i); exact rfl; exact rfl; omega; omega; omega) | (apply be_; exact rfl; exact rfl; exact trivial; intro L; apply ce_ (r := o2 + 2 * i); exact rfl; exact rfl; omega; omega; omega) | (apply bn_; exact rfl; exact rfl; exact trivial; apply ch_ (vs := [.int .u8 v.1, .int .i64 (v.2 : Nat)]); exact rfl; exact rfl; exact r1) | (apply bn_; exact rfl; exact rfl; exact trivial; apply ch_ (vs := [.int .u8 v'.1, .int .i64 (v'.2 : Nat)]); exact rfl; exact rfl; exact r2) | (apply be_; exact rfl; exact rfl; exact trivial; intro L; apply bh_; exact rfl; exact rfl; apply dv_; exact heq) | refine aM ?_ | refine ca_ ?_)
   cases q
   ·repeat (first | refine bb_ ?_ | (refine wR ?_; try simp only [oS]) | refine ba_ ?_ | refine wA ?_ | refine wT ?_ | refine br_ ?_)
    (first | refine or1 Try.func23 Try.results23 hQ rfl ?_ | refine on1 Try.func23 Try.results23 hQ rfl ?_)
    have : l ≠ l' := fun h => by
     rw [h, hv'] at hv; cases hv
     simp at hq
    exact ⟨by rw [decide_eq_false this], rfl, rfl⟩
   ·repeat (first | (refine wR ?_; try simp only [oS]) | refine ba_ ?_ | refine wM ?_ | refine wA ?_ | refine wadd ?_ | refine wF ?_ | refine bk_ ?_)
    refine dm_ (I := marksInv x L _ _ n c c' l l') (R := fun i' => n - i' < n - i) (i + 1) (by omega) ⟨by omega, ?_⟩ ⟨rfl, rfl, rfl, trivial⟩ .refl rfl
    have hq' := of_decide_eq_true hq
    have : v = v' := Prod.ext hq'.1 (by omega)
    rw [List.take_add_one, List.take_add_one, ht, hv, hv', this]
  ·repeat (first | refine wlssF ?_ | refine bb_ ?_ | (refine wR ?_; try simp only [oS]) | refine ba_ ?_ | refine wM ?_ | refine wA ?_ | refine wE ?_ | refine wF ?_ | refine br_ ?_ | refine cm_ ?_)
   (first | refine or1 Try.func23 Try.results23 hQ rfl ?_ | refine on1 Try.func23 Try.results23 hQ rfl ?_)
   have : l = l' := by
    rw [List.take_of_length_le (by omega), List.take_of_length_le (by omega)] at ht
    exact ht
   exact ⟨by rw [decide_eq_true this], rfl, rfl⟩
 ·have hne : ¬ (n : Int) = n' := by omega
  refine bd_ Try.func23 rfl Try.ntmps23 (by simp) fun um Q _ hQ => ?_
  simp only [argE, Nat.zero_add, Nat.reduceAdd]
  repeat (first | refine wneqT ?_ | refine bb_ ?_ | (refine wR ?_; try simp only [oS]) | refine ba_ ?_ | refine wM ?_ | refine wA ?_ | refine wE ?_ | refine wT ?_ | refine br_ ?_)
  (first | refine or1 Try.func23 Try.results23 hQ rfl ?_ | refine on1 Try.func23 Try.results23 hQ rfl ?_)
  have : l ≠ l' := fun h => hlen (by rw [hn, hn', h])
  exact ⟨by rw [decide_eq_false this], rfl, rfl⟩
end
section
section
variable {B : Hand} [Lets B] {L F G : List HProp} {x : B.X} {n k v : Nat}
def rowOf (N : Nat) (f : Nat → Nat) : List Nat := (List.range N).map f
theorem gu_ {N : Nat} {f : Nat → Nat} : (rowOf N f).length = N := by simp [rowOf]
theorem cd_ {N i : Nat} {f : Nat → Nat} (h : i < N) : (rowOf N f)[i]? = some (f i) := by simp [rowOf, h]
theorem qr_ {N q v : Nat} {f : Nat → Nat} : (rowOf N f).set q v = rowOf N (upd f q v) := by
 apply List.ext_getElem?
 intro i
 rw [List.getElem?_set, gu_]
 by_cases h : q = i
 ·subst h
  by_cases hi : q < N
  ·rw [if_pos rfl, if_pos hi, cd_ hi, td_]
  ·rw [if_pos rfl, if_neg hi]; simp [rowOf, hi]
 ·rw [if_neg h]
  by_cases hi : i < N
  ·rw [cd_ hi, cd_ hi, hn_ (fun e => h e.symm)]
  ·simp [rowOf, hi]
theorem mc_ {N q v : Nat} {f : Nat → Nat} : [rowOf N f].set 0 ((rowOf N f).set q v) = [rowOf N (upd f q v)] := by
 rw [qr_]; rfl
def mkI (m : Nat × Nat) : Int × Nat := ((m.1 : Nat), m.2)
theorem cl_new {kb k : Nat} {cl : Mach.Cl} {cs : List Value} (hc : cs = (cl.code.map inC).flatten) (hk : k = cl.code.length) (hd : cl.data = []) {h : Hp} (s : Star (arr kb 0 cs :: L) h) : Star (clC (.slice (some ⟨kb, 0, none⟩) k k) (.slice none 0 0) cl :: L) h := by
 subst hc
 subst hk
 have s1 : Star (vec 7 (.slice (some ⟨kb, 0, none⟩) cl.code.length cl.code.length) (cl.code.map inC).flatten :: vec 1 (.slice none 0 0) [] :: L) h := by
  refine jr_ ?_ (cy_ (dr_ s))
  exact gj_ (k := 7) (fun _ => rfl) _
 refine bm_ (M := [_, _]) ?_
 rw [hd]
 exact s1
def yes (q : Bool) : Nat := if q then 1 else 0
theorem yes_tr {q : Bool} : Tr Try.prog B 42 [.bool q] L x fun v L' x' => v = num (yes q) ∧ L' = L ∧ x' = x := by
 cases q
 ·refine bd_ Try.func42 rfl Try.ntmps42 (by simp) fun um Q _ hQ => ?_
  simp only [argE, Nat.zero_add, Nat.reduceAdd]
  repeat (first | refine bb_ ?_ | (refine wR ?_; try simp only [oS]) | refine ba_ ?_ | refine wM ?_ | refine wA ?_ | refine wF ?_ | refine br_ ?_ | refine bk_ ?_)
  (first | refine or1 Try.func42 Try.results42 hQ rfl ?_ | refine on1 Try.func42 Try.results42 hQ rfl ?_)
  exact ⟨rfl, rfl, rfl⟩
 ·refine bd_ Try.func42 rfl Try.ntmps42 (by simp) fun um Q _ hQ => ?_
  simp only [argE, Nat.zero_add, Nat.reduceAdd]
  repeat (first | refine bb_ ?_ | (refine wR ?_; try simp only [oS]) | refine ba_ ?_ | refine wM ?_ | refine wA ?_ | refine wT ?_ | refine br_ ?_)
  (first | refine or1 Try.func42 Try.results42 hQ rfl ?_ | refine on1 Try.func42 Try.results42 hQ rfl ?_)
  exact ⟨rfl, rfl, rfl⟩
theorem qd_ {wv lv kv dv : Value} {w w' : Mach.Wd} {cl : Mach.Cl} {g : Nat} {told : List Nat} {ms : List (Nat × Nat)} (h : Mach.Comes 30 g w cl w' told ms) (hcl : cl.ok = true) (hl : ms.length ≤ 16384) (hh : Has L (wvC wv lv w) G) (hc : Has G (clC kv dv cl) F) :
  Tr Try.prog B 20 [.agg #[wv, lv], .agg #[kv, dv]] L x fun v L' x' => ∃ toldV wv' lv' marksV : Value, v = .tuple #[toldV, .agg #[wv', lv'], marksV] ∧ L' = vec 1 toldV (told.map num) :: wvC wv' lv' w' :: vec 2 marksV (ms.map mkC).flatten :: wvC wv lv w :: F ∧ x' = x := by
 obtain ⟨st, t, hp, rfl, h2, h3, h4⟩ := h
 have e : st.tr.map (·.2) = ms := by rw [h4]; simp [Function.comp_def]
 have hlen : st.tr.length = ms.length := by rw [h4]; simp
 exact (alone_tr hp (by omega) hcl (by omega) h2 h3 hh hc).mono fun v L' x' ⟨a, b, c, d, e1, e2, e3⟩ => ⟨a, b, c, d, e1, by rw [e2, e], e3⟩
theorem marks_flat (ms : List (Nat × Nat)) : (ms.map mkC).flatten = ((ms.map mkI).map mark2).flatten := by
 rw [List.map_map]; rfl
end
end
end Go.Proofs.Ytdcbnbmahndecaa
namespace Go.Proofs.Ytdcbnbmahndecaa
open Go Go.PB
attribute [local irreducible] Mo Bin Eql Tr Wo Ap Wle
section
def rowDM (N M fu : Nat) : Wds where
 W := fun f => ⟨[rowOf N f], 1⟩
 un := fun w i => (w.row 0).getD i 0
 ok := fun f => ∀ i, i < N → f i < M
 fu := fu
 back := fun f => by
  have e : rowOf N (fun i => ((Mach.Wd.row ⟨[rowOf N f], 1⟩ 0)).getD i 0) = rowOf N f := by
   apply List.ext_getElem?
   intro i
   by_cases h : i < N
   ·rw [cd_ h, cd_ h]
    show some ((rowOf N f).getD i 0) = _
    rw [List.getD_eq_getElem?_getD, cd_ h]; rfl
   ·simp [rowOf, h]
  rw [e]
 okun := fun f h i hi => by
  show (rowOf N f).getD i 0 < _
  rw [List.getD_eq_getElem?_getD, cd_ hi]; exact h i hi
abbrev rowD (N : Nat) : Wds := rowDM N 18446744073709551616 30
theorem jp_ {N M fu i : Nat} {f : Nat → Nat} (h : i < N) : f i = (rowDM N M fu).un ((rowDM N M fu).W f) i := by
 show f i = (rowOf N f).getD i 0
 rw [List.getD_eq_getElem?_getD, cd_ h]; rfl
section
variable {D : Wds} {N k : Nat} {Pv : Nat × Mach.Th → HProp} {Pm : HProp}
theorem kt_ {addr : Nat → Nat × Nat} {K : List (Nat × Nat × Value)} {A : Apart addr N K} {Z : HProp} {hPv : ∀ q h, Star [Pv q] h → Pv q h} {sb says turn fin wg : Nat} {op w : Nat} {o : Int} {s : PlS} {R : PlS → Prop} {f0 : Nat → Nat} (ho : ((op : Nat) : Int) = o) (h0 : D.ok f0) (hfg : ∀ i, i < N → s.f i = s.g i) (hpm : ∀ h, Pm h → Pv (k, s.t) h)
  (hop : ∀ f, D.ok f → ∃ f' t', Mach.Op D.fu (D.W f) s.t (op, w) (D.W f') t' ∧ ∀ n, n < s.n → R ⟨f, D.un (D.W f'), t', n⟩) : (kk_ D addr N K A Z Pv hPv sb says turn fin wg k Pm).step o w s R := by
 obtain ⟨_, _, o1, _⟩ := hop f0 h0
 refine ⟨o1.over, by rw [o1.mark]; exact ho, by rw [o1.mark], hfg, hpm, fun f n hn hf => ?_⟩
 obtain ⟨f', t', o', h⟩ := hop f hf
 exact ⟨_, o'.on, h n hn⟩
theorem ji_ {m : Nat × Nat} {t : Mach.Th} {f0 : Nat → Nat} (h0 : D.ok f0) (hop : ∀ f, D.ok f → ∃ f' t', Mach.Op D.fu (D.W f) t m (D.W f') t' ∧ D.ok f' ∧ GoodT D t') : GoodT D t := by
 obtain ⟨_, _, o, _⟩ := hop f0 h0
 refine GoodT.mk o.over fun f hf => ?_
 obtain ⟨f', t', o', h1, h2⟩ := hop f hf
 exact ⟨f', t', o'.on, h1, h2⟩
end
theorem fc_ {N M fu : Nat} (h : 0 < M := by decide) : (rowDM N M fu).ok (fun _ => 0) := fun i _ => h
theorem tj_ {N M fu q v : Nat} {f : Nat → Nat} (h : (rowDM N M fu).ok f) (hv : v < M) : (rowDM N M fu).ok (upd f q v) := fun i hi => by
 unfold upd
 split
 ·exact hv
 ·exact h i hi
end
end Go.Proofs.Ytdcbnbmahndecaa
namespace Go.PB.Mach
section
def putCl (n v : Nat) : Cl := ⟨[⟨6, 0, 15, 0, 0, 0, v⟩, ⟨6, 0, 13, 0, 0, 0, n⟩, ⟨1, 0, 11, 9, 0, 0, 1⟩, ⟨1, 0, 10, 9, 0, 0, 0⟩, ⟨9, 0, 12, 11, 10, 0, 0⟩, ⟨20, 0, 12, 13, 0, 0, 8⟩, ⟨22, 0, 9, 0, 0, 0, 0⟩, ⟨23, 0, 0, 0, 0, 0, 0⟩,
 ⟨6, 0, 14, 0, 0, 0, n - 1⟩, ⟨12, 0, 14, 14, 11, 0, 0⟩, ⟨2, 0, 15, 14, 0, 0, 2⟩, ⟨8, 0, 11, 11, 9, 0, 1⟩, ⟨2, 0, 11, 9, 0, 0, 1⟩, ⟨6, 0, 16, 0, 0, 0, 1⟩, ⟨22, 0, 16, 0, 0, 0, 0⟩], []⟩
def takeCl (n : Nat) : Cl := ⟨[⟨1, 0, 10, 9, 0, 0, 0⟩, ⟨1, 0, 11, 9, 0, 0, 1⟩, ⟨19, 0, 10, 11, 0, 0, 11⟩, ⟨6, 0, 14, 0, 0, 0, n - 1⟩, ⟨12, 0, 14, 14, 10, 0, 0⟩, ⟨1, 0, 15, 14, 0, 0, 2⟩, ⟨8, 0, 10, 10, 9, 0, 1⟩, ⟨2, 0, 10, 9, 0, 0, 0⟩,
 ⟨6, 0, 16, 0, 0, 0, 1⟩, ⟨22, 0, 15, 0, 0, 0, 0⟩, ⟨18, 0, 0, 0, 0, 0, 12⟩, ⟨22, 0, 9, 0, 0, 0, 0⟩, ⟨22, 0, 16, 0, 0, 0, 0⟩], []⟩
def lenCl (n : Nat) : Cl := ⟨[⟨1, 0, 10, 9, 0, 0, 0⟩, ⟨1, 0, 11, 9, 0, 0, 1⟩, ⟨9, 0, 12, 11, 10, 0, 0⟩, ⟨6, 0, 13, 0, 0, 0, n⟩, ⟨20, 0, 12, 13, 0, 0, 6⟩, ⟨7, 0, 12, 13, 0, 0, 0⟩, ⟨22, 0, 12, 0, 0, 0, 0⟩], []⟩
variable {n k v : Nat} {l : List Nat}
theorem mask_mod (hn : n = 2 ^ k) (p : Nat) : ((n - 1) &&& p) = p % n := by
 rw [hn, Nat.and_comm, Nat.and_two_pow_sub_one_eq_mod]
def z0 : Nat → Nat := fun _ => 0
def pr1 (n v : Nat) : Nat → Nat := upd (upd z0 15 v) 13 n
def pr2 (n v p : Nat) : Nat → Nat := upd (pr1 n v) 11 p
def pr3 (n v p t d q : Nat) : Nat → Nat := upd (upd (upd (upd (pr2 n v p) 10 t) 12 d) 14 (n - 1)) 14 q
def pr4 (n v p t d q p1 : Nat) : Nat → Nat := upd (pr3 n v p t d q) 11 p1
variable {cs : List Cl} {c : Nat} {pre : List (Bool × List Nat)} {w : Wd} {t' : Th} {p t d q : Nat}
theorem put_on' (hc : cs[c]? = some (putCl n v)) (h0 : pre.length = c) (hn : n < 18446744073709551616) (hv : v < 18446744073709551616) : onF 20 (T cs c 0 z0 pre []) = some (T cs c 2 (pr1 n v) pre []) :=
 ((Goes.on1 (pm_ hc h0 rfl (Nat.mod_eq_of_lt hv)) (Goes.on1 (pm_ hc h0 rfl (Nat.mod_eq_of_lt hn)) (jh_ hc h0 rfl rfl))))
theorem put_on (hc : cs[c]? = some (putCl n v)) (h0 : pre.length = c) (hn : n < 18446744073709551616) (hv : v < 18446744073709551616) : onF 20 (Bt cs c pre) = some (T cs c 2 (pr1 n v) pre []) :=
 (tr_ hc h0).trans (put_on' hc h0 hn hv)
theorem put_2 (hc : cs[c]? = some (putCl n v)) (h0 : pre.length = c) (hw : w.words[0]? = some l) (hv : l[1]? = some p) : Op 30 w (T cs c 2 (pr1 n v) pre []) (1, 1) w (T cs c 3 (pr2 n v p) pre []) :=
 jg_ (vb := 0) hc rfl hw rfl rfl hv (jh_ hc h0 rfl rfl)
theorem put_3F (hc : cs[c]? = some (putCl n v)) (h0 : pre.length = c) (hw : w.words[0]? = some l) (hv : l[0]? = some t) (hd : (p + 18446744073709551616 - t) % 18446744073709551616 = d) (hf : ¬ d < n) (ho : onF 20 (Bt cs (c + 1) (pre ++ [(true, [0])])) = some t') : Op 30 w (T cs c 3 (pr2 n v p) pre []) (1, 0) w t' :=
 jg_ (vb := 0) hc rfl hw rfl rfl hv ((Goes.on1 (wm_ hc h0 rfl hd rfl rfl) (Goes.on1 (st_belowF hc h0 rfl hf rfl rfl) (Goes.on1 (ki_ hc h0 rfl rfl) (Goes.on1 (goes_finish hc h0 rfl) (onF_more (k := 6) ho))))))
theorem put_3T (hc : cs[c]? = some (putCl n v)) (h0 : pre.length = c) (hw : w.words[0]? = some l) (hv : l[0]? = some t) (hn : n < 18446744073709551616) (hd : (p + 18446744073709551616 - t) % 18446744073709551616 = d) (hf : d < n) (hq : ((n - 1) &&& p) % 18446744073709551616 = q) : Op 30 w (T cs c 3 (pr2 n v p) pre []) (1, 0) w (T cs c 10 (pr3 n v p t d q) pre []) :=
 jg_ (vb := 0) hc rfl hw rfl rfl hv ((Goes.on1 (wm_ hc h0 rfl hd rfl rfl) (Goes.on1 (st_belowT hc h0 rfl hf rfl rfl) (Goes.on1 (pm_ hc h0 rfl (Nat.mod_eq_of_lt (by omega))) (Goes.on1 (st_and hc h0 rfl hq rfl rfl) (jh_ hc h0 rfl rfl))))))
theorem put_10 {p1 : Nat} {ws : List (List Nat)} (hc : cs[c]? = some (putCl n v)) (h0 : pre.length = c) (hw : w.words[0]? = some l) (hq : q + 2 < l.length) (hql : q + 2 < 18446744073709551616) (hp1 : (p + 1) % 18446744073709551616 = p1) (hws : w.words.set 0 (l.set (q + 2) v) = ws) : Op 30 w (T cs c 10 (pr3 n v p t d q) pre []) (2, q + 2) ⟨ws, w.nl⟩ (T cs c 12 (pr4 n v p t d q p1) pre []) :=
 op_store (vb := q) hc rfl hw rfl (Nat.mod_eq_of_lt hql) rfl hq hws ((Goes.on1 (st_plus (vc := 0) hc h0 rfl hp1 rfl rfl) (jh_ hc h0 rfl rfl)))
theorem put_12 {p1 : Nat} {ws : List (List Nat)} (hc : cs[c]? = some (putCl n v)) (h0 : pre.length = c) (hw : w.words[0]? = some l) (hq : 1 < l.length) (hws : w.words.set 0 (l.set 1 p1) = ws) (ho : onF 20 (Bt cs (c + 1) (pre ++ [(true, [1])])) = some t') : Op 30 w (T cs c 12 (pr4 n v p t d q p1) pre []) (2, 1) ⟨ws, w.nl⟩ t' :=
 op_store (vb := 0) hc rfl hw rfl rfl rfl hq hws ((Goes.on1 (pm_ hc h0 rfl rfl) (Goes.on1 (ki_ hc h0 rfl rfl) (Goes.on1 (pv_ hc h0 rfl) (onF_more (k := 7) ho)))))
def tk1 (p : Nat) : Nat → Nat := upd z0 10 p
def tk2 (n t p q : Nat) : Nat → Nat := upd (upd (upd (tk1 t) 11 p) 14 (n - 1)) 14 q
def tk3 (n t p q v t1 : Nat) : Nat → Nat := upd (upd (tk2 n t p q) 15 v) 10 t1
theorem xi_ (hc : cs[c]? = some (takeCl n)) (h0 : pre.length = c) : onF 20 (T cs c 0 z0 pre []) = some (T cs c 0 z0 pre []) :=
 (jh_ hc h0 rfl rfl)
theorem take_on (hc : cs[c]? = some (takeCl n)) (h0 : pre.length = c) : onF 20 (Bt cs c pre) = some (T cs c 0 z0 pre []) :=
 (tr_ hc h0).trans (xi_ hc h0)
theorem take_0 (hc : cs[c]? = some (takeCl n)) (h0 : pre.length = c) (hw : w.words[0]? = some l) (hv : l[0]? = some t) : Op 30 w (T cs c 0 z0 pre []) (1, 0) w (T cs c 1 (tk1 t) pre []) :=
 jg_ (vb := 0) hc rfl hw rfl rfl hv (jh_ hc h0 rfl rfl)
theorem take_1F (hc : cs[c]? = some (takeCl n)) (h0 : pre.length = c) (hw : w.words[0]? = some l) (hv : l[1]? = some p) (e : t = p) (ho : onF 20 (Bt cs (c + 1) (pre ++ [(true, [0, 0])])) = some t') : Op 30 w (T cs c 1 (tk1 t) pre []) (1, 1) w t' :=
 jg_ (vb := 0) hc rfl hw rfl rfl hv ((Goes.on1 (st_sameT hc h0 rfl e rfl rfl) (Goes.on1 (ki_ hc h0 rfl rfl) (Goes.on1 (ki_ hc h0 rfl rfl) (Goes.on1 (pv_ hc h0 rfl) (onF_more (k := 6) ho))))))
theorem take_1T (hc : cs[c]? = some (takeCl n)) (h0 : pre.length = c) (hw : w.words[0]? = some l) (hv : l[1]? = some p) (hn : n < 18446744073709551616) (e : ¬ t = p) (hq : ((n - 1) &&& t) % 18446744073709551616 = q) : Op 30 w (T cs c 1 (tk1 t) pre []) (1, 1) w (T cs c 5 (tk2 n t p q) pre []) :=
 jg_ (vb := 0) hc rfl hw rfl rfl hv ((Goes.on1 (st_sameF hc h0 rfl e rfl rfl) (Goes.on1 (pm_ hc h0 rfl (Nat.mod_eq_of_lt (by omega))) (Goes.on1 (st_and hc h0 rfl hq rfl rfl) (jh_ hc h0 rfl rfl)))))
theorem take_5 {t1 : Nat} (hc : cs[c]? = some (takeCl n)) (h0 : pre.length = c) (hw : w.words[0]? = some l) (hv : l[q + 2]? = some v) (hql : q + 2 < 18446744073709551616) (ht1 : (t + 1) % 18446744073709551616 = t1) : Op 30 w (T cs c 5 (tk2 n t p q) pre []) (1, q + 2) w (T cs c 7 (tk3 n t p q v t1) pre []) :=
 jg_ (vb := q) hc rfl hw rfl (Nat.mod_eq_of_lt hql) hv ((Goes.on1 (st_plus (vc := 0) hc h0 rfl ht1 rfl rfl) (jh_ hc h0 rfl rfl)))
theorem take_7 {t1 : Nat} {ws : List (List Nat)} (hc : cs[c]? = some (takeCl n)) (h0 : pre.length = c) (hw : w.words[0]? = some l) (hq : 0 < l.length) (hws : w.words.set 0 (l.set 0 t1) = ws) (ho : onF 20 (Bt cs (c + 1) (pre ++ [(true, [v, 1])])) = some t') : Op 30 w (T cs c 7 (tk3 n t p q v t1) pre []) (2, 0) ⟨ws, w.nl⟩ t' :=
 op_store (vb := 0) hc rfl hw rfl rfl rfl hq hws ((Goes.on1 (pm_ hc h0 rfl rfl) (Goes.on1 (ki_ hc h0 rfl rfl) (Goes.on1 (goes_jump hc h0 rfl) (Goes.on1 (ki_ hc h0 rfl rfl) (Goes.on1 (pv_ hc h0 rfl) (onF_more (k := 5) ho)))))))
theorem len_on' (hc : cs[c]? = some (lenCl n)) (h0 : pre.length = c) : onF 20 (T cs c 0 z0 pre []) = some (T cs c 0 z0 pre []) :=
 (jh_ hc h0 rfl rfl)
theorem len_on (hc : cs[c]? = some (lenCl n)) (h0 : pre.length = c) : onF 20 (Bt cs c pre) = some (T cs c 0 z0 pre []) :=
 (tr_ hc h0).trans (len_on' hc h0)
theorem len_0 (hc : cs[c]? = some (lenCl n)) (h0 : pre.length = c) (hw : w.words[0]? = some l) (hv : l[0]? = some t) : Op 30 w (T cs c 0 z0 pre []) (1, 0) w (T cs c 1 (tk1 t) pre []) :=
 jg_ (vb := 0) hc rfl hw rfl rfl hv (jh_ hc h0 rfl rfl)
theorem len_1 (hc : cs[c]? = some (lenCl n)) (h0 : pre.length = c) (hw : w.words[0]? = some l) (hv : l[1]? = some p) (hn : n < 18446744073709551616) (hd : (p + 18446744073709551616 - t) % 18446744073709551616 = d) (ho : onF 20 (Bt cs (c + 1) (pre ++ [(true, [min d n])])) = some t') : Op 30 w (T cs c 1 (tk1 t) pre []) (1, 1) w t' := by
 by_cases hf : d < n
 ·rw [Nat.min_eq_left (Nat.le_of_lt hf)] at ho
  exact jg_ (vb := 0) hc rfl hw rfl rfl hv ((Goes.on1 (wm_ hc h0 rfl hd rfl rfl) (Goes.on1 (pm_ hc h0 rfl (Nat.mod_eq_of_lt hn)) (Goes.on1 (st_belowT hc h0 rfl hf rfl rfl) (Goes.on1 (ki_ hc h0 rfl rfl) (Goes.on1 (pv_ hc h0 rfl) (onF_more (k := 5) ho)))))))
 ·rw [Nat.min_eq_right (by omega)] at ho
  exact jg_ (vb := 0) hc rfl hw rfl rfl hv ((Goes.on1 (wm_ hc h0 rfl hd rfl rfl) (Goes.on1 (pm_ hc h0 rfl (Nat.mod_eq_of_lt hn)) (Goes.on1 (st_belowF hc h0 rfl hf rfl rfl) (Goes.on1 (st_copy hc h0 rfl (Nat.mod_eq_of_lt hn) rfl) (Goes.on1 (ki_ hc h0 rfl rfl) (Goes.on1 (pv_ hc h0 rfl) (onF_more (k := 4) ho))))))))
section
variable {l1 : List Nat}
theorem put_alone (hn : n = 2 ^ k) (hk : k ≤ 10) (hl : l.length = n + 2) (hv : v < 18446744073709551616) (hp : l[1]? = some p) (ht : l[0]? = some t) :
  if (p + 18446744073709551616 - t) % 18446744073709551616 < n then Comes 30 9 ⟨[l], 1⟩ (putCl n v) ⟨[(l.set (p % n + 2) v).set 1 ((p + 1) % 18446744073709551616)], 1⟩ [1] [(1, 1), (1, 0), (2, p % n + 2), (2, 1)]
  else Comes 30 9 ⟨[l], 1⟩ (putCl n v) ⟨[l], 1⟩ [0] [(1, 1), (1, 0)] := by
 have hle : n ≤ 1024 := by rw [hn]; exact fp_ hk
 have hpos : 0 < n := by rw [hn]; exact Nat.two_pow_pos k
 have hm : p % n < n := Nat.mod_lt _ hpos
 have hc : [putCl n v][0]? = some (putCl n v) := rfl
 have h0 : ([] : List (Bool × List Nat)).length = 0 := rfl
 have hend : ∀ pre : List (Bool × List Nat), onF 20 (Bt [putCl n v] 1 pre) = some { Bt [putCl n v] 1 pre with over := true } := fun pre => on_over (f := 19) rfl
 have hq : ((n - 1) &&& p) % 18446744073709551616 = p % n := by rw [mask_mod hn]; omega
 split
 ·rename_i hf
  refine qb_ (onF_more (k := 10) (put_on' hc h0 (by omega) hv)) ?_ (by simp)
  refine gq_ (put_2 hc h0 rfl hp) ?_
  refine gq_ (put_3T hc h0 rfl ht (by omega) rfl hf hq) ?_
  refine gq_ (put_10 hc h0 rfl (by omega) (by omega) rfl rfl) ?_
  refine gq_ (put_12 hc h0 rfl (by rw [List.length_set]; omega) rfl (hend _)) ?_
  exact pn_ rfl
 ·rename_i hf
  refine qb_ (onF_more (k := 10) (put_on' hc h0 (by omega) hv)) ?_ (by simp)
  refine gq_ (put_2 hc h0 rfl hp) ?_
  refine gq_ (put_3F hc h0 rfl ht rfl hf (hend _)) ?_
  exact pn_ rfl
theorem take_alone (hn : n = 2 ^ k) (hk : k ≤ 10) (hl : l.length = n + 2) (hp : l[1]? = some p) (ht : l[0]? = some t) (hv : l[t % n + 2]? = some v) :
  if t = p then Comes 30 9 ⟨[l], 1⟩ (takeCl n) ⟨[l], 1⟩ [0, 0] [(1, 0), (1, 1)]
  else Comes 30 9 ⟨[l], 1⟩ (takeCl n) ⟨[l.set 0 ((t + 1) % 18446744073709551616)], 1⟩ [v, 1] [(1, 0), (1, 1), (1, t % n + 2), (2, 0)] := by
 have hle : n ≤ 1024 := by rw [hn]; exact fp_ hk
 have hpos : 0 < n := by rw [hn]; exact Nat.two_pow_pos k
 have hm : t % n < n := Nat.mod_lt _ hpos
 have hc : [takeCl n][0]? = some (takeCl n) := rfl
 have h0 : ([] : List (Bool × List Nat)).length = 0 := rfl
 have hend : ∀ pre : List (Bool × List Nat), onF 20 (Bt [takeCl n] 1 pre) = some { Bt [takeCl n] 1 pre with over := true } := fun pre => on_over (f := 19) rfl
 have hq : ((n - 1) &&& t) % 18446744073709551616 = t % n := by rw [mask_mod hn]; omega
 split
 ·rename_i hf
  refine qb_ (onF_more (k := 10) (xi_ hc h0)) ?_ (by simp)
  refine gq_ (take_0 hc h0 rfl ht) ?_
  refine gq_ (take_1F hc h0 rfl hp hf (hend _)) ?_
  exact pn_ rfl
 ·rename_i hf
  refine qb_ (onF_more (k := 10) (xi_ hc h0)) ?_ (by simp)
  refine gq_ (take_0 hc h0 rfl ht) ?_
  refine gq_ (take_1T hc h0 rfl hp (by omega) hf hq) ?_
  refine gq_ (take_5 hc h0 rfl hv (by omega) rfl) ?_
  refine gq_ (take_7 hc h0 rfl (by omega) rfl (hend _)) ?_
  exact pn_ rfl
theorem len_alone (hn : n = 2 ^ k) (hk : k ≤ 10) (hp : l[1]? = some p) (ht : l[0]? = some t) :
  Comes 30 9 ⟨[l], 1⟩ (lenCl n) ⟨[l], 1⟩ [min ((p + 18446744073709551616 - t) % 18446744073709551616) n] [(1, 0), (1, 1)] := by
 have hle : n ≤ 1024 := by rw [hn]; exact fp_ hk
 have hc : [lenCl n][0]? = some (lenCl n) := rfl
 have h0 : ([] : List (Bool × List Nat)).length = 0 := rfl
 have hend : ∀ pre : List (Bool × List Nat), onF 20 (Bt [lenCl n] 1 pre) = some { Bt [lenCl n] 1 pre with over := true } := fun pre => on_over (f := 19) rfl
 refine qb_ (onF_more (k := 10) (len_on' hc h0)) ?_ (by simp)
 refine gq_ (len_0 hc h0 rfl ht) ?_
 refine gq_ (len_1 hc h0 rfl hp (by omega) rfl (hend _)) ?_
 exact pn_ rfl
end
end
end Go.PB.Mach
namespace Go.Proofs.Ytdcbnbmahndecaa
open Go Go.PB
attribute [local irreducible] Mo Bin Eql Tr Wo Ap
section
section
variable {B : Hand} [Lets B] {L F : List HProp} {x : B.X} {n v : Nat}
theorem ref_len_tr (hn : n ≤ 1024) : Tr Try.prog B 45 [.int .i64 (n : Nat)] L x fun w L' x' => ∃ kb m, w = .agg #[.slice (some ⟨kb, 0, none⟩) m m, .slice none 0 0] ∧ L' = clC (.slice (some ⟨kb, 0, none⟩) m m) (.slice none 0 0) (Mach.lenCl n) :: L ∧ x' = x := by
 refine Tr.post (R := fun v L' x' => ∃ kb m, v = .agg #[.slice (some ⟨kb, 0, none⟩) m m, .slice none 0 0] ∧ x' = x ∧ ∀ h, Star L' h → Star (clC (.slice (some ⟨kb, 0, none⟩) m m) (.slice none 0 0) (Mach.lenCl n) :: L) h) ?_
  (by rintro v L' x' ⟨kb, m, rfl, rfl, hs⟩; exact ⟨_, ⟨kb, m, rfl, rfl, rfl⟩, hs⟩)
 refine bd_ Try.func45 rfl Try.ntmps45 (by simp) fun um Q _ hQ => ?_
 simp only [argE, Nat.zero_add, Nat.reduceAdd]
 repeat (first | (apply wo_mo; apply cj_; exact trivial) | refine bb_ ?_ | (refine wR ?_; try simp only [oS]))
 rintro v' L' ⟨cb, rfl, rfl⟩
 repeat (first | (apply wo_po; apply gw_; (repeat (first | exact EvL.nil | apply EvL.cons rfl)); exact rfl; exact trivial) | (apply wo_mo; apply bo_ (sz := 7); exact rfl; (repeat (first | exact EvL.nil | apply EvL.cons rfl)); exact rfl; (intro v hv; simp only [List.mem_cons, List.not_mem_nil, or_false] at hv; rcases hv with rfl | rfl | rfl | rfl | rfl | rfl | rfl <;> rfl); omega; exact trivial) | refine bb_ ?_ | (refine wR ?_; try simp only [oS]) | refine ba_ ?_ | refine wM ?_ | (apply wo_po; apply dz_; exact rfl; (first | exact dd_ (by omega) (by omega) | exact wrap_u64 (by omega) (by omega)); exact gY))
 rintro v' L' ⟨kb, rfl, rfl⟩
 repeat (first | (apply wo_po; apply gw_; (repeat (first | exact EvL.nil | apply EvL.cons rfl)); exact rfl; exact trivial) | (apply wo_pm; apply ck_ (c := 0) (k := 0) (a := 0) (vs := [.slice none 0 0, .slice none 0 0]); exact rfl; exact rfl; exact rfl; (intro w hw; simp [Value.cells] at hw; rcases hw with rfl | rfl <;> rfl); exact rfl; exact Nat.le_refl 2; exact (.there .here); exact trivial) | refine ba_ ?_ | refine br_ ?_)
 refine fk_ (rs := [.cell 2 57]) Try.func45 Try.results45 hQ (.inl rfl) (.cons (.cell (vs := [.slice (some ⟨kb, 0, none⟩) 7 7, .slice none 0 0]) rfl rfl (Rds.all (.there .here))) .nil) ?_
 refine ⟨_, _, rfl, rfl, fun h st => ?_⟩
 refine cl_new (cl := Mach.lenCl n) ?_ rfl rfl (Ent.star (.take .here (.drop .refl)) st)
 rfl
theorem ref_take_tr (h1 : 1 ≤ n) (hn : n ≤ 1024) : Tr Try.prog B 44 [.int .i64 (n : Nat)] L x fun w L' x' => ∃ kb m, w = .agg #[.slice (some ⟨kb, 0, none⟩) m m, .slice none 0 0] ∧ L' = clC (.slice (some ⟨kb, 0, none⟩) m m) (.slice none 0 0) (Mach.takeCl n) :: L ∧ x' = x := by
 refine Tr.post (R := fun v L' x' => ∃ kb m, v = .agg #[.slice (some ⟨kb, 0, none⟩) m m, .slice none 0 0] ∧ x' = x ∧ ∀ h, Star L' h → Star (clC (.slice (some ⟨kb, 0, none⟩) m m) (.slice none 0 0) (Mach.takeCl n) :: L) h) ?_
  (by rintro v L' x' ⟨kb, m, rfl, rfl, hs⟩; exact ⟨_, ⟨kb, m, rfl, rfl, rfl⟩, hs⟩)
 have hsub : IntKind.i64.wrap ((n : Int) - 1) = ((n - 1 : Nat) : Int) := (dd_ (by omega) (by omega)).trans (by omega)
 refine bd_ Try.func44 rfl Try.ntmps44 (by simp) fun um Q _ hQ => ?_
 simp only [argE, Nat.zero_add, Nat.reduceAdd]
 repeat (first | (apply wo_mo; apply cj_; exact trivial) | refine bb_ ?_ | (refine wR ?_; try simp only [oS]))
 rintro v' L' ⟨cb, rfl, rfl⟩
 repeat (first | (apply wo_po; apply bh_; exact rfl; exact rfl; apply qz_; exact hsub; exact trivial) | (apply wo_po; apply gw_; (repeat (first | exact EvL.nil | apply EvL.cons rfl)); exact rfl; exact trivial) | (apply wo_mo; apply bo_ (sz := 7); exact rfl; (repeat (first | exact EvL.nil | apply EvL.cons rfl)); exact rfl; (intro v hv; simp only [List.mem_cons, List.not_mem_nil, or_false] at hv; rcases hv with rfl | rfl | rfl | rfl | rfl | rfl | rfl | rfl | rfl | rfl | rfl | rfl | rfl <;> rfl); omega; exact trivial) | refine bb_ ?_ | (refine wR ?_; try simp only [oS]) | refine ba_ ?_ | refine wM ?_ | (apply wo_po; apply dz_; exact rfl; (first | exact dd_ (by omega) (by omega) | exact wrap_u64 (by omega) (by omega)); exact gY))
 rintro v' L' ⟨kb, rfl, rfl⟩
 repeat (first | (apply wo_po; apply gw_; (repeat (first | exact EvL.nil | apply EvL.cons rfl)); exact rfl; exact trivial) | (apply wo_pm; apply ck_ (c := 0) (k := 0) (a := 0) (vs := [.slice none 0 0, .slice none 0 0]); exact rfl; exact rfl; exact rfl; (intro w hw; simp [Value.cells] at hw; rcases hw with rfl | rfl <;> rfl); exact rfl; exact Nat.le_refl 2; exact (.there .here); exact trivial) | refine ba_ ?_ | refine br_ ?_)
 refine fk_ (rs := [.cell 2 57]) Try.func44 Try.results44 hQ (.inl rfl) (.cons (.cell (vs := [.slice (some ⟨kb, 0, none⟩) 13 13, .slice none 0 0]) rfl rfl (Rds.all (.there .here))) .nil) ?_
 refine ⟨_, _, rfl, rfl, fun h st => ?_⟩
 refine cl_new (cl := Mach.takeCl n) ?_ rfl rfl (Ent.star (.take .here (.drop .refl)) st)
 rfl
theorem ref_put_tr {u : Nat} (h1 : 1 ≤ n) (hn : n ≤ 1024) : Tr Try.prog B 43 [.int .i64 (n : Nat), .int .u64 (u : Nat)] L x fun w L' x' => ∃ kb m, w = .agg #[.slice (some ⟨kb, 0, none⟩) m m, .slice none 0 0] ∧ L' = clC (.slice (some ⟨kb, 0, none⟩) m m) (.slice none 0 0) (Mach.putCl n u) :: L ∧ x' = x := by
 refine Tr.post (R := fun v L' x' => ∃ kb m, v = .agg #[.slice (some ⟨kb, 0, none⟩) m m, .slice none 0 0] ∧ x' = x ∧ ∀ h, Star L' h → Star (clC (.slice (some ⟨kb, 0, none⟩) m m) (.slice none 0 0) (Mach.putCl n u) :: L) h) ?_
  (by rintro v L' x' ⟨kb, m, rfl, rfl, hs⟩; exact ⟨_, ⟨kb, m, rfl, rfl, rfl⟩, hs⟩)
 have hsub : IntKind.i64.wrap ((n : Int) - 1) = ((n - 1 : Nat) : Int) := (dd_ (by omega) (by omega)).trans (by omega)
 refine bd_ Try.func43 rfl Try.ntmps43 (by simp) fun um Q _ hQ => ?_
 simp only [argE, Nat.zero_add, Nat.reduceAdd]
 repeat (first | (apply wo_mo; apply cj_; exact trivial) | refine bb_ ?_ | (refine wR ?_; try simp only [oS]))
 rintro v' L' ⟨cb, rfl, rfl⟩
 repeat (first | (apply wo_po; apply bh_; exact rfl; exact rfl; apply qz_; exact hsub; exact trivial) | (apply wo_po; apply gw_; (repeat (first | exact EvL.nil | apply EvL.cons rfl)); exact rfl; exact trivial) | (apply wo_mo; apply bo_ (sz := 7); exact rfl; (repeat (first | exact EvL.nil | apply EvL.cons rfl)); exact rfl; (intro v hv; simp only [List.mem_cons, List.not_mem_nil, or_false] at hv; rcases hv with rfl | rfl | rfl | rfl | rfl | rfl | rfl | rfl | rfl | rfl | rfl | rfl | rfl | rfl | rfl <;> rfl); omega; exact trivial) | refine bb_ ?_ | (refine wR ?_; try simp only [oS]) | refine ba_ ?_ | refine wM ?_ | (apply wo_po; apply dz_; exact rfl; (first | exact dd_ (by omega) (by omega) | exact wrap_u64 (by omega) (by omega)); exact gY))
 rintro v' L' ⟨kb, rfl, rfl⟩
 repeat (first | (apply wo_po; apply gw_; (repeat (first | exact EvL.nil | apply EvL.cons rfl)); exact rfl; exact trivial) | (apply wo_pm; apply ck_ (c := 0) (k := 0) (a := 0) (vs := [.slice none 0 0, .slice none 0 0]); exact rfl; exact rfl; exact rfl; (intro w hw; simp [Value.cells] at hw; rcases hw with rfl | rfl <;> rfl); exact rfl; exact Nat.le_refl 2; exact (.there .here); exact trivial) | refine ba_ ?_ | refine br_ ?_)
 refine fk_ (rs := [.cell 4 57]) Try.func43 Try.results43 hQ (.inl rfl) (.cons (.cell (vs := [.slice (some ⟨kb, 0, none⟩) 15 15, .slice none 0 0]) rfl rfl (Rds.all (.there .here))) .nil) ?_
 refine ⟨_, _, rfl, rfl, fun h st => ?_⟩
 refine cl_new (cl := Mach.putCl n u) ?_ rfl rfl (Ent.star (.take .here (.drop .refl)) st)
 rfl
theorem world_tr (hn : n ≤ 1024) : Tr Try.prog B 17 [.int .i64 (n : Nat)] L x fun w L' x' => ∃ wv lv, w = .agg #[wv, lv] ∧ L' = wvC wv lv ⟨[List.replicate (n + 2) 0], 1⟩ :: L ∧ x' = x := by
 refine Tr.post (R := fun v L' x' => ∃ wv lv, v = .agg #[wv, lv] ∧ x' = x ∧ ∀ h, Star L' h → Star (wvC wv lv ⟨[List.replicate (n + 2) 0], 1⟩ :: L) h) ?_
  (by rintro v L' x' ⟨wv, lv, rfl, rfl, hs⟩; exact ⟨_, ⟨wv, lv, rfl, rfl, rfl⟩, hs⟩)
 have hadd : IntKind.i64.wrap ((2 : Int) + (n : Int)) = ((n + 2 : Nat) : Int) := (dd_ (by omega) (by omega)).trans (by omega)
 refine bd_ Try.func17 rfl Try.ntmps17 (by simp) fun um Q _ hQ => ?_
 simp only [argE, Nat.zero_add, Nat.reduceAdd]
 repeat (first | (apply wo_mo; apply cj_; exact trivial) | refine bb_ ?_ | (refine wR ?_; try simp only [oS]))
 rintro v' L' ⟨cb, rfl, rfl⟩
 repeat (first | (apply wo_po; apply bh_; exact rfl; exact rfl; apply hb_; exact hadd; exact trivial) | (apply wo_mo; apply mo_make (n := n + 2); exact rfl; exact rfl; exact rfl; omega; omega; exact trivial) | refine bb_ ?_ | (refine wR ?_; try simp only [oS]) | refine ba_ ?_ | refine wM ?_)
 rintro v' L' ⟨wb, rfl, rfl⟩
 repeat (first | (apply wo_mo; apply bo_ (sz := 1) (vs := [.slice (some ⟨wb, 0, none⟩) (n + 2) (n + 2)]); exact rfl; exact .cons rfl .nil; exact rfl; (intro v hv; cases (List.mem_singleton.1 hv); exact rfl); omega; exact trivial))
 rintro v' L' ⟨rb, rfl, rfl⟩
 repeat (first | (apply wo_mo; apply bo_ (sz := 1) (vs := [.slice none 0 0]); exact rfl; exact .cons rfl .nil; exact rfl; (intro v hv; cases (List.mem_singleton.1 hv); exact rfl); omega; exact trivial))
 rintro v' L' ⟨lb, rfl, rfl⟩
 repeat (first | (apply wo_po; apply dj_ (pv := [(0, .slice (some ⟨rb, 0, none⟩) 1 1), (1, .slice (some ⟨lb, 0, none⟩) 1 1)]); exact rfl; exact .cons rfl (.cons rfl .nil); exact rfl; exact trivial) | (apply wo_pm; apply ck_ (c := 0) (k := 0) (a := 0) (vs := [.slice none 0 0, .slice none 0 0]); exact rfl; exact rfl; exact rfl; (intro w hw; simp [Value.cells] at hw; rcases hw with rfl | rfl <;> rfl); exact rfl; exact Nat.le_refl 2; exact (.there (.there (.there .here))); exact trivial) | refine ba_ ?_ | refine br_ ?_)
 refine fk_ (rs := [.cell 2 46]) Try.func17 Try.results17 hQ (.inl rfl) (.cons (.cell (vs := [.slice (some ⟨rb, 0, none⟩) 1 1, .slice (some ⟨lb, 0, none⟩) 1 1]) rfl rfl (Rds.all (.there (.there (.there .here))))) .nil) ?_
 refine ⟨_, _, rfl, rfl, fun h st => ?_⟩
 have s1 : Star (arr lb 0 [.slice none 0 0] :: arr rb 0 [.slice (some ⟨wb, 0, none⟩) (n + 2) (n + 2)] :: arr wb 0 ((List.replicate (n + 2) 0).map num) :: L) h := by
  have e : zeros (n + 2) (Value.int .u64 0).cells.toList = (List.replicate (n + 2) 0).map num := by
   have : ∀ m : Nat, zeros m (Value.int .u64 0).cells.toList = (List.replicate m 0).map num := by
    intro m
    apply List.ext_getElem?
    intro i
    by_cases hi : i < m
    ·rw [show (Value.int .u64 0).cells.toList = [Value.int .u64 0] from rfl, zeros_one hi]
     simp [hi, num]
    ·rw [List.getElem?_eq_none, List.getElem?_eq_none]
     ·simp; omega
     ·rw [mj_]; simp [Value.cells]; omega
   exact this _
  rw [← e]
  exact Ent.star (.take .here (.take .here (.take .here (.drop .refl)))) st
 refine wv_shut (wl := [(.slice (some ⟨wb, 0, none⟩) (n + 2) (n + 2), List.replicate (n + 2) 0)]) (lw := [.slice none 0 0]) rfl ?_ rfl ?_
 ·exact ⟨by show 1 < 1000000; omega, by show 1 < 1000000; omega, fun l hl => by cases (List.mem_singleton.1 hl); simp; omega, fun l hl v hv => by cases (List.mem_singleton.1 hl); have := List.eq_of_mem_replicate hv; omega⟩
 ·refine bp_ (jr_ (n := 1) (sz := 1) rfl s1) (fun _ y => y) fun _ y => ?_
  refine bm_ (M := [_]) (dr_ ?_)
  refine bp_ (jr_ (n := 1) (sz := 1) rfl y) (fun _ y => y) fun _ z => ?_
  exact bm_ (M := [_]) (jr_ (sz := 1) (by simp) z)
end
end
section
structure RingAt {B : Hand} {gv : Value} (A : Acc B gv) (r b n k : Nat) : Prop where
 hn : n = 2 ^ k
 hk : k ≤ 10
 hdr : ∀ s, Rd [A.C s] r 2 (.slice (some ⟨b, 0, none⟩) n n)
 a0 : A.addr 0 = (r, 0)
 a1 : A.addr 1 = (r, 1)
 a2 : ∀ i : Nat, i < n → A.addr (2 + i) = (b, i)
section
variable {B : Hand} [Lets B] {gv : Value} {A : Acc B gv} {r b n k : Nat} {L F : List HProp}
theorem slot_tr (R : RingAt A r b n k) {p : Nat} (h1 : p < 18446744073709551616) {s : A.S} (hh : Has L (A.C s) F) :
  Tr Try.prog B 40 [.pointer (some ⟨r, 0, none⟩), .int .u64 p] L (A.x s) fun v L' x' => v = .tuple #[.int .i64 ((2 + p % n : Nat)), .pointer (some ⟨b, p % n, none⟩)] ∧ L' = L ∧ x' = A.x s := by
 have hr := Rd.of hh (R.hdr s)
 have hpow := and_pow2 R.hn R.hk (p := p) (by omega) (by omega)
 have hle : n ≤ 1024 := by rw [R.hn]; exact fp_ R.hk
 have hpos : 0 < n := by rw [R.hn]; exact Nat.two_pow_pos k
 obtain ⟨m, hm⟩ : ∃ m, p % n = m := ⟨_, rfl⟩
 have hmod : m < n := by rw [← hm]; exact Nat.mod_lt _ hpos
 rw [Int.toNat_natCast, hm] at hpow
 rw [hm]
 refine bd_ Try.func40 rfl Try.ntmps40 (by simp) fun um Q _ hQ => ?_
 simp only [argE, Nat.zero_add, Nat.reduceAdd]
 repeat (first | (apply wo_po; apply bc_; exact rfl; exact hr; exact trivial) | (apply wo_po; apply bh_; exact rfl; exact rfl; apply jt_; exact hpow; exact trivial) | refine bb_ ?_ | (refine wR ?_; try simp only [oS]) | refine ba_ ?_ | refine wM ?_ | refine wA ?_ | refine wN ?_ | refine wD ?_ | refine wsub ?_ | refine wE ?_ | (apply wo_po; apply dz_; exact rfl; (first | exact dd_ (by omega) (by omega) | exact wrap_u64 (by omega) (by omega)); exact gY))
 refine bv_ [0, 1, 2, 3, 4, 5, 6, 7, 8, 9] (by kernel_rfl) ?_
 repeat (first | (apply bn_; exact rfl; exact rfl; exact trivial; apply bc_; exact rfl; exact hr) | (apply be_; exact rfl; exact rfl; exact trivial; intro L; apply ce_; exact rfl; exact rfl; omega; omega; exact (show 0 + ((m : Int)).toNat * 1 = m by simp)) | refine aM ?_ | refine aA ?_ | refine aN ?_ | refine aD ?_ | (apply be_; exact rfl; exact rfl; exact gY; intro L; apply bh_; exact rfl; exact rfl; apply hb_; exact dd_ (by omega) (by omega)) | refine ca_ ?_)
 refine br_ ?_
 (first | refine or2 Try.func40 Try.results40 hQ rfl rfl ?_ | refine on2 Try.func40 Try.results40 hQ rfl rfl ?_)
 refine ⟨?_, rfl, rfl⟩
 simp
theorem xf_ (R : RingAt A r b n k) {s : A.S} (hh : Has L (A.C s) F) :
  Tr Try.prog B 38 [.pointer (some ⟨r, 0, none⟩)] L (A.x s) fun v L' x' => v = .bool true ∧ L' = L ∧ x' = A.x s := by
 have hr := Rd.of hh (R.hdr s)
 refine bd_ Try.func38 rfl Try.ntmps38 (by simp) fun um Q _ hQ => ?_
 simp only [argE, Nat.zero_add, Nat.reduceAdd]
 repeat (first | (apply wo_po; apply bc_; exact rfl; exact hr; exact rfl) | refine bb_ ?_ | (refine wR ?_; try simp only [oS]) | refine ba_ ?_ | refine wM ?_ | refine wA ?_ | refine wK ?_ | refine wN ?_ | refine wD ?_ | (apply wo_po; apply bh_; exact rfl; exact rfl; apply dv_; apply dg_; exact gY) | (apply wo_po; apply bh_; exact rfl; exact rfl; apply dv_; apply df_; exact gY) | refine br_ ?_)
 (first | refine or1 Try.func38 Try.results38 hQ rfl ?_ | refine on1 Try.func38 Try.results38 hQ rfl ?_)
 exact ⟨rfl, rfl, rfl⟩
theorem step_tr {op : Int} {w : Nat} {s : A.S} {T : A.S → Prop} (hs : A.step op w s T) (hh : Has L (A.C s) F) :
  Tr Try.prog B 57 [gv, .int .u8 op, .int .i64 w] L (A.x s) fun v L' x' => ∃ s', T s' ∧ v = .tuple #[] ∧ L' = A.C s' :: F ∧ x' = A.x s' := by
 rcases A.gate with ⟨rfl, hg⟩ | ⟨t, p, f, rfl, hm, he, hg⟩
 ·refine bd_ Try.func57 rfl Try.ntmps57 (by simp) fun um Q _ hQ => ?_
  simp only [argE, Nat.zero_add, Nat.reduceAdd]
  repeat (first | refine bb_ ?_ | (refine wR ?_; try simp only [oS]) | refine ba_ ?_ | refine wM ?_ | (apply wo_po; apply bh_; exact rfl; exact rfl; apply dv_; apply fr_; exact gY) | refine wF ?_ | refine bk_ ?_)
  refine fn_ _ (Ent.take hh .refl) ?_
  (first | refine or0 Try.func57 Try.results57 hQ ?_ | refine on0 Try.func57 Try.results57 hQ ?_)
  exact ⟨s, hg _ _ _ _ hs, rfl, rfl, rfl⟩
 ·refine bd_ Try.func57 rfl Try.ntmps57 (by simp) fun um Q _ hQ => ?_
  simp only [argE, Nat.zero_add, Nat.reduceAdd]
  repeat (first | (apply wo_po; apply dj_ (pv := [(0, _), (1, _)]); exact rfl; exact .cons rfl (.cons rfl .nil); exact rfl; exact trivial) | refine bb_ ?_ | (refine wR ?_; try simp only [oS]) | refine ba_ ?_ | refine wM ?_ | (apply wo_po; apply bh_; exact rfl; exact rfl; apply dv_; apply gk_; exact gY) | refine wT ?_)
  refine wo_invoke (args := [_]) rfl (.cons rfl .nil) trivial (hg op w s T L F hs hh) ?_
  rintro v L' x' ⟨s', h1, rfl, rfl, rfl⟩
  repeat (first | refine ba_ ?_)
  (first | refine or0 Try.func57 Try.results57 hQ ?_ | refine on0 Try.func57 Try.results57 hQ ?_)
  exact ⟨s', h1, rfl, rfl, rfl⟩
theorem mu_ {w b' o' : Nat} {s : A.S} {Q : Nat → A.S → Prop} (ha : A.addr w = (b', o')) (hs : A.step 1 w s fun s => A.load w s Q) (hh : Has L (A.C s) F) :
  Tr Try.prog B 39 [gv, .int .i64 w, .pointer (some ⟨b', o', none⟩)] L (A.x s) fun v L' x' => ∃ n s', n < 18446744073709551616 ∧ Q n s' ∧ v = .int .u64 (n : Nat) ∧ L' = A.C s' :: F ∧ x' = A.x s' := by
 refine bd_ Try.func39 rfl Try.ntmps39 (by simp) fun um Q _ hQ => ?_
 simp only [argE, Nat.zero_add, Nat.reduceAdd]
 repeat (first | refine bb_ ?_ | (refine wR ?_; try simp only [oS]) | refine ba_ ?_ | refine wM ?_ | refine wA ?_)
 refine bj_ (.cons rfl (.cons rfl (.cons rfl .nil))) trivial (step_tr hs hh) ?_
 rintro v L' x' ⟨s1, h1, rfl, rfl, rfl⟩
 repeat (first | refine bb_ ?_ | (refine wR ?_; try simp only [oS]) | refine ba_ ?_ | refine wM ?_)
 refine bj_ (.cons rfl .nil) trivial (A.load_ok _ _ _ _ _ _ _ ha h1 .here) ?_
 rintro v L' x' ⟨m, s2, h2, h3, rfl, rfl, rfl⟩
 repeat (first | refine ba_ ?_ | refine wA ?_ | refine br_ ?_)
 (first | refine or1 Try.func39 Try.results39 hQ rfl ?_ | refine on1 Try.func39 Try.results39 hQ rfl ?_)
 exact ⟨m, s2, h2, h3, rfl, rfl, rfl⟩
theorem xj_ {w b' o' m : Nat} {s : A.S} {Q : A.S → Prop} (ha : A.addr w = (b', o')) (hm : m < 18446744073709551616) (hs : A.step 2 w s fun s => A.store w m s Q) (hh : Has L (A.C s) F) :
  Tr Try.prog B 41 [gv, .int .i64 w, .pointer (some ⟨b', o', none⟩), .int .u64 m] L (A.x s) fun v L' x' => ∃ s', Q s' ∧ v = .tuple #[] ∧ L' = A.C s' :: F ∧ x' = A.x s' := by
 refine bd_ Try.func41 rfl Try.ntmps41 (by simp) fun um Q _ hQ => ?_
 simp only [argE, Nat.zero_add, Nat.reduceAdd]
 repeat (first | refine bb_ ?_ | (refine wR ?_; try simp only [oS]) | refine wM ?_)
 refine bj_ (.cons rfl (.cons rfl (.cons rfl .nil))) trivial (step_tr hs hh) ?_
 rintro v L' x' ⟨s1, h1, rfl, rfl, rfl⟩
 repeat (first | (refine wR ?_; try simp only [oS]) | refine ba_ ?_ | refine wM ?_)
 refine bj_ (.cons rfl (.cons rfl .nil)) trivial (A.store_ok _ _ _ _ _ _ _ _ ha hm h1 .here) ?_
 rintro v L' x' ⟨s2, h3, rfl, rfl, rfl⟩
 repeat (first | refine ba_ ?_)
 (first | refine or0 Try.func41 Try.results41 hQ ?_ | refine on0 Try.func41 Try.results41 hQ ?_)
 exact ⟨s2, h3, rfl, rfl, rfl⟩
def PutT (A : Acc B gv) (n v : Nat) (s : A.S) (Q : Bool → A.S → Prop) : Prop :=
 A.step 1 1 s fun s => A.load 1 s fun p s => A.step 1 0 s fun s => A.load 0 s fun t s =>
  if n ≤ (p + 18446744073709551616 - t) % 18446744073709551616 then Q false s
  else A.step 2 (2 + p % n) s fun s => A.store (2 + p % n) v s fun s => A.step 2 1 s fun s => A.store 1 ((p + 1) % 18446744073709551616) s (Q true)
theorem put_tr (R : RingAt A r b n k) {v : Nat} (hv : v < 18446744073709551616) {s : A.S} {Q : Bool → A.S → Prop} (hs : PutT A n v s Q) (hh : Has L (A.C s) F) :
  Tr Try.prog B 12 [.pointer (some ⟨r, 0, none⟩), gv, .int .u64 v] L (A.x s) fun v' L' x' => ∃ q s', Q q s' ∧ v' = .tuple #[.bool q, .int .i64 0] ∧ L' = A.C s' :: F ∧ x' = A.x s' := by
 have hle : n ≤ 1024 := by rw [R.hn]; exact fp_ R.hk
 have hpos : 0 < n := by rw [R.hn]; exact Nat.two_pow_pos k
 unfold PutT at hs
 refine bd_ Try.func12 rfl Try.ntmps12 (by simp) fun um Q _ hQ => ?_
 simp only [argE, Nat.zero_add, Nat.reduceAdd]
 repeat (first | refine bb_ ?_ | (refine wR ?_; try simp only [oS]) | refine ba_ ?_ | refine wM ?_ | refine wA ?_)
 refine bj_ (.cons rfl .nil) trivial (xf_ R hh) ?_
 rintro v1 L1 x1 ⟨rfl, rfl, rfl⟩
 repeat (first | refine bb_ ?_ | (refine wR ?_; try simp only [oS]) | refine ba_ ?_ | refine wM ?_ | refine wN ?_ | refine wD ?_ | (apply wo_po; apply dq_; exact rfl; exact gY) | refine wF ?_ | refine bk_ ?_)
 refine bj_ (.cons rfl (.cons rfl (.cons rfl .nil))) trivial (mu_ (w := 1) R.a1 hs hh) ?_
 rintro v1 L1 x1 ⟨p, s1, hp, h1, rfl, rfl, rfl⟩
 repeat (first | refine bb_ ?_ | (refine wR ?_; try simp only [oS]) | refine ba_ ?_ | refine wM ?_ | refine wA ?_ | refine wN ?_ | refine wD ?_)
 refine bj_ (.cons rfl (.cons rfl (.cons rfl .nil))) trivial (mu_ (w := 0) R.a0 h1 .here) ?_
 rintro v1 L1 x1 ⟨t, s2, ht, h2, rfl, rfl, rfl⟩
 have hr := Rd.of (L := A.C s2 :: F) .here (R.hdr s2)
 have hsub : IntKind.u64.wrap ((p : Int) - (t : Int)) = (((p + 18446744073709551616 - t) % 18446744073709551616 : Nat) : Int) := by rw [do_]; omega
 obtain ⟨d, hd⟩ : ∃ d, (p + 18446744073709551616 - t) % 18446744073709551616 = d := ⟨_, rfl⟩
 rw [hd] at hsub h2
 repeat (first | (apply wo_po; apply bh_; exact rfl; exact rfl; apply qz_; exact hsub; exact trivial) | (apply wo_po; apply bc_; exact rfl; exact hr; exact trivial) | refine bb_ ?_ | (refine wR ?_; try simp only [oS]) | refine ba_ ?_ | refine wM ?_ | refine wA ?_ | refine wN ?_ | refine wD ?_ | (apply wo_po; apply bh_; exact rfl; exact rfl; exact pc_; exact gY) | refine wE ?_ | (apply wo_po; apply dz_; exact rfl; (first | exact dd_ (by omega) (by omega) | exact wrap_u64 (by omega) (by omega)); exact gY))
 by_cases hfull : n ≤ d
 ·rw [if_pos hfull] at h2
  repeat (first | refine bb_ ?_ | (refine wR ?_; try simp only [oS]) | refine ba_ ?_ | refine wA ?_ | refine wT ?_ | refine br_ ?_)
  (first | refine or2 Try.func12 Try.results12 hQ rfl rfl ?_ | refine on2 Try.func12 Try.results12 hQ rfl rfl ?_)
  exact ⟨false, s2, h2, rfl, rfl, rfl⟩
 ·rw [if_neg hfull] at h2
  repeat (first | refine bb_ ?_ | (refine wR ?_; try simp only [oS]) | refine wM ?_ | refine wF ?_ | refine bk_ ?_)
  refine bj_ (.cons rfl (.cons rfl .nil)) trivial (slot_tr R hp .here) ?_
  rintro v1 L1 x1 ⟨rfl, rfl, rfl⟩
  repeat (first | refine bb_ ?_ | (refine wR ?_; try simp only [oS]) | refine ba_ ?_ | refine wM ?_ | refine wA ?_ | (apply wo_po; apply cb_; exact rfl; exact rfl; exact gY))
  have hmod : p % n < n := Nat.mod_lt _ hpos
  refine bj_ (.cons rfl (.cons rfl (.cons rfl (.cons rfl .nil)))) trivial (xj_ (w := 2 + p % n) (R.a2 _ hmod) hv h2 .here) ?_
  rintro v1 L1 x1 ⟨s3, h3, rfl, rfl, rfl⟩
  have hadd : IntKind.u64.wrap ((p : Int) + 1) = (((p + 1) % 18446744073709551616 : Nat) : Int) := by rw [do_]; omega
  repeat (first | (apply wo_po; apply bh_; exact rfl; exact rfl; apply hb_; exact hadd; exact trivial) | refine bb_ ?_ | (refine wR ?_; try simp only [oS]) | refine ba_ ?_ | refine wM ?_ | refine wN ?_ | refine wD ?_)
  refine bj_ (.cons rfl (.cons rfl (.cons rfl (.cons rfl .nil)))) trivial (xj_ (w := 1) R.a1 (Nat.mod_lt _ (by decide)) h3 .here) ?_
  rintro v1 L1 x1 ⟨s4, h4, rfl, rfl, rfl⟩
  repeat (first | refine bb_ ?_ | (refine wR ?_; try simp only [oS]) | refine ba_ ?_ | refine wA ?_ | refine br_ ?_)
  (first | refine or2 Try.func12 Try.results12 hQ rfl rfl ?_ | refine on2 Try.func12 Try.results12 hQ rfl rfl ?_)
  exact ⟨true, s4, h4, rfl, rfl, rfl⟩
def TakeT (A : Acc B gv) (n : Nat) (s : A.S) (Q : Option Nat → A.S → Prop) : Prop :=
 A.step 1 0 s fun s => A.load 0 s fun t s => A.step 1 1 s fun s => A.load 1 s fun p s =>
  if t = p then Q none s
  else A.step 1 (2 + t % n) s fun s => A.load (2 + t % n) s fun v s => A.step 2 0 s fun s => A.store 0 ((t + 1) % 18446744073709551616) s (Q (some v))
theorem take_tr (R : RingAt A r b n k) {s : A.S} {Q : Option Nat → A.S → Prop} (hs : TakeT A n s Q) (hh : Has L (A.C s) F) :
  Tr Try.prog B 13 [.pointer (some ⟨r, 0, none⟩), gv] L (A.x s) fun v' L' x' => ∃ q s', Q q s' ∧ q.getD 0 < 18446744073709551616 ∧ v' = .tuple #[.int .u64 (q.getD 0 : Nat), .bool q.isSome, .int .i64 0] ∧ L' = A.C s' :: F ∧ x' = A.x s' := by
 have hle : n ≤ 1024 := by rw [R.hn]; exact fp_ R.hk
 have hpos : 0 < n := by rw [R.hn]; exact Nat.two_pow_pos k
 unfold TakeT at hs
 refine bd_ Try.func13 rfl Try.ntmps13 (by simp) fun um Q _ hQ => ?_
 simp only [argE, Nat.zero_add, Nat.reduceAdd]
 repeat (first | refine bb_ ?_ | (refine wR ?_; try simp only [oS]) | refine ba_ ?_ | refine wM ?_ | refine wA ?_)
 refine bj_ (.cons rfl .nil) trivial (xf_ R hh) ?_
 rintro v1 L1 x1 ⟨rfl, rfl, rfl⟩
 repeat (first | refine bb_ ?_ | (refine wR ?_; try simp only [oS]) | refine ba_ ?_ | refine wM ?_ | refine wN ?_ | refine wD ?_ | (apply wo_po; apply dq_; exact rfl; exact gY) | refine wF ?_ | refine bk_ ?_)
 refine bj_ (.cons rfl (.cons rfl (.cons rfl .nil))) trivial (mu_ (w := 0) R.a0 hs hh) ?_
 rintro v1 L1 x1 ⟨t, s1, ht, h1, rfl, rfl, rfl⟩
 repeat (first | refine bb_ ?_ | (refine wR ?_; try simp only [oS]) | refine ba_ ?_ | refine wM ?_ | refine wA ?_ | refine wN ?_ | refine wD ?_)
 refine bj_ (.cons rfl (.cons rfl (.cons rfl .nil))) trivial (mu_ (w := 1) R.a1 h1 .here) ?_
 rintro v1 L1 x1 ⟨p, s2, hp, h2, rfl, rfl, rfl⟩
 by_cases he : t = p
 ·rw [if_pos he] at h2
  repeat (first | refine bb_ ?_ | (refine wR ?_; try simp only [oS]) | refine ba_ ?_ | refine wM ?_ | refine wA ?_ | (apply wo_po; apply bh_; exact rfl; exact rfl; exact ha_; exact gY) | refine wT ?_ | refine br_ ?_)
  (first | refine or3 Try.func13 Try.results13 hQ rfl rfl rfl ?_ | refine on3 Try.func13 Try.results13 hQ rfl rfl rfl ?_)
  exact ⟨none, s2, h2, by decide, rfl, rfl, rfl⟩
 ·rw [if_neg he] at h2
  repeat (first | refine bb_ ?_ | (refine wR ?_; try simp only [oS]) | refine ba_ ?_ | refine wM ?_ | refine wA ?_ | (apply wo_po; apply bh_; exact rfl; exact rfl; exact ha_; exact gY) | refine wF ?_ | refine bk_ ?_)
  refine bj_ (.cons rfl (.cons rfl .nil)) trivial (slot_tr R ht .here) ?_
  rintro v1 L1 x1 ⟨rfl, rfl, rfl⟩
  repeat (first | refine bb_ ?_ | (refine wR ?_; try simp only [oS]) | refine ba_ ?_ | refine wM ?_ | refine wA ?_ | (apply wo_po; apply cb_; exact rfl; exact rfl; exact gY))
  have hmod : t % n < n := Nat.mod_lt _ hpos
  refine bj_ (.cons rfl (.cons rfl (.cons rfl .nil))) trivial (mu_ (w := 2 + t % n) (R.a2 _ hmod) h2 .here) ?_
  rintro v1 L1 x1 ⟨v, s3, hv, h3, rfl, rfl, rfl⟩
  have hadd : IntKind.u64.wrap ((t : Int) + 1) = (((t + 1) % 18446744073709551616 : Nat) : Int) := by rw [do_]; omega
  repeat (first | (apply wo_po; apply bh_; exact rfl; exact rfl; apply hb_; exact hadd; exact trivial) | refine bb_ ?_ | (refine wR ?_; try simp only [oS]) | refine ba_ ?_ | refine wM ?_ | refine wA ?_ | refine wN ?_ | refine wD ?_)
  refine bj_ (.cons rfl (.cons rfl (.cons rfl (.cons rfl .nil)))) trivial (xj_ (w := 0) R.a0 (Nat.mod_lt _ (by decide)) h3 .here) ?_
  rintro v1 L1 x1 ⟨s4, h4, rfl, rfl, rfl⟩
  repeat (first | refine bb_ ?_ | (refine wR ?_; try simp only [oS]) | refine ba_ ?_ | refine wM ?_ | refine wA ?_ | refine br_ ?_)
  (first | refine or3 Try.func13 Try.results13 hQ rfl rfl rfl ?_ | refine on3 Try.func13 Try.results13 hQ rfl rfl rfl ?_)
  exact ⟨some v, s4, h4, hv, rfl, rfl, rfl⟩
def LenT (A : Acc B gv) (n : Nat) (s : A.S) (Q : Nat → A.S → Prop) : Prop :=
 A.step 1 0 s fun s => A.load 0 s fun t s => A.step 1 1 s fun s => A.load 1 s fun p s => Q (min ((p + 18446744073709551616 - t) % 18446744073709551616) n) s
theorem len_tr (R : RingAt A r b n k) {s : A.S} {Q : Nat → A.S → Prop} (hs : LenT A n s Q) (hh : Has L (A.C s) F) :
  Tr Try.prog B 14 [.pointer (some ⟨r, 0, none⟩), gv] L (A.x s) fun v' L' x' => ∃ q s', Q q s' ∧ q ≤ n ∧ v' = .tuple #[.int .i64 (q : Nat), .int .i64 0] ∧ L' = A.C s' :: F ∧ x' = A.x s' := by
 have hle : n ≤ 1024 := by rw [R.hn]; exact fp_ R.hk
 unfold LenT at hs
 refine bd_ Try.func14 rfl Try.ntmps14 (by simp) fun um Q _ hQ => ?_
 simp only [argE, Nat.zero_add, Nat.reduceAdd]
 repeat (first | refine bb_ ?_ | (refine wR ?_; try simp only [oS]) | refine ba_ ?_ | refine wM ?_ | refine wA ?_)
 refine bj_ (.cons rfl .nil) trivial (xf_ R hh) ?_
 rintro v1 L1 x1 ⟨rfl, rfl, rfl⟩
 repeat (first | refine bb_ ?_ | (refine wR ?_; try simp only [oS]) | refine ba_ ?_ | refine wM ?_ | refine wN ?_ | refine wD ?_ | (apply wo_po; apply dq_; exact rfl; exact gY) | refine wF ?_ | refine bk_ ?_)
 refine bj_ (.cons rfl (.cons rfl (.cons rfl .nil))) trivial (mu_ (w := 0) R.a0 hs hh) ?_
 rintro v1 L1 x1 ⟨t, s1, ht, h1, rfl, rfl, rfl⟩
 repeat (first | refine bb_ ?_ | (refine wR ?_; try simp only [oS]) | refine ba_ ?_ | refine wM ?_ | refine wA ?_ | refine wN ?_ | refine wD ?_)
 refine bj_ (.cons rfl (.cons rfl (.cons rfl .nil))) trivial (mu_ (w := 1) R.a1 h1 .here) ?_
 rintro v1 L1 x1 ⟨p, s2, hp, h2, rfl, rfl, rfl⟩
 have hr := Rd.of (L := A.C s2 :: F) .here (R.hdr s2)
 have hsub : IntKind.u64.wrap ((p : Int) - (t : Int)) = (((p + 18446744073709551616 - t) % 18446744073709551616 : Nat) : Int) := by rw [do_]; omega
 obtain ⟨d, hd⟩ : ∃ d, (p + 18446744073709551616 - t) % 18446744073709551616 = d := ⟨_, rfl⟩
 rw [hd] at hsub h2
 have hmin : (min (d : Int) (n : Int)) = ((min d n : Nat) : Int) := by omega
 repeat (first | (apply wo_po; apply bh_; exact rfl; exact rfl; apply qz_; exact hsub; exact trivial) | (apply wo_po; apply bc_; exact rfl; exact hr; exact trivial) | refine bb_ ?_ | (refine wR ?_; try simp only [oS]) | refine ba_ ?_ | refine wM ?_ | refine wA ?_ | refine wN ?_ | refine wD ?_ | refine wE ?_ | (apply wo_po; apply dz_; exact rfl; (first | exact dd_ (by omega) (by omega) | exact wrap_u64 (by omega) (by omega)); exact gY) | (apply wo_po; apply vp_; exact rfl; exact rfl; exact gY) | refine br_ ?_)
 (first | refine or2 Try.func14 Try.results14 hQ rfl rfl ?_ | refine on2 Try.func14 Try.results14 hQ rfl rfl ?_)
 exact ⟨min d n, s2, h2, by omega, by rw [hmin], rfl, rfl⟩
end
section
variable {B : Hand} [Lets B] {L F : List HProp} {x : B.X}
theorem slots_tr {r b n : Nat} (hr : Rd L r 2 (.slice (some ⟨b, 0, none⟩) n n)) :
  Tr Try.prog B 16 [.pointer (some ⟨r, 0, none⟩)] L x fun v L' x' => v = .int .i64 (n : Nat) ∧ L' = L ∧ x' = x := by
 have th : Tr Try.prog B 38 [.pointer (some ⟨r, 0, none⟩)] L x fun v L' x' => v = .bool true ∧ L' = L ∧ x' = x := by
  refine bd_ Try.func38 rfl Try.ntmps38 (by simp) fun um Q _ hQ => ?_
  simp only [argE, Nat.zero_add, Nat.reduceAdd]
  repeat (first | (apply wo_po; apply bc_; exact rfl; exact hr; exact rfl) | refine bb_ ?_ | (refine wR ?_; try simp only [oS]) | refine ba_ ?_ | refine wM ?_ | refine wA ?_ | refine wK ?_ | refine wN ?_ | refine wD ?_ | (apply wo_po; apply bh_; exact rfl; exact rfl; apply dv_; apply dg_; exact gY) | (apply wo_po; apply bh_; exact rfl; exact rfl; apply dv_; apply df_; exact gY) | refine br_ ?_)
  (first | refine or1 Try.func38 Try.results38 hQ rfl ?_ | refine on1 Try.func38 Try.results38 hQ rfl ?_)
  exact ⟨rfl, rfl, rfl⟩
 refine bd_ Try.func16 rfl Try.ntmps16 (by simp) fun um Q _ hQ => ?_
 simp only [argE, Nat.zero_add, Nat.reduceAdd]
 repeat (first | refine bb_ ?_ | (refine wR ?_; try simp only [oS]) | refine ba_ ?_ | refine wM ?_ | refine wA ?_)
 refine bj_ (.cons rfl .nil) trivial th ?_
 rintro v1 L1 x1 ⟨rfl, rfl, rfl⟩
 repeat (first | (apply wo_po; apply bc_; exact rfl; exact hr; exact trivial) | refine bb_ ?_ | (refine wR ?_; try simp only [oS]) | refine ba_ ?_ | refine wM ?_ | refine wA ?_ | refine wN ?_ | refine wD ?_ | (apply wo_po; apply dq_; exact rfl; exact gY) | refine wE ?_ | refine wF ?_ | refine br_ ?_ | refine bk_ ?_)
 (first | refine or1 Try.func16 Try.results16 hQ rfl ?_ | refine on1 Try.func16 Try.results16 hQ rfl ?_)
 exact ⟨rfl, rfl, rfl⟩
theorem vd_ {m : Nat} (h1 : 1 ≤ m) (h2 : m ≤ 1024) : (m &&& (m - 1) = 0) ↔ ∃ k, k ≤ 10 ∧ m = 2 ^ k := by
 constructor
 ·intro h
  have key : ∀ m ∈ List.range 1025, m &&& (m - 1) = 0 → m = 0 ∨ ∃ k ∈ List.range 11, m = 2 ^ k := by decide +kernel
  rcases key m (by simp; omega) h with h0 | ⟨k, hk, h0⟩
  ·omega
  ·exact ⟨k, by simp at hk; omega, h0⟩
 ·rintro ⟨k, hk, rfl⟩
  have key : ∀ k ∈ List.range 11, (2 ^ k) &&& (2 ^ k - 1) = 0 := by decide +kernel
  exact key k (by simp; omega)
theorem new_tr {n k : Nat} (hn : n = 2 ^ k) (hk : k ≤ 10) :
  Tr Try.prog B 10 [.int .i64 n] L x fun v L' x' => ∃ r b, v = .tuple #[.pointer (some ⟨r, 0, none⟩), .int .i64 0] ∧ L' = arr r 0 [.int .u64 0, .int .u64 0, .slice (some ⟨b, 0, none⟩) n n] :: arr b 0 (zeros n [.int .u64 0]) :: L ∧ x' = x := by
 have hle : n ≤ 1024 := by rw [hn]; exact fp_ hk
 have hpos : 0 < n := by rw [hn]; exact Nat.two_pow_pos k
 have hand : IntKind.i64.wrap (BitVec.ofInt IntKind.i64.bits (n : Int) &&& BitVec.ofInt IntKind.i64.bits ((n : Int) - 1)).toNat = 0 := by
  have e1 : ((n : Int) - 1) = ((n - 1 : Nat) : Int) := by omega
  rw [e1, and_i64 (by omega) (by omega), (vd_ hpos hle).2 ⟨k, hk, hn⟩]; rfl
 refine bd_ Try.func10 rfl Try.ntmps10 (by simp) fun um Q _ hQ => ?_
 simp only [argE, Nat.zero_add, Nat.reduceAdd]
 repeat (first | (apply wo_po; apply bh_; exact rfl; exact rfl; apply jt_; exact hand; exact gY) | (apply wo_mo; apply mo_make; exact rfl; exact rfl; exact rfl; omega; omega; exact trivial) | refine wlssF ?_ | refine wgtrF ?_ | refine wneqF ?_ | refine bb_ ?_ | (refine wR ?_; try simp only [oS]) | refine ba_ ?_ | refine wM ?_ | refine wA ?_ | refine wJ ?_ | refine wsub ?_ | refine wF ?_ | refine bk_ ?_)
 rintro v' L' ⟨b, rfl, rfl⟩
 repeat (first | (apply wo_po; apply dj_ (pv := [(2, _)]); exact rfl; exact .cons rfl .nil; exact rfl; exact trivial) | (apply wo_mo; apply cr_; exact rfl; exact trivial))
 rintro v' L' ⟨r, rfl, rfl⟩
 repeat (first | refine ba_ ?_ | refine wA ?_ | refine br_ ?_)
 (first | refine or2 Try.func10 Try.results10 hQ rfl rfl ?_ | refine on2 Try.func10 Try.results10 hQ rfl rfl ?_)
 exact ⟨r, b, rfl, rfl, rfl⟩
theorem new_tr' {n : Int} (hn : n < 1 ∨ 1024 < n) :
  Tr Try.prog B 10 [.int .i64 n] L x fun v L' x' => v = .tuple #[.pointer none, .int .i64 2] ∧ L' = L ∧ x' = x := by
 by_cases h1 : n < 1
 ·refine bd_ Try.func10 rfl Try.ntmps10 (by simp) fun um Q _ hQ => ?_
  simp only [argE, Nat.zero_add, Nat.reduceAdd]
  repeat (first | refine wlssT ?_ | refine bb_ ?_ | (refine wR ?_; try simp only [oS]) | refine ba_ ?_ | refine wM ?_ | refine wA ?_ | (apply wo_no; exact rfl) | refine wK ?_ | refine wT ?_ | refine br_ ?_)
  (first | refine or2 Try.func10 Try.results10 hQ rfl rfl ?_ | refine on2 Try.func10 Try.results10 hQ rfl rfl ?_)
  exact ⟨rfl, rfl, rfl⟩
 ·refine bd_ Try.func10 rfl Try.ntmps10 (by simp) fun um Q _ hQ => ?_
  simp only [argE, Nat.zero_add, Nat.reduceAdd]
  repeat (first | refine wlssF ?_ | refine wgtrT ?_ | refine bb_ ?_ | (refine wR ?_; try simp only [oS]) | refine ba_ ?_ | refine wM ?_ | refine wA ?_ | (apply wo_no; exact rfl) | refine wK ?_ | refine wJ ?_ | refine wT ?_ | refine br_ ?_)
  (first | refine or2 Try.func10 Try.results10 hQ rfl rfl ?_ | refine on2 Try.func10 Try.results10 hQ rfl rfl ?_)
  exact ⟨rfl, rfl, rfl⟩
end
end
section
section
variable {B : Hand} [Lets B] {gv : Value} {A : Acc B gv} {r b n k : Nat} {L F : List HProp} {x : B.X}
def DoneT (A : Acc B gv) (n : Nat) (kd v : Nat) (s : A.S) (Q : List Nat → A.S → Prop) : Prop :=
 if kd = 0 then PutT A n v s fun q s => Q [yes q] s
 else if kd = 1 then TakeT A n s fun q s => Q [q.getD 0, yes q.isSome] s
 else LenT A n s fun q s => Q [q] s
def fh_ (n kd v : Nat) : Mach.Cl := if kd = 0 then Mach.putCl n v else if kd = 1 then Mach.takeCl n else Mach.lenCl n
theorem done_tr (R : RingAt A r b n k) {kind : Int} {kd v : Nat} (hk : -9223372036854775808 ≤ kind ∧ kind ≤ 9223372036854775807) (hkd : kind % 3 = kd) (hv : v < 18446744073709551616) {s : A.S} {Q : List Nat → A.S → Prop} (hs : DoneT A n kd v s Q) (hh : Has L (A.C s) F) :
  Tr Try.prog B 19 [.pointer (some ⟨r, 0, none⟩), gv, .agg #[.int .i64 kind, .int .u64 (v : Nat)]] L (A.x s) fun w L' x' => ∃ told s' bv, Q told s' ∧ w = .tuple #[bv, .int .i64 0] ∧ L' = vec 1 bv (told.map num) :: A.C s' :: F ∧ x' = A.x s' := by
 refine Tr.post (R := fun w L' x' => ∃ told s' bv, Q told s' ∧ w = .tuple #[bv, .int .i64 0] ∧ x' = A.x s' ∧ ∀ h, Star L' h → Star (vec 1 bv (told.map num) :: A.C s' :: F) h) ?_
  (by rintro v L' x' ⟨told, s', bv, h1, rfl, rfl, hs⟩; exact ⟨_, ⟨told, s', bv, h1, rfl, rfl, rfl⟩, hs⟩)
 have hle : n ≤ 1024 := by rw [R.hn]; exact fp_ R.hk
 unfold DoneT at hs
 refine bd_ Try.func19 rfl Try.ntmps19 (by simp) fun um Q _ hQ => ?_
 simp only [argE, Nat.zero_add, Nat.reduceAdd]
 repeat (first | (apply wo_mo; apply cr_; exact rfl; exact trivial) | refine bb_ ?_ | (refine wR ?_; try simp only [oS]))
 rintro v' L' ⟨cb, rfl, rfl⟩
 refine jm_ (arr cb 0 [.int .i64 kind, .int .u64 (v : Nat)] :: L) .refl ?_
 repeat (first | refine bb_ ?_ | (refine wR ?_; try simp only [oS]) | refine ba_ ?_ | refine wA ?_ | refine wD ?_ | refine wL ?_)
 refine bj_ (.cons rfl (.cons rfl .nil)) trivial (kx_ hk (by omega)) ?_
 rintro v' L' x' ⟨rfl, rfl, rfl⟩
 rw [hkd]
 by_cases k0 : kd = 0
 ·rw [if_pos k0] at hs
  repeat (first | refine weqlT ?_ | refine bb_ ?_ | (refine wR ?_; try simp only [oS]) | refine ba_ ?_ | refine wM ?_ | refine wA ?_ | refine wD ?_ | refine wL ?_ | refine wT ?_ | refine bg_ ?_)
  refine bj_ (.cons rfl (.cons rfl (.cons rfl .nil))) trivial (put_tr R hv hs (.there hh)) ?_
  rintro v' L' x' ⟨q, s', h1, rfl, rfl, rfl⟩
  repeat (first | refine bb_ ?_ | (refine wR ?_; try simp only [oS]) | refine ba_ ?_ | refine wM ?_ | refine wA ?_ | (apply wo_po; apply cb_; exact rfl; exact rfl; exact gY))
  refine bj_ (.cons rfl .nil) trivial yes_tr ?_
  rintro v' L' x' ⟨rfl, rfl, rfl⟩
  repeat (first | (apply wo_mo; apply bo_ (sz := 1) (vs := [num (yes q)]); exact rfl; exact .cons rfl .nil; exact rfl; (intro v hv; cases (List.mem_singleton.1 hv); exact rfl); omega; exact trivial))
  rintro v' L' ⟨vb, rfl, rfl⟩
  repeat (first | refine ba_ ?_ | refine wM ?_ | refine wA ?_ | refine br_ ?_)
  (first | refine or2 Try.func19 Try.results19 hQ rfl rfl ?_ | refine on2 Try.func19 Try.results19 hQ rfl rfl ?_)
  refine ⟨[yes q], s', _, h1, rfl, rfl, fun h st => ?_⟩
  exact jr_ (n := 1) rfl (Ent.star (.take .here (.take .here (.drop .refl))) st)
 ·rw [if_neg k0] at hs
  by_cases k1 : kd = 1
  ·rw [if_pos k1] at hs
   repeat (first | refine weqlT ?_ | refine weqlF ?_ | refine bb_ ?_ | (refine wR ?_; try simp only [oS]) | refine ba_ ?_ | refine wM ?_ | refine wA ?_ | refine wT ?_ | refine wF ?_ | refine bg_ ?_)
   refine bj_ (.cons rfl (.cons rfl .nil)) trivial (take_tr R hs (.there hh)) ?_
   rintro v' L' x' ⟨q, s', h1, hq, rfl, rfl, rfl⟩
   repeat (first | refine bb_ ?_ | (refine wR ?_; try simp only [oS]) | refine ba_ ?_ | refine wM ?_ | refine wA ?_ | (apply wo_po; apply cb_; exact rfl; exact rfl; exact gY))
   refine bj_ (.cons rfl .nil) trivial yes_tr ?_
   rintro v' L' x' ⟨rfl, rfl, rfl⟩
   repeat (first | (apply wo_mo; apply bo_ (sz := 1) (vs := [num (q.getD 0), num (yes q.isSome)]); exact rfl; exact .cons rfl (.cons rfl .nil); exact rfl; (intro v hv; simp only [List.mem_cons, List.not_mem_nil, or_false] at hv; rcases hv with rfl | rfl <;> rfl); omega; exact trivial))
   rintro v' L' ⟨vb, rfl, rfl⟩
   repeat (first | refine ba_ ?_ | refine wM ?_ | refine wA ?_ | refine br_ ?_)
   (first | refine or2 Try.func19 Try.results19 hQ rfl rfl ?_ | refine on2 Try.func19 Try.results19 hQ rfl rfl ?_)
   refine ⟨[q.getD 0, yes q.isSome], s', _, h1, rfl, rfl, fun h st => ?_⟩
   exact jr_ (n := 2) rfl (Ent.star (.take .here (.take .here (.drop .refl))) st)
  ·rw [if_neg k1] at hs
   repeat (first | refine weqlF ?_ | refine bb_ ?_ | (refine wR ?_; try simp only [oS]) | refine ba_ ?_ | refine wM ?_ | refine wA ?_ | refine wF ?_ | refine bk_ ?_ | refine bg_ ?_)
   refine bj_ (.cons rfl (.cons rfl .nil)) trivial (len_tr R hs (.there hh)) ?_
   rintro v' L' x' ⟨q, s', h1, hq, rfl, rfl, rfl⟩
   repeat (first | (apply wo_mo; apply bo_ (sz := 1) (vs := [num q]); exact rfl; exact .cons rfl .nil; exact rfl; (intro v hv; cases (List.mem_singleton.1 hv); exact rfl); omega; exact trivial) | refine bb_ ?_ | (refine wR ?_; try simp only [oS]) | refine ba_ ?_ | refine wM ?_ | refine wA ?_ | (apply wo_po; apply cb_; exact rfl; exact rfl; exact gY) | (apply wo_po; apply dz_; exact rfl; (first | exact dd_ (by omega) (by omega) | exact wrap_u64 (by omega) (by omega)); exact gY))
   rintro v' L' ⟨vb, rfl, rfl⟩
   repeat (first | refine ba_ ?_ | refine wM ?_ | refine wA ?_ | refine br_ ?_)
   (first | refine or2 Try.func19 Try.results19 hQ rfl rfl ?_ | refine on2 Try.func19 Try.results19 hQ rfl rfl ?_)
   refine ⟨[q], s', _, h1, rfl, rfl, fun h st => ?_⟩
   exact jr_ (n := 1) rfl (Ent.star (.take .here (.take .here (.drop .refl))) st)
theorem call_tr (h1 : 1 ≤ n) (hn : n ≤ 1024) {kind : Int} {kd v : Nat} (hk : -9223372036854775808 ≤ kind ∧ kind ≤ 9223372036854775807) (hkd : kind % 3 = kd) :
  Tr Try.prog B 21 [.int .i64 (n : Nat), .agg #[.int .i64 kind, .int .u64 (v : Nat)]] L x fun w L' x' => ∃ kb m, w = .agg #[.slice (some ⟨kb, 0, none⟩) m m, .slice none 0 0] ∧ L' = clC (.slice (some ⟨kb, 0, none⟩) m m) (.slice none 0 0) (fh_ n kd v) :: L ∧ x' = x := by
 refine Tr.post (R := fun w L' x' => ∃ kb m, w = .agg #[.slice (some ⟨kb, 0, none⟩) m m, .slice none 0 0] ∧ x' = x ∧ ∀ h, Star L' h → Star (clC (.slice (some ⟨kb, 0, none⟩) m m) (.slice none 0 0) (fh_ n kd v) :: L) h) ?_
  (by rintro v L' x' ⟨kb, m, rfl, rfl, hs⟩; exact ⟨_, ⟨kb, m, rfl, rfl, rfl⟩, hs⟩)
 refine bd_ Try.func21 rfl Try.ntmps21 (by simp) fun um Q _ hQ => ?_
 simp only [argE, Nat.zero_add, Nat.reduceAdd]
 repeat (first | (apply wo_mo; apply cr_; exact rfl; exact trivial) | refine bb_ ?_ | (refine wR ?_; try simp only [oS]))
 rintro v' L' ⟨cb, rfl, rfl⟩
 refine jm_ (arr cb 0 [.int .i64 kind, .int .u64 (v : Nat)] :: L) .refl ?_
 repeat (first | (apply wo_mo; apply cj_; exact trivial))
 rintro v' L' ⟨ab, rfl, rfl⟩
 repeat (first | refine bb_ ?_ | (refine wR ?_; try simp only [oS]) | refine ba_ ?_ | refine wD ?_ | refine wL ?_)
 refine bj_ (.cons rfl (.cons rfl .nil)) trivial (kx_ hk (by omega)) ?_
 rintro v' L' x' ⟨rfl, rfl, rfl⟩
 rw [hkd]
 by_cases k0 : kd = 0
 ·have e : fh_ n kd v = Mach.putCl n v := if_pos k0
  repeat (first | refine weqlT ?_ | refine bb_ ?_ | (refine wR ?_; try simp only [oS]) | refine ba_ ?_ | refine wM ?_ | refine wA ?_ | refine wD ?_ | refine wL ?_ | refine wT ?_ | refine bg_ ?_)
  refine bj_ (.cons rfl (.cons rfl .nil)) trivial (ref_put_tr h1 hn) ?_
  rintro v' L' x' ⟨kb, m, rfl, rfl, rfl⟩
  repeat (first | (apply wo_pm; apply ck_ (c := 0) (k := 0) (a := 0) (vs := [.slice none 0 0, .slice none 0 0]); exact rfl; exact rfl; exact rfl; (intro w hw; simp [Value.cells] at hw; rcases hw with rfl | rfl <;> rfl); exact rfl; exact Nat.le_refl 2; exact (.there .here); exact trivial) | refine ba_ ?_ | refine br_ ?_)
  refine fk_ (rs := [.cell 4 57]) Try.func21 Try.results21 hQ (.inl rfl) (.cons (.cell (vs := [.slice (some ⟨kb, 0, none⟩) m m, .slice none 0 0]) rfl rfl (Rds.all (.there .here))) .nil) ?_
  exact ⟨_, _, rfl, rfl, fun h st => by rw [e]; exact Ent.star (.take .here (.drop (.drop .refl))) st⟩
 ·by_cases k1 : kd = 1
  ·have e : fh_ n kd v = Mach.takeCl n := (if_neg k0).trans (if_pos k1)
   repeat (first | refine weqlT ?_ | refine weqlF ?_ | refine bb_ ?_ | (refine wR ?_; try simp only [oS]) | refine ba_ ?_ | refine wM ?_ | refine wA ?_ | refine wT ?_ | refine wF ?_ | refine bg_ ?_)
   refine bj_ (.cons rfl .nil) trivial (ref_take_tr h1 hn) ?_
   rintro v' L' x' ⟨kb, m, rfl, rfl, rfl⟩
   repeat (first | (apply wo_pm; apply ck_ (c := 0) (k := 0) (a := 0) (vs := [.slice none 0 0, .slice none 0 0]); exact rfl; exact rfl; exact rfl; (intro w hw; simp [Value.cells] at hw; rcases hw with rfl | rfl <;> rfl); exact rfl; exact Nat.le_refl 2; exact (.there .here); exact trivial) | refine ba_ ?_ | refine br_ ?_)
   refine fk_ (rs := [.cell 4 57]) Try.func21 Try.results21 hQ (.inl rfl) (.cons (.cell (vs := [.slice (some ⟨kb, 0, none⟩) m m, .slice none 0 0]) rfl rfl (Rds.all (.there .here))) .nil) ?_
   exact ⟨_, _, rfl, rfl, fun h st => by rw [e]; exact Ent.star (.take .here (.drop (.drop .refl))) st⟩
  ·have e : fh_ n kd v = Mach.lenCl n := (if_neg k0).trans (if_neg k1)
   repeat (first | refine weqlF ?_ | refine bb_ ?_ | (refine wR ?_; try simp only [oS]) | refine ba_ ?_ | refine wM ?_ | refine wA ?_ | refine wF ?_ | refine bk_ ?_ | refine bg_ ?_)
   refine bj_ (.cons rfl .nil) trivial (ref_len_tr hn) ?_
   rintro v' L' x' ⟨kb, m, rfl, rfl, rfl⟩
   repeat (first | (apply wo_pm; apply ck_ (c := 0) (k := 0) (a := 0) (vs := [.slice none 0 0, .slice none 0 0]); exact rfl; exact rfl; exact rfl; (intro w hw; simp [Value.cells] at hw; rcases hw with rfl | rfl <;> rfl); exact rfl; exact Nat.le_refl 2; exact (.there .here); exact trivial) | refine ba_ ?_ | refine br_ ?_)
   refine fk_ (rs := [.cell 4 57]) Try.func21 Try.results21 hQ (.inl rfl) (.cons (.cell (vs := [.slice (some ⟨kb, 0, none⟩) m m, .slice none 0 0]) rfl rfl (Rds.all (.there .here))) .nil) ?_
   exact ⟨_, _, rfl, rfl, fun h st => by rw [e]; exact Ent.star (.take .here (.drop (.drop .refl))) st⟩
end
end
end Go.Proofs.Ytdcbnbmahndecaa
namespace Go.Proofs.Ytdcbnbmahndecaa
open Go Go.PB
attribute [local irreducible] Mo Bin Eql Tr Wo Ap Wle
section
section
variable {n j : Nat} {addr : Nat → Nat × Nat} {K : List (Nat × Nat × Value)} {A : Apart addr (n + 2) K} {Z : HProp} {Pv : Nat × Mach.Th → HProp} {hPv : ∀ q h, Star [Pv q] h → Pv q h} {sb says turn fin wg k : Nat} {Pm : HProp}
variable {cs : List Mach.Cl} {c v : Nat} {pre : List (Bool × List Nat)}
theorem put_plays (hn : n = 2 ^ j) (hj : j ≤ 10) (hv : v < 18446744073709551616) (hc : cs[c]? = some (Mach.putCl n v)) (h0 : pre.length = c) (hP : ∀ p r said h, Pm h → Pv (k, Mach.T cs c p r pre said) h)
  (nxt : ∀ told, ∃ t', Mach.onF 20 (Mach.Bt cs (c + 1) (pre ++ [(true, told)])) = some t') {s : PlS} (ht : s.t = Mach.T cs c 2 (Mach.pr1 n v) pre []) (hfg : ∀ i, i < n + 2 → s.f i = s.g i)
  {Q : Bool → PlS → Prop} (hQ : ∀ q s', Mach.onF 20 (Mach.Bt cs (c + 1) (pre ++ [(true, [yes q])])) = some s'.t → (∀ i, i < n + 2 → s'.f i = s'.g i) → (rowD (n + 2)).ok s'.f → Q q s') :
  PutT (kk_ (rowD (n + 2)) addr (n + 2) K A Z Pv hPv sb says turn fin wg k Pm) n v s Q := by
 have hle : n ≤ 1024 := by rw [hn]; exact fp_ hj
 have hpos : 0 < n := by rw [hn]; exact Nat.two_pow_pos j
 unfold PutT
 refine kt_ (op := 1) rfl fc_ hfg (by rw [ht]; exact hP _ _ _) fun f1 ok1 => ⟨f1, _, by rw [ht]; exact Mach.put_2 (w := (rowD (n + 2)).W f1) (l := rowOf (n + 2) f1) hc h0 rfl (cd_ (by omega)), fun m1 _ => ⟨by omega, ?_⟩⟩
 refine kt_ (op := 1) rfl fc_ (fun i hi => jp_ hi) (hP _ _ _) fun f2 ok2 => ?_
 have hm : f1 1 % n < n := Nat.mod_lt _ hpos
 by_cases hd : (f1 1 + 18446744073709551616 - f2 0) % 18446744073709551616 < n
 ·refine ⟨f2, _, Mach.put_3T (w := (rowD (n + 2)).W f2) (l := rowOf (n + 2) f2) hc h0 rfl (cd_ (by omega)) (by omega) rfl hd (q := f1 1 % n) (by rw [Mach.mask_mod hn]; exact Nat.mod_eq_of_lt (Nat.lt_trans hm (by omega))), fun m2 _ => ⟨by omega, ?_⟩⟩
  show if n ≤ (f1 1 + 18446744073709551616 - f2 0) % 18446744073709551616 then _ else _
  rw [if_neg (by omega), Nat.add_comm 2]
  refine kt_ (op := 2) rfl fc_ (fun i hi => jp_ hi) (hP _ _ _) fun f3 ok3 => ⟨upd f3 (f1 1 % n + 2) v, _, Mach.put_10 (w := (rowD (n + 2)).W f3) (l := rowOf (n + 2) f3) hc h0 rfl (by rw [gu_]; omega) (by omega) rfl mc_, fun m3 _ => ⟨(show f1 1 % n + 2 < n + 2 by omega), ?_⟩⟩
  obtain ⟨t', hn'⟩ := nxt [1]
  refine kt_ (op := 2) rfl fc_ (fun i hi => jp_ hi) (hP _ _ _) fun f4 ok4 => ⟨upd f4 1 ((f1 1 + 1) % 18446744073709551616), _, Mach.put_12 (w := (rowD (n + 2)).W f4) (l := rowOf (n + 2) f4) hc h0 rfl (by rw [gu_]; omega) mc_ hn', fun m4 _ => ⟨by omega, ?_⟩⟩
  exact hQ true _ hn' (fun i hi => jp_ hi) (tj_ ok4 (Nat.mod_lt _ (by decide)))
 ·obtain ⟨t', hn'⟩ := nxt [0]
  refine ⟨f2, _, Mach.put_3F (w := (rowD (n + 2)).W f2) (l := rowOf (n + 2) f2) hc h0 rfl (cd_ (by omega)) rfl hd hn', fun m2 _ => ⟨by omega, ?_⟩⟩
  show if n ≤ (f1 1 + 18446744073709551616 - f2 0) % 18446744073709551616 then _ else _
  rw [if_pos (by omega)]
  exact hQ false _ hn' (fun i hi => jp_ hi) ok2
theorem xh_ (hn : n = 2 ^ j) (hj : j ≤ 10) (hc : cs[c]? = some (Mach.takeCl n)) (h0 : pre.length = c) (hP : ∀ p r said h, Pm h → Pv (k, Mach.T cs c p r pre said) h)
  (nxt : ∀ told, ∃ t', Mach.onF 20 (Mach.Bt cs (c + 1) (pre ++ [(true, told)])) = some t') {s : PlS} (ht : s.t = Mach.T cs c 0 Mach.z0 pre []) (hfg : ∀ i, i < n + 2 → s.f i = s.g i)
  {Q : Option Nat → PlS → Prop} (hQ : ∀ (q : Option Nat) s', Mach.onF 20 (Mach.Bt cs (c + 1) (pre ++ [(true, [q.getD 0, yes q.isSome])])) = some s'.t → (∀ i, i < n + 2 → s'.f i = s'.g i) → (rowD (n + 2)).ok s'.f → Q q s') :
  TakeT (kk_ (rowD (n + 2)) addr (n + 2) K A Z Pv hPv sb says turn fin wg k Pm) n s Q := by
 have hle : n ≤ 1024 := by rw [hn]; exact fp_ hj
 have hpos : 0 < n := by rw [hn]; exact Nat.two_pow_pos j
 unfold TakeT
 refine kt_ (op := 1) rfl fc_ hfg (by rw [ht]; exact hP _ _ _) fun f1 ok1 => ⟨f1, _, by rw [ht]; exact Mach.take_0 (w := (rowD (n + 2)).W f1) (l := rowOf (n + 2) f1) hc h0 rfl (cd_ (by omega)), fun m1 _ => ⟨by omega, ?_⟩⟩
 refine kt_ (op := 1) rfl fc_ (fun i hi => jp_ hi) (hP _ _ _) fun f2 ok2 => ?_
 have hm : f1 0 % n < n := Nat.mod_lt _ hpos
 by_cases hd : f1 0 = f2 1
 ·obtain ⟨t', hn'⟩ := nxt [0, 0]
  refine ⟨f2, _, Mach.take_1F (w := (rowD (n + 2)).W f2) (l := rowOf (n + 2) f2) hc h0 rfl (cd_ (by omega)) hd hn', fun m2 _ => ⟨by omega, ?_⟩⟩
  show if f1 0 = f2 1 then _ else _
  rw [if_pos hd]
  exact hQ none _ hn' (fun i hi => jp_ hi) ok2
 ·refine ⟨f2, _, Mach.take_1T (w := (rowD (n + 2)).W f2) (l := rowOf (n + 2) f2) hc h0 rfl (cd_ (by omega)) (by omega) hd (q := f1 0 % n) (by rw [Mach.mask_mod hn]; exact Nat.mod_eq_of_lt (Nat.lt_trans hm (by omega))), fun m2 _ => ⟨by omega, ?_⟩⟩
  show if f1 0 = f2 1 then _ else _
  rw [if_neg hd, Nat.add_comm 2]
  refine kt_ (op := 1) rfl fc_ (fun i hi => jp_ hi) (hP _ _ _) fun f3 ok3 => ⟨f3, _, Mach.take_5 (w := (rowD (n + 2)).W f3) (l := rowOf (n + 2) f3) hc h0 rfl (cd_ (by omega)) (by omega) rfl, fun m3 _ => ⟨(show f1 0 % n + 2 < n + 2 by omega), ?_⟩⟩
  obtain ⟨t', hn'⟩ := nxt [f3 (f1 0 % n + 2), 1]
  refine kt_ (op := 2) rfl fc_ (fun i hi => jp_ hi) (hP _ _ _) fun f4 ok4 => ⟨upd f4 0 ((f1 0 + 1) % 18446744073709551616), _, Mach.take_7 (w := (rowD (n + 2)).W f4) (l := rowOf (n + 2) f4) hc h0 rfl (by rw [gu_]; omega) mc_ hn', fun m4 _ => ⟨by omega, ?_⟩⟩
  exact hQ (some _) _ hn' (fun i hi => jp_ hi) (tj_ ok4 (Nat.mod_lt _ (by decide)))
theorem len_plays (hn : n = 2 ^ j) (hj : j ≤ 10) (hc : cs[c]? = some (Mach.lenCl n)) (h0 : pre.length = c) (hP : ∀ p r said h, Pm h → Pv (k, Mach.T cs c p r pre said) h)
  (nxt : ∀ told, ∃ t', Mach.onF 20 (Mach.Bt cs (c + 1) (pre ++ [(true, told)])) = some t') {s : PlS} (ht : s.t = Mach.T cs c 0 Mach.z0 pre []) (hfg : ∀ i, i < n + 2 → s.f i = s.g i)
  {Q : Nat → PlS → Prop} (hQ : ∀ (q : Nat) s', Mach.onF 20 (Mach.Bt cs (c + 1) (pre ++ [(true, [q])])) = some s'.t → (∀ i, i < n + 2 → s'.f i = s'.g i) → (rowD (n + 2)).ok s'.f → Q q s') :
  LenT (kk_ (rowD (n + 2)) addr (n + 2) K A Z Pv hPv sb says turn fin wg k Pm) n s Q := by
 have hle : n ≤ 1024 := by rw [hn]; exact fp_ hj
 unfold LenT
 refine kt_ (op := 1) rfl fc_ hfg (by rw [ht]; exact hP _ _ _) fun f1 ok1 => ⟨f1, _, by rw [ht]; exact Mach.len_0 (w := (rowD (n + 2)).W f1) (l := rowOf (n + 2) f1) hc h0 rfl (cd_ (by omega)), fun m1 _ => ⟨by omega, ?_⟩⟩
 refine kt_ (op := 1) rfl fc_ (fun i hi => jp_ hi) (hP _ _ _) fun f2 ok2 => ?_
 obtain ⟨t', hn'⟩ := nxt [min ((f2 1 + 18446744073709551616 - f1 0) % 18446744073709551616) n]
 refine ⟨f2, _, Mach.len_1 (w := (rowD (n + 2)).W f2) (l := rowOf (n + 2) f2) hc h0 rfl (cd_ (by omega)) (by omega) rfl hn', fun m2 _ => ⟨by omega, ?_⟩⟩
 exact hQ _ _ hn' (fun i hi => jp_ hi) ok2
def xu_ (n kd v : Nat) (cs : List Mach.Cl) (c : Nat) (pre : List (Bool × List Nat)) : Mach.Th := if kd = 0 then Mach.T cs c 2 (Mach.pr1 n v) pre [] else Mach.T cs c 0 Mach.z0 pre []
theorem ring_on {kd : Nat} (hn : n = 2 ^ j) (hj : j ≤ 10) (hv : v < 18446744073709551616) (hc : cs[c]? = some (fh_ n kd v)) (h0 : pre.length = c) : Mach.onF 20 (Mach.Bt cs c pre) = some (xu_ n kd v cs c pre) := by
 have hle : n ≤ 1024 := by rw [hn]; exact fp_ hj
 unfold fh_ at hc
 unfold xu_
 by_cases k0 : kd = 0
 ·rw [if_pos k0] at hc ⊢; exact Mach.put_on hc h0 (by omega) hv
 ·rw [if_neg k0] at hc ⊢
  by_cases k1 : kd = 1
  ·rw [if_pos k1] at hc; exact Mach.take_on hc h0
  ·rw [if_neg k1] at hc; exact Mach.len_on hc h0
def fy_ (n : Nat) (cs : List Mach.Cl) : Prop := ∀ (i : Nat) (cl : Mach.Cl), cs[i]? = some cl → ∃ kd v, cl = fh_ n kd v ∧ v < 18446744073709551616
theorem vk_ (hn : n = 2 ^ j) (hj : j ≤ 10) (hcs : fy_ n cs) (h0 : pre.length = c) : ∃ t', Mach.onF 20 (Mach.Bt cs c pre) = some t' := by
 cases h : cs[c]? with
 | none => exact ⟨_, Mach.on_over (f := 19) h⟩
 | some cl =>
  obtain ⟨kd, v, rfl, hv⟩ := hcs c cl h
  exact ⟨_, ring_on hn hj hv h h0⟩
theorem done_plays {kd : Nat} (hn : n = 2 ^ j) (hj : j ≤ 10) (hv : v < 18446744073709551616) (hcs : fy_ n cs) (hc : cs[c]? = some (fh_ n kd v)) (h0 : pre.length = c) (hP : ∀ p r said h, Pm h → Pv (k, Mach.T cs c p r pre said) h)
  {s : PlS} (ht : Mach.onF 20 (Mach.Bt cs c pre) = some s.t) (hfg : ∀ i, i < n + 2 → s.f i = s.g i) :
  DoneT (kk_ (rowD (n + 2)) addr (n + 2) K A Z Pv hPv sb says turn fin wg k Pm) n kd v s fun told s' => Mach.onF 20 (Mach.Bt cs (c + 1) (pre ++ [(true, told)])) = some s'.t ∧ (∀ i, i < n + 2 → s'.f i = s'.g i) ∧ (rowD (n + 2)).ok s'.f := by
 rw [ring_on hn hj hv hc h0] at ht
 have ht : s.t = xu_ n kd v cs c pre := (Option.some.inj ht).symm
 have nxt : ∀ told, ∃ t', Mach.onF 20 (Mach.Bt cs (c + 1) (pre ++ [(true, told)])) = some t' := fun told => vk_ hn hj hcs (by simp [h0])
 unfold xu_ at ht
 unfold fh_ at hc
 unfold DoneT
 by_cases k0 : kd = 0
 ·rw [if_pos k0] at hc ht ⊢
  exact put_plays hn hj hv hc h0 hP nxt ht hfg fun q s' a b d => ⟨a, b, d⟩
 ·rw [if_neg k0] at hc ht ⊢
  by_cases k1 : kd = 1
  ·rw [if_pos k1] at hc ⊢
   exact xh_ hn hj hc h0 hP nxt ht hfg fun q s' a b d => ⟨a, b, d⟩
  ·rw [if_neg k1] at hc ⊢
   exact len_plays hn hj hc h0 hP nxt ht hfg fun q s' a b d => ⟨a, b, d⟩
end
section
variable {n j : Nat} {cs : List Mach.Cl} {c v : Nat} {pre : List (Bool × List Nat)}
theorem put_good (hn : n = 2 ^ j) (hj : j ≤ 10) (hv : v < 18446744073709551616) (hc : cs[c]? = some (Mach.putCl n v)) (h0 : pre.length = c)
  (nxt : ∀ told, ∃ t', Mach.onF 20 (Mach.Bt cs (c + 1) (pre ++ [(true, told)])) = some t' ∧ GoodT (rowD (n + 2)) t') : GoodT (rowD (n + 2)) (Mach.T cs c 2 (Mach.pr1 n v) pre []) := by
 have hle : n ≤ 1024 := by rw [hn]; exact fp_ hj
 have hpos : 0 < n := by rw [hn]; exact Nat.two_pow_pos j
 refine ji_ (m := (1, 1)) fc_ fun f1 ok1 => ⟨f1, _, Mach.put_2 (w := (rowD (n + 2)).W f1) (l := rowOf (n + 2) f1) hc h0 rfl (cd_ (by omega)), ok1, ?_⟩
 refine ji_ (m := (1, 0)) fc_ fun f2 ok2 => ?_
 have hm : f1 1 % n < n := Nat.mod_lt _ hpos
 by_cases hd : (f1 1 + 18446744073709551616 - f2 0) % 18446744073709551616 < n
 ·refine ⟨f2, _, Mach.put_3T (w := (rowD (n + 2)).W f2) (l := rowOf (n + 2) f2) hc h0 rfl (cd_ (by omega)) (by omega) rfl hd (q := f1 1 % n) (by rw [Mach.mask_mod hn]; exact Nat.mod_eq_of_lt (Nat.lt_trans hm (by omega))), ok2, ?_⟩
  refine ji_ (m := (2, f1 1 % n + 2)) fc_ fun f3 ok3 => ⟨upd f3 (f1 1 % n + 2) v, _, Mach.put_10 (w := (rowD (n + 2)).W f3) (l := rowOf (n + 2) f3) hc h0 rfl (by rw [gu_]; omega) (by omega) rfl mc_, tj_ ok3 hv, ?_⟩
  obtain ⟨t', hn', hg⟩ := nxt [1]
  exact ji_ (m := (2, 1)) fc_ fun f4 ok4 => ⟨upd f4 1 ((f1 1 + 1) % 18446744073709551616), _, Mach.put_12 (w := (rowD (n + 2)).W f4) (l := rowOf (n + 2) f4) hc h0 rfl (by rw [gu_]; omega) mc_ hn', tj_ ok4 (Nat.mod_lt _ (by decide)), hg⟩
 ·obtain ⟨t', hn', hg⟩ := nxt [0]
  exact ⟨f2, _, Mach.put_3F (w := (rowD (n + 2)).W f2) (l := rowOf (n + 2) f2) hc h0 rfl (cd_ (by omega)) rfl hd hn', ok2, hg⟩
theorem take_good (hn : n = 2 ^ j) (hj : j ≤ 10) (hc : cs[c]? = some (Mach.takeCl n)) (h0 : pre.length = c)
  (nxt : ∀ told, ∃ t', Mach.onF 20 (Mach.Bt cs (c + 1) (pre ++ [(true, told)])) = some t' ∧ GoodT (rowD (n + 2)) t') : GoodT (rowD (n + 2)) (Mach.T cs c 0 Mach.z0 pre []) := by
 have hle : n ≤ 1024 := by rw [hn]; exact fp_ hj
 have hpos : 0 < n := by rw [hn]; exact Nat.two_pow_pos j
 refine ji_ (m := (1, 0)) fc_ fun f1 ok1 => ⟨f1, _, Mach.take_0 (w := (rowD (n + 2)).W f1) (l := rowOf (n + 2) f1) hc h0 rfl (cd_ (by omega)), ok1, ?_⟩
 refine ji_ (m := (1, 1)) fc_ fun f2 ok2 => ?_
 have hm : f1 0 % n < n := Nat.mod_lt _ hpos
 by_cases hd : f1 0 = f2 1
 ·obtain ⟨t', hn', hg⟩ := nxt [0, 0]
  exact ⟨f2, _, Mach.take_1F (w := (rowD (n + 2)).W f2) (l := rowOf (n + 2) f2) hc h0 rfl (cd_ (by omega)) hd hn', ok2, hg⟩
 ·refine ⟨f2, _, Mach.take_1T (w := (rowD (n + 2)).W f2) (l := rowOf (n + 2) f2) hc h0 rfl (cd_ (by omega)) (by omega) hd (q := f1 0 % n) (by rw [Mach.mask_mod hn]; exact Nat.mod_eq_of_lt (Nat.lt_trans hm (by omega))), ok2, ?_⟩
  refine ji_ (m := (1, f1 0 % n + 2)) fc_ fun f3 ok3 => ⟨f3, _, Mach.take_5 (w := (rowD (n + 2)).W f3) (l := rowOf (n + 2) f3) hc h0 rfl (cd_ (by omega)) (by omega) rfl, ok3, ?_⟩
  obtain ⟨t', hn', hg⟩ := nxt [f3 (f1 0 % n + 2), 1]
  exact ji_ (m := (2, 0)) fc_ fun f4 ok4 => ⟨upd f4 0 ((f1 0 + 1) % 18446744073709551616), _, Mach.take_7 (w := (rowD (n + 2)).W f4) (l := rowOf (n + 2) f4) hc h0 rfl (by rw [gu_]; omega) mc_ hn', tj_ ok4 (Nat.mod_lt _ (by decide)), hg⟩
theorem len_good (hn : n = 2 ^ j) (hj : j ≤ 10) (hc : cs[c]? = some (Mach.lenCl n)) (h0 : pre.length = c)
  (nxt : ∀ told, ∃ t', Mach.onF 20 (Mach.Bt cs (c + 1) (pre ++ [(true, told)])) = some t' ∧ GoodT (rowD (n + 2)) t') : GoodT (rowD (n + 2)) (Mach.T cs c 0 Mach.z0 pre []) := by
 have hle : n ≤ 1024 := by rw [hn]; exact fp_ hj
 refine ji_ (m := (1, 0)) fc_ fun f1 ok1 => ⟨f1, _, Mach.len_0 (w := (rowD (n + 2)).W f1) (l := rowOf (n + 2) f1) hc h0 rfl (cd_ (by omega)), ok1, ?_⟩
 refine ji_ (m := (1, 1)) fc_ fun f2 ok2 => ?_
 obtain ⟨t', hn', hg⟩ := nxt [min ((f2 1 + 18446744073709551616 - f1 0) % 18446744073709551616) n]
 exact ⟨f2, _, Mach.len_1 (w := (rowD (n + 2)).W f2) (l := rowOf (n + 2) f2) hc h0 rfl (cd_ (by omega)) (by omega) rfl hn', ok2, hg⟩
theorem ring_good (hn : n = 2 ^ j) (hj : j ≤ 10) (hcs : fy_ n cs) : ∀ (m c : Nat) (pre : List (Bool × List Nat)), cs.length - c = m → pre.length = c → ∃ t', Mach.onF 20 (Mach.Bt cs c pre) = some t' ∧ GoodT (rowD (n + 2)) t' := by
 intro m
 induction m with
 | zero =>
  intro c pre hm h0
  have h : cs[c]? = none := List.getElem?_eq_none_iff.2 (by omega)
  exact ⟨_, Mach.on_over (f := 19) h, .over rfl⟩
 | succ m ih =>
  intro c pre hm h0
  have hlt : c < cs.length := by omega
  have h : cs[c]? = some cs[c] := List.getElem?_eq_getElem hlt
  obtain ⟨kd, v, e, hv⟩ := hcs c _ h
  rw [e] at h
  refine ⟨_, ring_on hn hj hv h h0, ?_⟩
  have nxt : ∀ told, ∃ t', Mach.onF 20 (Mach.Bt cs (c + 1) (pre ++ [(true, told)])) = some t' ∧ GoodT (rowD (n + 2)) t' := fun told => ih (c + 1) _ (by omega) (by simp [h0])
  unfold xu_
  unfold fh_ at h
  by_cases k0 : kd = 0
  ·rw [if_pos k0] at h ⊢; exact put_good hn hj hv h h0 nxt
  ·rw [if_neg k0] at h ⊢
   by_cases k1 : kd = 1
   ·rw [if_pos k1] at h; exact take_good hn hj h h0 nxt
   ·rw [if_neg k1] at h; exact len_good hn hj h h0 nxt
theorem mo_ (hn : n = 2 ^ j) (hj : j ≤ 10) (hcs : fy_ n cs) : ∃ t', Mach.onF 20 (Mach.Bt cs 0 []) = some t' ∧ Mach.onF (rowD (n + 2)).fu { calls := cs } = some t' ∧ GoodT (rowD (n + 2)) t' := by
 obtain ⟨t', h1, h2⟩ := ring_good hn hj hcs cs.length 0 [] (by omega) rfl
 exact ⟨t', h1, Mach.onF_more (k := 10) h1, h2⟩
end
end
end Go.Proofs.Ytdcbnbmahndecaa
namespace Go.Proofs.Ytdcbnbmahndecaa
open Go Go.PB
attribute [local irreducible] Mo Bin Eql Tr Wo Ap
section
section
variable {B : Hand} [Lets B] {L : List HProp} {x : B.X}
theorem width_tr {n : Int} (hn : -9223372036854775808 ≤ n ∧ n ≤ 9223372036854775807) :
  Tr Try.prog B 9 [.int .i64 n] L x fun v L' x' => ∃ k : Nat, k ≤ 3 ∧ v = .int .i64 ((2 ^ k : Nat) : Int) ∧ L' = L ∧ x' = x := by
 have h1 := Int.emod_nonneg n (by omega : (4 : Int) ≠ 0)
 have h2 := Int.emod_lt_of_pos n (by omega : (0 : Int) < 4)
 refine bd_ Try.func9 rfl Try.ntmps9 (by simp) fun um Q _ hQ => ?_
 simp only [argE, Nat.zero_add, Nat.reduceAdd]
 repeat (first | refine bb_ ?_ | (refine wR ?_; try simp only [oS]) | refine ba_ ?_ | refine wM ?_ | refine wA ?_)
 refine bj_ (.cons rfl (.cons rfl .nil)) trivial (kx_ hn (by omega)) ?_
 rintro v L' x' ⟨rfl, rfl, rfl⟩
 obtain ⟨k, hk⟩ : ∃ k : Nat, n % 4 = k := ⟨(n % 4).toNat, by omega⟩
 rw [hk]
 have hk3 : k ≤ 3 := by omega
 have hw : IntKind.i64.wrap (1 * 2 ^ (min (k : Int).toNat IntKind.i64.bits)) = ((2 ^ k : Nat) : Int) := by
  have : k = 0 ∨ k = 1 ∨ k = 2 ∨ k = 3 := by omega
  rcases this with rfl | rfl | rfl | rfl <;> rfl
 repeat (first | (apply wo_po; apply bh_; exact rfl; exact rfl; apply bin_shl; omega; exact hw; exact gY) | refine ba_ ?_ | refine wA ?_ | refine br_ ?_)
 (first | refine or1 Try.func9 Try.results9 hQ rfl ?_ | refine on1 Try.func9 Try.results9 hQ rfl ?_)
 exact ⟨k, hk3, rfl, rfl, rfl⟩
end
def bx_ (r b : Nat) : Nat → Nat × Nat
 | 0 => (r, 0)
 | 1 => (r, 1)
 | i + 2 => (b, i)
theorem ft_ {r b n : Nat} (h : r ≠ b) (c : Nat) : Apart (bx_ r b) (n + 2) [(r, 2, .slice (some ⟨b, 0, none⟩) c c)] where
 inj := by
  rintro (_ | _ | i) (_ | _ | j) _ _ <;> simp [bx_] <;> omega
 fix := by
  rintro (_ | _ | i) _ k hk <;> simp only [List.mem_singleton] at hk <;> subst hk <;> simp [bx_] <;> omega
theorem tm_ {r b n : Nat} {L : List HProp} {h : Hp} (s : Star (arr r 0 [.int .u64 0, .int .u64 0, .slice (some ⟨b, 0, none⟩) n n] :: arr b 0 (zeros n [.int .u64 0]) :: L) h) :
  Star (wds (bx_ r b) (n + 2) [(r, 2, .slice (some ⟨b, 0, none⟩) n n)] (fun _ => 0) :: L) h := by
 have s' := bm_ (M := [_, _]) s
 refine bp_ s' (fun h hh => ?_) (fun _ x => x)
 obtain ⟨h1, h2, s1, ha, h3, h4, s2, hb, _⟩ := hh
 refine ⟨fun w hw => ⟨by show 0 < 18446744073709551616; decide, ?_⟩, fun k hk => ?_⟩
 ·match w with
  | 0 => exact s1.o1 _ _ _ (ha 0 _ rfl)
  | 1 => exact s1.o1 _ _ _ (ha 1 _ rfl)
  | i + 2 =>
   have := hb i (.int .u64 0) (zeros_one (by omega))
   simp only [bx_]
   rw [Nat.zero_add] at this
   exact s1.o2 _ _ _ (s2.o1 _ _ _ this)
 ·simp only [List.mem_singleton] at hk
  subst hk
  exact s1.o1 _ _ _ (ha 2 _ rfl)
def gr_ {B : Hand} [Lets B] (x : B.X) (r b n : Nat) (h : r ≠ b) : Acc B .nilIface := loneAcc x (bx_ r b) (n + 2) _ (ft_ h n)
theorem ring_at {B : Hand} [Lets B] {x : B.X} {r b n k : Nat} (h : r ≠ b) (hn : n = 2 ^ k) (hk : k ≤ 10) : RingAt (gr_ x r b n h) r b n k where
 hn := hn
 hk := hk
 hdr := fun s h hs => by
  obtain ⟨h1, h2, s1, hc, _⟩ := hs
  exact ⟨rfl, .inl (s1.o1 _ _ _ (hc.2 (r, 2, .slice (some ⟨b, 0, none⟩) n n) (List.mem_singleton.2 rfl)))⟩
 a0 := rfl
 a1 := rfl
 a2 := fun i _ => by show bx_ r b (2 + i) = _; rw [Nat.add_comm]; rfl
structure RowAt (n : Nat) (s : Nat → Nat) (row : List Nat) : Prop where
 len : row.length ≤ n
 put : s 1 = (s 0 + row.length) % 18446744073709551616
 t : s 0 < 18446744073709551616
 slots : ∀ i v, row[i]? = some v → s (2 + (s 0 + i) % n) = v
theorem mod_pow {n k a : Nat} (hn : n = 2 ^ k) (hk : k ≤ 10) : a % 18446744073709551616 % n = a % n := by
 refine Nat.mod_mod_of_dvd a ?_
 rw [hn, show 18446744073709551616 = 2 ^ 64 from rfl]
 exact Nat.pow_dvd_pow 2 (by omega)
theorem put_row {B : Hand} [Lets B] {x : B.X} {r b n k v : Nat} {h : r ≠ b} (hn : n = 2 ^ k) (hk : k ≤ 10) {s : Nat → Nat} {row : List Nat} (R : RowAt n s row) :
  PutT (gr_ x r b n h) n v s fun q s' => q = decide (row.length < n) ∧ RowAt n s' (if row.length < n then row ++ [v] else row) := by
 have hle : n ≤ 1024 := by rw [hn]; exact fp_ hk
 have hpos : 0 < n := by rw [hn]; exact Nat.two_pow_pos k
 obtain ⟨h1, h2, h3, h4⟩ := R
 have hd : (s 1 + 18446744073709551616 - s 0) % 18446744073709551616 = row.length := by rw [h2]; omega
 have hm : s 1 % n = (s 0 + row.length) % n := by rw [h2, mod_pow hn hk]
 have hmod : s 1 % n < n := Nat.mod_lt _ hpos
 refine ⟨by omega, by omega, ?_⟩
 show if n ≤ (s 1 + 18446744073709551616 - s 0) % 18446744073709551616 then _ else _
 rw [hd]
 by_cases hf : n ≤ row.length
 ·rw [if_pos hf, if_neg (by omega)]
  exact ⟨by simp; omega, h1, h2, h3, h4⟩
 ·rw [if_neg hf, if_pos (by omega)]
  refine ⟨by omega, by omega, by simp; omega, ?_⟩
  have e0 : upd (upd s (2 + s 1 % n) v) 1 ((s 1 + 1) % 18446744073709551616) 0 = s 0 := by rw [hn_ (by omega), hn_ (by omega)]
  refine ⟨by simp; omega, ?_, ?_, ?_⟩
  ·rw [e0, td_]
   simp only [List.length_append, List.length_cons, List.length_nil]
   omega
  ·rw [e0]; exact h3
  ·intro i u hi
   rw [e0, hn_ (by omega)]
   by_cases e : i = row.length
   ·subst e
    rw [hm, td_]
    simpa using hi
   ·have hi' : i < row.length := by
     have := (List.getElem?_eq_some_iff.1 hi).1
     simp at this; omega
    rw [List.getElem?_append_left hi'] at hi
    rw [hn_, h4 i u hi]
    rw [hm]
    intro hx
    have hx : (s 0 + i) % n = (s 0 + row.length) % n := by omega
    have hd := Nat.sub_mod_eq_zero_of_mod_eq hx.symm
    rw [Nat.mod_eq_of_lt (by omega)] at hd
    omega
theorem take_row {B : Hand} [Lets B] {x : B.X} {r b n k : Nat} {h : r ≠ b} (hn : n = 2 ^ k) (hk : k ≤ 10) {s : Nat → Nat} {row : List Nat} (R : RowAt n s row) :
  TakeT (gr_ x r b n h) n s fun q s' => q = row.head? ∧ RowAt n s' row.tail := by
 have hle : n ≤ 1024 := by rw [hn]; exact fp_ hk
 have hpos : 0 < n := by rw [hn]; exact Nat.two_pow_pos k
 obtain ⟨h1, h2, h3, h4⟩ := R
 have hmod : s 0 % n < n := Nat.mod_lt _ hpos
 refine ⟨by omega, by omega, ?_⟩
 show if s 0 = s 1 then _ else _
 cases row with
 | nil =>
  rw [if_pos (by rw [h2]; simp; omega)]
  exact ⟨rfl, h1, h2, h3, h4⟩
 | cons v row =>
  simp only [List.length_cons] at h1 h2
  rw [if_neg (by omega)]
  refine ⟨by omega, by omega, ?_, ?_⟩
  ·have := h4 0 v rfl
   rw [Nat.add_zero] at this
   rw [this]; rfl
  ·refine ⟨by simp; omega, ?_, ?_, ?_⟩
   ·show s 1 = ((s 0 + 1) % 18446744073709551616 + _) % _
    simp only [List.tail_cons]; omega
   ·exact Nat.mod_lt _ (by decide)
   ·intro i u hi
    show upd s 0 _ (2 + ((s 0 + 1) % 18446744073709551616 + i) % n) = u
    rw [hn_ (by omega)]
    have := h4 (i + 1) u hi
    rw [← this, ← mod_pow (a := s 0 + (i + 1)) hn hk, ← mod_pow (a := (s 0 + 1) % 18446744073709551616 + i) hn hk]
    congr 3
    omega
theorem len_row {B : Hand} [Lets B] {x : B.X} {r b n : Nat} {h : r ≠ b} {s : Nat → Nat} {row : List Nat} (R : RowAt n s row) (hn : n ≤ 1024) :
  LenT (gr_ x r b n h) n s fun q s' => q = row.length ∧ s' = s := by
 obtain ⟨h1, h2, h3, h4⟩ := R
 refine ⟨by omega, by omega, ?_, rfl⟩
 have hd : (s 1 + 18446744073709551616 - s 0) % 18446744073709551616 = row.length := by rw [h2]; omega
 rw [hd]; omega
theorem new_lone {B : Hand} [Lets B] {x : B.X} {n k : Nat} {L : List HProp} (hn : n = 2 ^ k) (hk : k ≤ 10) :
  Tr Try.prog B 10 [.int .i64 n] L x fun v L' x' => ∃ r b, ∃ h : r ≠ b, ∃ s, v = .tuple #[.pointer (some ⟨r, 0, none⟩), .int .i64 0] ∧ RowAt n s [] ∧ L' = (gr_ x r b n h).C s :: L ∧ x' = x := by
 have hpos : 0 < n := by rw [hn]; exact Nat.two_pow_pos k
 refine (new_tr hn hk).post2 ?_
 rintro v L' x' h ⟨r, b, rfl, rfl, rfl⟩ st
 have hne : r ≠ b := by
  obtain ⟨vs, e⟩ := qf_ (v := .int .u64 0) hpos
  rw [e] at st
  exact wk_ st
 exact ⟨_, ⟨r, b, hne, fun _ => 0, rfl, ⟨by simp, rfl, by decide, fun i v hi => by simp at hi⟩, rfl, rfl⟩, tm_ st⟩
end
section
variable {B : Hand} [Lets B] {L F : List HProp} {x : B.X} {r b n k : Nat} {s : Nat → Nat} {row : List Nat}
theorem xx_ (h : r ≠ b) (hn : n = 2 ^ k) (hk : k ≤ 10) (R : RowAt n s row) {v : Nat} (hv : v < 18446744073709551616) (hh : Has L ((gr_ x r b n h).C s) F) :
  Tr Try.prog B 12 [.pointer (some ⟨r, 0, none⟩), .nilIface, .int .u64 v] L x fun v' L' x' => ∃ s', v' = .tuple #[.bool (decide (row.length < n)), .int .i64 0] ∧ RowAt n s' (if row.length < n then row ++ [v] else row) ∧ L' = (gr_ x r b n h).C s' :: F ∧ x' = x :=
 (put_tr (A := gr_ x r b n h) (ring_at h hn hk) hv (put_row hn hk R) hh).mono fun v' L' x' ⟨q, s', ⟨h1, h2⟩, h3, h4, h5⟩ => ⟨s', h1 ▸ h3, h2, h4, h5⟩
theorem take_lone (h : r ≠ b) (hn : n = 2 ^ k) (hk : k ≤ 10) (R : RowAt n s row) (hh : Has L ((gr_ x r b n h).C s) F) :
  Tr Try.prog B 13 [.pointer (some ⟨r, 0, none⟩), .nilIface] L x fun v' L' x' => ∃ s', row.head?.getD 0 < 18446744073709551616 ∧ v' = .tuple #[.int .u64 (row.head?.getD 0 : Nat), .bool row.head?.isSome, .int .i64 0] ∧ RowAt n s' row.tail ∧ L' = (gr_ x r b n h).C s' :: F ∧ x' = x :=
 (take_tr (A := gr_ x r b n h) (ring_at h hn hk) (take_row hn hk R) hh).mono fun v' L' x' ⟨q, s', ⟨h1, h2⟩, h3, h4, h5, h6⟩ => ⟨s', h1 ▸ h3, h1 ▸ h4, h2, h5, h6⟩
theorem len_lone (h : r ≠ b) (hn : n = 2 ^ k) (hk : k ≤ 10) (R : RowAt n s row) (hh : Has L ((gr_ x r b n h).C s) F) :
  Tr Try.prog B 14 [.pointer (some ⟨r, 0, none⟩), .nilIface] L x fun v' L' x' => v' = .tuple #[.int .i64 (row.length : Nat), .int .i64 0] ∧ L' = (gr_ x r b n h).C s :: F ∧ x' = x :=
 (len_tr (A := gr_ x r b n h) (ring_at h hn hk) (len_row R (by rw [hn]; exact fp_ hk)) hh).mono fun v' L' x' ⟨q, s', ⟨h1, h2⟩, h3, h4, h5, h6⟩ => ⟨by rw [h4, h1], by rw [h5, h2], h6⟩
theorem pg_ : Tr Try.prog B 8 [] L x fun v L' x' => v = .bool true ∧ L' = L ∧ x' = x := by
 refine Tr.post (R := fun v L' x' => ∃ c, v = .bool true ∧ L' = c :: L ∧ x' = x) ?_ (by rintro v L' x' ⟨c, rfl, rfl, rfl⟩; exact ⟨L, ⟨rfl, rfl, rfl⟩, fun h s => cg_ s⟩)
 refine bd_ Try.func8 rfl Try.ntmps8 (by simp) fun um Q _ hQ => ?_
 simp only [argE, Nat.zero_add, Nat.reduceAdd]
 repeat (first | refine bb_ ?_ | (refine wR ?_; try simp only [oS]) | refine ba_ ?_ | refine wA ?_)
 refine bj_ (.cons rfl .nil) trivial (new_lone (n := 2) (k := 1) rfl (by omega)) ?_
 rintro v L' x' ⟨r, b, h, s, rfl, R, rfl, rfl⟩
 repeat (first | refine bb_ ?_ | (refine wR ?_; try simp only [oS]) | refine ba_ ?_ | refine wM ?_ | refine wA ?_ | (apply wo_po; apply cb_; exact rfl; exact rfl; exact gY))
 refine bj_ (.cons rfl (.cons rfl (.cons rfl .nil))) trivial (xx_ (k := 1) (v := 5) h rfl (by omega) R (by omega) .here) ?_
 rintro v L' x' ⟨s, rfl, R, rfl, rfl⟩
 repeat (first | refine bb_ ?_ | (refine wR ?_; try simp only [oS]) | refine ba_ ?_ | refine wM ?_ | refine wA ?_ | (apply wo_po; apply cb_; exact rfl; exact rfl; exact gY))
 refine bj_ (.cons rfl (.cons rfl (.cons rfl .nil))) trivial (xx_ (k := 1) (v := 6) h rfl (by omega) R (by omega) .here) ?_
 rintro v L' x' ⟨s, rfl, R, rfl, rfl⟩
 repeat (first | refine bb_ ?_ | (refine wR ?_; try simp only [oS]) | refine ba_ ?_ | refine wM ?_ | refine wA ?_ | (apply wo_po; apply cb_; exact rfl; exact rfl; exact gY))
 refine bj_ (.cons rfl (.cons rfl (.cons rfl .nil))) trivial (xx_ (k := 1) (v := 7) h rfl (by omega) R (by omega) .here) ?_
 rintro v L' x' ⟨s, rfl, R, rfl, rfl⟩
 repeat (first | refine bb_ ?_ | (refine wR ?_; try simp only [oS]) | refine ba_ ?_ | refine wM ?_ | refine wA ?_ | (apply wo_po; apply cb_; exact rfl; exact rfl; exact gY))
 refine bj_ (.cons rfl (.cons rfl .nil)) trivial (take_lone (k := 1) h rfl (by omega) R .here) ?_
 rintro v L' x' ⟨s, _, rfl, R, rfl, rfl⟩
 repeat (first | refine bb_ ?_ | (refine wR ?_; try simp only [oS]) | refine ba_ ?_ | refine wM ?_ | refine wA ?_ | (apply wo_po; apply cb_; exact rfl; exact rfl; exact gY))
 refine bj_ (.cons rfl (.cons rfl .nil)) trivial (len_lone (k := 1) h rfl (by omega) R .here) ?_
 rintro v L' x' ⟨rfl, rfl, rfl⟩
 repeat (first | refine weqlT ?_ | refine bb_ ?_ | (refine wR ?_; try simp only [oS]) | refine ba_ ?_ | refine wM ?_ | refine wA ?_ | refine wK ?_ | (apply wo_po; apply cb_; exact rfl; exact rfl; exact gY) | (apply wo_po; apply dq_; exact rfl; exact gY) | (apply wo_po; apply bh_; exact rfl; exact rfl; exact ha_; exact gY) | refine br_ ?_)
 (first | refine or1 Try.func8 Try.results8 hQ rfl ?_ | refine on1 Try.func8 Try.results8 hQ rfl ?_)
 exact ⟨_, rfl, rfl, rfl⟩
structure DoAt (L : List HProp) (a : Option Addr) (l : List (Int × Nat)) : Prop where
 rng : ∀ y ∈ l, (-9223372036854775808 ≤ y.1 ∧ y.1 ≤ 9223372036854775807) ∧ y.2 < 18446744073709551616
 at_ : ∀ i y, l[i]? = some y → ∃ b o, a = some ⟨b, o, none⟩ ∧ Rd L b (o + 2 * i) (.int .i64 y.1) ∧ Rd L b (o + 2 * i + 1) (.int .u64 y.2)
end
end Go.Proofs.Ytdcbnbmahndecaa
namespace Go.PB
section
section
variable {P : Program} {xt : TypeId} {x y : Operand} {a b : ByteArray}
theorem wpS_partA {M : Mark → Prop} {α : Type} {t : TypeId} {n : Nat} {cs : Array Value} {off : Nat} {kk : Value → Sem α} (ha : aggOf P t = some true) (hz : szOf P t = some n) {h : Hp} {Q : α → Hp → Prop} {X : Value → Hp → Prop} (q : wpS P M (kk (.agg (cs.extract off (off + n)))) h Q X) :
  wpS P M (Sem.bind (part t cs off) kk) h Q X := by
 refine bq_ _ _ ?_
 unfold part
 refine kv_ (q := true) ha ?_
 simp only [if_true]
 refine ds_ hz ?_
 exact q
theorem eql_turned {t t1 : TypeId} {f0 f1 g0 g1 : Field} {k0 k1 k2 : IntKind} {a0 b0 a1 b1 a2 b2 : Int} [p : Und P t (.struct #[f0, f1])] [p1 : Und P t1 (.struct #[g0, g1])] [sz : Siz P t1 2] (hs : P.stoodInHeld t = false) (hs1 : P.stoodInHeld t1 = false) (hg : P.eqGuardType P.depth t = false)
  (n0 : f0.name ≠ "_") (n1 : f1.name ≠ "_") (m0 : g0.name ≠ "_") (m1 : g1.name ≠ "_") (o0 : f0.offset = 0) (o1 : f1.offset = 1) (q0 : g0.offset = 0) (q1 : g1.offset = 1) (ft1 : f1.type = t1) (t0 : P.underlying f0.type = some (.int k0)) (u0 : P.underlying g0.type = some (.int k1)) (u1 : P.underlying g1.type = some (.int k2)) :
  Eql P t x y (.agg #[.int k0 a0, .int k1 a1, .int k2 a2]) (.agg #[.int k0 b0, .int k1 b1, .int k2 b2]) (decide (a0 = b0 ∧ a1 = b1 ∧ a2 = b2)) :=
 eql_agg hg fun {M h Q X} q => by
  rw [gz_]
  unfold Op.equalIn
  refine bs_ p.ok ?_
  dsimp only
  refine fq_ (β := Unit) ?_
  simp only [hs, Bool.false_eq_true, if_false, ← Array.forIn_toList, List.forIn_cons, List.forIn_nil, n0, n1, ne_eq, not_false_eq_true, if_true, bind_assoc, pure_bind, o0, o1, ft1]
  have ha : aggOf P t1 = some true := by unfold aggOf; rw [p1.ok]; rfl
  refine ju_ t0 rfl (ju_ t0 rfl (sk_ (d := 9998) t0 ?_))
  by_cases e0 : a0 = b0
  ·subst e0
   simp only [beq_self_eq_true, Bool.not_true, Bool.false_eq_true, if_false, pure_bind, bind_assoc]
   refine wpS_partA ha sz.ok (wpS_partA ha sz.ok (bq_ _ _ ?_))
   refine pw_ (d := 9997) p1.ok hs1 m0 m1 q0 q1 u0 u1 ?_
   by_cases e1 : a1 = b1 ∧ a2 = b2
   ·obtain ⟨rfl, rfl⟩ := e1
    simp only [decide_true, and_self, Bool.not_true, Bool.false_eq_true, if_false, pure_bind]
    have q' : Q true h := by simpa using q
    exact q'
   ·simp only [e1, decide_false, Bool.not_false, if_true, pure_bind]
    have q' : Q false h := by simpa [e1] using q
    exact q'
  ·have : (a0 == b0) = false := by simp [e0]
   simp only [this, Bool.not_false, if_true, pure_bind, bind_assoc]
   have q' : Q false h := by simpa [e0] using q
   exact q'
end
end
end Go.PB
