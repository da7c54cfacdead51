/-
  Part 6 of 10.
-/
import Derived.Test.YtodgemainhokjaaSp5
import Derived.Test.YtodgemainhokjaaSp2
import Derived.Test.YtodgemainhokjaaSp4
import Derived.Test.YtodgemainhokjaaSp3
set_option linter.unusedVariables false
set_option linter.unusedSimpArgs false
namespace Go.Proofs.Ytodgemainhokjaa
open Go Go.PB
attribute [local irreducible] Mo Bin Eql Tr Wo Ap
section
variable {B:Hand} [Lets B] {L F G:List HProp} {x:B.X}
theorem bpk {f:Nat} {s:Mach.St} {b:Bool} (h:16384≤s.tr.length):∀ m k,Mach.round f m k s b=some (s,b):=by
 intro m
 induction m with
 | zero=>intro k;rfl
 | succ m ih =>
  intro k
  unfold Mach.round
  rw [cdp h,if_neg (by decide)]
  exact ih (k+1)
def bfk (b6 b8 wb pb:Nat) (ov tv lv:Value) (pts:List PT) (f:Nat) (st:Mach.St) (x:B.X) (F:List HProp):Inv (Nat × Bool × Value × Mach.St × List (PT × Mach.Th)) B.X where
 e:=fun i=>[(1,ov),(2,tv),(6,.pointer (some ⟨b6,0,none⟩)),(8,.pointer (some ⟨b8,0,none⟩)),(9,.pointer (some ⟨wb,0,none⟩)),(10,lv),(13,.pointer (some ⟨pb,0,none⟩)),(16,.bool i.2.1)]
 L:=fun i=>arr pb 0 [i.2.2.1,.slice none 0 0]::vec 3 i.2.2.1 (i.2.2.2.1.tr.map trC).flatten::vec 1 lv (i.2.2.2.2.map ptrK)::all (i.2.2.2.2.map thK)::wdC wb i.2.2.2.1.w::F
 x:=fun _=>x
 ok:=fun i=>(if i.2.1=true then Mach.rounds f i.1 i.2.2.2.1=some st else i.2.2.2.1=st)∧i.2.2.2.2.map (·.1)=pts∧PlayOk f i.2.2.2.1 i.2.2.2.2
def rndIn (b6 b8 wb pb:Nat) (ov tv lv:Value) (pts:List PT) (f:Nat) (r:Mach.St × Bool) (x:B.X) (F:List HProp):Inv (Nat × Bool × Value × Mach.St × List (PT × Mach.Th)) B.X where
 e:=fun i=>[(1,ov),(2,tv),(6,.pointer (some ⟨b6,0,none⟩)),(8,.pointer (some ⟨b8,0,none⟩)),(9,.pointer (some ⟨wb,0,none⟩)),(10,lv),(13,.pointer (some ⟨pb,0,none⟩)),(16,.bool i.2.1),(17,.int .i64 (i.1:Nat))]
 L:=fun i=>arr pb 0 [i.2.2.1,.slice none 0 0]::vec 3 i.2.2.1 (i.2.2.2.1.tr.map trC).flatten::vec 1 lv (i.2.2.2.2.map ptrK)::all (i.2.2.2.2.map thK)::wdC wb i.2.2.2.1.w::F
 x:=fun _=>x
 ok:=fun i=>i.1≤pts.length∧Mach.round f (pts.length-i.1) i.1 i.2.2.2.1 i.2.1=some r∧i.2.2.2.2.map (·.1)=pts∧PlayOk f i.2.2.2.1 i.2.2.2.2
set_option maxHeartbeats 8000000 in
theorem bpp {um:FrameMode} {Q:PB.End→FrameMode→Hp→B.X→Prop} [pkk:Pass (leave Try.prog B 29 .normal Q) ⟨[],um⟩] {b6 b8 wb pb:Nat} {ov0 tv trv:Value} {st s1:Mach.St} {cc:Calls} {f g:Nat} {pts:List PT} {q:List (PT × Mach.Th)} {qa:Option Addr} {qc:Nat}
  (hp:Mach.rounds f g s1=some st) (hf:16384*(f+1)+f<1000000000) (hcc:CallsOk F cc) (hpc:pts.map (fun p=>(p.cw,p.cs))=cc) (hq1:q.map (·.1)=pts) (pk:PlayOk f s1 q) (hqa:qa=none→q.length=0) (hqa2:∀ y,qa=some y→y=⟨y.block,y.off,none⟩)
  (hQ:∀ v L' x' h',playR x F st v L' x'→Star L' h'→Q (.ret v) um h' x') :
  We Try.prog B .normal 159 (xo_ 7 ((Try.f29.body).getD .skip)) (leave Try.prog B 29 .normal Q)
   [(1,ov0),(2,tv),(6,.pointer (some ⟨b6,0,none⟩)),(8,.pointer (some ⟨b8,0,none⟩)),(9,.pointer (some ⟨wb,0,none⟩)),(10,.slice qa q.length qc),(13,.pointer (some ⟨pb,0,none⟩))] ⟨[],um⟩
   (arr pb 0 [trv,.slice none 0 0]::vec 3 trv (s1.tr.map trC).flatten::vec 1 (.slice qa q.length qc) (q.map ptrK)::all (q.map thK)::wdC wb s1.w::arr b6 0 [.slice none 0 0,.slice none 0 0]::arr b8 0 [.slice none 0 0,.slice none 0 0]::F) x:=by
 have hcn:=hcc.n
 have hpn:pts.length=cc.length:=by rw [← hpc,List.length_map]
 have hqn:q.length=pts.length:=by rw [← hq1,List.length_map]
 obtain ⟨R2,hR2⟩:∃ R2,R2=arr b6 0 [.slice none 0 0,.slice none 0 0]::arr b8 0 [.slice none 0 0,.slice none 0 0]::F:=⟨_,rfl⟩
 have hcc2:CallsOk R2 cc:=by rw [hR2];exact hcc.there.there
 rw [← hR2,hqn]
 rw [hqn] at hqa
 repeat (first | refine bb_ ?_ | (refine wR ?_;try simp only [oS]) | refine ba_ ?_ | refine wA ?_)
 refine qw_ (pk_ b6 b8 wb pb ov0 tv (.slice qa pts.length qc) pts f st x R2) ?_ ?_
 ·refine bd_ ?_
  refine ck_ (bfk b6 b8 wb pb ov0 tv (.slice qa pts.length qc) pts f st x R2) (fun i=>if i.2.1=true then i.1+1 else 0) (g,true,trv,s1,q) ⟨by rw [if_pos rfl];exact hp,hq1,pk⟩ ⟨rfl,rfl,rfl,rfl,rfl,rfl,rfl,rfl,trivial⟩ .refl rfl ?_
  clear hp hq1 pk hqn q s1 trv
  rintro ⟨g,left,trv,s,q⟩ ⟨hg,hq1,pk⟩
  dsimp only [bfk] at hg hq1 pk ⊢
  cases left with
  | false =>
   rw [if_neg (by decide)] at hg
   subst hg
   repeat (first | refine bb_ ?_ | (refine wR ?_;try simp only [oS]) | refine ba_ ?_ | refine wM ?_ | refine wF ?_ | refine ch_ ?_)
   refine go_ (I:=pk_ b6 b8 wb pb ov0 tv (.slice qa pts.length qc) pts f s x R2) (trv,q) ⟨hq1,pk⟩ ⟨rfl,rfl,rfl,rfl,rfl,rfl,rfl,trivial⟩ .refl rfl
  | true =>
   rw [if_pos rfl] at hg
   obtain ⟨g,rfl⟩:∃ g',g=g'+1:=by
    cases g with
    | zero=>cases hg
    | succ g=>exact ⟨g,rfl⟩
   have hsl:s.l.length=pts.length:=by rw [← pk.l,List.length_map,← hq1,List.length_map]
   unfold Mach.rounds at hg
   cases hr:Mach.round f s.l.length 0 s false with
   | none=>rw [hr] at hg;cases hg
   | some r =>
   rw [hr,Option.bind_some] at hg
   rw [hsl] at hr
   repeat (first | refine bb_ ?_ | (refine wR ?_;try simp only [oS]) | refine ba_ ?_ | refine wM ?_ | refine wT ?_ | refine bk_ ?_)
   refine bd_ ?_
   repeat (first | refine bb_ ?_ | (refine wR ?_;try simp only [oS]) | refine ba_ ?_ | refine wA ?_)
   refine bd_ ?_
   refine ck_ (rndIn b6 b8 wb pb ov0 tv (.slice qa pts.length qc) pts f r x R2) (fun i=>pts.length-i.1) (0,false,trv,s,q) ⟨Nat.zero_le _,hr,hq1,pk⟩ ⟨rfl,rfl,rfl,rfl,rfl,rfl,rfl,rfl,rfl,trivial⟩ .refl rfl ?_
   clear hr hq1 pk hsl q s trv
   rintro ⟨k,left,trv,s,q⟩ ⟨hk,hr,hq1,pk⟩
   dsimp only [rndIn] at hk hr hq1 pk ⊢
   have hqn:q.length=pts.length:=by rw [← hq1,List.length_map]
   have htr:=pk.tr
   refine de_ (bo_ (.there .here) (bg_ (by omega))) ?_
   rintro ⟨ra,rn,rc,rfl,hrn,_⟩
   have hrnn:=bnm hrn
   subst hrnn
   by_cases hc:k<pts.length
   ·by_cases hc2:s.tr.length<16384
    ·obtain ⟨⟨pt,t⟩,hqk⟩:∃ z,q[k]?=some z:=⟨q[k],by simp⟩
     have hlk:s.l[k]?=some t:=by rw [← pk.l,List.getElem?_map,hqk];rfl
     obtain ⟨⟨qb,qo,sp⟩,rfl⟩:∃ z,qa=some z:=by
      cases qa with
      | none=>have:pts.length=0:=hqa rfl;omega
      | some z=>exact ⟨z,rfl⟩
     cases hqa2 _ rfl
     have hpt:pts[k]?=some pt:=by rw [← hq1,List.getElem?_map,hqk];rfl
     have hccm:(pt.cw,pt.cs)∈cc:=by rw [← hpc];exact List.mem_map.2 ⟨pt,List.mem_of_getElem? hpt,rfl⟩
     rw [show pts.length-k=(pts.length-(k+1))+1 by omega] at hr
     unfold Mach.round at hr
     refine dd_ (thK (pt,t)::arr pb 0 [.slice ra s.tr.length rc,.slice none 0 0]::vec 3 (.slice ra s.tr.length rc) (s.tr.map trC).flatten::vec 1 (.slice (some ⟨qb,qo,none⟩) pts.length qc) (q.map ptrK)::all ((q.map thK).eraseIdx k)::wdC wb s.w::R2) (fun h st=>?_) ?_
     ·have s1:Star (all (q.map thK)::arr pb 0 [.slice ra s.tr.length rc,.slice none 0 0]::vec 3 (.slice ra s.tr.length rc) (s.tr.map trC).flatten::vec 1 (.slice (some ⟨qb,qo,none⟩) pts.length qc) (q.map ptrK)::wdC wb s.w::R2) h:=by
       refine Ent.star ?_ st
       repeat (first | exact Ent.refl | (apply Ent.take;(repeat (first | exact Has.here | apply Has.there))) | apply Ent.drop)
      have s2:=star_pick (i:=k) (c:=thK (pt,t)) (by rw [List.getElem?_map,hqk];rfl) s1
      refine Ent.star ?_ s2
      exact (.take .here (.take (.there .here) (.take (.there .here) (.take (.there .here) (.take .here .refl)))))
     refine we_ex .here fun y=>jv_ .here fun e1=>jv_ .here fun hr2=>tr_ .here ?_
     obtain ⟨av,al⟩:=y
     refine fg_ (arr pt.tb 0 (bf_ pt.cv t av)::vec 2 av (al.map ansV).flatten::all (al.map ansT)::arr pb 0 [.slice ra s.tr.length rc,.slice none 0 0]::vec 3 (.slice ra s.tr.length rc) (s.tr.map trC).flatten::vec 1 (.slice (some ⟨qb,qo,none⟩) pts.length qc) (q.map ptrK)::all ((q.map thK).eraseIdx k)::wdC wb s.w::R2) .refl ?_
     have hpv:Rd (arr pt.tb 0 (bf_ pt.cv t av)::vec 2 av (al.map ansV).flatten::all (al.map ansT)::arr pb 0 [.slice ra s.tr.length rc,.slice none 0 0]::vec 3 (.slice ra s.tr.length rc) (s.tr.map trC).flatten::vec 1 (.slice (some ⟨qb,qo,none⟩) pts.length qc) (q.map ptrK)::all ((q.map thK).eraseIdx k)::wdC wb s.w::R2) qb (qo+k) (.pointer (some ⟨pt.tb,0,none⟩)):=df_ (.there (.there (.there (.there (.there .here))))) (by rw [List.getElem?_map,hqk];rfl)
     have hov:Rd (arr pt.tb 0 (bf_ pt.cv t av)::vec 2 av (al.map ansV).flatten::all (al.map ansT)::arr pb 0 [.slice ra s.tr.length rc,.slice none 0 0]::vec 3 (.slice ra s.tr.length rc) (s.tr.map trC).flatten::vec 1 (.slice (some ⟨qb,qo,none⟩) pts.length qc) (q.map ptrK)::all ((q.map thK).eraseIdx k)::wdC wb s.w::R2) pt.tb 28 (.bool t.over):=Rd.row0 rfl
     cases hto:t.over with
     | true =>
      rw [hto] at hov
      rw [if_neg (by rw [bks hlk hto];decide)] at hr
      repeat (first | (apply wo_po;apply ce_;exact rfl;exact rfl;omega;exact gY) | (apply wo_po;apply bc_;exact rfl;exact hpv;exact gY) | (apply wo_po;apply bc_;exact rfl;exact hov;exact gY) | refine wlssT ?_ | refine bb_ ?_ | (refine wR ?_;try simp only [oS]) | refine ba_ ?_ | refine wM ?_ | refine wA ?_ | refine wK ?_ | refine wN ?_ | refine wD ?_ | (apply wo_po;apply gb_;exact rfl;exact gY) | refine wL ?_ | refine wadd ?_ | refine wE ?_ | refine wT ?_ | refine wF ?_ | refine bk_ ?_ | refine bd_ ?_)
      refine dv_ (I:=rndIn b6 b8 wb pb ov0 tv (.slice (some ⟨qb,qo,none⟩) pts.length qc) pts f r x R2) (R:=fun i'=>pts.length-i'.1<pts.length-k) (k+1,left,.slice ra s.tr.length rc,s,q) (by simp only;omega) ⟨by simp only;omega,hr,hq1,pk⟩ ⟨rfl,rfl,rfl,rfl,rfl,rfl,rfl,rfl,rfl,trivial⟩ (fun h st=>?_) rfl
      dsimp only [rndIn]
      have s1:=gi_ (y:=(av,al)) e1 hr2 st
      have s2:Star (thK (pt,t)::all ((q.map thK).eraseIdx k)::arr pb 0 [.slice ra s.tr.length rc,.slice none 0 0]::vec 3 (.slice ra s.tr.length rc) (s.tr.map trC).flatten::vec 1 (.slice (some ⟨qb,qo,none⟩) pts.length qc) (q.map ptrK)::wdC wb s.w::R2) h:=by
       refine Ent.star ?_ s1
       exact (.take .here (.take (.there (.there (.there .here))) .refl))
      have s3:=gz_ (M:=q.map thK) (by simp;omega) s2
      rw [gd_ (by rw [List.getElem?_map,hqk];rfl)] at s3
      refine Ent.star ?_ s3
      exact (.take (.there .here) (.take (.there .here) (.take (.there .here) (.take .here .refl))))
     | false =>
      rw [hto] at hov
      rw [if_pos (bkr hc2 hlk hto)] at hr
      cases htn:Mach.turn f s k with
      | none=>rw [htn] at hr;cases hr
      | some s' =>
      rw [htn,Option.bind_some] at hr
      obtain ⟨w',t',hop,rfl,pk',hgood,hcl,htold⟩:=tt_ pk hf hqk hc2 hto htn
      repeat (first | (apply wo_po;apply ce_;exact rfl;exact rfl;omega;exact gY) | (apply wo_po;apply bc_;exact rfl;exact hpv;exact gY) | (apply wo_po;apply bc_;exact rfl;exact hov;exact gY) | refine wlssT ?_ | refine bb_ ?_ | (refine wR ?_;try simp only [oS]) | refine ba_ ?_ | refine wM ?_ | refine wK ?_ | refine wN ?_ | refine wD ?_ | (apply wo_po;apply gb_;exact rfl;exact gY) | refine wL ?_ | refine wE ?_ | refine wT ?_ | refine bk_ ?_ | refine bd_ ?_)
      obtain ⟨GG,hGG⟩:∃ GG,GG=arr pb 0 [.slice ra s.tr.length rc,.slice none 0 0]::vec 3 (.slice ra s.tr.length rc) (s.tr.map trC).flatten::vec 1 (.slice (some ⟨qb,qo,none⟩) pts.length qc) (q.map ptrK)::all ((q.map thK).eraseIdx k)::R2:=⟨_,rfl⟩
      have hobs:Obs GG (codeC pt.cw pt.cs):=by rw [hGG];exact (hcc2.obs _ hccm).there.there.there.there
      have hptr:∀ d1 d2:HProp,Rd (d1::d2::GG) qb (qo+k) (.pointer (some ⟨pt.tb,0,none⟩)):=fun d1 d2=>by rw [hGG];exact df_ (.there (.there (.there (.there .here)))) (by rw [List.getElem?_map,hqk];rfl)
      have htrv:∀ d1 d2:HProp,Rd (d1::d2::GG) pb 0 (.slice ra s.tr.length rc):=fun d1 d2=>by rw [hGG];exact .there (.there (Rd.row0 rfl))
      refine dd_ (thC pt.tb (pt.cw.v pt.cs.length) t::wdC wb s.w::GG) (fun h st=>?_) ?_
      ·rw [hGG]
       have s1:=gi_ (y:=(av,al)) e1 hr2 st
       refine Ent.star ?_ s1
       exact (.take .here (.take (.there (.there (.there (.there .here)))) .refl))
      refine bx_ (List.range' 0 13) (by kernel_rfl) ?_
      repeat (first | (apply bh_;exact rfl;exact rfl;exact trivial;intro L;apply ce_;exact rfl;exact rfl;exact hc) | (apply bm_;exact rfl;exact rfl;exact trivial;apply bc_;exact rfl;exact hptr _ _) | (apply bm_;exact rfl;exact rfl;exact trivial;apply bc_;exact rfl;exact htrv _ _) | refine aM ?_ | refine aD ?_)
      refine ja_ rfl rfl rfl trivial rfl rfl (.cons rfl (.cons rfl .nil)) (op_tr (cw:=pt.cw) (cs:=pt.cs) (G:=GG) hop hgood (by omega) hcl htold .here .here hobs) ?_ ?_
      ·rintro v L' x' ⟨rfl,rfl,rfl⟩ p hp
       replace hp:=(List.mem_filter.1 hp).1
       simp only [List.mem_cons,List.not_mem_nil,or_false] at hp
       rcases hp with rfl | rfl | rfl | rfl | rfl | rfl | rfl <;> first | exact .inl rfl | exact .inr ⟨_,rfl,trivial,bc_ rfl (htrv _ _)⟩ | exact .inr ⟨_,rfl,trivial,bc_ rfl (hptr _ _)⟩
      rintro v L' x1 ⟨rfl,rfl,rfl⟩
      repeat (first | (apply bh_;exact rfl;exact rfl;exact trivial;intro L;apply dn_ (pv:=[(0,_),(1,_)]);exact rfl;exact .cons rfl (.cons rfl .nil);exact rfl))
      refine gf_ rfl rfl rfl rfl trivial (bi_ (sz:=3) (vs:=[.agg #[.int .i64 (k:Nat),.int .u8 (t.mark.1:Nat),.int .i64 (t.mark.2:Nat)]]) rfl (.cons rfl .nil) rfl (by intro v hv;cases (List.mem_singleton.1 hv);exact rfl) (by omega)) ?_ ?_
      ·rintro v L' ⟨sb,rfl,rfl⟩ p hp
       replace hp:=(List.mem_filter.1 hp).1
       rcases List.mem_cons.1 hp with rfl | hp
       ·exact .inl rfl
       replace hp:=(List.mem_filter.1 hp).1
       simp only [List.mem_cons,List.not_mem_nil,or_false] at hp
       rcases hp with rfl | rfl | rfl | rfl | rfl | rfl | rfl <;> first | exact .inl rfl | exact .inr ⟨_,rfl,trivial,bc_ rfl (.there (htrv _ _))⟩ | exact .inr ⟨_,rfl,trivial,bc_ rfl (.there (hptr _ _))⟩
      rintro v' L' ⟨sb,rfl,rfl⟩
      subst hGG
      refine cb_ rfl rfl rfl rfl rfl trivial (cc_ (sz:=3) (new:=[.int .i64 (k:Nat),.int .u8 (t.mark.1:Nat),.int .i64 (t.mark.2:Nat)]) rfl rfl rfl rfl (.there (.there (.there (.there .here)))) rfl (.inr ⟨_,_,rfl,Rds.all .here⟩) (by intro v hv;simp at hv;rcases hv with rfl | rfl | rfl <;> rfl) (by simp only [cd_];omega)) ?_
      rintro v' L' rfl
      refine gp_ (bo_ .here (bg_ (by omega))) ?_
      rintro ⟨ua,un,uc,rfl,_⟩
      repeat (first | refine aD ?_)
      refine cb_ rfl rfl rfl rfl rfl trivial (cf_ rfl rfl rfl (Wt.row0 (k:=0) (.there (.there (.there (.there .here)))) (Nat.succ_pos 1))) ?_
      rintro v' L' ⟨rfl,rfl⟩
      refine ca_ ?_
      repeat (first | (refine wR ?_;try simp only [oS]) | refine ba_ ?_ | refine wM ?_ | refine wA ?_ | refine wadd ?_)
      refine dv_ (I:=rndIn b6 b8 wb pb ov0 tv (.slice (some ⟨qb,qo,none⟩) pts.length qc) pts f r x1 R2) (R:=fun i'=>pts.length-i'.1<pts.length-k) (k+1,true,.slice ua un uc,⟨w',s.l.set k t',s.tr++[(k,t.mark)]⟩,q.set k (pt,t')) (by simp only;omega) ⟨by simp only;omega,hr,by simp only [List.map_set,hq1];exact gd_ hpt,pk'⟩ ⟨rfl,rfl,rfl,rfl,rfl,rfl,rfl,rfl,rfl,trivial⟩ (fun h st=>?_) rfl
      dsimp only [rndIn]
      have s1:Star (thK (pt,t')::all ((q.map thK).eraseIdx k)::arr pb 0 [.slice ua un uc,.slice none 0 0]::vec 3 (.slice ua un uc) ((s.tr.map trC).flatten++trC (k,t.mark))::vec 1 (.slice (some ⟨qb,qo,none⟩) pts.length qc) (q.map ptrK)::wdC wb w'::R2) h:=by
       refine Ent.star ?_ st
       exact (.take (.there (.there .here)) (.take (.there (.there (.there (.there (.there .here))))) (.take (.there (.there (.there .here))) (.take .here (.take (.there (.there .here)) (.take (.there .here) (.drop .refl)))))))
      have s2:=gz_ (M:=q.map thK) (by simp;omega) s1
      rw [List.map_set,List.map_set,gd_ (l:=q.map ptrK) (by rw [List.getElem?_map,hqk];rfl),show ((s.tr++[(k,t.mark)]).map trC).flatten=(s.tr.map trC).flatten++trC (k,t.mark) by simp]
      refine Ent.star ?_ s2
      exact (.take (.there .here) (.take (.there .here) (.take (.there .here) (.take .here .refl))))
    ·rw [bpk (by omega)] at hr
     cases hr
     have hg':if left=true then Mach.rounds f g s=some st else s=st:=by
      dsimp only at hg
      cases left with
      | true=>rw [if_pos rfl] at hg ⊢;exact hg
      | false=>rw [if_neg (by decide)] at hg ⊢;exact Option.some.inj hg
     repeat (first | refine wlssT ?_ | refine wlssF ?_ | refine bb_ ?_ | (refine wR ?_;try simp only [oS]) | refine ba_ ?_ | refine wM ?_ | refine wK ?_ | refine wD ?_ | refine wL ?_ | refine wE ?_ | refine wF ?_ | refine ch_ ?_)
     refine cr_ (I:=bfk b6 b8 wb pb ov0 tv (.slice qa pts.length qc) pts f st x R2) (R:=fun i'=>(if i'.2.1=true then i'.1+1 else 0)<(if true=true then g+1+1 else 0)) (g,left,.slice ra s.tr.length rc,s,q) (by dsimp only;rw [if_pos rfl];split <;> omega) ⟨hg',hq1,pk⟩ ⟨rfl,rfl,rfl,rfl,rfl,rfl,rfl,rfl,trivial⟩ .refl rfl
   ·rw [show pts.length-k=0 by omega] at hr
    cases hr
    have hg':if left=true then Mach.rounds f g s=some st else s=st:=by
     dsimp only at hg
     cases left with
     | true=>rw [if_pos rfl] at hg ⊢;exact hg
     | false=>rw [if_neg (by decide)] at hg ⊢;exact Option.some.inj hg
    repeat (first | refine wlssF ?_ | refine bb_ ?_ | (refine wR ?_;try simp only [oS]) | refine ba_ ?_ | refine wM ?_ | (apply wo_no;exact rfl) | refine wJ ?_ | refine wE ?_ | refine wF ?_ | refine ch_ ?_)
    refine cr_ (I:=bfk b6 b8 wb pb ov0 tv (.slice qa pts.length qc) pts f st x R2) (R:=fun i'=>(if i'.2.1=true then i'.1+1 else 0)<(if true=true then g+1+1 else 0)) (g,left,.slice ra s.tr.length rc,s,q) (by dsimp only;rw [if_pos rfl];split <;> omega) ⟨hg',hq1,pk⟩ ⟨rfl,rfl,rfl,rfl,rfl,rfl,rfl,rfl,trivial⟩ .refl rfl
 ·rintro ⟨trv,q⟩ ⟨hq1,pk⟩
  dsimp only [pk_] at hq1 pk ⊢
  have hqn2:q.length=pts.length:=by rw [← hq1,List.length_map]
  rw [hR2]
  rw [← hqn2] at hqa ⊢
  exact bpn (by omega) pk.l hqa hqa2 hQ
end
section
variable {B:Hand} [Lets B] {L F G:List HProp} {x:B.X}
set_option maxHeartbeats 8000000 in
theorem bvx {um:FrameMode} {Q:PB.End→FrameMode→Hp→B.X→Prop} [pkk:Pass (leave Try.prog B 29 .normal Q) ⟨[],um⟩] {b6 b8 wb pb:Nat} {tv:Value} {w:Mach.Wd} {st s1:Mach.St} {oa:Option Addr} {oc:Nat} {o:List Int} {cc:Calls} {f g:Nat} {pts:List PT} {l0:List Mach.Th} {q:List (PT × Mach.Th)} {qa:Option Addr} {qc:Nat}
  (hby:Mach.byOrder f ⟨w,l0,[]⟩ (o.map fun k=>if k<0 then none else some k.toNat)=some s1) (hp:Mach.rounds f g s1=some st) (hf:16384*(f+1)+f<1000000000) (hcc:CallsOk F cc) (ho:o.length<1000000) (hoi:∀ k∈o,-9223372036854775808≤k∧k≤9223372036854775807)
  (hor:∀ i k,o[i]?=some k→∃ b p,oa=some ⟨b,p,none⟩∧Rd F b (p+i) (.int .i64 k)) (hpc:pts.map (fun p=>(p.cw,p.cs))=cc) (hq1:q.map (·.1)=pts) (pk:PlayOk f ⟨w,l0,[]⟩ q) (hqa:qa=none→q.length=0) (hqa2:∀ y,qa=some y→y=⟨y.block,y.off,none⟩)
  (hQ:∀ v L' x' h',playR x F st v L' x'→Star L' h'→Q (.ret v) um h' x') :
  We Try.prog B .normal 159 (xo_ 6 ((Try.f29.body).getD .skip)) (leave Try.prog B 29 .normal Q)
   [(1,.slice oa o.length oc),(2,tv),(6,.pointer (some ⟨b6,0,none⟩)),(8,.pointer (some ⟨b8,0,none⟩)),(9,.pointer (some ⟨wb,0,none⟩)),(10,.slice qa q.length qc),(13,.pointer (some ⟨pb,0,none⟩))] ⟨[],um⟩
   (arr pb 0 [.slice none 0 0,.slice none 0 0]::vec 1 (.slice qa q.length qc) (q.map ptrK)::all (q.map thK)::wdC wb w::arr b6 0 [.slice none 0 0,.slice none 0 0]::arr b8 0 [.slice none 0 0,.slice none 0 0]::F) x:=by
 obtain ⟨R2,hR2⟩:∃ R2,R2=arr b6 0 [.slice none 0 0,.slice none 0 0]::arr b8 0 [.slice none 0 0,.slice none 0 0]::F:=⟨_,rfl⟩
 have hcc2:CallsOk R2 cc:=by rw [hR2];exact hcc.there.there
 have hor2:∀ i k,o[i]?=some k→∃ b p,oa=some ⟨b,p,none⟩∧Rd R2 b (p+i) (.int .i64 k):=fun i k h=>by
  obtain ⟨b,p,h1,h2⟩:=hor i k h
  exact ⟨b,p,h1,by rw [hR2];exact .there (.there h2)⟩
 rw [← hR2]
 obtain ⟨oN,hoN⟩:∃ oN,oN=o.map fun k:Int=>if k<0 then none else some k.toNat:=⟨_,rfl⟩
 have hoNl:oN.length=o.length:=by rw [hoN,List.length_map]
 rw [← hoN] at hby
 have hcn:=hcc.n
 have hqn:q.length=cc.length:=by rw [← hpc,← hq1,List.length_map,List.length_map]
 repeat (first | refine bb_ ?_ | (refine wR ?_;try simp only [oS]) | refine ba_ ?_ | refine wA ?_)
 refine qw_ (pk_ b6 b8 wb pb (.slice oa o.length oc) tv (.slice qa q.length qc) pts f s1 x R2) ?_ ?_
 rotate_left
 ·rintro ⟨trv,q2⟩ ⟨hq2,pk2⟩
  dsimp only [pk_] at hq2 pk2 ⊢
  have hqn2:q2.length=q.length:=by rw [← List.length_map (f:=(·.1)),hq2,← hq1,List.length_map]
  rw [hR2]
  rw [← hqn2] at hqa ⊢
  exact bpp hp hf hcc hpc hq2 pk2 hqa hqa2 hQ
 refine bd_ ?_
 refine dd_ ((hu_ b6 b8 wb pb (.slice oa o.length oc) tv (.slice qa q.length qc) pts f oN s1 x R2).L (0,.slice none 0 0,⟨w,l0,[]⟩,q)) (fun h st=>bn_ st (fun _ z=>z) (fun _ z=>di_ z)) ?_
 obtain ⟨nq,hnq⟩:∃ nq,nq=q.length:=⟨_,rfl⟩
 rw [← hnq] at hqa hqn ⊢
 refine ck_ (hu_ b6 b8 wb pb (.slice oa o.length oc) tv (.slice qa nq qc) pts f oN s1 x R2) (fun i=>oN.length-i.1) (0,.slice none 0 0,⟨w,l0,[]⟩,q) ⟨Nat.zero_le _,hby,hq1,pk⟩ ⟨rfl,rfl,rfl,rfl,rfl,rfl,rfl,rfl,trivial⟩ .refl rfl ?_
 clear hby pk hq1 hnq q w l0
 rintro ⟨i,trv,s,q⟩ ⟨hi,hby,hq1,pk⟩
 dsimp only [hu_] at hi hby hq1 pk ⊢
 have hqn2:q.length=nq:=by rw [hqn,← hpc,← hq1,List.length_map,List.length_map]
 have hsl:s.l.length=nq:=by rw [← pk.l,List.length_map];exact hqn2
 refine de_ (bo_ (.there .here) (bg_ (by omega))) ?_
 rintro ⟨ra,rn,rc,rfl,hrn,_⟩
 have hrnn:=bnm hrn
 subst hrnn
 have htr:=pk.tr
 by_cases hc:i<o.length
 ·by_cases hc2:s.tr.length<16384
  ·obtain ⟨ki,hk⟩:∃ k,o[i]?=some k:=⟨o[i],by simp [hc]⟩
   obtain ⟨k1,k2⟩:=hoi ki (List.mem_of_getElem? hk)
   obtain ⟨ob,op,rfl,hkr⟩:=hor2 i ki hk
   have hdrop:oN.drop i=(if ki<0 then none else some ki.toNat)::oN.drop (i+1):=by
    rw [List.drop_eq_getElem_cons (by omega:i<oN.length)]
    congr 1
    have:oN[i]?=some (if ki<0 then none else some ki.toNat):=by rw [hoN,List.getElem?_map,hk];rfl
    exact Option.some.inj (by rw [← this];simp)
   rw [hdrop] at hby
   by_cases hneg:ki<0
   ·rw [if_pos hneg] at hby
    have hkr':∀ {d1 d2 d3 d4 d5:HProp},Rd (d1::d2::d3::d4::d5::R2) ob (op+i) (.int .i64 ki):=fun {d1 d2 d3 d4 d5}=>.there (.there (.there (.there (.there hkr))))
    repeat (first | (apply wo_po;apply bz_ (r:=op+i);exact rfl;exact rfl;omega;omega;omega;exact trivial) | (apply wo_po;apply bc_;exact rfl;exact hkr';exact trivial) | refine wlssT ?_ | refine bb_ ?_ | (refine wR ?_;try simp only [oS]) | refine ba_ ?_ | refine wM ?_ | refine wA ?_ | (apply wo_no;exact rfl) | refine wK ?_ | refine wD ?_ | refine wL ?_ | refine wadd ?_ | refine wE ?_ | refine wT ?_ | refine bk_ ?_ | refine bd_ ?_ | refine ch_ ?_)
    refine cr_ (I:=hu_ b6 b8 wb pb (.slice (some ⟨ob,op,none⟩) o.length oc) tv (.slice qa nq qc) pts f oN s1 x R2) (R:=fun i'=>oN.length-i'.1<oN.length-i) (i+1,_,s,q) (by simp only;omega) ⟨by simp only;omega,hby,hq1,pk⟩ ⟨rfl,rfl,rfl,rfl,rfl,rfl,rfl,rfl,trivial⟩ .refl rfl
   rw [if_neg hneg] at hby
   obtain ⟨k,rfl⟩:∃ k:Nat,ki=k:=⟨ki.toNat,by omega⟩
   rw [Int.toNat_natCast] at hby
   unfold Mach.byOrder at hby
   by_cases hkq:k<nq
   ·obtain ⟨⟨pt,t⟩,hqk⟩:∃ z,q[k]?=some z:=⟨q[k],by simp⟩
    have hlk:s.l[k]?=some t:=by rw [← pk.l,List.getElem?_map,hqk];rfl
    obtain ⟨⟨qb,qo,sp⟩,rfl⟩:∃ z,qa=some z:=by
     cases qa with
     | none=>have:nq=0:=hqa rfl;omega
     | some z=>exact ⟨z,rfl⟩
    cases hqa2 _ rfl
    have hpt:pts[k]?=some pt:=by rw [← hq1,List.getElem?_map,hqk];rfl
    have hccm:(pt.cw,pt.cs)∈cc:=by rw [← hpc];exact List.mem_map.2 ⟨pt,List.mem_of_getElem? hpt,rfl⟩
    refine dd_ (thK (pt,t)::arr pb 0 [.slice ra s.tr.length rc,.slice none 0 0]::vec 3 (.slice ra s.tr.length rc) (s.tr.map trC).flatten::vec 1 (.slice (some ⟨qb,qo,none⟩) nq qc) (q.map ptrK)::all ((q.map thK).eraseIdx k)::wdC wb s.w::R2) (fun h st=>?_) ?_
    ·have s1:Star (all (q.map thK)::arr pb 0 [.slice ra s.tr.length rc,.slice none 0 0]::vec 3 (.slice ra s.tr.length rc) (s.tr.map trC).flatten::vec 1 (.slice (some ⟨qb,qo,none⟩) nq qc) (q.map ptrK)::wdC wb s.w::R2) h:=by
      refine Ent.star ?_ st
      repeat (first | exact Ent.refl | (apply Ent.take;(repeat (first | exact Has.here | apply Has.there))) | apply Ent.drop)
     have s2:=star_pick (i:=k) (c:=thK (pt,t)) (by rw [List.getElem?_map,hqk];rfl) s1
     refine Ent.star ?_ s2
     repeat (first | exact Ent.refl | (apply Ent.take;(repeat (first | exact Has.here | apply Has.there))) | apply Ent.drop)
    refine we_ex .here fun y=>jv_ .here fun e1=>jv_ .here fun hr=>tr_ .here ?_
    obtain ⟨av,al⟩:=y
    refine fg_ (arr pt.tb 0 (bf_ pt.cv t av)::vec 2 av (al.map ansV).flatten::all (al.map ansT)::arr pb 0 [.slice ra s.tr.length rc,.slice none 0 0]::vec 3 (.slice ra s.tr.length rc) (s.tr.map trC).flatten::vec 1 (.slice (some ⟨qb,qo,none⟩) nq qc) (q.map ptrK)::all ((q.map thK).eraseIdx k)::wdC wb s.w::R2) .refl ?_
    have hkr':∀ {d1 d2 d3 d4 d5 d6 d7 d8:HProp},Rd (d1::d2::d3::d4::d5::d6::d7::d8::R2) ob (op+i) (.int .i64 k):=fun {d1 d2 d3 d4 d5 d6 d7 d8}=>.there (.there (.there (.there (.there (.there (.there (.there hkr)))))))
    have hpv:Rd (arr pt.tb 0 (bf_ pt.cv t av)::vec 2 av (al.map ansV).flatten::all (al.map ansT)::arr pb 0 [.slice ra s.tr.length rc,.slice none 0 0]::vec 3 (.slice ra s.tr.length rc) (s.tr.map trC).flatten::vec 1 (.slice (some ⟨qb,qo,none⟩) nq qc) (q.map ptrK)::all ((q.map thK).eraseIdx k)::wdC wb s.w::R2) qb (qo+k) (.pointer (some ⟨pt.tb,0,none⟩)):=df_ (.there (.there (.there (.there (.there .here))))) (by rw [List.getElem?_map,hqk];rfl)
    have hov:Rd (arr pt.tb 0 (bf_ pt.cv t av)::vec 2 av (al.map ansV).flatten::all (al.map ansT)::arr pb 0 [.slice ra s.tr.length rc,.slice none 0 0]::vec 3 (.slice ra s.tr.length rc) (s.tr.map trC).flatten::vec 1 (.slice (some ⟨qb,qo,none⟩) nq qc) (q.map ptrK)::all ((q.map thK).eraseIdx k)::wdC wb s.w::R2) pt.tb 28 (.bool t.over):=Rd.row0 rfl
    cases hto:t.over with
    | true =>
     rw [hto] at hov
     rw [if_neg (by rw [bks hlk hto];decide)] at hby
     repeat (first | (apply wo_po;apply bz_ (r:=op+i);exact rfl;exact rfl;omega;omega;omega;exact trivial) | (apply wo_po;apply bc_;exact rfl;exact hkr';exact trivial) | (apply wo_po;apply ce_;exact rfl;exact rfl;omega;exact gY) | (apply wo_po;apply bc_;exact rfl;exact hpv;exact gY) | (apply wo_po;apply bc_;exact rfl;exact hov;exact gY) | refine wlssT ?_ | refine wlssF ?_ | refine wgeqF ?_ | refine bb_ ?_ | (refine wR ?_;try simp only [oS]) | refine ba_ ?_ | refine wM ?_ | refine wA ?_ | refine wK ?_ | refine wJ ?_ | refine wN ?_ | refine wD ?_ | refine wL ?_ | refine wadd ?_ | refine wE ?_ | refine wT ?_ | refine bk_ ?_ | refine bd_ ?_ | refine ch_ ?_)
     refine dv_ (I:=hu_ b6 b8 wb pb (.slice (some ⟨ob,op,none⟩) o.length oc) tv (.slice (some ⟨qb,qo,none⟩) nq qc) pts f oN s1 x R2) (R:=fun i'=>oN.length-i'.1<oN.length-i) (i+1,.slice ra s.tr.length rc,s,q) (by simp only;omega) ⟨by simp only;omega,hby,hq1,pk⟩ ⟨rfl,rfl,rfl,rfl,rfl,rfl,rfl,rfl,trivial⟩ (fun h st=>?_) rfl
     dsimp only [hu_]
     have s1:=gi_ (y:=(av,al)) e1 hr st
     have s2:Star (thK (pt,t)::all ((q.map thK).eraseIdx k)::arr pb 0 [.slice ra s.tr.length rc,.slice none 0 0]::vec 3 (.slice ra s.tr.length rc) (s.tr.map trC).flatten::vec 1 (.slice (some ⟨qb,qo,none⟩) nq qc) (q.map ptrK)::wdC wb s.w::R2) h:=by
      refine Ent.star ?_ s1
      exact (.take .here (.take (.there (.there (.there .here))) .refl))
     have s3:=gz_ (M:=q.map thK) (by simp;omega) s2
     rw [gd_ (by rw [List.getElem?_map,hqk];rfl)] at s3
     refine Ent.star ?_ s3
     repeat (first | exact Ent.refl | (apply Ent.take;(repeat (first | exact Has.here | apply Has.there))) | apply Ent.drop)
    | false =>
     rw [hto] at hov
     rw [if_pos (bkr hc2 hlk hto)] at hby
     cases htn:Mach.turn f s k with
     | none=>rw [htn] at hby;cases hby
     | some s' =>
     rw [htn,Option.bind_some] at hby
     obtain ⟨w',t',hop,rfl,pk',hgood,hcl,htold⟩:=tt_ pk hf hqk hc2 hto htn
     repeat (first | (apply wo_po;apply bz_ (r:=op+i);exact rfl;exact rfl;omega;omega;omega;exact trivial) | (apply wo_po;apply bc_;exact rfl;exact hkr';exact trivial) | (apply wo_po;apply ce_;exact rfl;exact rfl;omega;exact gY) | (apply wo_po;apply bc_;exact rfl;exact hpv;exact gY) | (apply wo_po;apply bc_;exact rfl;exact hov;exact gY) | refine wlssT ?_ | refine wlssF ?_ | refine wgeqF ?_ | refine bb_ ?_ | (refine wR ?_;try simp only [oS]) | refine ba_ ?_ | refine wM ?_ | refine wA ?_ | refine wK ?_ | refine wJ ?_ | refine wN ?_ | refine wD ?_ | refine wL ?_ | refine wE ?_ | refine wT ?_ | refine wF ?_ | refine bk_ ?_ | refine bd_ ?_)
     obtain ⟨GG,hGG⟩:∃ GG,GG=arr pb 0 [.slice ra s.tr.length rc,.slice none 0 0]::vec 3 (.slice ra s.tr.length rc) (s.tr.map trC).flatten::vec 1 (.slice (some ⟨qb,qo,none⟩) nq qc) (q.map ptrK)::all ((q.map thK).eraseIdx k)::R2:=⟨_,rfl⟩
     have hobs:Obs GG (codeC pt.cw pt.cs):=by rw [hGG];exact (hcc2.obs _ hccm).there.there.there.there
     have hptr:∀ d1 d2:HProp,Rd (d1::d2::GG) qb (qo+k) (.pointer (some ⟨pt.tb,0,none⟩)):=fun d1 d2=>by rw [hGG];exact df_ (.there (.there (.there (.there .here)))) (by rw [List.getElem?_map,hqk];rfl)
     have htrv:∀ d1 d2:HProp,Rd (d1::d2::GG) pb 0 (.slice ra s.tr.length rc):=fun d1 d2=>by rw [hGG];exact .there (.there (Rd.row0 rfl))
     refine dd_ (thC pt.tb (pt.cw.v pt.cs.length) t::wdC wb s.w::GG) (fun h st=>?_) ?_
     ·rw [hGG]
      have s1:=gi_ (y:=(av,al)) e1 hr st
      refine Ent.star ?_ s1
      exact (.take .here (.take (.there (.there (.there (.there .here)))) .refl))
     refine bx_ (List.range' 0 13) (by kernel_rfl) ?_
     repeat (first | (apply bh_;exact rfl;exact rfl;exact trivial;intro L;apply ce_;exact rfl;exact rfl;exact hkq) | (apply bm_;exact rfl;exact rfl;exact trivial;apply bc_;exact rfl;exact hptr _ _) | (apply bm_;exact rfl;exact rfl;exact trivial;apply bc_;exact rfl;exact htrv _ _) | refine aM ?_ | refine aD ?_)
     refine ja_ rfl rfl rfl trivial rfl rfl (.cons rfl (.cons rfl .nil)) (op_tr (cw:=pt.cw) (cs:=pt.cs) (G:=GG) hop hgood (by omega) hcl htold .here .here hobs) ?_ ?_
     ·rintro v L' x' ⟨rfl,rfl,rfl⟩ p hp
      replace hp:=(List.mem_filter.1 hp).1
      simp only [List.mem_cons,List.not_mem_nil,or_false] at hp
      rcases hp with rfl | rfl | rfl | rfl | rfl | rfl | rfl <;> first | exact .inl rfl | exact .inr ⟨_,rfl,trivial,bc_ rfl (htrv _ _)⟩ | exact .inr ⟨_,rfl,trivial,bc_ rfl (hptr _ _)⟩
     rintro v L' x1 ⟨rfl,rfl,rfl⟩
     repeat (first | (apply bh_;exact rfl;exact rfl;exact trivial;intro L;apply dn_ (pv:=[(0,_),(1,_)]);exact rfl;exact .cons rfl (.cons rfl .nil);exact rfl))
     refine gf_ rfl rfl rfl rfl trivial (bi_ (sz:=3) (vs:=[.agg #[.int .i64 (k:Nat),.int .u8 (t.mark.1:Nat),.int .i64 (t.mark.2:Nat)]]) rfl (.cons rfl .nil) rfl (by intro v hv;cases (List.mem_singleton.1 hv);exact rfl) (by omega)) ?_ ?_
     ·rintro v L' ⟨sb,rfl,rfl⟩ p hp
      replace hp:=(List.mem_filter.1 hp).1
      rcases List.mem_cons.1 hp with rfl | hp
      ·exact .inl rfl
      replace hp:=(List.mem_filter.1 hp).1
      simp only [List.mem_cons,List.not_mem_nil,or_false] at hp
      rcases hp with rfl | rfl | rfl | rfl | rfl | rfl | rfl <;> first | exact .inl rfl | exact .inr ⟨_,rfl,trivial,bc_ rfl (.there (htrv _ _))⟩ | exact .inr ⟨_,rfl,trivial,bc_ rfl (.there (hptr _ _))⟩
     rintro v' L' ⟨sb,rfl,rfl⟩
     subst hGG
     refine cb_ rfl rfl rfl rfl rfl trivial (cc_ (sz:=3) (new:=[.int .i64 (k:Nat),.int .u8 (t.mark.1:Nat),.int .i64 (t.mark.2:Nat)]) rfl rfl rfl rfl (.there (.there (.there (.there .here)))) rfl (.inr ⟨_,_,rfl,Rds.all .here⟩) (by intro v hv;simp at hv;rcases hv with rfl | rfl | rfl <;> rfl) (by simp only [cd_];omega)) ?_
     rintro v' L' rfl
     refine gp_ (bo_ .here (bg_ (by omega))) ?_
     rintro ⟨ua,un,uc,rfl,_⟩
     repeat (first | refine aD ?_)
     refine cb_ rfl rfl rfl rfl rfl trivial (cf_ rfl rfl rfl (Wt.row0 (k:=0) (.there (.there (.there (.there .here)))) (Nat.succ_pos 1))) ?_
     rintro v' L' ⟨rfl,rfl⟩
     refine ca_ ?_
     repeat (first | (refine wR ?_;try simp only [oS]) | refine ba_ ?_ | refine wM ?_ | refine wA ?_ | refine wadd ?_)
     refine dv_ (I:=hu_ b6 b8 wb pb (.slice (some ⟨ob,op,none⟩) o.length oc) tv (.slice (some ⟨qb,qo,none⟩) nq qc) pts f oN s1 x1 R2) (R:=fun i'=>oN.length-i'.1<oN.length-i) (i+1,.slice ua un uc,⟨w',s.l.set k t',s.tr++[(k,t.mark)]⟩,q.set k (pt,t')) (by simp only;omega) ⟨by simp only;omega,hby,by simp only [List.map_set,hq1];exact gd_ hpt,pk'⟩ ⟨rfl,rfl,rfl,rfl,rfl,rfl,rfl,rfl,trivial⟩ (fun h st=>?_) rfl
     dsimp only [hu_]
     have s1:Star (thK (pt,t')::all ((q.map thK).eraseIdx k)::arr pb 0 [.slice ua un uc,.slice none 0 0]::vec 3 (.slice ua un uc) ((s.tr.map trC).flatten++trC (k,t.mark))::vec 1 (.slice (some ⟨qb,qo,none⟩) nq qc) (q.map ptrK)::wdC wb w'::R2) h:=by
      refine Ent.star ?_ st
      exact (.take (.there (.there .here)) (.take (.there (.there (.there (.there (.there .here))))) (.take (.there (.there (.there .here))) (.take .here (.take (.there (.there .here)) (.take (.there .here) (.drop .refl)))))))
     have s2:=gz_ (M:=q.map thK) (by simp;omega) s1
     rw [List.map_set,List.map_set,gd_ (l:=q.map ptrK) (by rw [List.getElem?_map,hqk];rfl),show ((s.tr++[(k,t.mark)]).map trC).flatten=(s.tr.map trC).flatten++trC (k,t.mark) by simp]
     refine Ent.star ?_ s2
     repeat (first | exact Ent.refl | (apply Ent.take;(repeat (first | exact Has.here | apply Has.there))) | apply Ent.drop)
   ·rw [if_neg (by rw [cdn (List.getElem?_eq_none (by omega))];decide)] at hby
    have hkr':∀ {d1 d2 d3 d4 d5:HProp},Rd (d1::d2::d3::d4::d5::R2) ob (op+i) (.int .i64 k):=fun {d1 d2 d3 d4 d5}=>.there (.there (.there (.there (.there hkr))))
    repeat (first | (apply wo_po;apply bz_ (r:=op+i);exact rfl;exact rfl;omega;omega;omega;exact trivial) | (apply wo_po;apply bc_;exact rfl;exact hkr';exact trivial) | refine wlssT ?_ | refine wlssF ?_ | refine wgeqT ?_ | refine bb_ ?_ | (refine wR ?_;try simp only [oS]) | refine ba_ ?_ | refine wM ?_ | refine wA ?_ | (apply wo_no;exact rfl) | refine wK ?_ | refine wJ ?_ | refine wD ?_ | refine wL ?_ | refine wadd ?_ | refine wE ?_ | refine wT ?_ | refine bk_ ?_ | refine bd_ ?_ | refine ch_ ?_)
    refine cr_ (I:=hu_ b6 b8 wb pb (.slice (some ⟨ob,op,none⟩) o.length oc) tv (.slice qa nq qc) pts f oN s1 x R2) (R:=fun i'=>oN.length-i'.1<oN.length-i) (i+1,_,s,q) (by simp only;omega) ⟨by simp only;omega,hby,hq1,pk⟩ ⟨rfl,rfl,rfl,rfl,rfl,rfl,rfl,rfl,trivial⟩ .refl rfl
  ·rw [bgk (by omega)] at hby
   cases hby
   repeat (first | refine wlssT ?_ | refine wlssF ?_ | refine bb_ ?_ | (refine wR ?_;try simp only [oS]) | refine ba_ ?_ | refine wM ?_ | refine wK ?_ | refine wD ?_ | refine wL ?_ | refine wE ?_ | refine wF ?_ | refine ch_ ?_)
   refine go_ (I:=pk_ b6 b8 wb pb (.slice oa o.length oc) tv (.slice qa nq qc) pts f s1 x R2) (_,q) ⟨hq1,pk⟩ ⟨rfl,rfl,rfl,rfl,rfl,rfl,rfl,trivial⟩ .refl rfl
 ·have:oN.drop i=[]:=List.drop_eq_nil_of_le (by omega)
  rw [this] at hby
  cases hby
  repeat (first | refine wlssF ?_ | refine bb_ ?_ | (refine wR ?_;try simp only [oS]) | refine ba_ ?_ | refine wM ?_ | (apply wo_no;exact rfl) | refine wJ ?_ | refine wE ?_ | refine wF ?_ | refine ch_ ?_)
  refine go_ (I:=pk_ b6 b8 wb pb (.slice oa o.length oc) tv (.slice qa nq qc) pts f s1 x R2) (_,q) ⟨hq1,pk⟩ ⟨rfl,rfl,rfl,rfl,rfl,rfl,rfl,trivial⟩ .refl rfl
end
section
variable {B:Hand} [Lets B] {L F G:List HProp} {x:B.X}
set_option maxHeartbeats 8000000 in
theorem bsf {wv lv tv:Value} {w:Mach.Wd} {st:Mach.St} {oa:Option Addr} {oc:Nat} {o:List Int} {cc:Calls} {f g:Nat}
  (hp:Mach.play f g w (o.map fun k=>if k<0 then none else some k.toNat) (cc.map (·.2))=some st) (hf:16384*(f+1)+f<1000000000) (hcc:CallsOk F cc) (ho:o.length<1000000) (hoi:∀ k∈o,-9223372036854775808≤k∧k≤9223372036854775807)
  (hor:∀ i k,o[i]?=some k→∃ b p,oa=some ⟨b,p,none⟩∧Rd F b (p+i) (.int .i64 k)) (hh:Has L (wvC wv lv w) G) (ht:Has G (vec 1 tv (cc.map cvK)) F) :
  Tr Try.prog B 29 [.agg #[wv,lv],.slice oa o.length oc,tv] L x (playR x (vec 1 tv (cc.map cvK)::wvC wv lv w::F) st):=by
 refine cv_ (wvC wv lv w::vec 1 tv (cc.map cvK)::F) (fun h s=>bn_ (hh.star s) (fun _ z=>z) (fun _ z=>ht.star z)) ?_
 clear hh ht
 refine ds_ (bo_ (.there .here) (bg_ (by omega))) ?_
 rintro ⟨ta,tn,tc,rfl,htn,_,hta,hta2⟩
 have htnn:tn=cc.length:=by simpa using htn.symm
 subst htnn
 -- the plain play,step by step
 unfold Mach.play at hp
 cases hb:Mach.begin_ f ((cc.map (·.2)).map fun c=>{ calls:=c }) with
 | none=>rw [hb] at hp;cases hp
 | some l0 =>
 rw [hb,Option.bind_some] at hp
 cases hby:Mach.byOrder f ⟨w,l0,[]⟩ (o.map fun k=>if k<0 then none else some k.toNat) with
 | none=>rw [hby] at hp;cases hp
 | some s1 =>
 rw [hby,Option.bind_some] at hp
 refine be_ Try.func29 rfl Try.ntmps29 (by simp) fun um Q _ hQ=>?_
 simp only [argE,Nat.zero_add,Nat.reduceAdd]
 repeat (first | (apply wo_mo;apply cy_;exact rfl;exact trivial) | refine bb_ ?_ | (refine wR ?_;try simp only [oS]))
 rintro v' L' ⟨b3,rfl,rfl⟩
 repeat (first | (apply wo_mo;apply cn_;exact trivial))
 rintro v' L' ⟨b6,rfl,rfl⟩
 repeat (first | (apply wo_mo;apply cn_;exact trivial) | refine wA ?_)
 rintro v' L' ⟨b8,rfl,rfl⟩
 refine cm_ (bo_ (.there (.there (.there .here))) gy_) ?_
 rintro ⟨⟨wa,wn,wc,rfl⟩,la,ln,lc,rfl⟩
 have hb3:Rds (arr b8 0 [.slice none 0 0,.slice none 0 0]::arr b6 0 [.slice none 0 0,.slice none 0 0]::arr b3 0 [.slice wa wn wc,.slice la ln lc]::wvC (.slice wa wn wc) (.slice la ln lc) w::vec 1 (.slice ta cc.length tc) (cc.map cvK)::F) b3 0 [.slice wa wn wc,.slice la ln lc]:=Rds.all (.there (.there .here))
 repeat (first | (apply wo_po;apply cg_ (vs:=[.slice wa wn wc,.slice la ln lc]);exact rfl;exact rfl;exact hb3;exact trivial) | refine bb_ ?_ | (refine wR ?_;try simp only [oS]) | refine ba_ ?_)
 refine bt_ (.cons rfl .nil) trivial (cmh (.there (.there (.there .here)))) ?_
 rintro v L' x' ⟨wv',lv',rfl,rfl,rfl⟩
 refine cm_ (bo_ .here gy_) ?_
 rintro ⟨⟨wa',wn',wc',rfl⟩,la',ln',lc',rfl⟩
 repeat (first | (apply wo_mo;apply cn_;exact trivial))
 rintro v' L' ⟨wb,rfl,rfl⟩
 repeat (first | (apply wo_pm;apply ct_ (c:=0) (k:=0) (a:=0) (vs:=[.slice none 0 0,.slice none 0 0]);exact rfl;exact rfl;exact rfl;(intro w hw;simp [Value.cells] at hw;rcases hw with rfl | rfl <;> rfl);exact rfl;exact Nat.le_refl 2;exact .here;exact trivial) | refine bb_ ?_ | (refine wR ?_;try simp only [oS]) | refine ba_ ?_ | refine wA ?_)
 obtain ⟨R0,hR0⟩:∃ R0,R0=wvC (.slice wa wn wc) (.slice la ln lc) w::F:=⟨_,rfl⟩
 have hccR:∀ {d:HProp},CallsOk R0 cc:=fun {d}=>by rw [hR0];exact hcc.there
 refine bd_ ?_
 refine dd_ ((mx_ b3 b6 b8 wb (.slice oa o.length oc) (.slice ta cc.length tc) cc x' (wdC wb w::arr b6 0 [.slice none 0 0,.slice none 0 0]::arr b8 0 [.slice none 0 0,.slice none 0 0]::R0)).L (0,.slice none 0 0,[])) (fun h st=>?_) ?_
 ·have s1:Star (arr wb 0 [.slice wa' wn' wc',.slice la' ln' lc']::wvC (.slice wa' wn' wc') (.slice la' ln' lc') w::vec 1 (.slice ta cc.length tc) (cc.map cvK)::arr b6 0 [.slice none 0 0,.slice none 0 0]::arr b8 0 [.slice none 0 0,.slice none 0 0]::R0) h:=by
   rw [hR0]
   refine Ent.star ?_ st
   repeat (first | exact Ent.refl | (apply Ent.take;(repeat (first | exact Has.here | apply Has.there))) | apply Ent.drop)
  have s2:=cbc s1
  dsimp only [mx_]
  exact di_ (bj_ (M:=[]) (cs_ s2))
 refine ck_ (mx_ b3 b6 b8 wb (.slice oa o.length oc) (.slice ta cc.length tc) cc x' (wdC wb w::arr b6 0 [.slice none 0 0,.slice none 0 0]::arr b8 0 [.slice none 0 0,.slice none 0 0]::R0)) (fun i=>cc.length-i.1) (0,.slice none 0 0,[]) ⟨by simp,by simp,by simp⟩ ⟨rfl,rfl,rfl,rfl,rfl,rfl,rfl,trivial⟩ .refl rfl ?_
 rintro ⟨i,av,q⟩ ⟨hi,hq1,hq2⟩
 dsimp only [mx_] at hi hq1 hq2 ⊢
 have hccn:=hcc.n
 by_cases hc:i<cc.length
 ·obtain ⟨⟨cw,cs⟩,hcs⟩:∃ z,cc[i]?=some z:=⟨cc[i],by simp [hc]⟩
  obtain ⟨⟨tb0,to0,sp⟩,rfl⟩:∃ z,ta=some z:=by
   cases ta with
   | none=>have:cc.length=0:=hta rfl;omega
   | some z=>exact ⟨z,rfl⟩
  cases hta2 _ rfl
  refine de_ (bo_ .here (bg_ (by omega))) ?_
  rintro ⟨qa,qn,qc,rfl,hqn,_⟩
  have hqnn:qn=q.length:=by simpa using hqn.symm
  subst hqnn
  have hql:q.length=i:=by have:=congrArg List.length hq1;simpa [Nat.min_eq_left hi] using this
  have hcv:Rd (vec 1 (.slice qa q.length qc) (q.map ptrK)::all (q.map thK)::vec 1 (.slice (some ⟨tb0,to0,none⟩) cc.length tc) (cc.map cvK)::wdC wb w::arr b6 0 [.slice none 0 0,.slice none 0 0]::arr b8 0 [.slice none 0 0,.slice none 0 0]::R0) tb0 (to0+i) (cvK (cw,cs)):=df_ (.there (.there .here)) (by rw [List.getElem?_map,hcs];rfl)
  repeat (first | (apply wo_po;apply ce_;exact rfl;exact rfl;exact hc;exact trivial) | (apply wo_po;apply bc_;exact rfl;exact hcv;exact trivial) | (apply wo_po;apply dn_ (pv:=[(0,_)]);exact rfl;exact .cons rfl .nil;exact rfl;exact trivial) | (apply wo_mo;apply cy_;exact rfl;exact trivial) | refine wlssT ?_ | refine bb_ ?_ | (refine wR ?_;try simp only [oS]) | refine ba_ ?_ | refine wM ?_ | refine wE ?_ | refine wT ?_ | refine bk_ ?_ | refine bd_ ?_)
  rintro v' L' ⟨tb,rfl,rfl⟩
  refine dt_ (thK (⟨tb,cw,cs⟩,{ calls:=cs })::vec 1 (.slice qa q.length qc) (q.map ptrK)::all (q.map thK)::vec 1 (.slice (some ⟨tb0,to0,none⟩) cc.length tc) (cc.map cvK)::wdC wb w::arr b6 0 [.slice none 0 0,.slice none 0 0]::arr b8 0 [.slice none 0 0,.slice none 0 0]::R0) (fun h st=>cpm st) ?_
  repeat (first | (apply wo_mo;apply bi_ (sz:=1) (vs:=[.pointer (some ⟨tb,0,none⟩)]);exact rfl;exact .cons rfl .nil;exact rfl;(intro v hv;cases (List.mem_singleton.1 hv);exact rfl);omega;exact trivial))
  rintro v' L' ⟨sb,rfl,rfl⟩
  repeat (first | (apply wo_mo;apply cc_ (sz:=1) (new:=[.pointer (some ⟨tb,0,none⟩)]);exact rfl;exact rfl;exact rfl;exact rfl;exact (.there (.there .here));exact rfl;exact .inr ⟨_,_,rfl,Rds.all .here⟩;(intro v hv;cases (List.mem_singleton.1 hv);exact rfl);(simp only [cd_];omega);exact trivial))
  rintro v' L' rfl
  repeat (first | (refine wR ?_;try simp only [oS]) | refine ba_ ?_ | refine wM ?_ | refine wA ?_ | refine wadd ?_)
  refine dv_ (I:=mx_ b3 b6 b8 wb (.slice oa o.length oc) (.slice (some ⟨tb0,to0,none⟩) cc.length tc) cc x' (wdC wb w::arr b6 0 [.slice none 0 0,.slice none 0 0]::arr b8 0 [.slice none 0 0,.slice none 0 0]::R0)) (R:=fun i'=>cc.length-i'.1<cc.length-i) (i+1,v',q++[(⟨tb,cw,cs⟩,{ calls:=cs })]) (by simp only;omega) ⟨by simp only;omega,?_,?_⟩ ⟨rfl,rfl,rfl,rfl,rfl,rfl,rfl,trivial⟩ (fun h st=>?_) rfl
  ·simp only [List.map_append,List.map_cons,List.map_nil,hq1]
   rw [List.take_add_one,hcs];rfl
  ·simp only [List.map_append,List.map_cons,List.map_nil,hq2]
   rw [List.take_add_one,hcs,List.map_append];rfl
  ·dsimp only [mx_]
   rw [List.map_append,List.map_append]
   have s1:Star (vec 1 v' (q.map ptrK++[.pointer (some ⟨tb,0,none⟩)])::thK (⟨tb,cw,cs⟩,{ calls:=cs })::all (q.map thK)::vec 1 (.slice (some ⟨tb0,to0,none⟩) cc.length tc) (cc.map cvK)::wdC wb w::arr b6 0 [.slice none 0 0,.slice none 0 0]::arr b8 0 [.slice none 0 0,.slice none 0 0]::R0) h:=by
    refine Ent.star ?_ st
    repeat (first | exact Ent.refl | (apply Ent.take;(repeat (first | exact Has.here | apply Has.there))) | apply Ent.drop)
   exact bn_ s1 (fun _ z=>z) (fun _ z=>ke_ z)
 ·have hi':i=cc.length:=by omega
  subst hi'
  rw [List.take_length] at hq1 hq2
  repeat (first | refine wlssF ?_ | refine bb_ ?_ | (refine wR ?_;try simp only [oS]) | refine ba_ ?_ | refine wM ?_ | refine wA ?_ | refine wE ?_ | refine wF ?_ | refine ch_ ?_)
  obtain ⟨pts,hpts⟩:∃ pts,pts=q.map (·.1):=⟨_,rfl⟩
  have hpc:pts.map (fun p=>(p.cw,p.cs))=cc:=by rw [hpts,List.map_map,← hq1];rfl
  have hpn:pts.length=cc.length:=by rw [← hpc,List.length_map]
  obtain ⟨hbl,hbg⟩:=bxx hb
  rw [List.map_map] at hb hbl hbg
  have hql:q.length=cc.length:=by rw [← hpn,hpts,List.length_map]
  have hl0n:l0.length=cc.length:=by rw [hbl];simp
  refine de_ (bo_ .here (bg_ (by omega))) ?_
  rintro ⟨qa,qn,qc,rfl,hqn,_,hqa,hqa2⟩
  have hqnn:qn=cc.length:=by rw [← hql];simpa using hqn.symm
  subst hqnn
  obtain ⟨R1,hR1⟩:∃ R1,R1=vec 1 (.slice ta cc.length tc) (cc.map cvK)::wdC wb w::arr b6 0 [.slice none 0 0,.slice none 0 0]::arr b8 0 [.slice none 0 0,.slice none 0 0]::R0:=⟨_,rfl⟩
  have hccR1:CallsOk R1 cc:=by rw [hR1,hR0];exact hcc.there.there.there.there.there
  rw [← hR1]
  refine bd_ ?_
  refine ck_ (vc_ b6 b8 wb (.slice oa o.length oc) (.slice ta cc.length tc) (.slice qa cc.length qc) pts (cc.map fun y=>{ calls:=y.2 }) l0 x' R1) (fun i=>pts.length-i.1) (0,q) ⟨Nat.zero_le _,hpts.symm,by simpa using hq2⟩ ⟨rfl,rfl,rfl,rfl,rfl,rfl,rfl,trivial⟩ .refl rfl ?_
  clear hq1 hq2 hpts hql
  rintro ⟨i,q⟩ ⟨hi,hq1,hq2⟩
  dsimp only [vc_] at hi hq1 hq2 ⊢
  have hql:q.length=pts.length:=by rw [← hq1,List.length_map]
  by_cases hc2:i<pts.length
  ·obtain ⟨⟨pt,t⟩,hqi⟩:∃ z,q[i]?=some z:=⟨q[i],by simp⟩
   obtain ⟨⟨qb,qo,sp⟩,rfl⟩:∃ z,qa=some z:=by
    cases qa with
    | none=>have:cc.length=0:=hqa rfl;omega
    | some z=>exact ⟨z,rfl⟩
   cases hqa2 _ rfl
   have hpti:pts[i]?=some pt:=by rw [← hq1,List.getElem?_map,hqi];rfl
   have hcci:cc[i]?=some (pt.cw,pt.cs):=by rw [← hpc,List.getElem?_map,hpti];rfl
   have hccm:=List.mem_of_getElem? hcci
   have hti:t={ calls:=pt.cs }:=by
    have h1:=congrArg (fun l=>l[i]?) hq2
    simp only [List.getElem?_map,hqi] at h1
    rw [List.getElem?_append_right (by simp;omega)] at h1
    have h2:i-(l0.take i).length=0:=by simp;omega
    rw [h2,List.getElem?_drop,Nat.add_zero,List.getElem?_map,hcci] at h1
    exact Option.some.inj h1
   subst hti
   obtain ⟨t',ht',hl0⟩:=hbg i { calls:=pt.cs } (by rw [List.getElem?_map,hcci];rfl)
   have hpv:Rd (vec 1 (.slice (some ⟨qb,qo,none⟩) cc.length qc) (q.map ptrK)::thK (pt,{ calls:=pt.cs })::all ((q.map thK).eraseIdx i)::R1) qb (qo+i) (.pointer (some ⟨pt.tb,0,none⟩)):=df_ .here (by rw [List.getElem?_map,hqi];rfl)
   refine dd_ (vec 1 (.slice (some ⟨qb,qo,none⟩) cc.length qc) (q.map ptrK)::thK (pt,{ calls:=pt.cs })::all ((q.map thK).eraseIdx i)::R1) (fun h st=>bn_ st (fun _ z=>z) (fun _ z=>star_pick (by rw [List.getElem?_map,hqi];rfl) z)) ?_
   repeat (first | (apply wo_po;apply ce_;exact rfl;exact rfl;omega;exact trivial) | (apply wo_po;apply bc_;exact rfl;exact hpv;exact trivial) | refine wlssT ?_ | refine bb_ ?_ | (refine wR ?_;try simp only [oS]) | refine ba_ ?_ | refine wM ?_ | refine wE ?_ | refine wT ?_ | refine bk_ ?_ | refine bd_ ?_)
   refine bt_ (.cons rfl (.cons rfl .nil)) trivial (on_tr (cw:=pt.cw) (cs:=pt.cs) ht' (bdg (hcc.ok _ hccm) (hcc.len _ hccm)) (by omega) (.there .here) ((hccR1.obs _ hccm).there.there)) ?_
   rintro v L' x'' ⟨rfl,rfl,rfl⟩
   repeat (first | (refine wR ?_;try simp only [oS]) | refine ba_ ?_ | refine wM ?_ | refine wA ?_ | refine wadd ?_)
   refine dv_ (I:=vc_ b6 b8 wb (.slice oa o.length oc) (.slice ta cc.length tc) (.slice (some ⟨qb,qo,none⟩) cc.length qc) pts (cc.map fun y=>{ calls:=y.2 }) l0 x'' R1) (R:=fun i'=>pts.length-i'.1<pts.length-i) (i+1,q.set i (pt,t')) (by simp only;omega) ⟨by simp only;omega,?_,?_⟩ ⟨rfl,rfl,rfl,rfl,rfl,rfl,rfl,trivial⟩ (fun h st=>?_) rfl
   ·simp only [List.map_set,hq1]
    exact gd_ hpti
   ·simp only [List.map_set,hq2]
    exact bbs hl0 (by simp;omega)
   ·dsimp only [vc_]
    rw [List.map_set,List.map_set,gd_ (l:=q.map ptrK) (by rw [List.getElem?_map,hqi];rfl)]
    have s1:Star (vec 1 (.slice (some ⟨qb,qo,none⟩) cc.length qc) (q.map ptrK)::thK (pt,t')::all ((q.map thK).eraseIdx i)::R1) h:=cs_ st
    exact bn_ s1 (fun _ z=>z) (fun _ z=>gz_ (by simp;omega) z)
  ·have hi2:i=pts.length:=by omega
   subst hi2
   have hq2':q.map (·.2)=l0:=by
    rw [hq2,List.take_of_length_le (by rw [hbl];simp;omega),List.drop_eq_nil_of_le (by simp;omega),List.append_nil]
   clear hq2
   repeat (first | refine wlssF ?_ | refine bb_ ?_ | (refine wR ?_;try simp only [oS]) | refine ba_ ?_ | refine wM ?_ | refine wE ?_ | refine wF ?_ | refine ch_ ?_)
   repeat (first | (apply wo_mo;apply cn_;exact trivial))
   rintro v' L' ⟨pb,rfl,rfl⟩
   refine ba_ ?_
   have hqc:q.length=cc.length:=by omega
   have pk:PlayOk f ⟨w,l0,[]⟩ q:=by
    have hall:∀ y∈q,Good y.1.cs y.2 (16384*(f+1))∧bgv y.2:=by
     intro y hy
     obtain ⟨i,hi3⟩:=List.mem_iff_getElem?.1 hy
     have hpti:pts[i]?=some y.1:=by rw [← hq1,List.getElem?_map,hi3];rfl
     have hcci:cc[i]?=some (y.1.cw,y.1.cs):=by rw [← hpc,List.getElem?_map,hpti];rfl
     have hccm:=List.mem_of_getElem? hcci
     obtain ⟨t',ht',hl0⟩:=hbg i { calls:=y.1.cs } (by rw [List.getElem?_map,hcci];rfl)
     have:l0[i]?=some y.2:=by rw [← hq2',List.getElem?_map,hi3];rfl
     rw [this] at hl0
     cases hl0
     exact ⟨Good.onF (k:=16384*(f+1)) (f:=f) (bdg (hcc.ok _ hccm) (hcc.len _ hccm)) hf ht',zm_ ht'⟩
    exact ⟨hq2',Nat.zero_le _,fun y hy=>(hall y hy).1,fun y hy=>(hall y hy).2⟩
   refine pt_ (arr pb 0 [.slice none 0 0,.slice none 0 0]::vec 1 (.slice qa q.length qc) (q.map ptrK)::all (q.map thK)::wdC wb w::arr b6 0 [.slice none 0 0,.slice none 0 0]::arr b8 0 [.slice none 0 0,.slice none 0 0]::vec 1 (.slice ta cc.length tc) (cc.map cvK)::wvC (.slice wa wn wc) (.slice la ln lc) w::F) (fun h st=>?_) ?_
   ·rw [hR1,hR0] at st
    rw [hqc]
    refine Ent.star ?_ st
    exact (.take .here (.take .here (.take .here (.take (.there .here) (.take (.there .here) (.take (.there .here) (.take .here .refl)))))))
   refine cqg [(1,.slice oa o.length oc),(2,.slice ta cc.length tc),(6,.pointer (some ⟨b6,0,none⟩)),(8,.pointer (some ⟨b8,0,none⟩)),(9,.pointer (some ⟨wb,0,none⟩)),(10,.slice qa q.length qc),(13,.pointer (some ⟨pb,0,none⟩))] ⟨rfl,rfl,rfl,rfl,rfl,by rw [hqc];rfl,rfl,trivial⟩ ?_
   exact bvx (F:=vec 1 (.slice ta cc.length tc) (cc.map cvK)::wvC (.slice wa wn wc) (.slice la ln lc) w::F) (l0:=l0) (w:=w) hby hp hf hcc.there.there ho hoi (fun i k h=>by
    obtain ⟨b,p,h1,h2⟩:=hor i k h
    exact ⟨b,p,h1,.there (.there h2)⟩) hpc hq1 pk (by rw [hqc];exact hqa) hqa2 hQ
end
section
variable {B:Hand} [Lets B] {L F G:List HProp} {x:B.X}
def clC (kv dv:Value) (cl:Mach.Cl):HProp:=all [vec 7 kv (cl.code.map inC).flatten,vec 1 dv (cl.data.map num)]
theorem cfn {cb kn kc dn dc c:Nat} {ka da:Option Addr} {cl:Mach.Cl} (hk:kn=cl.code.length) (hd:dn=cl.data.length) (hka:∀ y,ka=some y→y=⟨y.block,y.off,none⟩) (hda:∀ y,da=some y→y=⟨y.block,y.off,none⟩) (hkn:ka=none→kn=0) (hdn:da=none→dn=0) :
  Obs (arr cb 0 [.slice ka kn kc,.slice da dn dc]::vec 7 (.slice ka kn kc) (cl.code.map inC).flatten::vec 1 (.slice da dn dc) (cl.data.map num)::F) (codeC ⟨some ⟨cb,0,none⟩,c,fun _=>(ka,kc),fun _=>(da,dc)⟩ [cl]):=by
 subst hk
 subst hd
 intro h s i y hy
 obtain ⟨rfl,rfl⟩:i=0∧cl=y:=by
  cases i with
  | zero=>exact ⟨rfl,by simpa using hy⟩
  | succ i=>simp at hy
 refine ⟨cb,0,rfl,(Rd.row0 rfl) h s,(Rd.row0 rfl) h s,fun j z hz=>?_,fun j v hv=>?_⟩
 ·have hlt:=(List.getElem?_eq_some_iff.1 hz).1
  cases ka with
  | none=>have:cl.code.length=0:=hkn rfl;omega
  | some a =>
   obtain ⟨kb,ko,sp⟩:=a
   cases hka _ rfl
   refine ⟨kb,ko,rfl,fun m v hm=>?_⟩
   have hm7:m<7:=(List.getElem?_eq_some_iff.1 hm).1
   have:=(df_ (i:=7*j+m) (v:=v) (L:=arr cb 0 [.slice (some ⟨kb,ko,none⟩) cl.code.length kc,.slice da cl.data.length dc]::vec 7 (.slice (some ⟨kb,ko,none⟩) cl.code.length kc) (cl.code.map inC).flatten::vec 1 (.slice da cl.data.length dc) (cl.data.map num)::F) (.there .here) (by rw [ku_ (k:=7) (fun _=>rfl) _ _ _ _ hz hm7];exact hm)) h s
   rwa [← Nat.add_assoc] at this
 ·have hlt:=(List.getElem?_eq_some_iff.1 hv).1
  cases da with
  | none=>have:cl.data.length=0:=hdn rfl;omega
  | some a =>
   obtain ⟨db,dq,sp⟩:=a
   cases hda _ rfl
   exact ⟨db,dq,rfl,(df_ (i:=j) (v:=num v) (L:=arr cb 0 [.slice ka cl.code.length kc,.slice (some ⟨db,dq,none⟩) cl.data.length dc]::vec 7 (.slice ka cl.code.length kc) (cl.code.map inC).flatten::vec 1 (.slice (some ⟨db,dq,none⟩) cl.data.length dc) (cl.data.map num)::F) (.there (.there .here)) (by rw [List.getElem?_map,hv];rfl)) h s⟩
def mkC (m:Nat × Nat):List Value:=[.int .u8 (m.1:Nat),.int .i64 (m.2:Nat)]
def pe_ (b5 pb nb:Nat) (ansv:Value) (st:Mach.St) (x:B.X) (F:List HProp):Inv (Nat × Value) B.X where
 e:=fun i=>[(5,.pointer (some ⟨b5,0,none⟩)),(7,.pointer (some ⟨pb,0,none⟩)),(8,ansv),(9,.pointer (some ⟨nb,0,none⟩)),(10,i.2),(11,.int .i64 (i.1:Nat))]
 L:=fun i=>vec 2 i.2 (((st.tr.take i.1).map (·.2)).map mkC).flatten::F
 x:=fun _=>x
 ok:=fun i=>i.1≤st.tr.length
set_option maxHeartbeats 8000000 in
theorem cgm {wv lv kv dv:Value} {w:Mach.Wd} {cl:Mach.Cl} {st:Mach.St} {f g:Nat} {d:Bool} {told:List Nat} {t:Mach.Th} (hp:Mach.play f g w [] [[cl]]=some st) (hf:16384*(f+1)+f<1000000000) (hcl:cl.ok=true) (htr:st.tr.length≤16384) (hl:st.l=[t]) (hans:t.ans=[(d,told)])
  (hh:Has L (wvC wv lv w) G) (hc:Has G (clC kv dv cl) F) :
  Tr Try.prog B 33 [.agg #[wv,lv],.agg #[kv,dv]] L x fun v L' x'=>∃ toldV wv' lv' marksV:Value,v=.tuple #[toldV,.agg #[wv',lv'],marksV]∧L'=vec 1 toldV (told.map num)::wvC wv' lv' st.w::vec 2 marksV ((st.tr.map (·.2)).map mkC).flatten::wvC wv lv w::F∧x'=x:=by
 refine cv_ (vec 7 kv (cl.code.map inC).flatten::vec 1 dv (cl.data.map num)::wvC wv lv w::F) (fun h s=>?_) ?_
 ·have s1:Star (clC kv dv cl::wvC wv lv w::F) h:=cs_ (bn_ (hh.star s) (fun _ z=>z) (fun _ z=>hc.star z))
  exact bq_ s1
 clear hh hc
 refine Tr.post (R:=fun v L' x'=>∃ toldV wv' lv' marksV:Value,v=.tuple #[toldV,.agg #[wv',lv'],marksV]∧x'=x∧∀ h,Star L' h→Star (vec 1 toldV (told.map num)::wvC wv' lv' st.w::vec 2 marksV ((st.tr.map (·.2)).map mkC).flatten::wvC wv lv w::F) h) ?_
  (by rintro v L' x' ⟨toldV,wv',lv',marksV,rfl,rfl,hs⟩;exact ⟨_,⟨toldV,wv',lv',marksV,rfl,rfl,rfl⟩,hs⟩)
 refine ds_ (bo_ .here (bg_ (by omega))) ?_
 rintro ⟨ka,kn,kc,rfl,hkn,_,hka,hka2⟩
 refine ds_ (bo_ (.there .here) (bg_ (by omega))) ?_
 rintro ⟨da,dn,dc,rfl,hdn,_,hda,hda2⟩
 refine ds_ (bo_ (.there (.there .here)) gy_) ?_
 rintro ⟨⟨wa,wn,wc,rfl⟩,la,ln,lc,rfl⟩
 have hkn':kn=cl.code.length:=by rw [gu_ (k:=7) (fun _=>rfl)] at hkn;omega
 have hdn':dn=cl.data.length:=by rw [List.length_map] at hdn;omega
 have hclo:=hcl
 simp only [Mach.Cl.ok,Bool.and_eq_true,decide_eq_true_eq] at hclo
 refine be_ Try.func33 rfl Try.ntmps33 (by simp) fun um Q _ hQ=>?_
 simp only [argE,Nat.zero_add,Nat.reduceAdd]
 repeat (first | (apply wo_mo;apply cy_;exact rfl;exact trivial) | refine bb_ ?_ | (refine wR ?_;try simp only [oS]))
 rintro v' L' ⟨b2,rfl,rfl⟩
 repeat (first | (apply wo_mo;apply cy_;exact rfl;exact trivial))
 rintro v' L' ⟨b3,rfl,rfl⟩
 repeat (first | (apply wo_mo;apply cn_;exact trivial) | refine wA ?_)
 rintro v' L' ⟨b5,rfl,rfl⟩
 refine gq_ (arr b5 0 [.slice none 0 0,.slice none 0 0]::arr b3 0 [.slice ka kn kc,.slice da dn dc]::arr b2 0 [.slice wa wn wc,.slice la ln lc]::vec 7 (.slice ka kn kc) (cl.code.map inC).flatten::vec 1 (.slice da dn dc) (cl.data.map num)::wvC (.slice wa wn wc) (.slice la ln lc) w::F) .refl ?_
 have hr2:∀ {d1 d2:HProp} {F:List HProp},Rds (d1::d2::arr b2 0 [.slice wa wn wc,.slice la ln lc]::F) b2 0 [.slice wa wn wc,.slice la ln lc]:=fun {d1 d2 F}=>Rds.all (.there (.there .here))
 have hr3:∀ {d1:HProp} {F:List HProp},Rds (d1::arr b3 0 [.slice ka kn kc,.slice da dn dc]::F) b3 0 [.slice ka kn kc,.slice da dn dc]:=fun {d1 F}=>Rds.all (.there .here)
 repeat (first | (apply wo_po;apply cg_ (vs:=[.slice wa wn wc,.slice la ln lc]);exact rfl;exact rfl;exact hr2;exact trivial) | (apply wo_po;apply cg_ (vs:=[.slice ka kn kc,.slice da dn dc]);exact rfl;exact rfl;exact hr3;exact trivial) | (apply wo_mo;apply bi_ (sz:=2) (vs:=[.agg #[.slice ka kn kc,.slice da dn dc]]);exact rfl;exact .cons rfl .nil;exact rfl;(intro v hv;cases (List.mem_singleton.1 hv);exact rfl);omega;exact trivial) | refine bb_ ?_ | (refine wR ?_;try simp only [oS]) | refine ba_ ?_ | refine wA ?_)
 rintro v' L' ⟨cb,rfl,rfl⟩
 repeat (first | (apply wo_mo;apply bi_ (sz:=1) (vs:=[.slice (some ⟨cb,0,none⟩) 1 1]);exact rfl;exact .cons rfl .nil;exact rfl;(intro v hv;cases (List.mem_singleton.1 hv);exact rfl);omega;exact trivial))
 rintro v' L' ⟨tb,rfl,rfl⟩
 obtain ⟨cw,hcw⟩:∃ cw:CW,cw=⟨some ⟨cb,0,none⟩,1,fun _=>(ka,kc),fun _=>(da,dc)⟩:=⟨_,rfl⟩
 obtain ⟨FF,hFF⟩:∃ FF,FF=arr cb 0 [.slice ka kn kc,.slice da dn dc]::vec 7 (.slice ka kn kc) (cl.code.map inC).flatten::vec 1 (.slice da dn dc) (cl.data.map num)::arr b5 0 [.slice none 0 0,.slice none 0 0]::F:=⟨_,rfl⟩
 have hcc:CallsOk FF [(cw,[cl])]:=by
  refine ⟨by show 1<1000;omega,fun y hy=>?_,fun y hy=>?_,fun y hy=>?_⟩
  ·cases List.mem_singleton.1 hy
   rw [hFF,hcw]
   exact cfn hkn' hdn' hka2 hda2 hka hda
  ·cases List.mem_singleton.1 hy
   show ([cl].all Mach.Cl.ok)=true
   simp [hcl]
  ·cases List.mem_singleton.1 hy
   show 1<1000000;omega
 refine dt_ (wvC (.slice wa wn wc) (.slice la ln lc) w::vec 1 (.slice (some ⟨tb,0,none⟩) 1 1) ([(cw,[cl])].map cvK)::FF) (fun h st=>?_) ?_
 ·rw [hFF]
  have s1:Star (arr tb 0 [.slice (some ⟨cb,0,none⟩) 1 1]::wvC (.slice wa wn wc) (.slice la ln lc) w::arr cb 0 [.slice ka kn kc,.slice da dn dc]::vec 7 (.slice ka kn kc) (cl.code.map inC).flatten::vec 1 (.slice da dn dc) (cl.data.map num)::arr b5 0 [.slice none 0 0,.slice none 0 0]::F) h:=by
   refine Ent.star ?_ st
   exact (.take .here (.take (.there (.there (.there (.there (.there (.there .here)))))) (.take .here (.take (.there (.there (.there .here))) (.take (.there (.there (.there .here))) (.take .here (.drop (.drop .refl))))))))
  refine cs_ ?_
  rw [hcw]
  exact hq_ (n:=1) rfl s1
 refine bt_ (.cons rfl (.cons rfl (.cons rfl .nil))) trivial (bsf (F:=FF) (st:=st) (o:=[]) (oa:=none) (oc:=0) (cc:=[(cw,[cl])]) (f:=f) (g:=g) hp hf hcc (by show 0<1000000;omega) (fun k hk=>by cases hk) (fun i k hk=>by simp at hk) .here .here) ?_
 rintro v L' x' ⟨trv,cutv,ansv,wv',lv',os,rfl,rfl,hos,hs⟩
 refine dt_ _ hs ?_
 rw [hFF]
 refine cm_ (bo_ .here (bg_ (by omega))) ?_
 rintro ⟨ra,rn,rc,rfl,hrn,_,hra,hra2⟩
 have hrnn:=bnm hrn
 subst hrnn
 refine cm_ (bo_ (.there .here) (bg_ (by omega))) ?_
 rintro ⟨ca,cn,cc,rfl,_⟩
 refine cm_ (bo_ (.there (.there (.there (.there .here)))) gy_) ?_
 rintro ⟨⟨wa',wn',wc',rfl⟩,la',ln',lc',rfl⟩
 repeat (first | (apply wo_mo;apply cn_;exact trivial) | refine wM ?_ | (apply wo_po;apply cx_;exact rfl;exact rfl;exact gY))
 rintro v' L' ⟨pb,rfl,rfl⟩
 repeat (first | (apply wo_mo;apply cn_;exact trivial))
 rintro v' L' ⟨nb,rfl,rfl⟩
 repeat (first | (apply wo_pm;apply ct_ (b:=pb) (c:=0) (k:=0) (a:=0) (vs:=[.slice none 0 0,.slice none 0 0]);exact rfl;exact rfl;exact rfl;(intro w hw;simp [Value.cells] at hw;rcases hw with rfl | rfl <;> rfl);exact rfl;exact Nat.le_refl 2;exact (.there .here);exact trivial) | (apply wo_pm;apply ct_ (b:=nb) (c:=0) (k:=0) (a:=0) (vs:=[.slice none 0 0,.slice none 0 0]);exact rfl;exact rfl;exact rfl;(intro w hw;simp [Value.cells] at hw;rcases hw with rfl | rfl <;> rfl);exact rfl;exact Nat.le_refl 2;exact .here;exact trivial) | refine bb_ ?_ | (refine wR ?_;try simp only [oS]) | refine ba_ ?_ | refine wA ?_)
 refine bd_ ?_
 obtain ⟨F4,hF4⟩:∃ F4,F4=vec 1 ansv (os.map (·.1))::all (os.map ansK)::wvC (.slice wa' wn' wc') (.slice la' ln' lc') st.w::wvC (.slice wa wn wc) (.slice la ln lc) w::F:=⟨_,rfl⟩
 obtain ⟨F3,hF3⟩:∃ F3,F3=arr nb 0 [.slice wa' wn' wc',.slice la' ln' lc']::arr pb 0 [.slice ra st.tr.length rc,.slice ca cn cc]::vec 3 (.slice ra st.tr.length rc) (st.tr.map trC).flatten::arr b5 0 [.slice none 0 0,.slice none 0 0]::F4:=⟨_,rfl⟩
 refine dd_ ((pe_ b5 pb nb ansv st x' F3).L (0,.slice none 0 0)) (fun h hs=>?_) ?_
 ·dsimp only [pe_]
  refine di_ ?_
  rw [hF3,hF4]
  have s0:Star (arr nb 0 [.slice wa' wn' wc',.slice la' ln' lc']::arr pb 0 [.slice ra st.tr.length rc,.slice ca cn cc]::vec 3 (.slice ra st.tr.length rc) (st.tr.map trC).flatten::vec 1 (.slice ca cn cc) (st.cut.map cI)::vec 1 ansv (os.map (·.1))::all (os.map ansK)::wvC (.slice wa' wn' wc') (.slice la' ln' lc') st.w::vec 1 (.slice (some ⟨tb,0,none⟩) 1 1) ([(cw,[cl])].map cvK)::wvC (.slice wa wn wc) (.slice la ln lc) w::arr cb 0 [.slice ka kn kc,.slice da dn dc]::vec 7 (.slice ka kn kc) (cl.code.map inC).flatten::vec 1 (.slice da dn dc) (cl.data.map num)::arr b5 0 [.slice none 0 0,.slice none 0 0]::F) h:=hs
  refine Ent.star ?_ s0
  exact (.take .here (.take .here (.take .here (.take (.there (.there (.there (.there (.there (.there (.there (.there (.there .here))))))))) (.take (.there .here) (.take (.there .here) (.take (.there .here) (.take (.there (.there .here)) (.drop (.drop (.drop (.drop (.drop .refl)))))))))))))
 refine ck_ (pe_ b5 pb nb ansv st x' F3) (fun i=>st.tr.length-i.1) (0,.slice none 0 0) (Nat.zero_le _) ⟨rfl,rfl,rfl,rfl,rfl,rfl,trivial⟩ .refl rfl ?_
 rintro ⟨i,mv⟩ hi
 dsimp only [pe_] at hi ⊢
 have htrl:∀ d1:HProp,Rd (d1::F3) pb 0 (.slice ra st.tr.length rc):=fun d1=>by rw [hF3];exact .there (.there (Rd.row0 rfl))
 by_cases hc:i<st.tr.length
 ·obtain ⟨⟨tk,m1,m2⟩,hti⟩:∃ z,st.tr[i]?=some z:=⟨st.tr[i],by simp [hc]⟩
  obtain ⟨⟨rb,ro,sp⟩,rfl⟩:∃ z,ra=some z:=by
   cases ra with
   | none=>have:st.tr.length=0:=hra rfl;omega
   | some z=>exact ⟨z,rfl⟩
  cases hra2 _ rfl
  refine de_ (bo_ .here (bg_ (by omega))) ?_
  rintro ⟨ma,mn,mc,rfl,hmn,_⟩
  have hmn':mn=i:=by
   rw [gu_ (k:=2) (fun _=>rfl)] at hmn
   simp at hmn;omega
  subst hmn'
  have hmk:∀ d1:HProp,Rds (d1::F3) rb (ro+3*mn+1) [.int .u8 (m1:Nat),.int .i64 (m2:Nat)]:=fun d1 j v hj=>by
   rw [hF3]
   have hj2:j<2:=(List.getElem?_eq_some_iff.1 hj).1
   have:=df_ (i:=3*mn+(1+j)) (v:=v) (L:=d1::arr nb 0 [.slice wa' wn' wc',.slice la' ln' lc']::arr pb 0 [.slice (some ⟨rb,ro,none⟩) st.tr.length rc,.slice ca cn cc]::vec 3 (.slice (some ⟨rb,ro,none⟩) st.tr.length rc) (st.tr.map trC).flatten::arr b5 0 [.slice none 0 0,.slice none 0 0]::F4) (.there (.there (.there .here))) (by
    rw [ku_ (k:=3) (fun _=>rfl) _ _ _ _ hti (by omega)]
    show (trC (tk,m1,m2))[1+j]?=some v
    rw [← hj]
    show ([.int .i64 (tk:Nat),.int .u8 (m1:Nat),.int .i64 (m2:Nat)]:List Value)[1+j]?=_
    rw [Nat.add_comm];rfl)
   rwa [← Nat.add_assoc,← Nat.add_assoc] at this
  repeat (first | (apply wo_po;apply bz_ (r:=ro+3*mn);exact rfl;exact rfl;omega;omega;omega;exact trivial) | (apply wo_po;apply bc_;exact rfl;exact htrl _;exact trivial) | (apply wo_po;apply cg_ (vs:=[.int .u8 (m1:Nat),.int .i64 (m2:Nat)]);exact rfl;exact rfl;exact hmk _;exact trivial) | (apply wo_mo;apply bi_ (sz:=2) (vs:=[.agg #[.int .u8 (m1:Nat),.int .i64 (m2:Nat)]]);exact rfl;exact .cons rfl .nil;exact rfl;(intro v hv;cases (List.mem_singleton.1 hv);exact rfl);omega;exact trivial) | refine wlssT ?_ | refine bb_ ?_ | (refine wR ?_;try simp only [oS]) | refine ba_ ?_ | refine wM ?_ | refine wD ?_ | refine wE ?_ | refine wT ?_ | refine bk_ ?_ | refine bd_ ?_)
  rintro v' L' ⟨sb,rfl,rfl⟩
  repeat (first | (apply wo_mo;apply cc_ (sz:=2) (new:=mkC (m1,m2));exact rfl;exact rfl;exact rfl;exact rfl;exact (.there .here);exact rfl;exact .inr ⟨_,_,rfl,Rds.all .here⟩;(intro v hv;simp [mkC] at hv;rcases hv with rfl | rfl <;> rfl);(simp only [cd_];omega);exact trivial))
  rintro v' L' rfl
  repeat (first | (refine wR ?_;try simp only [oS]) | refine ba_ ?_ | refine wM ?_ | refine wA ?_ | refine wadd ?_)
  refine cr_ (I:=pe_ b5 pb nb ansv st x' F3) (R:=fun i'=>st.tr.length-i'.1<st.tr.length-mn) (mn+1,v') (by simp only;omega) (by show mn+1≤_;omega) ⟨rfl,rfl,rfl,rfl,rfl,rfl,trivial⟩ ?_ rfl
  dsimp only [pe_]
  rw [List.take_add_one,hti]
  have:((List.map (·.2) (st.tr.take mn++(some (tk,m1,m2)).toList)).map mkC).flatten=((List.map (·.2) (st.tr.take mn)).map mkC).flatten++mkC (m1,m2):=by simp
  rw [this]
  exact (.take .here (.drop .refl))
 ·have hi2:i=st.tr.length:=by omega
  subst hi2
  repeat (first | (apply wo_po;apply bc_;exact rfl;exact htrl _;exact trivial) | refine wlssF ?_ | refine bb_ ?_ | (refine wR ?_;try simp only [oS]) | refine ba_ ?_ | refine wM ?_ | refine wD ?_ | refine wE ?_ | refine wF ?_ | refine ch_ ?_)
  rw [List.take_length]
  subst hF3
  subst hF4
  rw [hl] at hos
  obtain ⟨⟨av,aa0⟩,rfl⟩:∃ y,os=[y]:=by
   have hos1:os.length=1:=by have:=congrArg List.length hos;simpa using this
   exact List.length_eq_one_iff.1 hos1
  have haa:aa0=[(d,told)]:=by
   simp only [List.map_cons,List.map_nil,hans,List.cons.injEq,and_true] at hos
   exact hos
  subst haa
  refine dd_ (ansK (av,[(d,told)])::arr nb 0 [.slice wa' wn' wc',.slice la' ln' lc']::arr b5 0 [.slice none 0 0,.slice none 0 0]::vec 1 ansv [av]::vec 2 mv ((st.tr.map (·.2)).map mkC).flatten::wvC (.slice wa' wn' wc') (.slice la' ln' lc') st.w::wvC (.slice wa wn wc) (.slice la ln lc) w::F) (fun h hs=>?_) ?_
  ·have s1:Star (all [ansK (av,[(d,told)])]::arr nb 0 [.slice wa' wn' wc',.slice la' ln' lc']::arr b5 0 [.slice none 0 0,.slice none 0 0]::vec 1 ansv [av]::vec 2 mv ((st.tr.map (·.2)).map mkC).flatten::wvC (.slice wa' wn' wc') (.slice la' ln' lc') st.w::wvC (.slice wa wn wc) (.slice la ln lc) w::F) h:=by
    refine Ent.star ?_ hs
    exact (.take (.there (.there (.there (.there (.there (.there .here)))))) (.take (.there .here) (.take (.there (.there (.there .here))) (.take (.there (.there (.there .here))) (.take .here (.take (.there (.there .here)) (.take (.there (.there .here)) (.drop (.drop .refl)))))))))
   exact bq_ s1
  refine we_ex .here fun al=>jv_ .here fun e1=>tr_ .here ?_
  obtain ⟨⟨d',tv,told'⟩,rfl⟩:∃ y,al=[y]:=by
   have hal1:al.length=1:=by have:=congrArg List.length e1;simpa using this
   exact List.length_eq_one_iff.1 hal1
  obtain ⟨rfl,rfl⟩:d'=d∧told'=told:=by
   simp only [List.map_cons,List.map_nil,ansOf,List.cons.injEq,Prod.mk.injEq,and_true] at e1
   exact e1
  refine dd_ (vec 2 av [.bool d',tv]::vec 1 tv (told'.map num)::arr nb 0 [.slice wa' wn' wc',.slice la' ln' lc']::arr b5 0 [.slice none 0 0,.slice none 0 0]::vec 1 ansv [av]::vec 2 mv ((st.tr.map (·.2)).map mkC).flatten::wvC (.slice wa' wn' wc') (.slice la' ln' lc') st.w::wvC (.slice wa wn wc) (.slice la ln lc) w::F) (fun h hs=>?_) ?_
  ·exact bn_ hs (fun _ z=>z) (fun _ z=>bq_ z)
  refine de_ (bo_ .here (bg_ (by omega))) ?_
  rintro ⟨aa,an,ac,rfl,han,_,haa,haa2⟩
  have han1:an=1:=by simp at han;omega
  subst han1
  obtain ⟨⟨ab,ao,sp⟩,rfl⟩:∃ z,aa=some z:=by
   cases aa with
   | none=>have:(1:Nat)=0:=haa rfl;omega
   | some z=>exact ⟨z,rfl⟩
  cases haa2 _ rfl
  refine de_ (bo_ (.there (.there (.there (.there .here)))) (bg_ (by omega))) ?_
  rintro ⟨qa,qn,qc,rfl,hqn,_,hqa,hqa2⟩
  have hqn1:qn=1:=by simp at hqn;omega
  subst hqn1
  obtain ⟨⟨qb,qo,sp⟩,rfl⟩:∃ z,qa=some z:=by
   cases qa with
   | none=>have:(1:Nat)=0:=hqa rfl;omega
   | some z=>exact ⟨z,rfl⟩
  cases hqa2 _ rfl
  obtain ⟨F5,hF5⟩:∃ F5,F5=vec 1 (.slice (some ⟨qb,qo,none⟩) 1 qc) [.slice (some ⟨ab,ao,none⟩) 1 ac]::vec 2 mv ((st.tr.map (·.2)).map mkC).flatten::wvC (.slice wa' wn' wc') (.slice la' ln' lc') st.w::wvC (.slice wa wn wc) (.slice la ln lc) w::F:=⟨_,rfl⟩
  rw [← hF5]
  have hq0:∀ d1 d2 d3 d4:HProp,Rd (d1::d2::d3::d4::F5) qb (qo+0) (.slice (some ⟨ab,ao,none⟩) 1 ac):=fun d1 d2 d3 d4=>by rw [hF5];exact df_ (.there (.there (.there (.there .here)))) rfl
  have ht0:∀ {F:List HProp},Rd (vec 2 (.slice (some ⟨ab,ao,none⟩) 1 ac) [.bool d',tv]::F) ab (ao+0+1) tv:=fun {F}=>df_ (i:=1) .here rfl
  have hn0:∀ {d1 d2:HProp} {F:List HProp},Rds (d1::d2::arr nb 0 [.slice wa' wn' wc',.slice la' ln' lc']::F) nb 0 [.slice wa' wn' wc',.slice la' ln' lc']:=fun {d1 d2 F}=>Rds.all (.there (.there .here))
  refine bx_ (List.range' 0 11) (by kernel_rfl) ?_
  repeat (first | (apply bh_;exact rfl;exact rfl;exact trivial;intro L;apply bz_ (r:=qo+0);exact rfl;exact rfl;omega;omega;omega) | (apply bh_;exact rfl;exact rfl;exact trivial;intro L;apply bz_ (r:=ao+0);exact rfl;exact rfl;omega;omega;omega) | (apply bm_;exact rfl;exact rfl;exact trivial;apply bc_;exact rfl;exact hq0 _ _ _ _) | (apply bm_;exact rfl;exact rfl;exact trivial;apply bc_;exact rfl;exact ht0) | (apply bm_;exact rfl;exact rfl;exact trivial;apply cg_ (vs:=[.slice wa' wn' wc',.slice la' ln' lc']);exact rfl;exact rfl;exact hn0) | refine aM ?_ | refine aA ?_ | refine aD ?_)
  refine cb_ rfl rfl rfl rfl rfl trivial (ct_ (c:=0) (k:=0) (a:=0) (vs:=[.slice none 0 0,.slice none 0 0]) rfl rfl rfl (by intro w hw;simp [Value.cells] at hw;rcases hw with rfl | rfl <;> rfl) rfl (Nat.le_refl 2) (.there (.there (.there .here)))) ?_
  rintro v' L' ⟨rfl,rfl⟩
  repeat (first | refine aA ?_ | refine ca_ ?_)
  repeat (first | refine bw_ ?_)
  refine fw_ (rs:=[.tmp 4,.cell 5 77,.tmp 6]) Try.func33 Try.results33 hQ (.inl rfl) (.cons (.tmp rfl) (.cons (.cell (vs:=[.slice wa' wn' wc',.slice la' ln' lc']) rfl rfl (Rds.all (.there (.there (.there .here))))) (.cons (.tmp rfl) .nil))) ?_
  refine ⟨tv,_,_,mv,rfl,rfl,fun h hs=>?_⟩
  rw [hF5] at hs
  refine Ent.star ?_ hs
  exact (.take (.there .here) (.take (.there (.there (.there (.there (.there .here))))) (.take (.there (.there (.there (.there .here)))) (.take (.there (.there (.there (.there .here)))) (.drop (.drop (.drop (.drop .refl))))))))
end
end Go.Proofs.Ytodgemainhokjaa
namespace Go.Proofs.Ytodgemainhokjaa
open Go Go.PB
attribute [local irreducible] Mo Bin Eql Tr Wo
section
variable {B:Hand} [Lets B]
def mark2 (m:Int × Nat):List Value:=[.int .u8 m.1,.int .i64 (m.2:Nat)]
def kr_ (nb:Nat) (marks:List (Int × Nat)):HProp:=fun h=>∃ mv,all [arr nb 0 [.bool true,mv],vec 2 mv (marks.map mark2).flatten] h
section
variable {L F:List HProp} {x:B.X} {nb:Nat} {marks:List (Int × Nat)}
theorem flat2 (marks:List (Int × Nat)):(marks.map mark2).flatten.length=marks.length*2:=by
 induction marks with
 | nil=>rfl
 | cons m l ih=>simp only [List.map_cons,List.flatten_cons,List.length_append,ih,mark2,List.length_cons,List.length_nil];omega
theorem bbv {op:Int} {w:Nat} (hl:marks.length<1000000) (hh:Has L (kr_ nb marks) F) :
  Tr Try.prog B 110 [.pointer (some ⟨nb,0,none⟩),.agg #[.int .u8 op,.int .i64 (w:Nat)]] L x fun v L' x'=>v=.tuple #[]∧L'=kr_ nb (marks++[(op,w)])::F∧x'=x:=by
 refine tr_ex hh fun mv=>cv_ _ (fun h st=>bq_ st) ?_
 refine Tr.post (R:=fun v L' x'=>v=.tuple #[]∧x'=x∧∃ v',∀ h,Star L' h→Star (arr nb 0 [.bool true,v']::vec 2 v' ((marks++[(op,w)]).map mark2).flatten::F) h) ?_
  (by
   rintro v L' x' ⟨rfl,rfl,v',hs⟩
   refine ⟨_,⟨rfl,rfl,rfl⟩,fun h st=>?_⟩
   exact bn_ (bj_ (M:=[_,_]) (hs h st)) (fun _ y=>⟨v',y⟩) (fun _ y=>y))
 refine ds_ (bo_ (.there .here) (bg_ (by omega))) ?_
 rintro ⟨ra,rl,rc,rfl,hlen,hrc,hra,hra2⟩
 rw [flat2] at hlen
 have hrl:rl=marks.length:=by omega
 subst hrl
 simp only [List.cons_append,List.nil_append]
 refine be_ Try.func110 rfl Try.ntmps110 (by simp) fun um Q _ hQ=>?_
 simp only [argE,Nat.zero_add,Nat.reduceAdd]
 have hr0:∀ {c:HProp},Rd (c::arr nb 0 [.bool true,.slice ra marks.length rc]::vec 2 (.slice ra marks.length rc) (marks.map mark2).flatten::F) nb 0 (.bool true):=fun {c}=>Rd.there (Rd.row (k:=0) rfl rfl)
 have hr1:∀ {c:HProp},Rd (c::arr nb 0 [.bool true,.slice ra marks.length rc]::vec 2 (.slice ra marks.length rc) (marks.map mark2).flatten::F) nb 1 (.slice ra marks.length rc):=fun {c}=>Rd.there (Rd.row (k:=1) rfl rfl)
 repeat (first | (apply wo_mo;apply cy_;exact rfl;exact trivial) | refine bb_ ?_ | (refine wR ?_;try simp only [oS]))
 rintro v' L' ⟨pb,rfl,rfl⟩
 have hrds:Rds (arr pb 0 (mark2 (op,w))::arr nb 0 [.bool true,.slice ra marks.length rc]::vec 2 (.slice ra marks.length rc) (marks.map mark2).flatten::F) pb 0 [.int .u8 op,.int .i64 (w:Nat)]:=Rds.all (vs:=mark2 (op,w)) .here
 refine gq_ (arr pb 0 (mark2 (op,w))::arr nb 0 [.bool true,.slice ra marks.length rc]::vec 2 (.slice ra marks.length rc) (marks.map mark2).flatten::F) .refl ?_
 repeat (first | (apply wo_po;apply bc_;exact rfl;exact hr0;exact gY) | refine bb_ ?_ | (refine wR ?_;try simp only [oS]) | refine ba_ ?_ | refine wM ?_ | refine wK ?_ | refine wN ?_ | refine wD ?_ | (apply wo_po;apply bs_;exact rfl;exact rfl;apply wo_;apply js_;exact gY) | refine wT ?_)
 have hr2:∀ {c d:HProp},Rd (c::d::arr nb 0 [.bool true,.slice ra marks.length rc]::vec 2 (.slice ra marks.length rc) (marks.map mark2).flatten::F) nb 1 (.slice ra marks.length rc):=fun {c d}=>Rd.there hr1
 refine bx_ [0,1,2,3,4,5,6,7,8,9,10] (by kernel_rfl) ?_
 repeat (first | (apply bm_;exact rfl;exact rfl;exact trivial;apply bc_;exact rfl;exact hr1) | (apply bm_;exact rfl;exact rfl;exact trivial;apply cg_ (vs:=[.int .u8 op,.int .i64 (w:Nat)]);exact rfl;exact rfl;exact hrds) | refine aM ?_ | refine aN ?_ | refine aD ?_)
 refine gf_ rfl rfl rfl rfl trivial (bi_ (sz:=2) (vs:=[.agg #[.int .u8 op,.int .i64 (w:Nat)]]) rfl (.cons rfl .nil) rfl (by intro v hv;cases (List.mem_singleton.1 hv);exact rfl) (by omega)) ?_ ?_
 ·rintro v L' ⟨sb,rfl,rfl⟩ p hp
  replace hp:=(List.mem_filter.1 hp).1
  simp only [List.mem_cons,List.not_mem_nil,or_false] at hp
  rcases hp with rfl | rfl | rfl | rfl | rfl | rfl <;> first | exact .inl rfl | exact .inr ⟨_,rfl,trivial,bc_ rfl hr2⟩ | exact .inr ⟨_,rfl,trivial,cg_ (vs:=[.int .u8 op,.int .i64 (w:Nat)]) rfl rfl (fun i v hi=>Rd.there (hrds i v hi))⟩
 rintro v L' ⟨sb,rfl,rfl⟩
 refine cb_ rfl rfl rfl rfl rfl trivial (cc_ (sz:=2) (new:=mark2 (op,w)) rfl rfl rfl rfl (.there (.there (.there .here))) rfl (.inr ⟨_,_,rfl,Rds.all .here⟩) (by intro v hv;simp [mark2] at hv;rcases hv with rfl | rfl <;> rfl) (by simp only [cd_];omega)) ?_
 rintro v' L' rfl
 refine gp_ (bo_ .here (bg_ (by omega))) ?_
 rintro ⟨qa,ql,qc,rfl,_⟩
 repeat (first | refine aN ?_ | refine aD ?_)
 refine cb_ rfl rfl rfl rfl rfl trivial (cf_ rfl rfl rfl (Wt.row (k:=1) (vs:=[.bool true,.slice ra marks.length rc]) (Nat.lt_succ_self 1) rfl (.there (.there (.there .here))))) ?_
 rintro v' L' ⟨rfl,rfl⟩
 refine ca_ ?_
 (first | refine or0 Try.func110 Try.results110 hQ ?_ | refine on0 Try.func110 Try.results110 hQ ?_)
 refine ⟨rfl,rfl,.slice qa ql qc,fun h st=>?_⟩
 rw [show ((marks++[(op,w)]).map mark2).flatten=(marks.map mark2).flatten++mark2 (op,w) by simp]
 exact (Ent.take (.there (.there (.there .here))) (.take .here (.drop (.drop .refl)))).star st
end
def cdk (x:B.X) (addr:Nat→Nat × Nat) (N:Nat) (K:List (Nat × Nat × Value)) (A:Apart addr N K) (nb:Nat):Acc B (.iface 89 (.pointer (some ⟨nb,0,none⟩))) where
 S:=(Nat→Nat) × List (Int × Nat)
 C:=fun s=>all [wds addr N K s.1,kr_ nb s.2]
 x:=fun _=>x
 step:=fun op w s R=>s.2.length<1000000∧R (s.1,s.2++[(op,w)])
 addr:=addr
 load:=fun w s R=>w<N∧R (s.1 w) s
 store:=fun w n s R=>w<N∧R (upd s.1 w n,s.2)
 cas:=fun w a n s R=>w<N∧if s.1 w=a then R true (upd s.1 w n,s.2) else R false s
 add:=fun w n s R=>w<N∧R ((s.1 w+n)%18446744073709551616) (upd s.1 w ((s.1 w+n)%18446744073709551616),s.2)
 swap:=fun w n s R=>w<N∧R (s.1 w) (upd s.1 w n,s.2)
 gate:=.inr ⟨_,_,110,rfl,inferInstance,inferInstance,fun op w s R L F hs hh =>
  cv_ _ (fun h st=>bq_ (hh.star st)) ((bbv hs.1 (.there .here)).post fun v L' x' ⟨h1,h2,h3⟩=>⟨_,⟨_,hs.2,h1,rfl,h3⟩,fun h st=>bj_ (M:=[_,_]) (by
   rw [h2] at st
   exact cs_ st)⟩)⟩
 load_ok:=fun w s R L F b o ha hl hh=>cv_ _ (fun h st=>bq_ (hh.star st)) (ds_ (bo_ .here fun h hc=>(hc.1 w hl.1).1) fun hs =>
  (se_ (jx_ .here hl.1 ha)).post fun v L' x' ⟨h1,h2,h3⟩=>⟨_,⟨s.1 w,s,hs,hl.2,h1,rfl,h3⟩,fun h st=>bj_ (M:=[_,_]) (by rw [h2] at st;exact st)⟩)
 store_ok:=fun w n s R L F b o ha hn hl hh=>cv_ _ (fun h st=>bq_ (hh.star st))
  ((kn_ (jc_ A .here hl.1 ha hn)).post fun v L' x' ⟨h1,h2,h3⟩=>⟨_,⟨(upd s.1 w n,s.2),hl.2,h1,rfl,h3⟩,fun h st=>bj_ (M:=[_,_]) (by rw [h2] at st;exact st)⟩)
 cas_ok:=fun w m n s R L F b o ha hn hl hh=>cv_ _ (fun h st=>bq_ (hh.star st))
  ((vr_ (jx_ .here hl.1 ha) (jc_ A .here hl.1 ha hn)).post fun v L' x' ⟨h1,h2,h3⟩=>by
   obtain ⟨h4,h5⟩:=hl
   by_cases e:s.1 w=m
   ·rw [if_pos e] at h5;rw [if_pos (by omega)] at h2;exact ⟨_,⟨true,_,h5,by rw [h1];simp [e],rfl,h3⟩,fun h st=>bj_ (M:=[_,_]) (by rw [h2] at st;exact st)⟩
   ·rw [if_neg e] at h5;rw [if_neg (by omega)] at h2;exact ⟨_,⟨false,_,h5,by rw [h1];simp;omega,rfl,h3⟩,fun h st=>bj_ (M:=[_,_]) (by rw [h2] at st;exact st)⟩)
 add_ok:=fun w n s R L F b o ha hn hl hh=>cv_ _ (fun h st=>bq_ (hh.star st))
  ((vw_ (r:=((s.1 w+n)%18446744073709551616:Nat)) (jx_ .here hl.1 ha) (by rw [dq_];omega) (jc_ A .here hl.1 ha (Nat.mod_lt _ (by decide)))).post fun v L' x' ⟨h1,h2,h3⟩=>⟨_,⟨_,(_,s.2),Nat.mod_lt _ (by decide),hl.2,h1,rfl,h3⟩,fun h st=>bj_ (M:=[_,_]) (by rw [h2] at st;exact st)⟩)
end
end Go.Proofs.Ytodgemainhokjaa
namespace Go.Proofs.Ytodgemainhokjaa
open Go Go.PB
attribute [local irreducible] Mo Bin Eql Tr Wo Ap
section
variable {B:Hand} [Lets B] {L F:List HProp} {x:B.X} {nb:Nat} {marks:List (Int × Nat)}
theorem bfw:Tr Try.prog B 36 [] L x fun v L' x'=>∃ nb,v=.pointer (some ⟨nb,0,none⟩)∧L'=kr_ nb []::L∧x'=x:=by
 refine Tr.post (R:=fun v L' x'=>∃ nb,v=.pointer (some ⟨nb,0,none⟩)∧L'=arr nb 0 [.bool true,.slice none 0 0]::L∧x'=x) ?_
  (by
   rintro v L' x' ⟨nb,rfl,rfl,rfl⟩
   refine ⟨_,⟨nb,rfl,rfl,rfl⟩,fun h st=>?_⟩
   have st2:Star ([arr nb 0 [.bool true,.slice none 0 0],vec 2 (.slice none 0 0) []]++L) h:=bn_ st (fun _ y=>y) (fun _ y=>di_ y)
   exact bn_ (bj_ st2) (fun _ y=>⟨_,y⟩) (fun _ y=>y))
 refine be_ Try.func36 rfl Try.ntmps36 (by simp) fun um Q _ hQ=>?_
 simp only [argE,Nat.zero_add,Nat.reduceAdd]
 repeat (first | (apply wo_po;apply dn_ (pv:=[(0,_)]);exact rfl;exact .cons rfl .nil;exact rfl;exact trivial) | (apply wo_mo;apply cy_;exact rfl;exact trivial) | refine bb_ ?_ | (refine wR ?_;try simp only [oS]) | refine ba_ ?_ | refine wA ?_)
 rintro v' L' ⟨r,rfl,rfl⟩
 repeat (first | refine ba_ ?_ | refine wA ?_ | refine bw_ ?_)
 (first | refine or1 Try.func36 Try.results36 hQ rfl ?_ | refine on1 Try.func36 Try.results36 hQ rfl ?_)
 exact ⟨r,rfl,rfl,rfl⟩
theorem cfp {a:Option Addr} {n c:Nat} (hl:marks.length<1000000) (hn:n=marks.length) (ha:(a=none∧n=0)∨∃ b o,a=some ⟨b,o,none⟩∧Rds L b o (marks.map mark2).flatten) :
  Tr Try.prog B 59 [.slice a n c] L x fun v L' x'=>L'=vec 2 v (marks.map mark2).flatten::L∧x'=x:=by
 subst hn
 rcases ha with ⟨rfl,h0⟩ | ⟨b,o,rfl,hr⟩
 ·refine be_ Try.func59 rfl Try.ntmps59 (by simp) fun um Q _ hQ=>?_
  simp only [argE,Nat.zero_add,Nat.reduceAdd]
  repeat (first | refine bb_ ?_ | (refine wR ?_;try simp only [oS]) | refine ba_ ?_ | refine wM ?_ | refine wA ?_ | (apply wo_po;apply bs_;exact rfl;exact rfl;apply qp_;apply st_;exact gY) | refine wT ?_ | refine bw_ ?_)
  have hm:marks=[]:=List.length_eq_zero_iff.1 h0
  refine pt_ (vec 2 (.slice none 0 0) (marks.map mark2).flatten::L) (fun h st=>by rw [hm];exact di_ st) ?_
  (first | refine or1 Try.func59 Try.results59 hQ rfl ?_ | refine on1 Try.func59 Try.results59 hQ rfl ?_)
  exact ⟨rfl,rfl⟩
 ·have h1:∀ w∈(marks.map mark2).flatten,one w=true:=by
   intro w hw
   simp only [List.mem_flatten,List.mem_map] at hw
   obtain ⟨l,⟨m,_,rfl⟩,hw⟩:=hw
   simp only [mark2,List.mem_cons,List.not_mem_nil,or_false] at hw
   rcases hw with rfl | rfl <;> rfl
  refine be_ Try.func59 rfl Try.ntmps59 (by simp) fun um Q _ hQ=>?_
  simp only [argE,Nat.zero_add,Nat.reduceAdd]
  repeat (first | (apply wo_mo;apply bi_ (sz:=2) (vs:=[]);exact rfl;exact .nil;exact rfl;(intro v hv;cases hv);omega;exact trivial) | refine bb_ ?_ | (refine wR ?_;try simp only [oS]) | refine ba_ ?_ | refine wM ?_ | refine wA ?_ | (apply wo_po;apply bs_;exact rfl;exact rfl;apply qp_;apply st_;exact gY) | refine wF ?_ | refine bk_ ?_)
  rintro v' L' ⟨nb,rfl,rfl⟩
  refine dt_ (vec 2 (.slice (some ⟨nb,0,none⟩) 0 0) []::L) (fun h st=>hq_ (cs:=[]) rfl st) ?_
  repeat (first | (apply wo_mo;apply cc_ (sz:=2) (new:=(marks.map mark2).flatten);exact rfl;exact rfl;exact rfl;exact rfl;exact .here;exact flat2 _;exact .inr ⟨_,_,rfl,fun i v hi=>Rd.there (hr i v hi)⟩;exact h1;(simp only [cd_];omega);exact trivial) | refine wM ?_)
  rintro v' L' rfl
  repeat (first | refine ba_ ?_ | refine wA ?_ | refine bw_ ?_)
  (first | refine or1 Try.func59 Try.results59 hQ rfl ?_ | refine on1 Try.func59 Try.results59 hQ rfl ?_)
  exact ⟨rfl,rfl⟩
theorem cdq (hl:marks.length<1000000) (hh:Has L (kr_ nb marks) F) :
  Tr Try.prog B 38 [.pointer (some ⟨nb,0,none⟩)] L x fun v L' x'=>L'=vec 2 v (marks.map mark2).flatten::kr_ nb marks::F∧x'=x:=by
 refine tr_ex hh fun mv=>cv_ _ (fun h st=>bq_ st) ?_
 simp only [List.cons_append,List.nil_append]
 refine Tr.post (R:=fun v L' x'=>L'=vec 2 v (marks.map mark2).flatten::arr nb 0 [.bool true,mv]::vec 2 mv (marks.map mark2).flatten::F∧x'=x) ?_
  (by
   rintro v L' x' ⟨rfl,rfl⟩
   exact ⟨_,⟨rfl,rfl⟩,fun h st=>bn_ st (fun _ y=>y) (fun _ y=>bn_ (bj_ (M:=[_,_]) y) (fun _ z=>⟨mv,z⟩) (fun _ z=>z))⟩)
 refine ds_ (bo_ (.there .here) (bg_ (by omega))) ?_
 rintro ⟨ra,rl,rc,rfl,hlen,hrc,hra,hra2⟩
 rw [flat2] at hlen
 have hrl:rl=marks.length:=by omega
 subst hrl
 have hr0:Rd (arr nb 0 [.bool true,.slice ra marks.length rc]::vec 2 (.slice ra marks.length rc) (marks.map mark2).flatten::F) nb 0 (.bool true):=Rd.row (k:=0) rfl rfl
 have hr1:Rd (arr nb 0 [.bool true,.slice ra marks.length rc]::vec 2 (.slice ra marks.length rc) (marks.map mark2).flatten::F) nb 1 (.slice ra marks.length rc):=Rd.row (k:=1) rfl rfl
 have ha:(ra=none∧marks.length=0)∨∃ b o,ra=some ⟨b,o,none⟩∧Rds (arr nb 0 [.bool true,.slice ra marks.length rc]::vec 2 (.slice ra marks.length rc) (marks.map mark2).flatten::F) b o (marks.map mark2).flatten:=by
  cases ra with
  | none=>exact .inl ⟨rfl,hra rfl⟩
  | some y =>
   obtain ⟨b,o,sp⟩:=y
   cases hra2 _ rfl
   exact .inr ⟨b,o,rfl,fun i v hi=>df_ (.there .here) hi⟩
 refine be_ Try.func38 rfl Try.ntmps38 (by simp) fun um Q _ hQ=>?_
 simp only [argE,Nat.zero_add,Nat.reduceAdd]
 repeat (first | (apply wo_po;apply bc_;exact rfl;exact hr0;exact gY) | (apply wo_po;apply bc_;exact rfl;exact hr1;exact trivial) | refine bb_ ?_ | (refine wR ?_;try simp only [oS]) | refine ba_ ?_ | refine wM ?_ | refine wA ?_ | refine wJ ?_ | refine wN ?_ | refine wD ?_ | (apply wo_po;apply gb_;exact rfl;exact gY) | (apply wo_po;apply bs_;exact rfl;exact rfl;apply qp_;apply js_;exact gY) | refine wF ?_ | refine bk_ ?_)
 refine bt_ (.cons rfl .nil) trivial (cfp hl rfl ha) ?_
 rintro v L' x' ⟨rfl,rfl⟩
 repeat (first | refine ba_ ?_ | refine wA ?_ | refine bw_ ?_)
 (first | refine or1 Try.func38 Try.results38 hQ rfl ?_ | refine on1 Try.func38 Try.results38 hQ rfl ?_)
 exact ⟨rfl,rfl⟩
end
section
section
variable {B:Hand} [Lets B] {L F G:List HProp} {x:B.X} {n k v:Nat}
def rowOf (N:Nat) (f:Nat→Nat):List Nat:=(List.range N).map f
theorem hm_ {N:Nat} {f:Nat→Nat}:(rowOf N f).length=N:=by simp [rowOf]
theorem dg_ {N i:Nat} {f:Nat→Nat} (h:i<N):(rowOf N f)[i]?=some (f i):=by simp [rowOf,h]
theorem bvp {N q v:Nat} {f:Nat→Nat}:(rowOf N f).set q v=rowOf N (upd f q v):=by
 apply List.ext_getElem?
 intro i
 rw [List.getElem?_set,hm_]
 by_cases h:q=i
 ·subst h
  by_cases hi:q<N
  ·rw [if_pos rfl,if_pos hi,dg_ hi,ts_]
  ·rw [if_pos rfl,if_neg hi];simp [rowOf,hi]
 ·rw [if_neg h]
  by_cases hi:i<N
  ·rw [dg_ hi,dg_ hi,mr_ (fun e=>h e.symm)]
  ·simp [rowOf,hi]
theorem jq_ {N q v:Nat} {f:Nat→Nat}:[rowOf N f].set 0 ((rowOf N f).set q v)=[rowOf N (upd f q v)]:=by
 rw [bvp];rfl
theorem cmj {kv:Value} {cl:Mach.Cl} {cs:List Value} (hc:cs=(cl.code.map inC).flatten) (hd:cl.data=[]) {h:Hp} (s:Star (vec 7 kv cs::L) h):Star (clC kv (.slice none 0 0) cl::L) h:=by
 subst hc
 refine bj_ (M:=[_,_]) ?_
 rw [hd]
 exact cs_ (di_ s)
def yes (q:Bool):Nat:=if q then 1 else 0
end
end
end Go.Proofs.Ytodgemainhokjaa
namespace Go.Proofs.Ytodgemainhokjaa
open Go Go.PB
attribute [local irreducible] Mo Bin Eql Tr Wo Ap Wle
section
def rowDM (N M fu:Nat):Wds where
 W:=fun f=>⟨[rowOf N f],1⟩
 un:=fun w i=>(w.row 0).getD i 0
 ok:=fun f=>∀ i,i<N→f i<M
 fu:=fu
 back:=fun f=>by
  have e:rowOf N (fun i=>((Mach.Wd.row ⟨[rowOf N f],1⟩ 0)).getD i 0)=rowOf N f:=by
   apply List.ext_getElem?
   intro i
   by_cases h:i<N
   ·rw [dg_ h,dg_ h]
    show some ((rowOf N f).getD i 0)=_
    rw [List.getD_eq_getElem?_getD,dg_ h];rfl
   ·simp [rowOf,h]
  rw [e]
 okun:=fun f h i hi=>by
  show (rowOf N f).getD i 0<_
  rw [List.getD_eq_getElem?_getD,dg_ hi];exact h i hi
theorem ht_ {N M fu i:Nat} {f:Nat→Nat} (h:i<N):f i=(rowDM N M fu).un ((rowDM N M fu).W f) i:=by
 show f i=(rowOf N f).getD i 0
 rw [List.getD_eq_getElem?_getD,dg_ h];rfl
section
variable {D:Wds} {N k:Nat} {Pv:Nat × Mach.Th→HProp} {Pm:HProp}
theorem qs_ {addr:Nat→Nat × Nat} {K:List (Nat × Nat × Value)} {A:Apart addr N K} {Z:HProp} {hPv:∀ q h,Star [Pv q] h→Pv q h} {sb says turn fin wg:Nat} {op w:Nat} {o:Int} {s:PlS} {R:PlS→Prop} {f0:Nat→Nat} (ho:((op:Nat):Int)=o) (h0:D.ok f0) (hfg:∀ i,i<N→s.f i=s.g i) (hpm:∀ h,Pm h→Pv (k,s.t) h)
  (hop:∀ f,D.ok f→∃ f' t',Mach.Op D.fu (D.W f) s.t (op,w) (D.W f') t'∧∀ n,n<s.n→R ⟨f,D.un (D.W f'),t',n⟩):(ka_ D addr N K A Z Pv hPv sb says turn fin wg k Pm).step o w s R:=by
 obtain ⟨_,_,o1,_⟩:=hop f0 h0
 refine ⟨o1.over,by rw [o1.mark];exact ho,by rw [o1.mark],hfg,hpm,fun f n hn hf=>?_⟩
 obtain ⟨f',t',o',h⟩:=hop f hf
 exact ⟨_,o'.on,h n hn⟩
theorem jo_ {m:Nat × Nat} {t:Mach.Th} {f0:Nat→Nat} (h0:D.ok f0) (hop:∀ f,D.ok f→∃ f' t',Mach.Op D.fu (D.W f) t m (D.W f') t'∧D.ok f'∧GoodT D t'):GoodT D t:=by
 obtain ⟨_,_,o,_⟩:=hop f0 h0
 refine GoodT.mk o.over fun f hf=>?_
 obtain ⟨f',t',o',h1,h2⟩:=hop f hf
 exact ⟨f',t',o'.on,h1,h2⟩
end
theorem fq_ {N M fu:Nat} (h:0<M:=by decide):(rowDM N M fu).ok (fun _=>0):=fun i _=>h
theorem xq_ {N M fu q v:Nat} {f:Nat→Nat} (h:(rowDM N M fu).ok f) (hv:v<M):(rowDM N M fu).ok (upd f q v):=fun i hi=>by
 unfold upd
 split
 ·exact hv
 ·exact h i hi
end
end Go.Proofs.Ytodgemainhokjaa
namespace Go.PB.Mach
section
theorem bxd {α β:Type} {f:α→List β} {k:Nat} (hf:∀ a,(f a).length=k):∀ (l:List α),(l.map f).flatten.length=l.length*k:=by
 intro l
 induction l with
 | nil=>simp
 | cons a l ih=>simp only [List.map_cons,List.flatten_cons,List.length_append,ih,hf,List.length_cons];rw [Nat.add_mul];omega
theorem bxf {α β:Type} {f:α→List β} {k:Nat} (hf:∀ a,(f a).length=k):∀ (l:List α) (i j:Nat) (a:α),l[i]?=some a→j<k→(l.map f).flatten[k*i+j]?=(f a)[j]?:=by
 intro l
 induction l with
 | nil=>intro i j a h;simp at h
 | cons b l ih =>
  intro i j a h hj
  simp only [List.map_cons,List.flatten_cons]
  cases i with
  | zero =>
   have e:b=a:=by simpa using h
   subst e
   rw [Nat.mul_zero,Nat.zero_add,List.getElem?_append_left (by rw [hf];exact hj)]
  | succ i =>
   rw [List.getElem?_append_right (by rw [hf,Nat.mul_add];omega),hf,← ih i j a (by simpa using h) hj]
   congr 1
   rw [Nat.mul_add];omega
def swMid (n:Nat):List In:=((List.range n).map fun i=>[⟨17,0,6,0,0,0,i⟩,⟨2,0,6,0,0,0,1+i⟩]).flatten
def swEnd:List In:=[⟨8,0,7,1,0,0,2⟩,⟨2,0,7,0,0,0,0⟩,⟨22,0,0,0,0,0,0⟩,⟨22,0,7,0,0,0,0⟩,⟨23,0,0,0,0,0,0⟩,⟨6,0,8,0,0,0,50⟩,⟨22,0,8,0,0,0,0⟩,⟨22,0,0,0,0,0,0⟩,⟨23,0,0,0,0,0,0⟩]
def swPre (b:Nat) (l:List In):List In:=⟨1,0,1,0,0,0,0⟩::⟨6,0,2,0,0,0,1⟩::⟨12,0,3,1,2,0,0⟩::⟨19,0,3,2,0,0,b⟩::⟨8,0,4,1,2,0,0⟩::⟨5,0,5,0,1,4,0⟩::⟨19,0,5,0,0,0,b⟩::l
def swCl (ws:List Nat):Cl:=⟨swPre (12+2*ws.length) (swMid ws.length++swEnd),ws⟩
theorem swMid_len (n:Nat):(swMid n).length=2*n:=by
 unfold swMid
 rw [bxd (k:=2) (fun _=>rfl),List.length_range];omega
theorem cbv {n i j:Nat} {x:In} (hi:i<n) (hj:[(⟨17,0,6,0,0,0,i⟩:In),⟨2,0,6,0,0,0,1+i⟩][j]?=some x):(swMid n)[2*i+j]?=some x:=by
 have hj2:j<2:=(List.getElem?_eq_some_iff.1 hj).1
 unfold swMid
 rw [bxf (k:=2) (fun _=>rfl) _ i j i (by rw [List.getElem?_range hi]) hj2]
 exact hj
theorem vz_ {ws:List Nat} {i j p:Nat} {x:In} (hi:i<ws.length) (hj:[(⟨17,0,6,0,0,0,i⟩:In),⟨2,0,6,0,0,0,1+i⟩][j]?=some x) (hp:p=7+2*i+j):(swCl ws).code[p]?=some x:=by
 have hj2:j<2:=(List.getElem?_eq_some_iff.1 hj).1
 subst hp
 show (swPre _ (swMid ws.length++swEnd))[7+2*i+j]?=_
 rw [show 7+2*i+j=(2*i+j)+7 by omega]
 show (swMid ws.length++swEnd)[2*i+j]?=_
 rw [List.getElem?_append_left (by rw [swMid_len];omega)]
 exact cbv hi hj
theorem mh_ {ws:List Nat} {j p:Nat} {x:In} (hj:swEnd[j]?=some x) (hp:p=7+2*ws.length+j):(swCl ws).code[p]?=some x:=by
 subst hp
 show (swPre _ (swMid ws.length++swEnd))[7+2*ws.length+j]?=_
 rw [show 7+2*ws.length+j=(2*ws.length+j)+7 by omega]
 show (swMid ws.length++swEnd)[2*ws.length+j]?=_
 rw [List.getElem?_append_right (by rw [swMid_len];omega),swMid_len,show 2*ws.length+j-2*ws.length=j by omega]
 exact hj
variable {ws:List Nat} {cs:List Cl} {c:Nat} {pre:List (Bool × List Nat)} {w:Wd} {t':Th} {l:List Nat} {v:Nat} {r:Nat→Nat}
theorem gg_ {r:Nat→Nat} {i v:Nat}:upd r i v i=v:=by simp [upd]
theorem cu_ {r:Nat→Nat} {i j v:Nat} (h:j≠i):upd r i v j=r j:=by simp [upd,h]
theorem brr (hc:cs[c]?=some (swCl ws)) (h0:pre.length=c) (hr:r 0=0) (ho:onF 20 (Bt cs (c+1) (pre++[(true,[50,0])]))=some t'):onF 24 (T cs c (12+2*ws.length) r pre [])=some t':=by
 have e0:upd r 8 (50%18446744073709551616) 0=0:=by rw [cu_ (by decide)];exact hr
 exact Goes.on1 (mz_ hc h0 (mh_ (j:=5) rfl (by omega))) (Goes.on1 (jz_ hc h0 (mh_ (j:=6) rfl (by omega)) gg_) (Goes.on1 (jz_ hc h0 (mh_ (j:=7) rfl (by omega)) e0) (Goes.on1 (me_ hc h0 (mh_ (j:=8) rfl (by omega))) ho)))
theorem sw_on (hc:cs[c]?=some (swCl ws)) (h0:pre.length=c):onF 20 (Bt cs c pre)=some (T cs c 0 (fun _=>0) pre []) :=
 (on_begin hc h0).trans (jn_ hc h0 rfl rfl)
theorem sq_ (v:Nat):v &&& 1=v%2:=Nat.and_one_is_mod v
theorem sw_0F (hc:cs[c]?=some (swCl ws)) (h0:pre.length=c) (hw:w.words[0]?=some l) (hv:l[0]?=some v) (hodd:v%2≠0) (ho:onF 20 (Bt cs (c+1) (pre++[(true,[50,0])]))=some t'):Op 60 w (T cs c 0 (fun _=>0) pre []) (1,0) w t':=by
 refine pm_ (vb:=0) hc rfl hw rfl rfl hv (onF_more (f:=27) (k:=33) (Goes.on1 (mz_ hc h0 rfl) (Goes.on1 (zw_ hc h0 rfl) (Goes.on1 (pp_ hc h0 rfl ?_) (brr hc h0 rfl ho)))))
 show (v &&& 1)%18446744073709551616=1
 rw [sq_]
 omega
theorem sw_0T (hc:cs[c]?=some (swCl ws)) (h0:pre.length=c) (hw:w.words[0]?=some l) (hv:l[0]?=some v) (hev:v%2=0):∃ r',Op 60 w (T cs c 0 (fun _=>0) pre []) (1,0) w (T cs c 5 r' pre [])∧r' 0=0∧r' 1=v∧r' 4=(v+1)%18446744073709551616:=by
 refine ⟨_,pm_ (vb:=0) hc rfl hw rfl rfl hv (onF_more (f:=20) (k:=40) (Goes.on1 (mz_ hc h0 rfl) (Goes.on1 (zw_ hc h0 rfl) (Goes.on1 (pq_ hc h0 rfl ?_) (Goes.on1 (bdh hc h0 rfl) (jn_ (f:=15) hc h0 rfl rfl)))))),rfl,rfl,rfl⟩
 show ¬ (v &&& 1)%18446744073709551616=1
 rw [sq_]
 omega
theorem sw_5F {u:Nat} (hc:cs[c]?=some (swCl ws)) (h0:pre.length=c) (hr0:r 0=0) (hr1:r 1=v) (hw:w.words[0]?=some l) (hv:l[0]?=some u) (hne:¬ u=v) (ho:onF 20 (Bt cs (c+1) (pre++[(true,[50,0])]))=some t'):Op 60 w (T cs c 5 r pre []) (5,0) w t':=by
 refine ckf (vb:=0) (vc:=v) hc rfl hw hr0 rfl hr1 hv hne (onF_more (f:=25) (k:=35) (Goes.on1 (pp_ hc h0 rfl ?_) (brr hc h0 ?_ ho)))
 ·rw [gg_,cu_ (by decide),hr0]
 ·rw [cu_ (by decide),hr0]
theorem sw_5T {x0:Nat} {wss:List (List Nat)} (hc:cs[c]?=some (swCl ws)) (h0:pre.length=c) (hr0:r 0=0) (hr1:r 1=v) (hr4:r 4=(v+1)%18446744073709551616) (hw:w.words[0]?=some l) (hv:l[0]?=some v) (hx:ws[0]?=some x0) (hx64:x0<18446744073709551616) (hws:w.words.set 0 (l.set 0 ((v+1)%18446744073709551616))=wss) :
  ∃ r',Op 60 w (T cs c 5 r pre []) (5,0) ⟨wss,w.nl⟩ (T cs c 8 r' pre [])∧r' 0=0∧r' 1=v∧r' 6=x0:=by
 have hn:0<ws.length:=(List.getElem?_eq_some_iff.1 hx).1
 refine ⟨_,ckd (vb:=0) hc rfl hw hr0 rfl hr1 hr4 hv hws (onF_more (f:=20) (k:=40) (Goes.on1 (pq_ hc h0 rfl ?_) (Goes.on1 (bdj hc h0 (vz_ (i:=0) (j:=0) hn rfl rfl)) (jn_ (f:=17) hc h0 (vz_ (i:=0) (j:=1) hn rfl rfl) rfl)))),?_,?_,?_⟩
 ·rw [gg_,cu_ (by decide),hr0];decide
 ·rw [cu_ (by decide),cu_ (by decide),hr0]
 ·rw [cu_ (by decide),cu_ (by decide),hr1]
 ·rw [gg_,cu_ (by decide),hr0]
  show (ws.getD (0+0) 0)%_=x0
  rw [List.getD_eq_getElem?_getD,hx]
  exact Nat.mod_eq_of_lt hx64
theorem sw_w {i x x1:Nat} {wss:List (List Nat)} (hc:cs[c]?=some (swCl ws)) (h0:pre.length=c) (hr0:r 0=0) (hr1:r 1=v) (hr6:r 6=x) (hi:i+1<ws.length) (hi64:ws.length≤16) (hx1:ws[i+1]?=some x1) (hx64:x1<18446744073709551616) (hw:w.words[0]?=some l) (hl:1+i<l.length) (hws:w.words.set 0 (l.set (1+i) x)=wss) :
  ∃ r',Op 60 w (T cs c (8+2*i) r pre []) (2,1+i) ⟨wss,w.nl⟩ (T cs c (8+2*(i+1)) r' pre [])∧r' 0=0∧r' 1=v∧r' 6=x1:=by
 have e:8+2*i+1+1=8+2*(i+1):=by omega
 refine ⟨_,zk_ (vb:=0) hc (vz_ (i:=i) (j:=1) (by omega) rfl (by omega)) hw hr0 (by omega) hr6 hl hws (onF_more (f:=20) (k:=40) (Goes.on1 (bdj hc h0 (vz_ (i:=i+1) (j:=0) hi rfl (by omega))) (by rw [e];exact jn_ (f:=18) hc h0 (vz_ (i:=i+1) (j:=1) hi rfl (by omega)) rfl))),?_,?_,?_⟩
 ·rw [cu_ (by decide),hr0]
 ·rw [cu_ (by decide),hr1]
 ·rw [gg_,hr0]
  show (ws.getD ((0+(i+1))%18446744073709551616) 0)%_=x1
  rw [show (0+(i+1))%18446744073709551616=i+1 by omega,List.getD_eq_getElem?_getD,hx1]
  exact Nat.mod_eq_of_lt hx64
theorem sw_wl {i x:Nat} {wss:List (List Nat)} (hc:cs[c]?=some (swCl ws)) (h0:pre.length=c) (hr0:r 0=0) (hr1:r 1=v) (hr6:r 6=x) (hi:i+1=ws.length) (hi64:ws.length≤16) (hw:w.words[0]?=some l) (hl:1+i<l.length) (hws:w.words.set 0 (l.set (1+i) x)=wss) :
  ∃ r',Op 60 w (T cs c (8+2*i) r pre []) (2,1+i) ⟨wss,w.nl⟩ (T cs c (8+2*ws.length) r' pre [])∧r' 0=0∧r' 7=(v+2)%18446744073709551616:=by
 have e:8+2*i+1+1=8+2*ws.length:=by omega
 refine ⟨_,zk_ (vb:=0) hc (vz_ (i:=i) (j:=1) (by omega) rfl (by omega)) hw hr0 (by omega) hr6 hl hws (onF_more (f:=20) (k:=40) (Goes.on1 (bdh hc h0 (mh_ (j:=0) rfl (by omega))) (by rw [e];exact jn_ (f:=18) hc h0 (mh_ (j:=1) rfl (by omega)) rfl))),?_,?_⟩
 ·rw [cu_ (by decide),hr0]
 ·rw [gg_,hr0,hr1]
theorem sw_z {x:Nat} {wss:List (List Nat)} (hc:cs[c]?=some (swCl ws)) (h0:pre.length=c) (hr0:r 0=0) (hr7:r 7=x) (hw:w.words[0]?=some l) (hl:0<l.length) (hws:w.words.set 0 (l.set 0 x)=wss) (ho:onF 20 (Bt cs (c+1) (pre++[(true,[0,x])]))=some t'):Op 60 w (T cs c (8+2*ws.length) r pre []) (2,0) ⟨wss,w.nl⟩ t' :=
 zk_ (vb:=0) hc (mh_ (j:=1) rfl (by omega)) hw hr0 rfl hr7 hl hws (onF_more (f:=23) (k:=37) (Goes.on1 (jz_ hc h0 (mh_ (j:=2) rfl (by omega)) hr0) (Goes.on1 (jz_ hc h0 (mh_ (j:=3) rfl (by omega)) hr7) (Goes.on1 (me_ hc h0 (mh_ (j:=4) rfl (by omega))) ho))))
def srMid (n:Nat):List In:=(List.range n).map fun i=>⟨1,0,8+i,0,0,0,1+i⟩
def srAft (a:Nat):List In:=[⟨1,0,4,0,0,0,0⟩,⟨19,0,4,1,0,0,a⟩,⟨9,0,6,6,2,0,0⟩,⟨20,0,0,6,0,0,2⟩,⟨6,0,5,0,0,0,51⟩,⟨22,0,5,0,0,0,0⟩,⟨22,0,0,0,0,0,0⟩,⟨23,0,0,0,0,0,0⟩,⟨22,0,0,0,0,0,0⟩,⟨22,0,1,0,0,0,0⟩]
def srTell (n:Nat):List In:=(List.range n).map fun i=>⟨22,0,8+i,0,0,0,0⟩
def srPre (k b:Nat) (l:List In):List In:=⟨6,0,2,0,0,0,1⟩::⟨6,0,6,0,0,0,k⟩::⟨1,0,1,0,0,0,0⟩::⟨12,0,3,1,2,0,0⟩::⟨19,0,3,2,0,0,b⟩::l
def srCl (n k:Nat):Cl:=⟨srPre k (7+n) (srMid n++(srAft (13+n)++(srTell n++[⟨23,0,0,0,0,0,0⟩]))),[]⟩
section
variable {n k:Nat}
theorem xn_ (j:Nat):(srCl n k).code[5+j]?=(srMid n++(srAft (13+n)++(srTell n++[⟨23,0,0,0,0,0,0⟩])))[j]?:=by
 rw [Nat.add_comm];rfl
theorem bpc {i p:Nat} (hi:i<n) (hp:p=5+i):(srCl n k).code[p]?=some ⟨1,0,8+i,0,0,0,1+i⟩:=by
 subst hp
 rw [xn_,List.getElem?_append_left (by simp [srMid,hi])]
 simp [srMid,hi]
theorem he_ {j p:Nat} {x:In} (hj:(srAft (13+n))[j]?=some x) (hp:p=5+n+j):(srCl n k).code[p]?=some x:=by
 subst hp
 have hl:(srMid n).length=n:=by simp [srMid]
 have hj2:=(List.getElem?_eq_some_iff.1 hj).1
 rw [Nat.add_assoc,xn_,List.getElem?_append_right (by omega),hl,Nat.add_sub_cancel_left,List.getElem?_append_left hj2]
 exact hj
theorem sr_tl {i p:Nat} (hi:i<n) (hp:p=15+n+i):(srCl n k).code[p]?=some ⟨22,0,8+i,0,0,0,0⟩:=by
 subst hp
 have hl:(srMid n).length=n:=by simp [srMid]
 have hl2:(srAft (13+n)).length=10:=rfl
 rw [show 15+n+i=5+(n+(10+i)) by omega,xn_,List.getElem?_append_right (by omega),hl,Nat.add_sub_cancel_left,List.getElem?_append_right (by omega),hl2,Nat.add_sub_cancel_left,List.getElem?_append_left (by simp [srTell,hi])]
 simp [srTell,hi]
theorem cnx {p:Nat} (hp:p=15+n+n):(srCl n k).code[p]?=some ⟨23,0,0,0,0,0,0⟩:=by
 subst hp
 have hl:(srMid n).length=n:=by simp [srMid]
 have hl2:(srAft (13+n)).length=10:=rfl
 have hl3:(srTell n).length=n:=by simp [srTell]
 rw [show 15+n+n=5+(n+(10+n)) by omega,xn_,List.getElem?_append_right (by omega),hl,Nat.add_sub_cancel_left,List.getElem?_append_right (by omega),hl2,Nat.add_sub_cancel_left,List.getElem?_append_right (by omega),hl3,Nat.sub_self]
 rfl
structure SrR (r:Nat→Nat) (m:Nat):Prop where
 r0:r 0=0
 r2:r 2=1
 r6:r 6=m
theorem sr_on (hc:cs[c]?=some (srCl n k)) (h0:pre.length=c) (hk:k<18446744073709551616):∃ r,onF 20 (Bt cs c pre)=some (T cs c 2 r pre [])∧SrR r k :=
 ⟨_,(on_begin hc h0).trans (Goes.on1 (mz_ hc h0 rfl) (Goes.on1 (mz_ hc h0 rfl) (jn_ (f:=17) hc h0 rfl rfl))),⟨rfl,rfl,by rw [gg_];exact Nat.mod_eq_of_lt hk⟩⟩
variable {m:Nat}
theorem bhv (hc:cs[c]?=some (srCl n k)) (h0:pre.length=c) (R:SrR r m) (hm:1<m) (hm64:m<18446744073709551616):∃ r',onF 23 (T cs c (7+n) r pre [])=some (T cs c 2 r' pre [])∧SrR r' (m-1):=by
 have e:(m+18446744073709551616-1)%18446744073709551616=m-1:=by omega
 refine ⟨_,Goes.on1 (brs hc h0 (he_ (j:=2) rfl (by omega)) e R.r6 R.r2) (Goes.on1 (bkz hc h0 (he_ (j:=3) rfl (by omega)) ?_) (jn_ (f:=20) hc h0 rfl rfl)),⟨?_,?_,gg_⟩⟩
 ·rw [gg_,cu_ (by decide),R.r0];omega
 ·rw [cu_ (by decide),R.r0]
 ·rw [cu_ (by decide),R.r2]
theorem bhw (hc:cs[c]?=some (srCl n k)) (h0:pre.length=c) (R:SrR r 1) (ho:onF 20 (Bt cs (c+1) (pre++[(true,[51,0])]))=some t'):onF 26 (T cs c (7+n) r pre [])=some t':=by
 have e:(1+18446744073709551616-1)%18446744073709551616=0:=by omega
 refine Goes.on1 (brs hc h0 (he_ (j:=2) rfl (by omega)) e R.r6 R.r2) (Goes.on1 (bmb hc h0 (he_ (j:=3) rfl (by omega)) ?_) (Goes.on1 (mz_ hc h0 (he_ (j:=4) rfl (by omega))) (Goes.on1 (jz_ hc h0 (he_ (j:=5) rfl (by omega)) gg_) (Goes.on1 (jz_ (vb:=0) hc h0 (he_ (j:=6) rfl (by omega)) ?_) (Goes.on1 (me_ hc h0 (he_ (j:=7) rfl (by omega))) ho)))))
 ·rw [gg_];omega
 ·rw [cu_ (by decide),cu_ (by decide),R.r0]
theorem sr_2T (hc:cs[c]?=some (srCl n k)) (h0:pre.length=c) (hn:1≤n) (R:SrR r m) (hw:w.words[0]?=some l) (hv:l[0]?=some v) (hev:v%2=0):∃ r',Op 60 w (T cs c 2 r pre []) (1,0) w (T cs c 5 r' pre [])∧SrR r' m∧r' 1=v:=by
 refine ⟨_,pm_ (vb:=0) hc rfl hw R.r0 rfl hv (onF_more (f:=20) (k:=40) (Goes.on1 (ccb (vb:=v) (vc:=1) (v:=v &&& 1) hc h0 rfl ?_ gg_ ?_) (Goes.on1 (pq_ hc h0 rfl ?_) (jn_ (f:=17) hc h0 (bpc (i:=0) hn rfl) rfl)))),⟨?_,?_,?_⟩,?_⟩
 ·rw [sq_];omega
 ·rw [cu_ (by decide),R.r2]
 ·rw [gg_,cu_ (by decide),cu_ (by decide),R.r2,sq_];omega
 ·rw [cu_ (by decide),cu_ (by decide),R.r0]
 ·rw [cu_ (by decide),cu_ (by decide),R.r2]
 ·rw [cu_ (by decide),cu_ (by decide),R.r6]
 ·rw [cu_ (by decide),gg_]
theorem sr_2r (R:SrR r m):SrR (upd (upd r 1 v) 3 (v &&& 1)) m :=
 ⟨by rw [cu_ (by decide),cu_ (by decide),R.r0],by rw [cu_ (by decide),cu_ (by decide),R.r2],by rw [cu_ (by decide),cu_ (by decide),R.r6]⟩
theorem sr_2o (hc:cs[c]?=some (srCl n k)) (h0:pre.length=c) (R:SrR r m) (hw:w.words[0]?=some l) (hv:l[0]?=some v) (hodd:v%2≠0) {f:Nat} (hf:f≤58) (ho:onF f (T cs c (7+n) (upd (upd r 1 v) 3 (v &&& 1)) pre [])=some t'):Op 60 w (T cs c 2 r pre []) (1,0) w t':=by
 have ho2:onF 58 (T cs c (7+n) (upd (upd r 1 v) 3 (v &&& 1)) pre [])=some t':=by
  have:=onF_more (k:=58-f) ho
  rwa [show f+(58-f)=58 by omega] at this
 refine pm_ (vb:=0) hc rfl hw R.r0 rfl hv (Goes.on1 (ccb (vb:=v) (vc:=1) (v:=v &&& 1) hc h0 rfl ?_ gg_ ?_) (Goes.on1 (pp_ hc h0 rfl ?_) ho2))
 ·rw [sq_];omega
 ·rw [cu_ (by decide),R.r2]
 ·rw [gg_,cu_ (by decide),cu_ (by decide),R.r2,sq_];omega
theorem sr_2R (hc:cs[c]?=some (srCl n k)) (h0:pre.length=c) (R:SrR r m) (hw:w.words[0]?=some l) (hv:l[0]?=some v) (hodd:v%2≠0) (hm:1<m) (hm64:m<18446744073709551616):∃ r',Op 60 w (T cs c 2 r pre []) (1,0) w (T cs c 2 r' pre [])∧SrR r' (m-1):=by
 obtain ⟨r',h1,h2⟩:=bhv hc h0 (sr_2r (v:=v) R) hm hm64
 exact ⟨r',sr_2o hc h0 R hw hv hodd (by decide) h1,h2⟩
theorem sr_2F (hc:cs[c]?=some (srCl n k)) (h0:pre.length=c) (R:SrR r 1) (hw:w.words[0]?=some l) (hv:l[0]?=some v) (hodd:v%2≠0) (ho:onF 20 (Bt cs (c+1) (pre++[(true,[51,0])]))=some t'):Op 60 w (T cs c 2 r pre []) (1,0) w t' :=
 sr_2o hc h0 R hw hv hodd (by decide) (bhw hc h0 (sr_2r (v:=v) R) ho)
theorem sr_w {i x:Nat} (hc:cs[c]?=some (srCl n k)) (h0:pre.length=c) (hi:i<n) (hn:n≤16) (R:SrR r m) (h1:r 1=v) (hw:w.words[0]?=some l) (hv:l[1+i]?=some x):∃ r',Op 60 w (T cs c (5+i) r pre []) (1,1+i) w (T cs c (5+(i+1)) r' pre [])∧SrR r' m∧r' 1=v∧r' (8+i)=x∧∀ j,j<i→r' (8+j)=r (8+j):=by
 refine ⟨upd r (8+i) x,pm_ (vb:=0) hc (bpc hi rfl) hw R.r0 (by omega) hv ?_,⟨by rw [cu_ (by omega),R.r0],by rw [cu_ (by omega),R.r2],by rw [cu_ (by omega),R.r6]⟩,by rw [cu_ (by omega),h1],gg_,fun j hj=>cu_ (by omega)⟩
 by_cases h:i+1<n
 ·exact jn_ (f:=59) hc h0 (bpc h (by omega)) rfl
 ·exact jn_ (f:=59) hc h0 (he_ (j:=0) rfl (by omega)) rfl
theorem bhx {ws:List Nat} {said:List Nat} (hc:cs[c]?=some (srCl n k)) (h0:pre.length=c) (hl:ws.length=n) (hr:∀ j x,ws[j]?=some x→r (8+j)=x):∀ i,i≤n→Goes i (T cs c (15+n) r pre said) (T cs c (15+n+i) r pre (said++ws.take i))
 | 0,_=>by rw [List.take_zero,List.append_nil];exact Goes.refl
 | i+1,h=>by
  obtain ⟨x,hx⟩:∃ x,ws[i]?=some x:=⟨_,List.getElem?_eq_getElem (by omega)⟩
  have h1:=bhx hc h0 hl hr i (by omega) (said:=said)
  have h2:=jz_ (said:=said++ws.take i) hc h0 (sr_tl (i:=i) (by omega) rfl) (hr i x hx)
  have h3:=h1.trans h2
  rw [Nat.add_comm 1 i,List.append_assoc] at h3
  rw [List.take_add_one,hx]
  exact h3
theorem sr_5r {u:Nat} (R:SrR r m):SrR (upd r 4 u) m :=
 ⟨by rw [cu_ (by decide),R.r0],by rw [cu_ (by decide),R.r2],by rw [cu_ (by decide),R.r6]⟩
theorem sr_5T {ws:List Nat} (hc:cs[c]?=some (srCl n k)) (h0:pre.length=c) (hn:n≤16) (R:SrR r m) (h1:r 1=v) (hl:ws.length=n) (hr:∀ j x,ws[j]?=some x→r (8+j)=x) (hw:w.words[0]?=some l) (hv:l[0]?=some v) (ho:onF 20 (Bt cs (c+1) (pre++[(true,[0,v]++ws)]))=some t'):Op 60 w (T cs c (5+n) r pre []) (1,0) w t':=by
 have hr4:∀ j x,ws[j]?=some x→upd r 4 v (8+j)=x:=fun j x h=>by rw [cu_ (by omega)];exact hr j x h
 have g1:=bhx (r:=upd r 4 v) (said:=[]++[0]++[v]) hc h0 hl hr4 n (Nat.le_refl n)
 rw [List.take_of_length_le (by omega)] at g1
 have g2:onF (20+1+n) (T cs c (15+n) (upd r 4 v) pre ([]++[0]++[v]))=some t':=g1.on (Goes.on1 (me_ hc h0 (cnx rfl)) ho)
 have g3:onF (20+1+n+1+1+1) (T cs c (6+n) (upd r 4 v) pre [])=some t':=by
  refine Goes.on1 (pp_ hc h0 (he_ (j:=1) rfl (by omega)) ?_) (Goes.on1 (jz_ (vb:=0) hc h0 (he_ (j:=8) rfl (by omega)) ?_) (Goes.on1 (jz_ (vb:=v) hc h0 (he_ (j:=9) rfl (by omega)) ?_) (by rw [show 13+n+1+1=15+n by omega];exact g2)))
  ·rw [gg_,cu_ (by decide),h1]
  ·rw [cu_ (by decide),R.r0]
  ·rw [cu_ (by decide),h1]
 have g4:=onF_more (k:=60-(20+1+n+1+1+1)) g3
 rw [show 20+1+n+1+1+1+(60-(20+1+n+1+1+1))=60 by omega] at g4
 exact pm_ (vb:=0) hc (he_ (j:=0) rfl (by omega)) hw R.r0 rfl hv (by rw [show 5+n+1=6+n by omega];exact g4)
theorem sr_5o {u:Nat} (hc:cs[c]?=some (srCl n k)) (h0:pre.length=c) (R:SrR r m) (h1:r 1=v) (hw:w.words[0]?=some l) (hv:l[0]?=some u) (hne:u≠v) {f:Nat} (hf:f≤59) (ho:onF f (T cs c (7+n) (upd r 4 u) pre [])=some t'):Op 60 w (T cs c (5+n) r pre []) (1,0) w t':=by
 have ho2:onF 59 (T cs c (7+n) (upd r 4 u) pre [])=some t':=by
  have:=onF_more (k:=59-f) ho
  rwa [show f+(59-f)=59 by omega] at this
 refine pm_ (vb:=0) hc (he_ (j:=0) rfl (by omega)) hw R.r0 rfl hv (Goes.on1 (pq_ hc h0 (he_ (j:=1) rfl (by omega)) ?_) (by rw [show 5+n+1+1=7+n by omega];exact ho2))
 rw [gg_,cu_ (by decide),h1];exact hne
theorem sr_5R {u:Nat} (hc:cs[c]?=some (srCl n k)) (h0:pre.length=c) (R:SrR r m) (h1:r 1=v) (hw:w.words[0]?=some l) (hv:l[0]?=some u) (hne:u≠v) (hm:1<m) (hm64:m<18446744073709551616):∃ r',Op 60 w (T cs c (5+n) r pre []) (1,0) w (T cs c 2 r' pre [])∧SrR r' (m-1):=by
 obtain ⟨r',h2,h3⟩:=bhv hc h0 (sr_5r (u:=u) R) hm hm64
 exact ⟨r',sr_5o hc h0 R h1 hw hv hne (by decide) h2,h3⟩
theorem sr_5F {u:Nat} (hc:cs[c]?=some (srCl n k)) (h0:pre.length=c) (R:SrR r 1) (h1:r 1=v) (hw:w.words[0]?=some l) (hv:l[0]?=some u) (hne:u≠v) (ho:onF 20 (Bt cs (c+1) (pre++[(true,[51,0])]))=some t'):Op 60 w (T cs c (5+n) r pre []) (1,0) w t' :=
 sr_5o hc h0 R h1 hw hv hne (by decide) (bhw hc h0 (sr_5r (u:=u) R) ho)
end
end
end Go.PB.Mach
namespace Go.Proofs.Ytodgemainhokjaa
open Go Go.PB
attribute [local irreducible] Mo Bin Eql Tr Wo Ap Wle
section
structure SeqAt {B:Hand} {gv:Value} (A:Acc B gv) (r n:Nat):Prop where
 lo:1≤n
 hi:n≤16
 hdr:∀ s,Rd [A.C s] r 1 (.int .i64 (n:Nat))
 a0:A.addr 0=(r,0)
 a:∀ i,i<n→A.addr (1+i)=(r,2+i)
section
variable {B:Hand} [Lets B] {gv:Value} {A:Acc B gv} {r n:Nat} {L F:List HProp}
theorem yr_ {x:B.X} (hr:Rd L r 1 (.int .i64 (n:Nat))) (hn:1≤n) :
  Tr Try.prog B 45 [.pointer (some ⟨r,0,none⟩)] L x fun v L' x'=>v=.bool false∧L'=L∧x'=x:=by
 refine be_ Try.func45 rfl Try.ntmps45 (by simp) fun um Q _ hQ=>?_
 simp only [argE,Nat.zero_add,Nat.reduceAdd]
 repeat (first | (apply wo_po;apply bc_;exact rfl;exact hr;exact rfl) | refine weqlF ?_ | refine bb_ ?_ | (refine wR ?_;try simp only [oS]) | refine ba_ ?_ | refine wM ?_ | refine wA ?_ | refine wJ ?_ | refine wN ?_ | refine wD ?_ | (apply wo_po;apply bs_;exact rfl;exact rfl;apply qp_;apply js_;exact gY) | refine bw_ ?_)
 (first | refine or1 Try.func45 Try.results45 hQ rfl ?_ | refine on1 Try.func45 Try.results45 hQ rfl ?_)
 exact ⟨rfl,rfl,rfl⟩
theorem ky_ {op:Int} {w:Nat} {s:A.S} {T:A.S→Prop} (hs:A.step op w s T) (hh:Has L (A.C s) F) :
  Tr Try.prog B 46 [gv,.int .u8 op,.int .i64 w] L (A.x s) fun v L' x'=>∃ s',T s'∧v=.tuple #[]∧L'=A.C s'::F∧x'=A.x s':=by
 rcases A.gate with ⟨rfl,hg⟩ | ⟨t,p,f,rfl,hm,he,hg⟩
 ·refine be_ Try.func46 rfl Try.ntmps46 (by simp) fun um Q _ hQ=>?_
  simp only [argE,Nat.zero_add,Nat.reduceAdd]
  repeat (first | refine bb_ ?_ | (refine wR ?_;try simp only [oS]) | refine ba_ ?_ | refine wM ?_ | (apply wo_po;apply bs_;exact rfl;exact rfl;apply wo_;apply xf_;exact gY) | refine wF ?_ | refine bk_ ?_)
  refine fj_ _ (Ent.take hh .refl) ?_
  (first | refine or0 Try.func46 Try.results46 hQ ?_ | refine on0 Try.func46 Try.results46 hQ ?_)
  exact ⟨s,hg _ _ _ _ hs,rfl,rfl,rfl⟩
 ·refine be_ Try.func46 rfl Try.ntmps46 (by simp) fun um Q _ hQ=>?_
  simp only [argE,Nat.zero_add,Nat.reduceAdd]
  repeat (first | (apply wo_po;apply dn_ (pv:=[(0,_),(1,_)]);exact rfl;exact .cons rfl (.cons rfl .nil);exact rfl;exact trivial) | refine bb_ ?_ | (refine wR ?_;try simp only [oS]) | refine ba_ ?_ | refine wM ?_ | (apply wo_po;apply bs_;exact rfl;exact rfl;apply wo_;apply su_;exact gY) | refine wT ?_)
  refine btr (args:=[_]) rfl (.cons rfl .nil) trivial (hg op w s T L F hs hh) ?_
  rintro v L' x' ⟨s',h1,rfl,rfl,rfl⟩
  repeat (first | refine ba_ ?_)
  (first | refine or0 Try.func46 Try.results46 hQ ?_ | refine on0 Try.func46 Try.results46 hQ ?_)
  exact ⟨s',h1,rfl,rfl,rfl⟩
def WLoop (A:Acc B gv) (K:A.S→Prop):List Nat→Nat→A.S→Prop
 | [],_,s=>K s
 | w::l,i,s=>A.step 2 (1+i) s fun s=>A.store (1+i) w s (WLoop A K l (i+1))
def wr_ (A:Acc B gv) (ws:List Nat) (s:A.S) (Q:Option Nat→A.S→Prop):Prop :=
 A.step 1 0 s fun s=>A.load 0 s fun v s=>if v%2=0 then
  A.step 5 0 s fun s=>A.cas 0 v ((v+1)%18446744073709551616) s fun c s=>if c=true then
   WLoop A (fun s=>A.step 2 0 s fun s=>A.store 0 ((v+2)%18446744073709551616) s (Q (some ((v+2)%18446744073709551616)))) ws 0 s
   else Q none s
  else Q none s
def wrInv (A:Acc B gv) (r n v:Nat) (ws:List Nat) (wv:Value) (F:List HProp) (K:A.S→Prop):PB.Inv (Nat × A.S) B.X where
 e:=fun i=>[(0,.pointer (some ⟨r,0,none⟩)),(1,gv),(8,.int .u64 (v:Nat)),(41,wv),(42,.int .i64 (n:Nat)),(43,.int .i64 (i.1:Nat))]
 L:=fun i=>A.C i.2::F
 x:=fun i=>A.x i.2
 ok:=fun i=>i.1≤n∧WLoop A K (ws.drop i.1) i.1 i.2
theorem ya_ (R:SeqAt A r n) {ws:List Nat} {wa:Option Addr} {wc:Nat} (hlen:ws.length=n) (hb:∀ w∈ws,w<18446744073709551616) {s:A.S} {Q:Option Nat→A.S→Prop} (hs:wr_ A ws s Q) (hh:Has L (A.C s) F) (hw:RdsO F wa n (ws.map num)) :
  Tr Try.prog B 14 [.pointer (some ⟨r,0,none⟩),gv,.slice wa n wc] L (A.x s) fun v' L' x'=>∃ q s',Q q s'∧v'=.tuple #[.int .u64 (q.getD 0:Nat),.int .i64 (if q.isSome=true then 0 else 50)]∧L'=A.C s'::F∧x'=A.x s':=by
 have hlo:=R.lo
 have hhi:=R.hi
 unfold wr_ at hs
 have hr0:=Rd.of hh (R.hdr s)
 obtain ⟨wb,wo,rfl,hrds⟩:=hw.rds (by omega)
 refine be_ Try.func14 rfl Try.ntmps14 (by simp) fun um Q _ hQ=>?_
 simp only [argE,Nat.zero_add,Nat.reduceAdd]
 repeat (first | refine bb_ ?_ | (refine wR ?_;try simp only [oS]) | refine ba_ ?_ | refine wM ?_ | refine wA ?_ | refine bd_ ?_)
 refine bt_ (.cons rfl .nil) trivial (yr_ hr0 hlo) ?_
 rintro v1 L1 x1 ⟨rfl,rfl,rfl⟩
 repeat (first | (apply wo_po;apply bc_;exact rfl;exact hr0;exact trivial) | refine wneqF ?_ | refine bb_ ?_ | (refine wR ?_;try simp only [oS]) | refine ba_ ?_ | refine wM ?_ | refine wA ?_ | refine wN ?_ | refine wD ?_ | refine wE ?_ | refine wF ?_ | refine bk_ ?_)
 refine bt_ (.cons rfl (.cons rfl (.cons rfl .nil))) trivial (ky_ hs hh) ?_
 rintro v1 L1 x1 ⟨s1,h1,rfl,rfl,rfl⟩
 repeat (first | refine bb_ ?_ | (refine wR ?_;try simp only [oS]) | refine ba_ ?_ | refine wM ?_ | refine wN ?_ | refine wD ?_)
 refine bt_ (.cons rfl .nil) trivial (A.load_ok _ _ _ _ _ _ _ R.a0 h1 .here) ?_
 rintro v1 L1 x1 ⟨v,s2,hv,h2,rfl,rfl,rfl⟩
 have hm:(v:Int).tmod 2=((v%2:Nat):Int):=by rw [Int.tmod_eq_emod_of_nonneg (by omega)];omega
 by_cases c1:v%2=0
 ·rw [if_pos c1] at h2
  repeat (first | (apply wo_po;apply bs_;exact rfl;exact rfl;apply sn_;omega;exact hm;exact trivial) | refine wneqF ?_ | refine bb_ ?_ | (refine wR ?_;try simp only [oS]) | refine ba_ ?_ | refine wM ?_ | refine wA ?_ | refine wF ?_ | refine bk_ ?_)
  refine bt_ (.cons rfl (.cons rfl (.cons rfl .nil))) trivial (ky_ h2 .here) ?_
  rintro v1 L1 x1 ⟨s3,h3,rfl,rfl,rfl⟩
  have hadd:IntKind.u64.wrap ((v:Int)+1)=(((v+1)%18446744073709551616:Nat):Int):=by rw [dq_];omega
  have hadd2:IntKind.u64.wrap ((v:Int)+2)=(((v+2)%18446744073709551616:Nat):Int):=by rw [dq_];omega
  repeat (first | (apply wo_po;apply bs_;exact rfl;exact rfl;apply dy_;exact hadd;exact trivial) | refine bb_ ?_ | (refine wR ?_;try simp only [oS]) | refine ba_ ?_ | refine wM ?_ | refine wN ?_ | refine wD ?_)
  refine bt_ (.cons rfl (.cons rfl (.cons rfl .nil))) trivial (A.cas_ok _ _ _ _ _ _ _ _ _ R.a0 (Nat.mod_lt _ (by decide)) h3 .here) ?_
  rintro v1 L1 x1 ⟨q,s4,h4,rfl,rfl,rfl⟩
  cases q
  ·rw [if_neg (by decide)] at h4
   repeat (first | refine bb_ ?_ | (refine wR ?_;try simp only [oS]) | refine ba_ ?_ | refine wA ?_ | (apply wo_po;apply gb_;exact rfl;exact gY) | refine wT ?_ | refine bw_ ?_)
   (first | refine or2 Try.func14 Try.results14 hQ rfl rfl ?_ | refine on2 Try.func14 Try.results14 hQ rfl rfl ?_)
   exact ⟨none,s4,h4,rfl,rfl,rfl⟩
  ·rw [if_pos rfl] at h4
   repeat (first | refine bb_ ?_ | (refine wR ?_;try simp only [oS]) | refine ba_ ?_ | refine wM ?_ | (apply wo_po;apply gb_;exact rfl;exact gY) | refine wE ?_ | refine wF ?_ | refine bk_ ?_ | refine bd_ ?_)
   refine ck_ (wrInv A r n v ws (.slice (some ⟨wb,wo,none⟩) n wc) F _) (fun i=>n-i.1) (0,s4) ⟨Nat.zero_le _,h4⟩ ⟨rfl,rfl,rfl,rfl,rfl,rfl,trivial⟩ .refl rfl ?_
   clear h4 h3 h2 h1 hs hr0
   rintro ⟨i,s5⟩ ⟨hi,h5⟩
   dsimp only [wrInv] at hi h5 ⊢
   by_cases c2:i<n
   ·have hiw:i<ws.length:=by omega
    rw [List.drop_eq_getElem_cons hiw] at h5
    obtain ⟨w,hwv⟩:∃ w,ws[i]=w:=⟨_,rfl⟩
    have hwb:w<18446744073709551616:=hb w (hwv▸List.getElem_mem hiw)
    have hrd:Rd (A.C s5::F) wb (wo+i) (.int .u64 (w:Nat)):=.there (hrds i _ (by rw [List.getElem?_map,List.getElem?_eq_getElem hiw,hwv];rfl))
    rw [hwv] at h5
    have h1i:IntKind.i64.wrap (1+(i:Int))=((1+i:Nat):Int):=(fk_ (by omega) (by omega)).trans (by omega)
    repeat (first | (apply wo_po;apply bz_ (r:=wo+i);exact rfl;exact rfl;omega;omega;omega;exact trivial) | (apply wo_po;apply bc_;exact rfl;exact hrd;exact trivial) | (apply wo_po;apply bs_;exact rfl;exact rfl;apply dy_;exact h1i;exact trivial) | refine wlssT ?_ | refine bb_ ?_ | (refine wR ?_;try simp only [oS]) | refine ba_ ?_ | refine wM ?_ | refine wA ?_ | refine wT ?_ | refine bk_ ?_ | refine bd_ ?_)
    refine bt_ (.cons rfl (.cons rfl (.cons rfl .nil))) trivial (ky_ (w:=1+i) h5 .here) ?_
    rintro v1 L1 x1 ⟨s6,h6,rfl,rfl,rfl⟩
    repeat (first | (apply wo_po;apply bu_ (j:=i);exact rfl;exact rfl;omega;exact trivial) | (refine wR ?_;try simp only [oS]) | refine ba_ ?_ | refine wM ?_ | refine wN ?_ | refine wD ?_)
    refine bt_ (.cons rfl (.cons rfl .nil)) trivial (A.store_ok _ _ _ _ _ _ _ _ (R.a i c2) hwb h6 .here) ?_
    rintro v1 L1 x1 ⟨s7,h7,rfl,rfl,rfl⟩
    repeat (first | (refine wR ?_;try simp only [oS]) | refine ba_ ?_ | refine wM ?_ | refine wadd ?_)
    refine cr_ (I:=wrInv A r n v ws (.slice (some ⟨wb,wo,none⟩) n wc) F _) (R:=fun j=>n-j.1<n-i) (i+1,s7) (by show n-(i+1)<n-i;omega) ⟨by show i+1≤n;omega,h7⟩ ⟨rfl,rfl,rfl,rfl,rfl,rfl,trivial⟩ .refl rfl
   ·obtain rfl:i=n:=by omega
    rw [List.drop_of_length_le (by omega)] at h5
    repeat (first | refine wlssF ?_ | refine bb_ ?_ | (refine wR ?_;try simp only [oS]) | refine ba_ ?_ | refine wM ?_ | refine wF ?_ | refine ch_ ?_)
    refine bt_ (.cons rfl (.cons rfl (.cons rfl .nil))) trivial (ky_ h5 .here) ?_
    rintro v1 L1 x1 ⟨s6,h6,rfl,rfl,rfl⟩
    repeat (first | (apply wo_po;apply bs_;exact rfl;exact rfl;apply dy_;exact hadd2;exact trivial) | refine bb_ ?_ | (refine wR ?_;try simp only [oS]) | refine ba_ ?_ | refine wM ?_ | refine wN ?_ | refine wD ?_)
    refine bt_ (.cons rfl (.cons rfl .nil)) trivial (A.store_ok _ _ _ _ _ _ _ _ R.a0 (Nat.mod_lt _ (by decide)) h6 .here) ?_
    rintro v1 L1 x1 ⟨s7,h7,rfl,rfl,rfl⟩
    repeat (first | (apply wo_po;apply bs_;exact rfl;exact rfl;apply dy_;exact hadd2;exact trivial) | refine bb_ ?_ | (refine wR ?_;try simp only [oS]) | refine ba_ ?_ | refine wM ?_ | refine wA ?_ | refine bw_ ?_)
    (first | refine or2 Try.func14 Try.results14 hQ rfl rfl ?_ | refine on2 Try.func14 Try.results14 hQ rfl rfl ?_)
    exact ⟨some _,s7,h7,rfl,rfl,rfl⟩
 ·rw [if_neg c1] at h2
  repeat (first | (apply wo_po;apply bs_;exact rfl;exact rfl;apply sn_;omega;exact hm;exact trivial) | refine wneqT ?_ | refine bb_ ?_ | (refine wR ?_;try simp only [oS]) | refine ba_ ?_ | refine wM ?_ | refine wA ?_ | refine wT ?_ | refine bw_ ?_)
  (first | refine or2 Try.func14 Try.results14 hQ rfl rfl ?_ | refine on2 Try.func14 Try.results14 hQ rfl rfl ?_)
  exact ⟨none,s2,h2,rfl,rfl,rfl⟩
def RLoop (A:Acc B gv) (K:List Nat→A.S→Prop):Nat→List Nat→A.S→Prop
 | 0,acc,s=>K acc s
 | k+1,acc,s=>A.step 1 (1+acc.length) s fun s=>A.load (1+acc.length) s fun w s=>RLoop A K k (acc++[w]) s
def ReadT (A:Acc B gv) (n:Nat) (s:A.S) (Q:Option (List Nat × Nat)→A.S→Prop):Prop :=
 A.step 1 0 s fun s=>A.load 0 s fun v s=>if v%2=0 then
  RLoop A (fun ws s=>A.step 1 0 s fun s=>A.load 0 s fun u s=>if u=v then Q (some (ws,v)) s else Q none s) n [] s
  else Q none s
def rdW (o:Option (List Nat × Nat)):List Nat:=(o.map (·.1)).getD []
def rdV (o:Option (List Nat × Nat)):Nat:=(o.map (·.2)).getD 0
def GoodR (n:Nat) (o:Option (List Nat × Nat)):Prop:=∀ y,o=some y→y.1.length=n∧(∀ w∈y.1,w<18446744073709551616)∧y.2<18446744073709551616
def rdInv (A:Acc B gv) (r n v:Nat) (F:List HProp) (K:List Nat→A.S→Prop):PB.Inv (Nat × Value × List Nat × A.S) B.X where
 e:=fun i=>[(0,.pointer (some ⟨r,0,none⟩)),(1,gv),(7,.int .u64 (v:Nat)),(8,i.2.1),(9,.pointer (some ⟨r,2,none⟩)),(25,.int .i64 (i.1:Nat))]
 L:=fun i=>A.C i.2.2.2::vec 1 i.2.1 (i.2.2.1.map num)::F
 x:=fun i=>A.x i.2.2.2
 ok:=fun i=>i.1≤n∧i.2.2.1.length=i.1∧(∀ w∈i.2.2.1,w<18446744073709551616)∧RLoop A K (n-i.1) i.2.2.1 i.2.2.2
theorem va_ (R:SeqAt A r n) {s:A.S} {Q:Option (List Nat × Nat)→A.S→Prop} (hs:ReadT A n s Q) (hh:Has L (A.C s) F) :
  Tr Try.prog B 16 [.pointer (some ⟨r,0,none⟩),gv] L (A.x s) fun v' L' x'=>∃ q s' rv,Q q s'∧GoodR n q∧v'=.tuple #[rv,.int .u64 (rdV q:Nat),.int .i64 (if q.isSome=true then 0 else 51)]∧L'=A.C s'::vec 1 rv ((rdW q).map num)::F∧x'=A.x s':=by
 refine Tr.post (R:=fun v' L' x'=>∃ q s' rv,Q q s'∧GoodR n q∧v'=.tuple #[rv,.int .u64 (rdV q:Nat),.int .i64 (if q.isSome=true then 0 else 51)]∧x'=A.x s'∧∀ h,Star L' h→Star (A.C s'::vec 1 rv ((rdW q).map num)::F) h) ?_ (by rintro v L' x' ⟨q,s',rv,h1,h2,rfl,rfl,hs⟩;exact ⟨_,⟨q,s',rv,h1,h2,rfl,rfl,rfl⟩,hs⟩)
 have hlo:=R.lo
 have hhi:=R.hi
 unfold ReadT at hs
 have hr0:=Rd.of hh (R.hdr s)
 refine be_ Try.func16 rfl Try.ntmps16 (by simp) fun um Q _ hQ=>?_
 simp only [argE,Nat.zero_add,Nat.reduceAdd]
 repeat (first | refine bb_ ?_ | (refine wR ?_;try simp only [oS]) | refine ba_ ?_ | refine wM ?_ | refine wA ?_)
 refine bt_ (.cons rfl .nil) trivial (yr_ hr0 hlo) ?_
 rintro v1 L1 x1 ⟨rfl,rfl,rfl⟩
 repeat (first | refine bb_ ?_ | (refine wR ?_;try simp only [oS]) | refine ba_ ?_ | refine wM ?_ | refine wF ?_ | refine bk_ ?_)
 refine bt_ (.cons rfl (.cons rfl (.cons rfl .nil))) trivial (ky_ hs hh) ?_
 rintro v1 L1 x1 ⟨s1,h1,rfl,rfl,rfl⟩
 repeat (first | refine bb_ ?_ | (refine wR ?_;try simp only [oS]) | refine ba_ ?_ | refine wM ?_ | refine wN ?_ | refine wD ?_)
 refine bt_ (.cons rfl .nil) trivial (A.load_ok _ _ _ _ _ _ _ R.a0 h1 .here) ?_
 rintro v1 L1 x1 ⟨v,s2,hv,h2,rfl,rfl,rfl⟩
 have hm:(v:Int).tmod 2=((v%2:Nat):Int):=by rw [Int.tmod_eq_emod_of_nonneg (by omega)];omega
 by_cases c1:v%2=0
 ·rw [if_pos c1] at h2
  repeat (first | (apply wo_po;apply bs_;exact rfl;exact rfl;apply sn_;omega;exact hm;exact trivial) | refine wneqF ?_ | refine bb_ ?_ | (refine wR ?_;try simp only [oS]) | refine ba_ ?_ | refine wM ?_ | refine wA ?_ | refine wN ?_ | refine wD ?_ | refine wF ?_ | refine bk_ ?_ | refine bd_ ?_)
  refine dd_ (A.C s2::vec 1 (.slice none 0 0) (([]:List Nat).map num)::F) (fun h st=>cs_ (di_ st)) ?_
  refine ck_ (rdInv A r n v F _) (fun i=>17-i.1) (0,.slice none 0 0,[],s2) ⟨Nat.zero_le _,rfl,(fun w hw=>by cases hw),h2⟩ ⟨rfl,rfl,rfl,rfl,rfl,rfl,trivial⟩ .refl rfl ?_
  clear h2 h1 hs hr0
  rintro ⟨i,rv,acc,s3⟩ ⟨hi,hal,hab,h3⟩
  dsimp only [rdInv] at hi hal hab h3 ⊢
  have hr3:Rd (A.C s3::vec 1 rv (acc.map num)::F) r 1 (.int .i64 (n:Nat)):=Rd.of .here (R.hdr s3)
  by_cases c2:i<n
  ·obtain ⟨k,hk⟩:∃ k,n-i=k+1:=⟨n-i-1,by omega⟩
   rw [hk] at h3
   unfold RLoop at h3
   rw [hal] at h3
   have h1i:IntKind.i64.wrap (1+(i:Int))=((1+i:Nat):Int):=(fk_ (by omega) (by omega)).trans (by omega)
   repeat (first | (apply wo_po;apply bc_;exact rfl;exact hr3;exact trivial) | (apply wo_po;apply bs_;exact rfl;exact rfl;apply dy_;exact h1i;exact trivial) | refine wlssT ?_ | refine weqlF ?_ | refine bb_ ?_ | (refine wR ?_;try simp only [oS]) | refine ba_ ?_ | refine wM ?_ | refine wA ?_ | refine wN ?_ | refine wD ?_ | refine wT ?_ | refine wF ?_ | refine bk_ ?_ | refine bd_ ?_)
   refine bt_ (.cons rfl (.cons rfl (.cons rfl .nil))) trivial (ky_ (w:=1+i) h3 .here) ?_
   rintro v1 L1 x1 ⟨s4,h4,rfl,rfl,rfl⟩
   refine cm_ (bo_ (.there .here) (bg_ (by omega))) ?_
   rintro ⟨ra,rl,rc,rfl,hlen,hrc,hra,hra2⟩
   obtain rfl:rl=i:=by simp at hlen;omega
   repeat (first | (apply wo_po;apply bu_ (j:=rl);exact rfl;exact rfl;omega;exact trivial) | (refine wR ?_;try simp only [oS]) | refine ba_ ?_ | refine wM ?_ | refine wN ?_)
   refine bt_ (.cons rfl .nil) trivial (A.load_ok _ _ _ _ _ _ _ (R.a rl c2) h4 .here) ?_
   rintro v1 L1 x1 ⟨w,s5,hwb,h5,rfl,rfl,rfl⟩
   repeat (first | (apply wo_mo;apply bi_ (vs:=[_]);exact rfl;exact .cons rfl .nil;exact rfl;(intro v hv;cases (List.mem_singleton.1 hv);exact rfl);omega;exact trivial))
   rintro v' L' ⟨nb,rfl,rfl⟩
   repeat (first | (apply wo_mo;apply cc_ (new:=[num w]);exact rfl;exact rfl;exact rfl;exact rfl;exact .there (.there .here);exact rfl;exact .inr ⟨_,_,rfl,Rds.all .here⟩;(intro v hv;cases (List.mem_singleton.1 hv);exact rfl);(simp only [cd_];omega);exact trivial))
   rintro v' L' hL
   rw [show acc.map num++[num w]=(acc++[w]).map num by simp] at hL
   subst hL
   repeat (first | (refine wR ?_;try simp only [oS]) | refine ba_ ?_ | refine wM ?_ | refine wA ?_ | refine wadd ?_)
   refine cr_ (I:=rdInv A r n v F _) (R:=fun j=>17-j.1<17-rl) (rl+1,v',acc++[w],s5) (by show 17-(rl+1)<17-rl;omega) ⟨by show rl+1≤n;omega,by simp [hal],fun u hu=>?_,by show RLoop A _ (n-(rl+1)) _ _;rw [show n-(rl+1)=k by omega];exact h5⟩ ⟨rfl,rfl,rfl,rfl,rfl,rfl,trivial⟩ (.take (.there (.there .here)) (.take .here (.drop .refl))) rfl
   rcases List.mem_append.1 hu with hu | hu
   ·exact hab u hu
   ·cases List.mem_singleton.1 hu;exact hwb
  ·obtain rfl:i=n:=by omega
   rw [show i-i=0 by omega] at h3
   have key:∀ {e:Env},ev e (.tmp 0)=some (.pointer (some ⟨r,0,none⟩))→True:=fun _=>trivial
   by_cases c3:i=16
   ·repeat (first | refine wlssF ?_ | refine bb_ ?_ | (refine wR ?_;try simp only [oS]) | refine ba_ ?_ | refine wM ?_ | refine wF ?_ | refine ch_ ?_)
    refine bt_ (.cons rfl (.cons rfl (.cons rfl .nil))) trivial (ky_ h3 .here) ?_
    rintro v1 L1 x1 ⟨s4,h4,rfl,rfl,rfl⟩
    repeat (first | refine bb_ ?_ | (refine wR ?_;try simp only [oS]) | refine ba_ ?_ | refine wM ?_ | refine wN ?_ | refine wD ?_)
    refine bt_ (.cons rfl .nil) trivial (A.load_ok _ _ _ _ _ _ _ R.a0 h4 .here) ?_
    rintro v1 L1 x1 ⟨u,s5,hu,h5,rfl,rfl,rfl⟩
    by_cases c4:u=v
    ·rw [if_pos c4] at h5
     repeat (first | refine wneqF ?_ | refine bb_ ?_ | (refine wR ?_;try simp only [oS]) | refine ba_ ?_ | refine wM ?_ | refine wA ?_ | refine wF ?_ | refine bw_ ?_ | refine bk_ ?_)
     (first | refine or3 Try.func16 Try.results16 hQ rfl rfl rfl ?_ | refine on3 Try.func16 Try.results16 hQ rfl rfl rfl ?_)
     exact ⟨some (acc,v),s5,rv,h5,fun y hy=>by cases hy;exact ⟨hal,hab,hv⟩,rfl,rfl,fun h st=>st⟩
    ·rw [if_neg c4] at h5
     repeat (first | refine wneqT ?_ | refine bb_ ?_ | (refine wR ?_;try simp only [oS]) | refine ba_ ?_ | refine wM ?_ | refine wA ?_ | refine wT ?_ | refine bw_ ?_)
     (first | refine or3 Try.func16 Try.results16 hQ rfl rfl rfl ?_ | refine on3 Try.func16 Try.results16 hQ rfl rfl rfl ?_)
     exact ⟨none,s5,_,h5,(fun y hy=>by cases hy),rfl,rfl,fun h st=>cs_ (di_ (Ent.star (.take .here (.drop .refl)) st))⟩
   ·repeat (first | (apply wo_po;apply bc_;exact rfl;exact hr3;exact trivial) | refine wlssT ?_ | refine weqlT ?_ | refine bb_ ?_ | (refine wR ?_;try simp only [oS]) | refine ba_ ?_ | refine wM ?_ | refine wA ?_ | refine wN ?_ | refine wD ?_ | refine wT ?_ | refine bk_ ?_ | refine bd_ ?_ | refine ch_ ?_)
    refine bt_ (.cons rfl (.cons rfl (.cons rfl .nil))) trivial (ky_ h3 .here) ?_
    rintro v1 L1 x1 ⟨s4,h4,rfl,rfl,rfl⟩
    repeat (first | refine bb_ ?_ | (refine wR ?_;try simp only [oS]) | refine ba_ ?_ | refine wM ?_ | refine wN ?_ | refine wD ?_)
    refine bt_ (.cons rfl .nil) trivial (A.load_ok _ _ _ _ _ _ _ R.a0 h4 .here) ?_
    rintro v1 L1 x1 ⟨u,s5,hu,h5,rfl,rfl,rfl⟩
    by_cases c4:u=v
    ·rw [if_pos c4] at h5
     repeat (first | refine wneqF ?_ | refine bb_ ?_ | (refine wR ?_;try simp only [oS]) | refine ba_ ?_ | refine wM ?_ | refine wA ?_ | refine wF ?_ | refine bw_ ?_ | refine bk_ ?_)
     (first | refine or3 Try.func16 Try.results16 hQ rfl rfl rfl ?_ | refine on3 Try.func16 Try.results16 hQ rfl rfl rfl ?_)
     exact ⟨some (acc,v),s5,rv,h5,fun y hy=>by cases hy;exact ⟨hal,hab,hv⟩,rfl,rfl,fun h st=>st⟩
    ·rw [if_neg c4] at h5
     repeat (first | refine wneqT ?_ | refine bb_ ?_ | (refine wR ?_;try simp only [oS]) | refine ba_ ?_ | refine wM ?_ | refine wA ?_ | refine wT ?_ | refine bw_ ?_)
     (first | refine or3 Try.func16 Try.results16 hQ rfl rfl rfl ?_ | refine on3 Try.func16 Try.results16 hQ rfl rfl rfl ?_)
     exact ⟨none,s5,_,h5,(fun y hy=>by cases hy),rfl,rfl,fun h st=>cs_ (di_ (Ent.star (.take .here (.drop .refl)) st))⟩
 ·rw [if_neg c1] at h2
  repeat (first | (apply wo_po;apply bs_;exact rfl;exact rfl;apply sn_;omega;exact hm;exact trivial) | refine wneqT ?_ | refine bb_ ?_ | (refine wR ?_;try simp only [oS]) | refine ba_ ?_ | refine wM ?_ | refine wA ?_ | refine wT ?_ | refine bw_ ?_)
  (first | refine or3 Try.func16 Try.results16 hQ rfl rfl rfl ?_ | refine on3 Try.func16 Try.results16 hQ rfl rfl rfl ?_)
  exact ⟨none,s2,_,h2,(fun y hy=>by cases hy),rfl,rfl,fun h st=>cs_ (di_ st)⟩
end
end
section
def sAddr (r:Nat) (w:Nat):Nat × Nat:=(r,if w=0 then 0 else 1+w)
def sK (r n:Nat):List (Nat × Nat × Value):=[(r,1,.int .i64 (n:Nat))]
theorem pi_ (r n:Nat):Apart (sAddr r) (n+1) (sK r n) where
 inj:=fun i j _ _ h=>by
  have:=congrArg Prod.snd h
  simp only [sAddr] at this
  split at this <;> split at this <;> omega
 fix:=fun i _ k hk=>by
  simp only [sK,List.mem_singleton] at hk;subst hk
  intro h
  have:=congrArg Prod.snd h
  simp only [sAddr] at this
  split at this <;> omega
def sC (r n:Nat) (f:Nat→Nat):HProp:=wds (sAddr r) (n+1) (sK r n) f
def recF (ws:List Nat) (v:Nat):Nat→Nat:=fun w=>if w=0 then v else ws.getD (w-1) 0
theorem wh_ {ws:List Nat} {v i:Nat}:recF ws v (1+i)=ws.getD i 0:=by
 unfold recF
 rw [if_neg (by omega),show 1+i-1=i by omega]
def updL:(Nat→Nat)→List Nat→Nat→Nat→Nat
 | f,[],_=>f
 | f,w::l,i=>updL (upd f (1+i) w) l (i+1)
theorem brn:∀ (l:List Nat) (f:Nat→Nat) (i j:Nat),updL f l i j=if i+1≤j∧j<i+1+l.length then l.getD (j-(i+1)) 0 else f j
 | [],f,i,j=>by simp only [updL,List.length_nil];rw [if_neg (by omega)]
 | w::l,f,i,j=>by
  rw [updL,brn l]
  simp only [List.length_cons]
  by_cases h1:i+1+1≤j∧j<i+1+1+l.length
  ·rw [if_pos h1,if_pos (by omega),show j-(i+1)=(j-(i+1+1))+1 by omega];rfl
  ·rw [if_neg h1]
   by_cases h2:j=1+i
   ·subst h2
    rw [ts_,if_pos (by omega),show 1+i-(i+1)=0 by omega];rfl
   ·rw [mr_ h2,if_neg (by omega)]
theorem chs {ws ws':List Nat} {v u n:Nat} (h':ws'.length=n):∀ i,i<n+1→upd (updL (upd (recF ws v) 0 (v+1)) ws' 0) 0 u i=recF ws' u i:=fun i hi=>by
 by_cases h0:i=0
 ·subst h0;rw [ts_];rfl
 ·rw [mr_ h0,brn,if_pos (by omega)]
  show _=if i=0 then u else _
  rw [if_neg h0]
section
variable {B:Hand} [Lets B] {x:B.X} {r n nb:Nat} {L F:List HProp} {h:Hp} {ws ws':List Nat} {ms:List (Int × Nat)} {v:Nat} {f f':Nat→Nat}
theorem sC_rd:Rd [sC r n f] r 1 (.int .i64 (n:Nat)):=fun h hs=>by
 obtain ⟨h1,h2,s1,hc,_⟩:=hs
 exact ⟨rfl,.inl (s1.o1 _ _ _ (hc.2 (r,1,.int .i64 (n:Nat)) (List.mem_singleton.2 rfl)))⟩
theorem bjp (e:∀ i,i<n+1→f i=f' i):∀ h,sC r n f h→sC r n f' h:=fun h s=>⟨fun w hw=>by rw [← e w hw];exact s.1 w hw,s.2⟩
def sLone (x:B.X) (r n:Nat):Acc B .nilIface:=ckn x (sAddr r) (n+1) (sK r n) (pi_ r n)
theorem yz_ {i:Nat}:sAddr r (1+i)=(r,2+i):=by
 simp only [sAddr];rw [if_neg (by omega)];congr 1;omega
theorem s_at (h1:1≤n) (h2:n≤16):SeqAt (sLone x r n) r n:=⟨h1,h2,fun s=>sC_rd,rfl,fun i _=>yz_⟩
theorem ccp {M:List HProp} {b o:Nat} {v:Value} (h:Rd M b o v):Rd [all M] b o v:=fun w st=>h w (by have:=bq_ st;rwa [List.append_nil] at this)
theorem te_ {K:List Nat→(Nat→Nat)→Prop} {s:Nat→Nat}:∀ (k:Nat) (acc:List Nat),acc.length+k≤n→K (acc++(List.range' acc.length k).map fun i=>s (1+i)) s→RLoop (sLone x r n) K k acc s
 | 0,acc,_,hk=>by
  show K acc s
  simpa using hk
 | k+1,acc,hl,hk=>⟨by omega,te_ k (acc++[s (1+acc.length)]) (by simp;omega) (by
   rw [List.range'_succ] at hk
   simpa using hk)⟩
theorem bvs {ws:List Nat} {v:Nat}:(List.range' 0 ws.length).map (fun i=>recF ws v (1+i))=ws:=by
 apply List.ext_getElem
 ·simp
 ·intro i h1 h2
  simp only [List.getElem_map,List.getElem_range',wh_]
  rw [List.getD_eq_getElem?_getD,List.getElem?_eq_getElem (by omega)]
  simp
theorem bpm (hlen:ws.length=n) (hv:v%2=0) {Q:Option (List Nat × Nat)→(Nat→Nat)→Prop} (q:Q (some (ws,v)) (recF ws v)):ReadT (sLone x r n) n (recF ws v) Q:=by
 refine ⟨by show 0<n+1;omega,?_⟩
 show if v%2=0 then _ else _
 rw [if_pos hv]
 refine te_ n [] (by simp) ⟨by show 0<n+1;omega,?_⟩
 show if v=v then _ else _
 rw [if_pos rfl]
 show Q (some (_,v)) _
 simp only [List.length_nil,List.nil_append]
 rw [← hlen,bvs]
 exact q
theorem bvr (h1:1≤n) (h2:n≤16) (hlen:ws.length=n) (hv:v%2=0) (hh:Has L (sC r n (recF ws v)) F) :
  Tr Try.prog B 16 [.pointer (some ⟨r,0,none⟩),.nilIface] L x fun v' L' x'=>∃ rv,v'=.tuple #[rv,.int .u64 (v:Nat),.int .i64 0]∧L'=sC r n (recF ws v)::vec 1 rv (ws.map num)::F∧x'=x:=by
 refine (va_ (A:=sLone x r n) (s_at h1 h2) (s:=recF ws v) (Q:=fun o s=>o=some (ws,v)∧s=recF ws v) (bpm hlen hv ⟨rfl,rfl⟩) hh).mono ?_
 rintro v' L' x' ⟨o,s',rv,⟨rfl,rfl⟩,_,rfl,rfl,rfl⟩
 exact ⟨rv,rfl,rfl,rfl⟩
def newF (ws:List Nat) (i:Nat):Nat→Nat:=fun w=>if w=0 then 0 else if w-1<i then ws.getD (w-1) 0 else 0
def bqc (x:B.X) (r n:Nat) (ws:List Nat) (wv:Value) (L:List HProp):PB.Inv Nat B.X where
 e:=fun i=>[(4,.pointer (some ⟨r,0,none⟩)),(19,wv),(20,.int .i64 (n:Nat)),(21,.int .i64 (i:Nat))]
 L:=fun i=>sC r n (newF ws i)::L
 x:=fun _=>x
 ok:=fun i=>i≤n
theorem brt (h1:1≤n) (h2:n≤16) {wa:Option Addr} {wc:Nat} (hlen:ws.length=n) (hb:∀ w∈ws,w<18446744073709551616) (hw:RdsO L wa n (ws.map num)) :
  Tr Try.prog B 11 [.slice wa n wc] L x fun v L' x'=>∃ r,v=.tuple #[.pointer (some ⟨r,0,none⟩),.int .i64 0]∧L'=sC r n (recF ws 0)::L∧x'=x:=by
 refine Tr.post (R:=fun v L' x'=>∃ r,v=.tuple #[.pointer (some ⟨r,0,none⟩),.int .i64 0]∧x'=x∧∀ h,Star L' h→Star (sC r n (recF ws 0)::L) h) ?_ (by rintro v L' x' ⟨r,rfl,rfl,hs⟩;exact ⟨_,⟨r,rfl,rfl,rfl⟩,hs⟩)
 obtain ⟨wb,wo,rfl,hrds⟩:=hw.rds (by omega)
 refine be_ Try.func11 rfl Try.ntmps11 (by simp) fun um Q _ hQ=>?_
 simp only [argE,Nat.zero_add,Nat.reduceAdd]
 repeat (first | (apply wo_po;apply dn_ (pv:=[(1,_)]);exact rfl;exact .cons rfl .nil;exact rfl;exact trivial) | (apply wo_mo;apply cy_;exact rfl;exact trivial) | refine wgtrF ?_ | refine weqlF ?_ | refine bb_ ?_ | (refine wR ?_;try simp only [oS]) | refine ba_ ?_ | refine wM ?_ | refine wA ?_ | refine wE ?_ | refine wF ?_ | refine bk_ ?_ | refine bd_ ?_)
 rintro v' L' ⟨r,rfl,rfl⟩
 refine dt_ (sC r n (newF ws 0)::L) (fun h st=>bn_ st (fun h a=>⟨fun w hw=>⟨?_,?_⟩,fun k hk=>?_⟩) fun _ y=>y) ?_
 ·show (if w=0 then 0 else if w-1<0 then ws.getD (w-1) 0 else 0)<18446744073709551616
  rw [if_neg (by omega:¬ (w-1<0))];split <;> decide
 ·have e:newF ws 0 w=0:=by
   show (if w=0 then 0 else if w-1<0 then ws.getD (w-1) 0 else 0)=0
   rw [if_neg (by omega:¬ (w-1<0))];split <;> rfl
  rw [e]
  have hlt:w<17:=by omega
  match w,hlt with
  | 0,_=>exact a 0 _ rfl
  | 1,_=>exact a 2 _ rfl
  | 2,_=>exact a 3 _ rfl
  | 3,_=>exact a 4 _ rfl
  | 4,_=>exact a 5 _ rfl
  | 5,_=>exact a 6 _ rfl
  | 6,_=>exact a 7 _ rfl
  | 7,_=>exact a 8 _ rfl
  | 8,_=>exact a 9 _ rfl
  | 9,_=>exact a 10 _ rfl
  | 10,_=>exact a 11 _ rfl
  | 11,_=>exact a 12 _ rfl
  | 12,_=>exact a 13 _ rfl
  | 13,_=>exact a 14 _ rfl
  | 14,_=>exact a 15 _ rfl
  | 15,_=>exact a 16 _ rfl
  | 16,_=>exact a 17 _ rfl
  | w+17,h=>exact absurd h (by omega)
 ·simp only [sK,List.mem_singleton] at hk;subst hk;exact a 1 _ rfl
 repeat (first | refine bb_ ?_ | (refine wR ?_;try simp only [oS]) | refine ba_ ?_ | refine wM ?_ | refine wA ?_ | refine wE ?_ | refine bd_ ?_)
 refine ck_ (bqc x r n ws (.slice (some ⟨wb,wo,none⟩) n wc) L) (fun i=>n-i) 0 (Nat.zero_le _) ⟨rfl,rfl,rfl,rfl,trivial⟩ .refl rfl ?_
 intro i hi
 replace hi:i≤n:=hi
 dsimp only [bqc]
 by_cases c2:i<n
 ·have hiw:i<ws.length:=by omega
  obtain ⟨w,hwv⟩:∃ w,ws[i]=w:=⟨_,rfl⟩
  have hwb:w<18446744073709551616:=hb w (hwv▸List.getElem_mem hiw)
  have hrd:Rd (sC r n (newF ws i)::L) wb (wo+i) (.int .u64 (w:Nat)):=.there (hrds i _ (by rw [List.getElem?_map,List.getElem?_eq_getElem hiw,hwv];rfl))
  repeat (first | (apply wo_po;apply bz_ (r:=wo+i);exact rfl;exact rfl;omega;omega;omega;exact trivial) | (apply wo_po;apply bc_;exact rfl;exact hrd;exact trivial) | (apply wo_po;apply bu_ (j:=i);exact rfl;exact rfl;omega;exact trivial) | refine wlssT ?_ | refine bb_ ?_ | (refine wR ?_;try simp only [oS]) | refine ba_ ?_ | refine wM ?_ | refine wA ?_ | refine wN ?_ | refine wD ?_ | refine wT ?_ | refine bk_ ?_ | refine bd_ ?_)
  refine bt_ (.cons rfl (.cons rfl .nil)) trivial (kn_ (jc_ (pi_ r n) .here (w:=1+i) (by omega) yz_ (n:=w) hwb)) ?_
  rintro v1 L1 x1 ⟨rfl,rfl,rfl⟩
  repeat (first | (refine wR ?_;try simp only [oS]) | refine ba_ ?_ | refine wM ?_ | refine wadd ?_)
  have e:upd (newF ws i) (1+i) w=newF ws (i+1):=by
   funext j
   show (if j=1+i then w else if j=0 then 0 else if j-1<i then ws.getD (j-1) 0 else 0)=if j=0 then 0 else if j-1<i+1 then ws.getD (j-1) 0 else 0
   by_cases hj:j=1+i
   ·subst hj
    rw [if_pos rfl,if_neg (by omega),if_pos (by omega),show 1+i-1=i by omega,List.getD_eq_getElem?_getD,List.getElem?_eq_getElem hiw,hwv];rfl
   ·rw [if_neg hj]
    by_cases h0:j=0
    ·rw [if_pos h0,if_pos h0]
    ·rw [if_neg h0,if_neg h0]
     by_cases h3:j-1<i
     ·rw [if_pos h3,if_pos (by omega)]
     ·rw [if_neg h3,if_neg (by omega)]
  rw [e]
  refine cr_ (I:=bqc x1 r n ws (.slice (some ⟨wb,wo,none⟩) n wc) L) (R:=fun j=>n-j<n-i) (i+1) (by omega) (by show i+1≤n;omega) ⟨rfl,rfl,rfl,rfl,trivial⟩ .refl rfl
 ·obtain rfl:i=n:=by omega
  repeat (first | refine wlssF ?_ | refine bb_ ?_ | (refine wR ?_;try simp only [oS]) | refine ba_ ?_ | refine wM ?_ | refine wA ?_ | refine wF ?_ | refine bw_ ?_ | refine ch_ ?_)
  (first | refine or2 Try.func11 Try.results11 hQ rfl rfl ?_ | refine on2 Try.func11 Try.results11 hQ rfl rfl ?_)
  refine ⟨r,rfl,rfl,fun h st=>bn_ st (bjp fun j hj=>?_) fun _ z=>z⟩
  show (if j=0 then 0 else if j-1<i then ws.getD (j-1) 0 else 0)=if j=0 then 0 else ws.getD (j-1) 0
  by_cases h0:j=0
  ·rw [if_pos h0,if_pos h0]
  ·rw [if_neg h0,if_neg h0,if_pos (by omega)]
end
end
section
section
variable {B:Hand} [Lets B] {gv:Value} {A:Acc B gv} {r n:Nat} {L F:List HProp}
def WaitT (A:Acc B gv) (n:Nat) (Q:Option (List Nat × Nat)→A.S→Prop):Nat→A.S→Prop
 | 0,s=>ReadT A n s Q
 | k+1,s=>ReadT A n s fun o s=>if o.isSome=true then Q o s else WaitT A n Q k s
def waInv (A:Acc B gv) (r n:Nat) (F:List HProp) (Q:Option (List Nat × Nat)→A.S→Prop):PB.Inv (Nat × A.S) B.X where
 e:=fun i=>[(0,.pointer (some ⟨r,0,none⟩)),(1,gv),(2,.int .i64 ((i.1+1:Nat):Int))]
 L:=fun i=>A.C i.2::F
 x:=fun i=>A.x i.2
 ok:=fun i=>i.1<16384∧WaitT A n Q i.1 i.2
theorem chq (R:SeqAt A r n) {k:Nat} (hk:k<16384) {s:A.S} {G:Option (List Nat × Nat)→A.S→Prop} (hs:WaitT A n G k s) (hh:Has L (A.C s) F) :
  Tr Try.prog B 39 [.pointer (some ⟨r,0,none⟩),gv,.int .i64 ((k+1:Nat):Int)] L (A.x s) fun v' L' x'=>∃ q s' rv,G q s'∧GoodR n q∧v'=.tuple #[rv,.int .u64 (rdV q:Nat),.int .i64 (if q.isSome=true then 0 else 51)]∧L'=A.C s'::vec 1 rv ((rdW q).map num)::F∧x'=A.x s':=by
 have hlo:=R.lo
 have hhi:=R.hi
 have hr0:=Rd.of hh (R.hdr s)
 refine be_ Try.func39 rfl Try.ntmps39 (by simp) fun um Q _ hQ=>?_
 simp only [argE,Nat.zero_add,Nat.reduceAdd]
 repeat (first | refine bb_ ?_ | (refine wR ?_;try simp only [oS]) | refine ba_ ?_ | refine wM ?_ | refine wA ?_ | refine bd_ ?_)
 refine bt_ (.cons rfl .nil) trivial (yr_ hr0 hlo) ?_
 rintro v1 L1 x1 ⟨rfl,rfl,rfl⟩
 repeat (first | refine wlssF ?_ | refine wgtrF ?_ | refine bb_ ?_ | (refine wR ?_;try simp only [oS]) | refine ba_ ?_ | refine wM ?_ | refine wA ?_ | refine wJ ?_ | refine wF ?_ | refine bk_ ?_ | refine bd_ ?_)
 refine ck_ (waInv A r n F G) (fun i=>i.1) (k,s) ⟨hk,hs⟩ ⟨rfl,rfl,rfl,trivial⟩ (Ent.take hh .refl) rfl ?_
 clear hs hk hr0
 rintro ⟨k,s1⟩ ⟨hk,h1⟩
 dsimp only [waInv] at hk h1 ⊢
 have hsub:IntKind.i64.wrap (((k+1:Nat):Int)-1)=(k:Int):=(fk_ (by omega) (by omega)).trans (by omega)
 cases k with
 | zero =>
  repeat (first | refine bb_ ?_ | (refine wR ?_;try simp only [oS]) | refine wM ?_ | refine bd_ ?_)
  refine bt_ (.cons rfl (.cons rfl .nil)) trivial (va_ R (Q:=G) h1 .here) ?_
  rintro v1 L1 x1 ⟨q,s2,rv,h2,hg,rfl,rfl,rfl⟩
  cases q with
  | none =>
   repeat (first | (apply wo_po;apply bs_;exact rfl;exact rfl;apply ps_;exact hsub;exact trivial) | refine weqlT ?_ | refine bb_ ?_ | (refine wR ?_;try simp only [oS]) | refine ba_ ?_ | refine wM ?_ | refine wA ?_ | refine wJ ?_ | (apply wo_po;apply cx_;exact rfl;exact rfl;exact gY) | (apply wo_po;apply bs_;exact rfl;exact rfl;exact jp_;exact gY) | refine wT ?_ | refine bw_ ?_)
   (first | refine or3 Try.func39 Try.results39 hQ rfl rfl rfl ?_ | refine on3 Try.func39 Try.results39 hQ rfl rfl rfl ?_)
   exact ⟨none,s2,rv,h2,hg,rfl,rfl,rfl⟩
  | some y =>
   repeat (first | (apply wo_po;apply bs_;exact rfl;exact rfl;apply ps_;exact hsub;exact trivial) | refine bb_ ?_ | (refine wR ?_;try simp only [oS]) | refine ba_ ?_ | refine wM ?_ | refine wA ?_ | (apply wo_no;exact rfl) | refine wK ?_ | (apply wo_po;apply cx_;exact rfl;exact rfl;exact gY) | (apply wo_po;apply bs_;exact rfl;exact rfl;exact jp_;exact gY) | refine wT ?_ | refine bw_ ?_)
   (first | refine or3 Try.func39 Try.results39 hQ rfl rfl rfl ?_ | refine on3 Try.func39 Try.results39 hQ rfl rfl rfl ?_)
   exact ⟨some y,s2,rv,h2,hg,rfl,rfl,rfl⟩
 | succ k =>
  repeat (first | refine bb_ ?_ | (refine wR ?_;try simp only [oS]) | refine wM ?_ | refine bd_ ?_)
  refine bt_ (.cons rfl (.cons rfl .nil)) trivial (va_ R (Q:=fun o s=>if o.isSome=true then G o s else WaitT A n G k s) h1 .here) ?_
  rintro v1 L1 x1 ⟨q,s2,rv,h2,hg,rfl,rfl,rfl⟩
  cases q with
  | none =>
   simp only [Option.isSome_none,Bool.false_eq_true,if_false] at h2
   repeat (first | (apply wo_po;apply bs_;exact rfl;exact rfl;apply ps_;exact hsub;exact trivial) | refine weqlF ?_ | refine bb_ ?_ | (refine wR ?_;try simp only [oS]) | refine ba_ ?_ | refine wM ?_ | refine wA ?_ | refine wJ ?_ | (apply wo_po;apply cx_;exact rfl;exact rfl;exact gY) | (apply wo_po;apply bs_;exact rfl;exact rfl;exact jp_;exact gY) | refine wF ?_ | refine bk_ ?_)
   refine cr_ (I:=waInv A r n F G) (R:=fun j=>j.1<k+1) (k,s2) (Nat.lt_succ_self k) ⟨by show k<16384;omega,h2⟩ ⟨rfl,rfl,rfl,trivial⟩ (.take .here (.drop .refl)) rfl
  | some y =>
   simp only [Option.isSome_some,if_true] at h2
   repeat (first | (apply wo_po;apply bs_;exact rfl;exact rfl;apply ps_;exact hsub;exact trivial) | refine bb_ ?_ | (refine wR ?_;try simp only [oS]) | refine ba_ ?_ | refine wM ?_ | refine wA ?_ | (apply wo_no;exact rfl) | refine wK ?_ | (apply wo_po;apply cx_;exact rfl;exact rfl;exact gY) | (apply wo_po;apply bs_;exact rfl;exact rfl;exact jp_;exact gY) | refine wT ?_ | refine bw_ ?_)
   (first | refine or3 Try.func39 Try.results39 hQ rfl rfl rfl ?_ | refine on3 Try.func39 Try.results39 hQ rfl rfl rfl ?_)
   exact ⟨some y,s2,rv,h2,hg,rfl,rfl,rfl⟩
end
section
variable {B:Hand} [Lets B] {x:B.X} {r n:Nat} {L F:List HProp} {ws:List Nat} {v:Nat}
end
end
section
section
variable {B:Hand} [Lets B] {x:B.X} {r n nb:Nat} {L F:List HProp} {h:Hp} {ws ws':List Nat} {ms:List (Int × Nat)} {v:Nat} {f f':Nat→Nat}
def bph (x:B.X) (r n nb:Nat):Acc B (.iface 89 (.pointer (some ⟨nb,0,none⟩))):=cdk x (sAddr r) (n+1) (sK r n) (pi_ r n) nb
theorem sn_at (h1:1≤n) (h2:n≤16):SeqAt (bph x r n nb) r n:=⟨h1,h2,fun s=>ccp (Rd.of .here sC_rd),rfl,fun i _=>yz_⟩
def py_:Nat→Nat→List (Int × Nat)
 | 0,_=>[]
 | k+1,i=>(2,1+i)::py_ k (i+1)
theorem ym_:∀ k i,(py_ k i).length=k
 | 0,_=>rfl
 | k+1,i=>by simp [py_,ym_ k]
theorem wt_ {K:(Nat→Nat) × List (Int × Nat)→Prop}:∀ (l:List Nat) (i:Nat) (s:Nat→Nat) (ms:List (Int × Nat)),i+l.length≤n→ms.length+l.length<1000000→K (updL s l i,ms++py_ l.length i)→WLoop (bph x r n nb) K l i (s,ms)
 | [],i,s,ms,_,_,hk=>by
  show K (s,ms)
  simpa [py_,updL] using hk
 | w::l,i,s,ms,hl,hm,hk=>⟨by simp at hm;show ms.length<1000000;omega,by simp at hl;show 1+i<n+1;omega,wt_ l (i+1) _ _ (by simp at hl;omega) (by simp at hm ⊢;omega) (by
   simpa [py_,updL] using hk)⟩
def qt_ (n:Nat):List (Int × Nat):=(1,0)::(5,0)::(py_ n 0++[(2,0)])
theorem bnb (h1:1≤n) (h2:n≤16) {wa:Option Addr} {wc:Nat} (hlen:ws'.length=n) (hb:∀ w∈ws',w<18446744073709551616) (hv:v%2=0) (hv2:v+2<18446744073709551616) (hm:ms.length<100000) (hh:Has L (all [sC r n (recF ws v),kr_ nb ms]) F) (hw:RdsO F wa n (ws'.map num)) :
  Tr Try.prog B 14 [.pointer (some ⟨r,0,none⟩),.iface 89 (.pointer (some ⟨nb,0,none⟩)),.slice wa n wc] L x fun v' L' x'=>v'=.tuple #[.int .u64 ((v+2:Nat):Int),.int .i64 0]∧L'=sC r n (recF ws' (v+2))::kr_ nb (ms++qt_ n)::F∧x'=x:=by
 refine (ya_ (A:=bph x r n nb) (sn_at h1 h2) (ws:=ws') hlen hb (s:=(recF ws v,ms)) (Q:=fun o s=>o=some (v+2)∧(∀ i,i<n+1→s.1 i=recF ws' (v+2) i)∧s.2=ms++qt_ n) ?_ hh hw).post ?_
 ·refine ⟨by show ms.length<1000000;omega,by show 0<n+1;omega,?_⟩
  show if v%2=0 then _ else _
  rw [if_pos hv]
  refine ⟨by show (ms++[_]).length<1000000;simp;omega,by show 0<n+1;omega,?_⟩
  show if v=v then _ else _
  rw [if_pos rfl]
  show if true=true then _ else _
  rw [if_pos rfl]
  dsimp only
  rw [show (recF ws v) 0=v from rfl,Nat.mod_eq_of_lt (by omega),Nat.mod_eq_of_lt (by omega)]
  refine wt_ ws' 0 _ _ (by omega) (by simp;omega) ⟨by show List.length _<1000000;simp [ym_];omega,by show 0<n+1;omega,rfl,chs hlen,?_⟩
  simp [qt_,hlen]
 ·rintro v' L' x' ⟨o,⟨s1,s2⟩,⟨rfl,he,rfl⟩,rfl,rfl,rfl⟩
  exact ⟨_,⟨rfl,rfl,rfl⟩,fun h st=>bn_ (bq_ (M:=[_,_]) st) (bjp he) fun _ z=>z⟩
end
end
section
structure GaS (G:WGm) where
 f:Nat→Nat
 c:G.ζ
 s:G.σ
 q:G.θ
 n:Nat
section
variable {G:WGm} {addr:Nat→Nat × Nat} {N:Nat} {K:List (Nat × Nat × Value)} {sb says turn fin wg:Nat}
def gaC (G:WGm) (addr:Nat→Nat × Nat) (N:Nat) (K:List (Nat × Nat × Value)) (sb says turn fin:Nat) (Pm:HProp) (f:Nat→Nat) (c:G.ζ):HProp:=all [wds addr N K f,G.Z c,seatR sb says turn fin,Pm]
def cgr (G:WGm) (N:Nat) (Pm:HProp) (op:Int) (w:Nat) (s:GaS G) (R:GaS G→Prop):Prop :=
 ∃ F,G.plan s.q=some ((op,((w:Nat):Int)),F)∧(∀ i,i<N→s.f i=G.wf s.s i)∧s.c=G.zf s.s∧(∀ h,Pm h→G.Pv s.q h)∧∀ s' n,n<s.n→G.ok s'→R ⟨G.wf s',G.zf s',(F s').1,(F s').2,n⟩
theorem ckz {Pm:HProp} {op:Int} {w:Nat} {s:GaS G} {R:GaS G→Prop} {L F:List HProp} (hs:cgr G N Pm op w s R) (hh:Has L (gaC G addr N K sb says turn fin Pm s.f s.c) F) :
  Tr Try.prog tH 111 [.pointer (some ⟨sb,0,none⟩),.agg #[.int .u8 op,.int .i64 (w:Nat)]] L (tx (G.g addr N K) says turn fin wg (.busy s.s s.q s.n)) fun v L' x' =>
   ∃ s',R s'∧v=.tuple #[]∧L'=gaC G addr N K sb says turn fin Pm s'.f s'.c::F∧x'=tx (G.g addr N K) says turn fin wg (.busy s'.s s'.q s'.n):=by
 obtain ⟨FF,hp,hfg,hc,hpm,hR⟩:=hs
 refine cv_ ((G.g addr N K).U s.s::seatR sb says turn fin::Pm::F) (fun h st=>?_) ?_
 ·have s1:Star (wds addr N K s.f::G.Z s.c::seatR sb says turn fin::Pm::F) h:=bq_ (M:=[_,_,_,_]) (hh.star st)
  rw [hc] at s1
  exact bj_ (M:=[_,_]) (bn_ s1 (kd_ hfg) fun _ z=>z)
 ·refine (brz (g:=G.g addr N K) (mk:=(op,((w:Nat):Int))) (f:=FF) hp .here .here fun h st=>G.up _ _ ?_).post ?_
  ·exact bn_ (ci_ st) hpm fun _ z=>trivial
  ·rintro v L' x' ⟨m',s',hm,hok,rfl,rfl,rfl⟩
   refine ⟨_,⟨⟨G.wf s',G.zf s',(FF s').1,(FF s').2,m'⟩,hR s' m' (by omega) hok,rfl,rfl,rfl⟩,fun h st=>?_⟩
   exact bj_ (M:=[_,_,_,_]) (bq_ (M:=[_,_]) st)
def cdw (G:WGm) (addr:Nat→Nat × Nat) (N:Nat) (K:List (Nat × Nat × Value)) (A:Apart addr N K) (sb says turn fin wg:Nat) (Pm:HProp):Acc tH (gateV sb) where
 S:=GaS G
 C:=fun s=>gaC G addr N K sb says turn fin Pm s.f s.c
 x:=fun s=>tx (G.g addr N K) says turn fin wg (.busy s.s s.q s.n)
 step:=cgr G N Pm
 addr:=addr
 load:=fun w s R=>w<N∧R (s.f w) s
 store:=fun w n s R=>w<N∧R { s with f:=upd s.f w n }
 cas:=fun w a n s R=>w<N∧if s.f w=a then R true { s with f:=upd s.f w n } else R false s
 add:=fun w n s R=>w<N∧R ((s.f w+n)%18446744073709551616) { s with f:=upd s.f w ((s.f w+n)%18446744073709551616) }
 swap:=fun w n s R=>w<N∧R (s.f w) { s with f:=upd s.f w n }
 gate:=.inr ⟨_,_,111,rfl,inferInstance,inferInstance,fun op w s R L F hs hh=>ckz hs hh⟩
 load_ok:=fun w s R L F b o ha hl hh=>cv_ _ (fun h st=>bq_ (hh.star st)) (ds_ (bo_ .here fun h hc=>(hc.1 w hl.1).1) fun hs =>
  (se_ (jx_ .here hl.1 ha)).post fun v L' x' ⟨h1,h2,h3⟩=>⟨_,⟨s.f w,s,hs,hl.2,h1,rfl,h3⟩,fun h st=>bj_ (M:=[_,_,_,_]) (by rw [h2] at st;exact st)⟩)
 store_ok:=fun w n s R L F b o ha hn hl hh=>cv_ _ (fun h st=>bq_ (hh.star st))
  ((kn_ (jc_ A .here hl.1 ha hn)).post fun v L' x' ⟨h1,h2,h3⟩=>⟨_,⟨{ s with f:=upd s.f w n },hl.2,h1,rfl,h3⟩,fun h st=>bj_ (M:=[_,_,_,_]) (by rw [h2] at st;exact st)⟩)
 cas_ok:=fun w m n s R L F b o ha hn hl hh=>cv_ _ (fun h st=>bq_ (hh.star st))
  ((vr_ (jx_ .here hl.1 ha) (jc_ A .here hl.1 ha hn)).post fun v L' x' ⟨h1,h2,h3⟩=>by
   obtain ⟨h4,h5⟩:=hl
   by_cases e:s.f w=m
   ·rw [if_pos e] at h5;rw [if_pos (by omega)] at h2;exact ⟨_,⟨true,_,h5,by rw [h1];simp [e],rfl,h3⟩,fun h st=>bj_ (M:=[_,_,_,_]) (by rw [h2] at st;exact st)⟩
   ·rw [if_neg e] at h5;rw [if_neg (by omega)] at h2;exact ⟨_,⟨false,_,h5,by rw [h1];simp;omega,rfl,h3⟩,fun h st=>bj_ (M:=[_,_,_,_]) (by rw [h2] at st;exact st)⟩)
 add_ok:=fun w n s R L F b o ha hn hl hh=>cv_ _ (fun h st=>bq_ (hh.star st))
  ((vw_ (r:=((s.f w+n)%18446744073709551616:Nat)) (jx_ .here hl.1 ha) (by rw [dq_];omega) (jc_ A .here hl.1 ha (Nat.mod_lt _ (by decide)))).post fun v L' x' ⟨h1,h2,h3⟩=>⟨_,⟨_,{ s with f:=_ },Nat.mod_lt _ (by decide),hl.2,h1,rfl,h3⟩,fun h st=>bj_ (M:=[_,_,_,_]) (by rw [h2] at st;exact st)⟩)
theorem ga_go {A:Apart addr N K} {Pm:HProp} {op w:Nat} {o:Int} {s:GaS G} {R:GaS G→Prop} {F:G.σ→G.σ × G.θ} (ho:((op:Nat):Int)=o) (hp:G.plan s.q=some ((((op:Nat):Int),((w:Nat):Int)),F)) (hf:∀ i,i<N→s.f i=G.wf s.s i) (hc:s.c=G.zf s.s) (hpm:∀ h,Pm h→G.Pv s.q h)
  (hR:∀ s' n,n<s.n→G.ok s'→R ⟨G.wf s',G.zf s',(F s').1,(F s').2,n⟩):(cdw G addr N K A sb says turn fin wg Pm).step o w s R:=by
 subst ho
 exact ⟨F,hp,hf,hc,hpm,hR⟩
end
section
variable {g:Game}
end
end
section
abbrev SwS:=(Nat × Nat × Nat) × Nat
abbrev SwT:=Nat × Nat × Nat
def bnw (q:SwT):Option ((Int × Int) × (SwS→SwS × SwT)) :=
 match q.1,q.2.1 with
 | 0,0=>some ((((1:Nat):Int),((0:Nat):Int)),fun s=>if s.1.1%2=0 then (s,(0,1,s.1.1)) else ((s.1,51),(0,9,0)))
 | 0,1=>some ((((1:Nat):Int),((1:Nat):Int)),fun s=>(s,(0,2,q.2.2)))
 | 0,2=>some ((((1:Nat):Int),((2:Nat):Int)),fun s=>(s,(0,3,q.2.2)))
 | 0,3=>some ((((1:Nat):Int),((0:Nat):Int)),fun s=>if s.1.1=q.2.2 then ((s.1,0),(0,9,0)) else ((s.1,51),(0,9,0)))
 | 1,0=>some ((((1:Nat):Int),((0:Nat):Int)),fun s=>if s.1.1%2=0 then (s,(1,1,s.1.1)) else (s,(1,9,0)))
 | 1,1=>some ((((5:Nat):Int),((0:Nat):Int)),fun s=>if s.1.1=q.2.2 then ((((q.2.2+1)%18446744073709551616,s.1.2),s.2),(1,2,q.2.2)) else (s,(1,9,0)))
 | 1,2=>some ((((2:Nat):Int),((1:Nat):Int)),fun s=>(((s.1.1,1,s.1.2.2),s.2),(1,3,q.2.2)))
 | 1,3=>some ((((2:Nat):Int),((2:Nat):Int)),fun s=>(((s.1.1,s.1.2.1,2),s.2),(1,4,q.2.2)))
 | 1,4=>some ((((2:Nat):Int),((0:Nat):Int)),fun s=>((((q.2.2+2)%18446744073709551616,s.1.2),s.2),(1,9,0)))
 | _,_=>none
def swW (s:SwS) (i:Nat):Nat:=match i with | 0=>s.1.1 | 1=>s.1.2.1 | _=>s.1.2.2
def swZ (tb t:Nat):HProp:=all [arr tb 0 [.int .i64 (t:Nat)]]
def swG (tb:Nat):WGm where
 σ:=SwS
 θ:=SwT
 ζ:=Nat
 wf:=swW
 zf:=fun s=>s.2
 Z:=swZ tb
 plan:=bnw
 ok:=fun _=>True
 Pv:=fun _ _=>True
 up:=fun _ _ _=>trivial
section
variable {tb r sb says turn fin wg:Nat} {Pm:HProp}
abbrev swAcc (tb r sb says turn fin wg:Nat) (Pm:HProp):Acc tH (gateV sb):=cdw (swG tb) (sAddr r) 3 (sK r 2) (pi_ r 2) sb says turn fin wg Pm
theorem sw_at:SeqAt (swAcc tb r sb says turn fin wg Pm) r 2:=⟨by omega,by omega,fun s=>ccp (Rd.of .here sC_rd),rfl,fun i _=>yz_⟩
theorem cjh {s:GaS (swG tb)} (hq:s.q=((0,0,0):SwT)) (hf:∀ j,j<3→s.f j=swW s.s j) (hc:s.c=(show SwS from s.s).2) :
  ReadT (swAcc tb r sb says turn fin wg Pm) 2 s fun o s'=>s'.q=((0,9,0):SwT)∧(∀ j,j<3→s'.f j=swW s'.s j)∧(show SwS from s'.s).2=if o.isSome=true then 0 else 51:=by
 refine ga_go (op:=1) (F:=fun s:SwS=>if s.1.1%2=0 then (s,((0,1,s.1.1):SwT)) else ((s.1,51),((0,9,0):SwT))) rfl (by rw [hq];rfl) hf hc (fun _ _=>trivial) fun s1 n1 hn1 _=>⟨by omega,?_⟩
 obtain ⟨⟨a1,b1,c1⟩,t1⟩:=s1
 show if a1%2=0 then _ else _
 by_cases c:a1%2=0
 ·rw [if_pos c]
  simp only [if_pos c]
  refine ga_go (op:=1) (w:=1) (F:=fun s:SwS=>(s,((0,2,a1):SwT))) rfl rfl (fun j hj=>rfl) rfl (fun _ _=>trivial) fun s2 n2 hn2 _=>⟨by show 1<3;omega,?_⟩
  refine ga_go (op:=1) (w:=2) (F:=fun s:SwS=>(s,((0,3,a1):SwT))) rfl rfl (fun j hj=>rfl) rfl (fun _ _=>trivial) fun s3 n3 hn3 _=>⟨by show 2<3;omega,?_⟩
  refine ga_go (op:=1) (w:=0) (F:=fun s:SwS=>if s.1.1=a1 then ((s.1,0),((0,9,0):SwT)) else ((s.1,51),((0,9,0):SwT))) rfl rfl (fun j hj=>rfl) rfl (fun _ _=>trivial) fun s4 n4 hn4 _=>⟨by omega,?_⟩
  obtain ⟨⟨a4,b4,c4⟩,t4⟩:=s4
  show if a4=a1 then _ else _
  by_cases e:a4=a1
  ·rw [if_pos e]
   simp only [if_pos e]
   exact ⟨rfl,fun j hj=>by unfold swG swW;rfl,rfl⟩
  ·rw [if_neg e]
   simp only [if_neg e]
   exact ⟨rfl,fun j hj=>by unfold swG swW;rfl,rfl⟩
 ·rw [if_neg c]
  simp only [if_neg c]
  exact ⟨rfl,fun j hj=>by unfold swG swW;rfl,rfl⟩
theorem cbs {s:GaS (swG tb)} (hq:s.q=((1,0,0):SwT)) (hf:∀ j,j<3→s.f j=swW s.s j) (hc:s.c=(show SwS from s.s).2) :
  wr_ (swAcc tb r sb says turn fin wg Pm) [1,2] s fun o s'=>s'.q=((1,9,0):SwT)∧(∀ j,j<3→s'.f j=swW s'.s j)∧s'.c=(show SwS from s'.s).2:=by
 refine ga_go (op:=1) (F:=fun s:SwS=>if s.1.1%2=0 then (s,((1,1,s.1.1):SwT)) else (s,((1,9,0):SwT))) rfl (by rw [hq];rfl) hf hc (fun _ _=>trivial) fun s1 n1 hn1 _=>⟨by omega,?_⟩
 obtain ⟨⟨a1,b1,c1⟩,t1⟩:=s1
 show if a1%2=0 then _ else _
 by_cases c:a1%2=0
 ·rw [if_pos c]
  simp only [if_pos c]
  refine ga_go (op:=5) (w:=0) (F:=fun s:SwS=>if s.1.1=a1 then ((((a1+1)%18446744073709551616,s.1.2),s.2),((1,2,a1):SwT)) else (s,((1,9,0):SwT))) rfl rfl (fun j hj=>rfl) rfl (fun _ _=>trivial) fun s2 n2 hn2 _=>⟨by omega,?_⟩
  obtain ⟨⟨a2,b2,c2⟩,t2⟩:=s2
  show if a2=a1 then _ else _
  by_cases e:a2=a1
  ·rw [if_pos e]
   simp only [if_pos e]
   refine ga_go (op:=2) (w:=1) (F:=fun s:SwS=>(((s.1.1,1,s.1.2.2),s.2),((1,3,a1):SwT))) rfl rfl (fun j hj=>?_) rfl (fun _ _=>trivial) fun s3 n3 hn3 _=>⟨by omega,?_⟩
   ·match j,hj with
    | 0,_=>rfl
    | 1,_=>rfl
    | 2,_=>rfl
   refine ga_go (op:=2) (w:=2) (F:=fun s:SwS=>(((s.1.1,s.1.2.1,2),s.2),((1,4,a1):SwT))) rfl rfl (fun j hj=>?_) rfl (fun _ _=>trivial) fun s4 n4 hn4 _=>⟨by omega,?_⟩
   ·match j,hj with
    | 0,_=>rfl
    | 1,_=>rfl
    | 2,_=>rfl
   refine ga_go (op:=2) (w:=0) (F:=fun s:SwS=>((((a1+2)%18446744073709551616,s.1.2),s.2),((1,9,0):SwT))) rfl rfl (fun j hj=>?_) rfl (fun _ _=>trivial) fun s5 n5 hn5 _=>⟨by omega,?_⟩
   ·match j,hj with
    | 0,_=>rfl
    | 1,_=>rfl
    | 2,_=>rfl
   refine ⟨rfl,fun j hj=>?_,rfl⟩
   match j,hj with
   | 0,_=>rfl
   | 1,_=>rfl
   | 2,_=>rfl
  ·rw [if_neg e]
   simp only [if_neg e]
   exact ⟨rfl,fun j hj=>rfl,rfl⟩
 ·rw [if_neg c]
  simp only [if_neg c]
  exact ⟨rfl,fun j hj=>rfl,rfl⟩
abbrev swRo (rb r:Nat):HProp:=fro rb 0 [.pointer (some ⟨r,0,none⟩)]
abbrev swF1 (rb tb:Nat):Value:=.func (.func 42) #[] #[.pointer (some ⟨rb,0,none⟩),.pointer (some ⟨tb,0,none⟩)]
abbrev swF2 (rb:Nat):Value:=.func (.func 43) #[] #[.pointer (some ⟨rb,0,none⟩)]
theorem cnw {rb:Nat}:ThrOk ((swG tb).g (sAddr r) 3 (sK r 2)) (fun s=>(s,((0,0,0):SwT))) (swF1 rb tb) (swRo rb r) where
 run:=by
  refine ⟨_,_,_,rfl,inferInstance,fun sb says turn fin wg (s:SwS) m F hok=>?_⟩
  show Tr Try.prog tH _ [gateV sb,.pointer (some ⟨rb,0,none⟩),.pointer (some ⟨tb,0,none⟩)] _ (tx ((swG tb).g (sAddr r) 3 (sK r 2)) says turn fin wg (.busy s ((0,0,0):SwT) m)) _
  refine cv_ (gaC (swG tb) (sAddr r) 3 (sK r 2) sb says turn fin (all []) (swW s) s.2::swRo rb r::F) (fun hp st=>?_) ?_
  ·have s1:Star (wds (sAddr r) 3 (sK r 2) (swW s)::swZ tb s.2::seatR sb says turn fin::swRo rb r::F) hp:=bq_ (M:=[_,_]) st
   have s2:Star (all []::wds (sAddr r) 3 (sK r 2) (swW s)::swZ tb s.2::seatR sb says turn fin::swRo rb r::F) hp:=bj_ (M:=[]) s1
   exact bj_ (M:=[_,_,_,_]) (Ent.star (.take (.there .here) (.take (.there .here) (.take (.there .here) (.take .here .refl)))) s2)
  have q1:∀ {c:HProp},Rd (c::swRo rb r::F) rb 0 (.pointer (some ⟨r,0,none⟩)):=fun {c}=>.there (Rd.fro (k:=0) rfl rfl)
  refine be_ Try.func42 rfl Try.ntmps42 (by simp) fun um Q _ hQ=>?_
  simp only [argE,Nat.zero_add,Nat.reduceAdd]
  repeat (first | (apply wo_po;apply bc_;exact rfl;exact q1;exact trivial) | (refine wR ?_;try simp only [oS]) | refine wM ?_)
  refine bt_ (.cons rfl (.cons rfl .nil)) trivial (va_ (A:=swAcc tb r sb says turn fin wg (all [])) sw_at (s:=⟨swW s,s.2,s,((0,0,0):SwT),m⟩) (cjh rfl (fun j hj=>rfl) rfl) .here) ?_
  rintro v L' x' ⟨q,s',rv,⟨hq,hf,hz⟩,_,rfl,rfl,rfl⟩
  refine dt_ (arr tb 0 [.int .i64 ((show Nat from s'.c):Nat)]::wds (sAddr r) 3 (sK r 2) s'.f::seatR sb says turn fin::F) (fun hp st=>?_) ?_
  ·have s1:Star (wds (sAddr r) 3 (sK r 2) s'.f::swZ tb s'.c::seatR sb says turn fin::all []::vec 1 rv ((rdW q).map num)::swRo rb r::F) hp:=bq_ (M:=[_,_,_,_]) st
   have s2:Star (arr tb 0 [.int .i64 ((show Nat from s'.c):Nat)]::wds (sAddr r) 3 (sK r 2) s'.f::seatR sb says turn fin::all []::vec 1 rv ((rdW q).map num)::swRo rb r::F) hp:=bq_ (M:=[_]) (Ent.star (.take (.there .here) .refl) s1)
   exact Ent.star (.take .here (.take .here (.take .here (.drop (.drop (.drop .refl)))))) s2
  repeat (first | refine wS ?_ | refine ba_ ?_ | refine wM ?_ | (apply wo_po;apply cx_;exact rfl;exact rfl;exact gY))
  (first | refine or0 Try.func42 Try.results42 hQ ?_ | refine on0 Try.func42 Try.results42 hQ ?_)
  refine ⟨s'.s,s'.q,s'.n,rfl,?_,fun hp st=>?_⟩
  ·show bnw s'.q=none
   rw [hq];rfl
  ·have e:(.int .i64 (if q.isSome=true then 0 else 51):Value)=.int .i64 (((show SwS from s'.s).2:Nat):Int):=by rw [hz];split <;> rfl
   have s1:Star (swZ tb (show SwS from s'.s).2::wds (sAddr r) 3 (sK r 2) s'.f::seatR sb says turn fin::F) hp:=bj_ (M:=[_]) (by rw [e] at st;exact st)
   have s2:Star (wds (sAddr r) 3 (sK r 2) (swW s'.s)::swZ tb (show SwS from s'.s).2::seatR sb says turn fin::F) hp:=bn_ (cs_ s1) (kd_ hf) fun _ z=>z
   exact bn_ (bj_ (M:=[_,_]) s2) (fun _ z=>z) fun _ z=>bn_ z (fun _ z=>z) fun _ z=>bj_ (M:=[]) z
theorem cnv {rb:Nat}:ThrOk ((swG tb).g (sAddr r) 3 (sK r 2)) (fun s=>(s,((1,0,0):SwT))) (swF2 rb) (swRo rb r) where
 run:=by
  refine ⟨_,_,_,rfl,inferInstance,fun sb says turn fin wg (s:SwS) m F hok=>?_⟩
  show Tr Try.prog tH _ [gateV sb,.pointer (some ⟨rb,0,none⟩)] _ (tx ((swG tb).g (sAddr r) 3 (sK r 2)) says turn fin wg (.busy s ((1,0,0):SwT) m)) _
  refine cv_ (gaC (swG tb) (sAddr r) 3 (sK r 2) sb says turn fin (all []) (swW s) s.2::swRo rb r::F) (fun hp st=>?_) ?_
  ·have s1:Star (wds (sAddr r) 3 (sK r 2) (swW s)::swZ tb s.2::seatR sb says turn fin::swRo rb r::F) hp:=bq_ (M:=[_,_]) st
   have s2:Star (all []::wds (sAddr r) 3 (sK r 2) (swW s)::swZ tb s.2::seatR sb says turn fin::swRo rb r::F) hp:=bj_ (M:=[]) s1
   exact bj_ (M:=[_,_,_,_]) (Ent.star (.take (.there .here) (.take (.there .here) (.take (.there .here) (.take .here .refl)))) s2)
  have q1:∀ {c d:HProp},Rd (c::swRo rb r::F) rb 0 (.pointer (some ⟨r,0,none⟩)):=fun {c d}=>.there (Rd.fro (k:=0) rfl rfl)
  refine be_ Try.func43 rfl Try.ntmps43 (by simp) fun um Q _ hQ=>?_
  simp only [argE,Nat.zero_add,Nat.reduceAdd]
  repeat (first | (apply wo_po;apply bc_;exact rfl;exact q1 (d:=all []);exact trivial) | (apply wo_mo;apply bi_ (sz:=1) (vs:=[num 1,num 2]);exact rfl;exact .cons rfl (.cons rfl .nil);exact rfl;(intro v hv;simp at hv;rcases hv with rfl | rfl <;> rfl);omega;exact trivial) | (refine wR ?_;try simp only [oS]) | refine wM ?_)
  rintro v' L' ⟨nb,rfl,rfl⟩
  skip
  refine bt_ (.cons rfl (.cons rfl (.cons rfl .nil))) trivial (ya_ (A:=swAcc tb r sb says turn fin wg (all [])) sw_at (ws:=[1,2]) rfl (by decide) (s:=⟨swW s,s.2,s,((1,0,0):SwT),m⟩) (cbs rfl (fun j hj=>rfl) rfl) (.there .here) ⟨rfl,.inr ⟨_,_,rfl,Rds.all .here⟩⟩) ?_
  rintro v L' x' ⟨q,s',⟨hq,hf,hz⟩,rfl,rfl,rfl⟩
  repeat (first | refine ba_ ?_)
  (first | refine or0 Try.func43 Try.results43 hQ ?_ | refine on0 Try.func43 Try.results43 hQ ?_)
  refine ⟨s'.s,s'.q,s'.n,rfl,?_,fun hp st=>?_⟩
  ·show bnw s'.q=none
   rw [hq];rfl
  ·have s1:Star (wds (sAddr r) 3 (sK r 2) s'.f::swZ tb s'.c::seatR sb says turn fin::all []::_) hp:=bq_ (M:=[_,_,_,_]) st
   rw [hz] at s1
   have s2:Star (wds (sAddr r) 3 (sK r 2) (swW s'.s)::swZ tb (show SwS from s'.s).2::seatR sb says turn fin::all []::_) hp:=bn_ s1 (kd_ hf) fun _ z=>z
   exact bn_ (bj_ (M:=[_,_]) s2) (fun _ z=>z) fun _ z=>bn_ z (fun _ z=>z) fun _ z=>bn_ z (fun _ _=>trivial) fun _ z=>Ent.star (.drop (.drop .refl)) z
end
def swT (rb tb r:Nat):List (Thr ((swG tb).g (sAddr r) 3 (sK r 2))):=[⟨swF1 rb tb,fun s=>(s,((0,0,0):SwT)),swRo rb r⟩,⟨swF2 rb,fun s=>(s,((1,0,0):SwT)),swRo rb r⟩]
theorem cbt {rb tb r:Nat}:playF (swT rb tb r) (((2,7,8),0):SwS) [0,1,0]=(⟨((4,1,2),51),[((0,9,0):SwT),((1,9,0):SwT)],[(0,(1,0)),(1,(1,0)),(0,(1,1)),(0,(1,2)),(1,(5,0)),(0,(1,0)),(1,(2,1)),(1,(2,2)),(1,(2,0))]⟩:PS ((swG tb).g (sAddr r) 3 (sK r 2))):=by kernel_rfl
theorem cjx {L F:List HProp} {b:Nat} {l:List Nat} (hh:Has L (arr b 0 (l.map num)) F):RdV L (some ⟨b,0,none⟩) l:=fun i v hi =>
 ⟨b,0,rfl,Rds.all hh i _ (by rw [List.getElem?_map,hi];rfl)⟩
theorem cjw {L F:List HProp} {a:Option Addr} {n c:Nat} {l:List Nat} (hh:Has L (vec 1 (.slice a n c) (l.map num)) F) (hz:a=none→n=0) (hn:n=l.length) (hy:∀ y,a=some y→y=⟨y.block,y.off,none⟩):RdV L a l :=
 RdV.vec hh hy fun e=>List.length_eq_zero_iff.1 (by rw [← hn];exact hz e)
set_option maxHeartbeats 2000000 in
theorem bmt {L:List HProp}:Tr Try.prog mT 9 [] L .idle fun v L' x'=>v=.bool true∧L'=L∧x'=.idle:=by
 refine Tr.post (R:=fun v L' x'=>v=.bool true∧x'=MX.idle∧∀ h,Star L' h→Star L h) ?_
  (by rintro v L' x' ⟨rfl,rfl,h2⟩;exact ⟨_,⟨rfl,rfl,rfl⟩,h2⟩)
 refine be_ Try.func9 rfl Try.ntmps9 (by simp) fun um Q _ hQ=>?_
 simp only [argE,Nat.zero_add,Nat.reduceAdd]
 repeat (first | (apply wo_mo;apply bi_ (sz:=1) (vs:=[num 5,num 6]);exact rfl;exact .cons rfl (.cons rfl .nil);exact rfl;(intro v hv;simp at hv;rcases hv with rfl | rfl <;> rfl);omega;exact trivial) | refine bb_ ?_ | (refine wR ?_;try simp only [oS]) | refine ba_ ?_ | refine wA ?_)
 rintro v' L' ⟨b1,rfl,rfl⟩
 refine gq_ (arr b1 0 ([5,6].map num)::L) .refl ?_
 skip
 refine bt_ (.cons rfl .nil) trivial (brt (n:=2) (ws:=[5,6]) (by omega) (by omega) rfl (by decide) ⟨rfl,.inr ⟨_,_,rfl,Rds.all .here⟩⟩) ?_
 rintro v' L' x' ⟨r,rfl,rfl,rfl⟩
 repeat (first | (apply wo_mo;apply cn_;exact trivial) | refine wM ?_ | (apply wo_po;apply cx_;exact rfl;exact rfl;exact gY))
 rintro v' L' ⟨rb,rfl,rfl⟩
 repeat (first | refine wS ?_ | refine wneqF ?_ | refine bb_ ?_ | (refine wR ?_;try simp only [oS]) | refine ba_ ?_ | refine wM ?_ | refine wA ?_ | refine wJ ?_ | refine wL ?_ | (apply wo_po;apply bs_;exact rfl;exact rfl;apply qp_;apply js_;exact gY) | refine wF ?_ | refine bk_ ?_)
 refine bt_ .nil trivial bfw ?_
 rintro v' L' x' ⟨nb,rfl,rfl,rfl⟩
 refine dt_ (all [sC r 2 (recF [5,6] 0),kr_ nb []]::arr rb 0 [.pointer (some ⟨r,0,none⟩)]::arr b1 0 ([5,6].map num)::L) (fun h st=>bj_ (M:=[_,_]) (Ent.star (.take (.there (.there .here)) (.take .here (.take .here .refl))) st)) ?_
 repeat (first | (apply wo_po;apply jd_;exact rfl;exact trivial) | (apply wo_mo;apply bi_ (sz:=1) (vs:=[num 7,num 8]);exact rfl;exact .cons rfl (.cons rfl .nil);exact rfl;(intro v hv;simp at hv;rcases hv with rfl | rfl <;> rfl);omega;exact trivial) | refine bb_ ?_ | (refine wR ?_;try simp only [oS]) | refine ba_ ?_ | refine wM ?_ | refine wA ?_ | refine wL ?_)
 rintro v' L' ⟨b2,rfl,rfl⟩
 refine gq_ (arr b2 0 ([7,8].map num)::all [sC r 2 (recF [5,6] 0),kr_ nb []]::arr rb 0 [.pointer (some ⟨r,0,none⟩)]::arr b1 0 ([5,6].map num)::L) .refl ?_
 skip
 refine bt_ (.cons rfl (.cons rfl (.cons rfl .nil))) trivial (bnb (n:=2) (ws:=[5,6]) (ws':=[7,8]) (v:=0) (by omega) (by omega) rfl (by decide) rfl (by omega) (by decide) (.there .here) ⟨rfl,.inr ⟨_,_,rfl,Rds.all .here⟩⟩) ?_
 rintro v' L' x' ⟨rfl,rfl,rfl⟩
 repeat (first | refine bb_ ?_ | (refine wR ?_;try simp only [oS]) | refine ba_ ?_ | refine wM ?_ | refine wA ?_ | (apply wo_po;apply cx_;exact rfl;exact rfl;exact gY) | refine wL ?_)
 refine bt_ (.cons rfl (.cons rfl .nil)) trivial (bvr (n:=2) (ws:=[7,8]) (v:=2) (by omega) (by omega) rfl rfl .here) ?_
 rintro v' L' x' ⟨rv,rfl,rfl,rfl⟩
 refine cm_ (bo_ (.there .here) (bg_ (by omega))) ?_
 rintro ⟨ra,rl,rc,rfl,hlen,hrc,hra,hra2⟩
 obtain rfl:rl=2:=by simp at hlen;omega
 repeat (first | (apply wo_mo;apply bi_ (sz:=1) (vs:=[num 7,num 8]);exact rfl;exact .cons rfl (.cons rfl .nil);exact rfl;(intro v hv;simp at hv;rcases hv with rfl | rfl <;> rfl);omega;exact rfl) | refine wneqF ?_ | refine bb_ ?_ | (refine wR ?_;try simp only [oS]) | refine ba_ ?_ | refine wM ?_ | refine wA ?_ | refine wJ ?_ | (apply wo_po;apply cx_;exact rfl;exact rfl;exact gY))
 rintro v' L' ⟨b3,rfl,rfl⟩
 refine gq_ (arr b3 0 ([7,8].map num)::sC r 2 (recF [7,8] 2)::vec 1 (.slice ra 2 rc) ([7,8].map num)::kr_ nb (qt_ 2)::arr rb 0 [.pointer (some ⟨r,0,none⟩)]::L) (.take .here (.take .here (.take .here (.take .here (.take (.there .here) (.drop (.drop .refl))))))) ?_
 skip
 refine bt_ (.cons rfl (.cons rfl .nil)) rfl (mj_ (l:=[7,8]) (l':=[7,8]) rfl rfl (by omega) (cjw (.there (.there .here)) hra rfl hra2) (cjx .here)) ?_
 rintro v' L' x' ⟨rfl,rfl,rfl⟩
 repeat (first | refine wM ?_ | refine wJ ?_ | (apply wo_po;apply gb_;exact rfl;exact gY))
 refine bt_ (.cons rfl .nil) rfl (cdq (marks:=qt_ 2) (by decide) (.there (.there (.there .here)))) ?_
 rintro mv L' x' ⟨rfl,rfl⟩
 refine cm_ (bo_ .here (bg_ (by omega))) ?_
 rintro ⟨ma,ml,mc,rfl,hml,_⟩
 obtain rfl:ml=5:=by simp [qt_,py_,mark2] at hml;omega
 repeat (first | (apply wo_mo;apply cn_;exact trivial) | refine wneqF ?_ | refine bb_ ?_ | (refine wR ?_;try simp only [oS]) | refine ba_ ?_ | refine wJ ?_ | refine wE ?_ | refine wF ?_ | refine bk_ ?_)
 rintro v' L' ⟨tb,rfl,rfl⟩
 repeat (first | refine wS ?_ | refine bb_ ?_ | (refine wR ?_;try simp only [oS]) | refine ba_ ?_)
 refine gq_ (arr tb 0 [.int .i64 0]::sC r 2 (recF [7,8] 2)::arr rb 0 [.pointer (some ⟨r,0,none⟩)]::L) (.take .here (.take (.there (.there (.there .here))) (.take (.there (.there (.there (.there .here)))) (.drop (.drop (.drop (.drop .refl))))))) ?_
 repeat (first | (apply wo_mo;apply bi_ (sz:=1) (vs:=[.int .i64 0,.int .i64 1,.int .i64 0]);exact rfl;exact .cons rfl (.cons rfl (.cons rfl .nil));exact rfl;(intro v hv;simp at hv;rcases hv with rfl | rfl | rfl <;> rfl);omega;exact trivial))
 rintro v' L' ⟨ob,rfl,rfl⟩
 repeat (first | (apply wo_po;apply mc_ (first:=[]) (cap:=[_,_]) (vf:=[]);exact .nil;exact .cons rfl (.cons rfl .nil);exact trivial) | (apply wo_po;apply mc_ (first:=[]) (cap:=[_]) (vf:=[]);exact .nil;exact .cons rfl .nil;exact trivial) | (apply wo_mo;apply bi_ (sz:=1) (vs:=[swF1 rb tb,swF2 rb]);exact rfl;exact .cons rfl (.cons rfl .nil);exact rfl;(intro v hv;simp at hv;rcases hv with rfl | rfl <;> rfl);omega;exact trivial))
 rintro v' L' ⟨fb,rfl,rfl⟩
 refine gq_ (arr fb 0 [swF1 rb tb,swF2 rb]::arr ob 0 [.int .i64 0,.int .i64 1,.int .i64 0]::arr tb 0 [.int .i64 0]::sC r 2 (recF [7,8] 2)::arr rb 0 [.pointer (some ⟨r,0,none⟩)]::L) .refl ?_
 refine pw_ (b:=rb) (o:=0) (.there (.there (.there (.there .here)))) ?_
 refine dt_ (((swG tb).g (sAddr r) 3 (sK r 2)).U (((2,7,8),0):SwS)::all ((swT rb tb r).map Thr.M)::arr fb 0 [swF1 rb tb,swF2 rb]::arr ob 0 [.int .i64 0,.int .i64 1,.int .i64 0]::L) (fun h st=>?_) ?_
 ·have s1:Star (swRo rb r::swRo rb r::_) h:=xw_ st
  have s2:Star (all ((swT rb tb r).map Thr.M)::_) h:=bj_ (M:=[_,_]) s1
  have s3:Star (swZ tb 0::_) h:=bj_ (M:=[_]) (Ent.star (.take (.there (.there (.there .here))) .refl) s2)
  have s4:Star (wds (sAddr r) 3 (sK r 2) (swW ((2,7,8),0))::swZ tb 0::_) h:=bn_ (Ent.star (.take (.there (.there (.there (.there .here)))) .refl) s3) (kd_ fun j hj=>by
   match j,hj with
   | 0,_=>rfl
   | 1,_=>rfl
   | 2,_=>rfl) fun _ z=>z
  have s5:Star (((swG tb).g (sAddr r) 3 (sK r 2)).U (((2,7,8),0):SwS)::_) h:=bj_ (M:=[_,_]) s4
  exact Ent.star (.take .here (.take .here (.take .here (.take .here .refl)))) s5
 refine bt_ (.cons rfl (.cons rfl .nil)) trivial (bkb (order:=[0,1,0]) (ts:=swT rb tb r) (s0:=(((2,7,8),0):SwS)) (fun _=>True) (fun _ _=>trivial) trivial (fun _ _ _=>trivial) (fun _ _ _=>trivial) (fun _ _ _=>trivial)
   (by intro t ht;simp [swT] at ht;rcases ht with rfl | rfl;exact cnw;exact cnv) (Nat.zero_lt_succ _) (by show 2≤16;omega) (by show 3≤16384;omega)
   ⟨rfl,.inr ⟨_,_,rfl,Rds.all .here⟩⟩ ⟨rfl,.inr ⟨_,_,rfl,Rds.all (.there .here)⟩⟩) ?_
 rw [cbt]
 rintro v' L' x' ⟨tv,cv,rfl,rfl,rfl⟩
 refine cm_ (bo_ .here (bg_ (by omega))) ?_
 rintro ⟨a1,n1,c1,rfl,hn1,_,hz1,hy1⟩
 refine cm_ (bo_ (.there .here) (bg_ (by omega))) ?_
 rintro ⟨a2,n2,c2,rfl,hn2,_⟩
 refine dt_ (arr tb 0 [.int .i64 51]::L) (fun h st=>?_) ?_
 ·have s1:Star (wds (sAddr r) 3 (sK r 2) (swW ((4,1,2),51))::swZ tb 51::_) h:=bq_ (M:=[_,_]) (Ent.star (.take (.there (.there .here)) .refl) st)
  have s2:Star (arr tb 0 [.int .i64 51]::_) h:=bq_ (M:=[_]) (Ent.star (.take (.there .here) .refl) s1)
  exact Ent.star (.take .here (.drop (.drop (.drop (.drop (.drop (.drop .refl))))))) s2
 repeat (first | (apply wo_mo;apply cn_;exact trivial) | refine wM ?_ | (apply wo_po;apply cx_;exact rfl;exact rfl;exact gY))
 rintro v' L' ⟨pb,rfl,rfl⟩
 repeat (first | (apply wo_pm;apply ct_ (c:=0) (k:=0) (a:=0) (vs:=[.slice none 0 0,.slice none 0 0]);exact rfl;exact rfl;exact rfl;(intro w hw;simp [Value.cells] at hw;rcases hw with rfl | rfl <;> rfl);exact rfl;exact Nat.le_refl 2;exact .here;exact trivial) | refine weqlT ?_ | refine bb_ ?_ | (refine wR ?_;try simp only [oS]) | refine ba_ ?_ | refine wM ?_ | refine wA ?_ | refine wK ?_ | refine wL ?_ | refine bw_ ?_)
 (first | refine or1 Try.func9 Try.results9 hQ rfl ?_ | refine on1 Try.func9 Try.results9 hQ rfl ?_)
 exact ⟨rfl,rfl,fun h st=>Ent.star (.drop (.drop .refl)) st⟩
end
end Go.Proofs.Ytodgemainhokjaa
namespace Go.PB
section
section
variable {P:Program} {xt:TypeId} {x y:Operand} {a b:ByteArray}
theorem bbx {M:Mark→Prop} {α:Type} {t:TypeId} {n:Nat} {cs:Array Value} {off:Nat} {kk:Value→Sem α} (ha:aggOf P t=some true) (hz:szOf P t=some n) {h:Hp} {Q:α→Hp→Prop} {X:Value→Hp→Prop} (q:wpS P M (kk (.agg (cs.extract off (off+n)))) h Q X) :
  wpS P M (Sem.bind (part t cs off) kk) h Q X:=by
 refine br_ _ _ ?_
 unfold part
 refine kc_ (q:=true) ha ?_
 simp only [if_true]
 refine dr_ hz ?_
 exact q
theorem bqq {t t1:TypeId} {f0 f1 g0 g1:Field} {k0 k1 k2:IntKind} {a0 b0 a1 b1 a2 b2:Int} [p:Und P t (.struct #[f0,f1])] [p1:Und P t1 (.struct #[g0,g1])] [sz:Siz P t1 2] (hs:P.stoodInHeld t=false) (hs1:P.stoodInHeld t1=false) (hg:P.eqGuardType P.depth t=false)
  (n0:f0.name ≠ "_") (n1:f1.name ≠ "_") (m0:g0.name ≠ "_") (m1:g1.name ≠ "_") (o0:f0.offset=0) (o1:f1.offset=1) (q0:g0.offset=0) (q1:g1.offset=1) (ft1:f1.type=t1) (t0:P.underlying f0.type=some (.int k0)) (u0:P.underlying g0.type=some (.int k1)) (u1:P.underlying g1.type=some (.int k2)) :
  Eql P t x y (.agg #[.int k0 a0,.int k1 a1,.int k2 a2]) (.agg #[.int k0 b0,.int k1 b1,.int k2 b2]) (decide (a0=b0∧a1=b1∧a2=b2)) :=
 cmb hg fun {M h Q X} q=>by
  rw [jg_]
  unfold Op.equalIn
  refine bv_ p.ok ?_
  dsimp only
  refine hj_ (β:=Unit) ?_
  simp only [hs,Bool.false_eq_true,if_false,← Array.forIn_toList,List.forIn_cons,List.forIn_nil,n0,n1,ne_eq,not_false_eq_true,if_true,bind_assoc,pure_bind,o0,o1,ft1]
  have ha:aggOf P t1=some true:=by unfold aggOf;rw [p1.ok];rfl
  refine kb_ t0 rfl (kb_ t0 rfl (sw_ (d:=9998) t0 ?_))
  by_cases e0:a0=b0
  ·subst e0
   simp only [beq_self_eq_true,Bool.not_true,Bool.false_eq_true,if_false,pure_bind,bind_assoc]
   refine bbx ha sz.ok (bbx ha sz.ok (br_ _ _ ?_))
   refine bmd (d:=9997) p1.ok hs1 m0 m1 q0 q1 u0 u1 ?_
   by_cases e1:a1=b1∧a2=b2
   ·obtain ⟨rfl,rfl⟩:=e1
    simp only [decide_true,and_self,Bool.not_true,Bool.false_eq_true,if_false,pure_bind]
    have q':Q true h:=by simpa using q
    exact q'
   ·simp only [e1,decide_false,Bool.not_false,if_true,pure_bind]
    have q':Q false h:=by simpa [e1] using q
    exact q'
  ·have:(a0 == b0)=false:=by simp [e0]
   simp only [this,Bool.not_false,if_true,pure_bind,bind_assoc]
   have q':Q false h:=by simpa [e0] using q
   exact q'
end
end
end Go.PB
namespace Go.Proofs.Ytodgemainhokjaa
open Go Go.PB
attribute [local irreducible] Mo Bin Eql Tr Wo Ap Wle
section
section
variable {B:Hand} [Lets B] {x:B.X} {L F:List HProp}
theorem vg_ {l:List Nat}:∀ w∈l.map num,one w=true:=by
 intro w hw
 obtain ⟨v,_,rfl⟩:=List.mem_map.1 hw
 rfl
theorem vq_ {a:Option Addr} {n c:Nat} {l:List Nat} (hr:RdsO L a n (l.map num)) (hb:n≤17592186043904) :
  Tr Try.prog B 21 [.slice a n c] L x fun v L' x'=>L'=vec 1 v (l.map num)::L∧x'=x:=by
 have hn:n=l.length:=by have:=hr.1;simpa using this
 subst hn
 refine Tr.post (R:=fun v L' x'=>x'=x∧∀ h,Star L' h→Star (vec 1 v (l.map num)::L) h) ?_ (by rintro v L' x' ⟨rfl,h2⟩;exact ⟨_,⟨rfl,rfl⟩,h2⟩)
 refine cv_ (vec 1 (.slice none 0 0) []::L) (fun h st=>di_ st) ?_
 have hrd:l.length=0∨∃ b o,a=some ⟨b,o,none⟩∧Rds (vec 1 (.slice none 0 0) []::L) b o (l.map num):=hr.there.2
 refine be_ Try.func21 rfl Try.ntmps21 (by simp) fun um Q _ hQ=>?_
 simp only [argE,Nat.zero_add,Nat.reduceAdd]
 repeat (first | (apply wo_mo;apply cc_ (sz:=1) (new:=l.map num);exact rfl;exact rfl;exact rfl;exact rfl;exact .here;(simp);exact hrd;exact vg_;(simp only [cd_];omega);exact trivial) | refine bb_ ?_ | (refine wR ?_;try simp only [oS]) | refine ba_ ?_ | refine wM ?_ | refine wA ?_)
 rintro v' L' rfl
 repeat (first | refine ba_ ?_ | refine wA ?_ | refine bw_ ?_)
 (first | refine or1 Try.func21 Try.results21 hQ rfl ?_ | refine on1 Try.func21 Try.results21 hQ rfl ?_)
 exact ⟨rfl,fun h st=>by simpa using st⟩
end
theorem rdsoV {L F:List HProp} {a:Option Addr} {n c:Nat} {cs:List Value} (hh:Has L (vec 1 (.slice a n c) cs) F) (hn:cs.length=n) (hz:a=none→n=0) (hy:∀ y,a=some y→y=⟨y.block,y.off,none⟩):RdsO L a n cs:=by
 refine ⟨hn.symm,?_⟩
 cases a with
 | none=>exact .inl (hz rfl)
 | some y =>
  refine .inr ⟨y.block,y.off,by rw [hy y rfl],?_⟩
  have e:=hy y rfl
  rw [e] at hh
  exact fun i v hi=>df_ hh hi
end
section
def fs_ (l:List Nat) (n:Nat):List Nat:=(List.range n).map fun i=>l.getD i i
theorem kp_ {α:Type} {f:Nat→α} {i:Nat}:(List.range (i+1)).map f=(List.range i).map f++[f i]:=by simp [List.range_succ]
section
variable {B:Hand} [Lets B] {x:B.X} {L F:List HProp}
def bfc (n:Nat) (l:List Nat) (lv:Value) (x:B.X) (L:List HProp):PB.Inv (Nat × Value) B.X where
 e:=fun i=>[(0,lv),(1,.int .i64 (n:Nat)),(5,i.2),(6,.int .i64 (i.1:Nat))]
 L:=fun i=>vec 1 i.2 ((fs_ l i.1).map num)::L
 x:=fun _=>x
 ok:=fun i=>i.1≤n
theorem bjd {n m c:Nat} {a:Option Addr} {l:List Nat} (hn:n≤16) (hr:RdsO L a m (l.map num)) :
  Tr Try.prog B 35 [.slice a m c,.int .i64 (n:Nat)] L x fun rv L' x'=>L'=vec 1 rv ((fs_ l n).map num)::L∧x'=x:=by
 refine Tr.post (R:=fun rv L' x'=>x'=x∧∀ h,Star L' h→Star (vec 1 rv ((fs_ l n).map num)::L) h) ?_ (by rintro v L' x' ⟨rfl,h2⟩;exact ⟨_,⟨rfl,rfl⟩,h2⟩)
 obtain rfl:m=l.length:=by have:=hr.1;simpa using this
 refine cv_ (vec 1 (.slice none 0 0) []::L) (fun h st=>di_ st) ?_
 refine be_ Try.func35 rfl Try.ntmps35 (by simp) fun um Q _ hQ=>?_
 simp only [argE,Nat.zero_add,Nat.reduceAdd]
 repeat (first | refine bb_ ?_ | (refine wR ?_;try simp only [oS]) | refine ba_ ?_ | refine wA ?_ | refine bd_ ?_)
 refine ck_ (bfc n l (.slice a l.length c) x L) (fun i=>n-i.1) (0,.slice none 0 0) (Nat.zero_le _) ⟨rfl,rfl,rfl,rfl,trivial⟩ .refl rfl ?_
 rintro ⟨i,sv⟩ hi
 replace hi:i≤n:=hi
 simp only [bfc]
 refine de_ (bo_ .here (bg_ (by omega))) ?_
 rintro ⟨ra,m,rc,rfl,hm,_⟩
 obtain rfl:m=i:=by simp [fs_] at hm;omega
 by_cases hlt:m<n
 ·by_cases h3:m<l.length
  ·obtain ⟨b,o,rfl,hrd⟩:=hr.rds (by omega)
   obtain ⟨w,hw⟩:∃ w,l[m]?=some w:=⟨l[m],List.getElem?_eq_getElem h3⟩
   have hrw:Rd (vec 1 (.slice ra m rc) ((fs_ l m).map num)::L) b (o+m) (.int .u64 (w:Nat)):=.there (hrd m _ (by rw [List.getElem?_map,hw];rfl))
   repeat (first | (apply wo_po;apply bz_ (r:=o+m);exact rfl;exact rfl;omega;omega;omega;exact trivial) | (apply wo_po;apply bc_;exact rfl;exact hrw;exact trivial) | (apply wo_mo;apply bi_ (sz:=1) (vs:=[num w]);exact rfl;exact .cons rfl .nil;exact rfl;(intro v hv;cases (List.mem_singleton.1 hv);exact rfl);omega;exact trivial) | refine wlssT ?_ | refine bb_ ?_ | (refine wR ?_;try simp only [oS]) | refine ba_ ?_ | refine wM ?_ | refine wE ?_ | refine wT ?_ | refine bk_ ?_ | refine bd_ ?_)
   rintro v' L' ⟨nb,rfl,rfl⟩
   repeat (first | (apply wo_mo;apply cc_ (sz:=1) (new:=[num w]);exact rfl;exact rfl;exact rfl;exact rfl;exact (.there .here);exact rfl;exact .inr ⟨_,_,rfl,Rds.all .here⟩;(intro v hv;cases (List.mem_singleton.1 hv);exact rfl);(simp only [cd_];omega);exact trivial))
   rintro v' L' rfl
   repeat (first | (refine wR ?_;try simp only [oS]) | refine ba_ ?_ | refine wM ?_ | refine wA ?_ | refine wadd ?_)
   refine cr_ (I:=bfc n l (.slice (some ⟨b,o,none⟩) l.length c) x L) (R:=fun j=>n-j.1<n-m) (m+1,v') (by show n-(m+1)<n-m;omega) (show m+1≤n by omega) ⟨rfl,rfl,rfl,rfl,trivial⟩ ?_ rfl
   show Ent _ (vec 1 v' ((fs_ l (m+1)).map num)::L)
   unfold fs_
   rw [kp_,List.map_append,show l.getD m m=w by rw [List.getD_eq_getElem?_getD,hw];rfl]
   exact (.take .here (.drop .refl))
  ·repeat (first | (apply wo_mo;apply bi_ (sz:=1) (vs:=[num m]);exact rfl;exact .cons rfl .nil;exact rfl;(intro v hv;cases (List.mem_singleton.1 hv);exact rfl);omega;exact trivial) | refine wlssT ?_ | refine wlssF ?_ | refine bb_ ?_ | (refine wR ?_;try simp only [oS]) | refine ba_ ?_ | refine wM ?_ | refine wE ?_ | (apply wo_po;apply ff_;exact rfl;(first | exact fk_ (by omega) (by omega) | exact wrap_u64 (by omega) (by omega));exact gY) | refine wT ?_ | refine wF ?_ | refine bk_ ?_ | refine bd_ ?_)
   rintro v' L' ⟨nb,rfl,rfl⟩
   repeat (first | (apply wo_mo;apply cc_ (sz:=1) (new:=[num m]);exact rfl;exact rfl;exact rfl;exact rfl;exact (.there .here);exact rfl;exact .inr ⟨_,_,rfl,Rds.all .here⟩;(intro v hv;cases (List.mem_singleton.1 hv);exact rfl);(simp only [cd_];omega);exact trivial))
   rintro v' L' rfl
   repeat (first | (refine wR ?_;try simp only [oS]) | refine ba_ ?_ | refine wM ?_ | refine wA ?_ | refine wadd ?_)
   refine cr_ (I:=bfc n l (.slice a l.length c) x L) (R:=fun j=>n-j.1<n-m) (m+1,v') (by show n-(m+1)<n-m;omega) (show m+1≤n by omega) ⟨rfl,rfl,rfl,rfl,trivial⟩ ?_ rfl
   show Ent _ (vec 1 v' ((fs_ l (m+1)).map num)::L)
   unfold fs_
   rw [kp_,List.map_append,show l.getD m m=m by rw [List.getD_eq_getElem?_getD,List.getElem?_eq_none (by omega)];rfl]
   exact (.take .here (.drop .refl))
 ·obtain rfl:m=n:=by omega
  repeat (first | refine wlssF ?_ | refine bb_ ?_ | (refine wR ?_;try simp only [oS]) | refine ba_ ?_ | refine wM ?_ | refine wA ?_ | refine wF ?_ | refine bw_ ?_ | refine ch_ ?_)
  (first | refine or1 Try.func35 Try.results35 hQ rfl ?_ | refine on1 Try.func35 Try.results35 hQ rfl ?_)
  exact ⟨rfl,fun h st=>st⟩
end
theorem dz_ {n:Nat} {l:List Nat}:(fs_ l n).length=n:=by simp [fs_]
theorem sa_ {n:Nat} {l:List Nat} (hn:n≤16) (hl:∀ w∈l,w<18446744073709551616):∀ w∈fs_ l n,w<18446744073709551616:=by
 intro w hw
 simp only [fs_,List.mem_map,List.mem_range] at hw
 obtain ⟨i,hi,rfl⟩:=hw
 rw [List.getD_eq_getElem?_getD]
 cases h:l[i]? with
 | none=>simp;omega
 | some w=>simpa using hl w (List.mem_of_getElem? h)
end
end Go.Proofs.Ytodgemainhokjaa
