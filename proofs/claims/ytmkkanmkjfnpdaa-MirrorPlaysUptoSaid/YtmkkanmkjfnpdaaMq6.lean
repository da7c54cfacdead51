/-
  Part 6 of 9.
-/
import Derived.Test.YtmkkanmkjfnpdaaMq5
import Derived.Test.YtmkkanmkjfnpdaaMq2
import Derived.Test.YtmkkanmkjfnpdaaMq4
import Derived.Test.YtmkkanmkjfnpdaaMq3
set_option linter.unusedVariables false
set_option linter.unusedSimpArgs false
namespace Go.Proofs.Ytmkkanmkjfnpdaa
open Go Go.PB
attribute [local irreducible] Mo Bin Eql Tr Wo Ap
section
variable {B:Hand} [Lets B] {L F G:List HProp} {x:B.X}
theorem round_full {f:Nat} {s:Mach.St} {b:Bool} (h:16384≤s.tr.length):∀ m k,Mach.round f m k s b=some (s,b):=by
 intro m
 induction m with
 | zero=>intro k;rfl
 | succ m ih =>
  intro k
  unfold Mach.round
  rw [may_full h,if_neg (by decide)]
  exact ih (k+1)
def rndInv (b6 b8 wb pb:Nat) (ov tv lv:Value) (pts:List PT) (f:Nat) (st:Mach.St) (x:B.X) (F:List HProp):Inv (Nat × Bool × Value × Mach.St × List (PT × Mach.Th)) B.X where
 e:=fun i=>[(1,ov),(2,tv),(6,.pointer (some ⟨b6,0,none⟩)),(8,.pointer (some ⟨b8,0,none⟩)),(9,.pointer (some ⟨wb,0,none⟩)),(10,lv),(13,.pointer (some ⟨pb,0,none⟩)),(16,.bool i.2.1)]
 L:=fun i=>arr pb 0 [i.2.2.1,.slice none 0 0]::vec 3 i.2.2.1 (i.2.2.2.1.tr.map trC).flatten::vec 1 lv (i.2.2.2.2.map ptrK)::all (i.2.2.2.2.map thK)::wdC wb i.2.2.2.1.w::F
 x:=fun _=>x
 ok:=fun i=>(if i.2.1=true then Mach.rounds f i.1 i.2.2.2.1=some st else i.2.2.2.1=st)∧i.2.2.2.2.map (·.1)=pts∧PlayOk f i.2.2.2.1 i.2.2.2.2
def rndIn (b6 b8 wb pb:Nat) (ov tv lv:Value) (pts:List PT) (f:Nat) (r:Mach.St × Bool) (x:B.X) (F:List HProp):Inv (Nat × Bool × Value × Mach.St × List (PT × Mach.Th)) B.X where
 e:=fun i=>[(1,ov),(2,tv),(6,.pointer (some ⟨b6,0,none⟩)),(8,.pointer (some ⟨b8,0,none⟩)),(9,.pointer (some ⟨wb,0,none⟩)),(10,lv),(13,.pointer (some ⟨pb,0,none⟩)),(16,.bool i.2.1),(17,.int .i64 (i.1:Nat))]
 L:=fun i=>arr pb 0 [i.2.2.1,.slice none 0 0]::vec 3 i.2.2.1 (i.2.2.2.1.tr.map trC).flatten::vec 1 lv (i.2.2.2.2.map ptrK)::all (i.2.2.2.2.map thK)::wdC wb i.2.2.2.1.w::F
 x:=fun _=>x
 ok:=fun i=>i.1≤pts.length∧Mach.round f (pts.length-i.1) i.1 i.2.2.2.1 i.2.1=some r∧i.2.2.2.2.map (·.1)=pts∧PlayOk f i.2.2.2.1 i.2.2.2.2
set_option maxHeartbeats 8000000 in
theorem play_tail2 {um:FrameMode} {Q:PB.End→FrameMode→Hp→B.X→Prop} [pkk:Pass (leave Try.prog B 31 .normal Q) ⟨[],um⟩] {b6 b8 wb pb:Nat} {ov0 tv trv:Value} {st s1:Mach.St} {cc:Calls} {f g:Nat} {pts:List PT} {q:List (PT × Mach.Th)} {qa:Option Addr} {qc:Nat}
  (hp:Mach.rounds f g s1=some st) (hf:16384*(f+1)+f<1000000000) (hcc:CallsOk F cc) (hpc:pts.map (fun p=>(p.cw,p.cs))=cc) (hq1:q.map (·.1)=pts) (pk:PlayOk f s1 q) (hqa:qa=none→q.length=0) (hqa2:∀ y,qa=some y→y=⟨y.block,y.off,none⟩)
  (hQ:∀ v L' x' h',playR x F st v L' x'→Star L' h'→Q (.ret v) um h' x') :
  We Try.prog B .normal 159 (seqTail 7 ((Try.f31.body).getD .skip)) (leave Try.prog B 31 .normal Q)
   [(1,ov0),(2,tv),(6,.pointer (some ⟨b6,0,none⟩)),(8,.pointer (some ⟨b8,0,none⟩)),(9,.pointer (some ⟨wb,0,none⟩)),(10,.slice qa q.length qc),(13,.pointer (some ⟨pb,0,none⟩))] ⟨[],um⟩
   (arr pb 0 [trv,.slice none 0 0]::vec 3 trv (s1.tr.map trC).flatten::vec 1 (.slice qa q.length qc) (q.map ptrK)::all (q.map thK)::wdC wb s1.w::arr b6 0 [.slice none 0 0,.slice none 0 0]::arr b8 0 [.slice none 0 0,.slice none 0 0]::F) x:=by
 have hcn:=hcc.n
 have hpn:pts.length=cc.length:=by rw [← hpc,List.length_map]
 have hqn:q.length=pts.length:=by rw [← hq1,List.length_map]
 obtain ⟨R2,hR2⟩:∃ R2,R2=arr b6 0 [.slice none 0 0,.slice none 0 0]::arr b8 0 [.slice none 0 0,.slice none 0 0]::F:=⟨_,rfl⟩
 have hcc2:CallsOk R2 cc:=by rw [hR2];exact hcc.there.there
 rw [← hR2,hqn]
 rw [hqn] at hqa
 repeat (first | refine we_seq ?_ | (refine wR ?_;try simp only [oS]) | refine wo_nil ?_ | refine wA ?_)
 refine we_join (playMid b6 b8 wb pb ov0 tv (.slice qa pts.length qc) pts f st x R2) ?_ ?_
 ·refine we_block ?_
  refine we_loopN (rndInv b6 b8 wb pb ov0 tv (.slice qa pts.length qc) pts f st x R2) (fun i=>if i.2.1=true then i.1+1 else 0) (g,true,trv,s1,q) ⟨by rw [if_pos rfl];exact hp,hq1,pk⟩ ⟨rfl,rfl,rfl,rfl,rfl,rfl,rfl,rfl,trivial⟩ .refl rfl ?_
  clear hp hq1 pk hqn q s1 trv
  rintro ⟨g,left,trv,s,q⟩ ⟨hg,hq1,pk⟩
  dsimp only [rndInv] at hg hq1 pk ⊢
  cases left with
  | false =>
   rw [if_neg (by decide)] at hg
   subst hg
   repeat (first | refine we_seq ?_ | (refine wR ?_;try simp only [oS]) | refine wo_nil ?_ | refine wM ?_ | refine wF ?_ | refine we_exit ?_)
   refine at_mid (I:=playMid b6 b8 wb pb ov0 tv (.slice qa pts.length qc) pts f s x R2) (trv,q) ⟨hq1,pk⟩ ⟨rfl,rfl,rfl,rfl,rfl,rfl,rfl,trivial⟩ .refl rfl
  | true =>
   rw [if_pos rfl] at hg
   obtain ⟨g,rfl⟩:∃ g',g=g'+1:=by
    cases g with
    | zero=>cases hg
    | succ g=>exact ⟨g,rfl⟩
   have hsl:s.l.length=pts.length:=by rw [← pk.l,List.length_map,← hq1,List.length_map]
   unfold Mach.rounds at hg
   cases hr:Mach.round f s.l.length 0 s false with
   | none=>rw [hr] at hg;cases hg
   | some r =>
   rw [hr,Option.bind_some] at hg
   rw [hsl] at hr
   repeat (first | refine we_seq ?_ | (refine wR ?_;try simp only [oS]) | refine wo_nil ?_ | refine wM ?_ | refine wT ?_ | refine we_skip ?_)
   refine we_block ?_
   repeat (first | refine we_seq ?_ | (refine wR ?_;try simp only [oS]) | refine wo_nil ?_ | refine wA ?_)
   refine we_block ?_
   refine we_loopN (rndIn b6 b8 wb pb ov0 tv (.slice qa pts.length qc) pts f r x R2) (fun i=>pts.length-i.1) (0,false,trv,s,q) ⟨Nat.zero_le _,hr,hq1,pk⟩ ⟨rfl,rfl,rfl,rfl,rfl,rfl,rfl,rfl,rfl,trivial⟩ .refl rfl ?_
   clear hr hq1 pk hsl q s trv
   rintro ⟨k,left,trv,s,q⟩ ⟨hk,hr,hq1,pk⟩
   dsimp only [rndIn] at hk hr hq1 pk ⊢
   have hqn:q.length=pts.length:=by rw [← hq1,List.length_map]
   have htr:=pk.tr
   refine we_pure (of_has (.there .here) (vec_shape (by omega))) ?_
   rintro ⟨ra,rn,rc,rfl,hrn,_⟩
   have hrnn:=tr_len hrn
   subst hrnn
   by_cases hc:k<pts.length
   ·by_cases hc2:s.tr.length<16384
    ·obtain ⟨⟨pt,t⟩,hqk⟩:∃ z,q[k]?=some z:=⟨q[k],by simp⟩
     have hlk:s.l[k]?=some t:=by rw [← pk.l,List.getElem?_map,hqk];rfl
     obtain ⟨⟨qb,qo,sp⟩,rfl⟩:∃ z,qa=some z:=by
      cases qa with
      | none=>have:pts.length=0:=hqa rfl;omega
      | some z=>exact ⟨z,rfl⟩
     cases hqa2 _ rfl
     have hpt:pts[k]?=some pt:=by rw [← hq1,List.getElem?_map,hqk];rfl
     have hccm:(pt.cw,pt.cs)∈cc:=by rw [← hpc];exact List.mem_map.2 ⟨pt,List.mem_of_getElem? hpt,rfl⟩
     rw [show pts.length-k=(pts.length-(k+1))+1 by omega] at hr
     unfold Mach.round at hr
     refine we_star (thK (pt,t)::arr pb 0 [.slice ra s.tr.length rc,.slice none 0 0]::vec 3 (.slice ra s.tr.length rc) (s.tr.map trC).flatten::vec 1 (.slice (some ⟨qb,qo,none⟩) pts.length qc) (q.map ptrK)::all ((q.map thK).eraseIdx k)::wdC wb s.w::R2) (fun h st=>?_) ?_
     ·have s1:Star (all (q.map thK)::arr pb 0 [.slice ra s.tr.length rc,.slice none 0 0]::vec 3 (.slice ra s.tr.length rc) (s.tr.map trC).flatten::vec 1 (.slice (some ⟨qb,qo,none⟩) pts.length qc) (q.map ptrK)::wdC wb s.w::R2) h:=by
       refine Ent.star ?_ st
       repeat (first | exact Ent.refl | (apply Ent.take;(repeat (first | exact Has.here | apply Has.there))) | apply Ent.drop)
      have s2:=star_pick (i:=k) (c:=thK (pt,t)) (by rw [List.getElem?_map,hqk];rfl) s1
      refine Ent.star ?_ s2
      exact (.take .here (.take (.there .here) (.take (.there .here) (.take (.there .here) (.take .here .refl)))))
     refine we_ex .here fun y=>we_and .here fun e1=>we_and .here fun hr2=>we_open .here ?_
     obtain ⟨av,al⟩:=y
     refine we_ent (arr pt.tb 0 (thCells pt.cv t av)::vec 2 av (al.map ansV).flatten::all (al.map ansT)::arr pb 0 [.slice ra s.tr.length rc,.slice none 0 0]::vec 3 (.slice ra s.tr.length rc) (s.tr.map trC).flatten::vec 1 (.slice (some ⟨qb,qo,none⟩) pts.length qc) (q.map ptrK)::all ((q.map thK).eraseIdx k)::wdC wb s.w::R2) .refl ?_
     have hpv:Rd (arr pt.tb 0 (thCells pt.cv t av)::vec 2 av (al.map ansV).flatten::all (al.map ansT)::arr pb 0 [.slice ra s.tr.length rc,.slice none 0 0]::vec 3 (.slice ra s.tr.length rc) (s.tr.map trC).flatten::vec 1 (.slice (some ⟨qb,qo,none⟩) pts.length qc) (q.map ptrK)::all ((q.map thK).eraseIdx k)::wdC wb s.w::R2) qb (qo+k) (.pointer (some ⟨pt.tb,0,none⟩)):=rd_vec (.there (.there (.there (.there (.there .here))))) (by rw [List.getElem?_map,hqk];rfl)
     have hov:Rd (arr pt.tb 0 (thCells pt.cv t av)::vec 2 av (al.map ansV).flatten::all (al.map ansT)::arr pb 0 [.slice ra s.tr.length rc,.slice none 0 0]::vec 3 (.slice ra s.tr.length rc) (s.tr.map trC).flatten::vec 1 (.slice (some ⟨qb,qo,none⟩) pts.length qc) (q.map ptrK)::all ((q.map thK).eraseIdx k)::wdC wb s.w::R2) pt.tb 28 (.bool t.over):=Rd.row0 rfl
     cases hto:t.over with
     | true =>
      rw [hto] at hov
      rw [if_neg (by rw [may_over hlk hto];decide)] at hr
      repeat (first | (apply wo_po;apply mo_index1;exact rfl;exact rfl;omega;exact gY) | (apply wo_po;apply mo_load;exact rfl;exact hpv;exact gY) | (apply wo_po;apply mo_load;exact rfl;exact hov;exact gY) | refine wlssT ?_ | refine we_seq ?_ | (refine wR ?_;try simp only [oS]) | refine wo_nil ?_ | refine wM ?_ | refine wA ?_ | refine wK ?_ | refine wN ?_ | refine wD ?_ | (apply wo_po;apply mo_not;exact rfl;exact gY) | refine wL ?_ | refine wadd ?_ | refine wE ?_ | refine wT ?_ | refine wF ?_ | refine we_skip ?_ | refine we_block ?_)
      refine at_roundS (I:=rndIn b6 b8 wb pb ov0 tv (.slice (some ⟨qb,qo,none⟩) pts.length qc) pts f r x R2) (R:=fun i'=>pts.length-i'.1<pts.length-k) (k+1,left,.slice ra s.tr.length rc,s,q) (by simp only;omega) ⟨by simp only;omega,hr,hq1,pk⟩ ⟨rfl,rfl,rfl,rfl,rfl,rfl,rfl,rfl,rfl,trivial⟩ (fun h st=>?_) rfl
      dsimp only [rndIn]
      have s1:=th_close (y:=(av,al)) e1 hr2 st
      have s2:Star (thK (pt,t)::all ((q.map thK).eraseIdx k)::arr pb 0 [.slice ra s.tr.length rc,.slice none 0 0]::vec 3 (.slice ra s.tr.length rc) (s.tr.map trC).flatten::vec 1 (.slice (some ⟨qb,qo,none⟩) pts.length qc) (q.map ptrK)::wdC wb s.w::R2) h:=by
       refine Ent.star ?_ s1
       exact (.take .here (.take (.there (.there (.there .here))) .refl))
      have s3:=star_put (M:=q.map thK) (by simp;omega) s2
      rw [set_same (by rw [List.getElem?_map,hqk];rfl)] at s3
      refine Ent.star ?_ s3
      exact (.take (.there .here) (.take (.there .here) (.take (.there .here) (.take .here .refl))))
     | false =>
      rw [hto] at hov
      rw [if_pos (may_true hc2 hlk hto)] at hr
      cases htn:Mach.turn f s k with
      | none=>rw [htn] at hr;cases hr
      | some s' =>
      rw [htn,Option.bind_some] at hr
      obtain ⟨w',t',hop,rfl,pk',hgood,hcl,htold⟩:=turn_ok pk hf hqk hc2 hto htn
      repeat (first | (apply wo_po;apply mo_index1;exact rfl;exact rfl;omega;exact gY) | (apply wo_po;apply mo_load;exact rfl;exact hpv;exact gY) | (apply wo_po;apply mo_load;exact rfl;exact hov;exact gY) | refine wlssT ?_ | refine we_seq ?_ | (refine wR ?_;try simp only [oS]) | refine wo_nil ?_ | refine wM ?_ | refine wK ?_ | refine wN ?_ | refine wD ?_ | (apply wo_po;apply mo_not;exact rfl;exact gY) | refine wL ?_ | refine wE ?_ | refine wT ?_ | refine we_skip ?_ | refine we_block ?_)
      obtain ⟨GG,hGG⟩:∃ GG,GG=arr pb 0 [.slice ra s.tr.length rc,.slice none 0 0]::vec 3 (.slice ra s.tr.length rc) (s.tr.map trC).flatten::vec 1 (.slice (some ⟨qb,qo,none⟩) pts.length qc) (q.map ptrK)::all ((q.map thK).eraseIdx k)::R2:=⟨_,rfl⟩
      have hobs:Obs GG (codeC pt.cw pt.cs):=by rw [hGG];exact (hcc2.obs _ hccm).there.there.there.there
      have hptr:∀ d1 d2:HProp,Rd (d1::d2::GG) qb (qo+k) (.pointer (some ⟨pt.tb,0,none⟩)):=fun d1 d2=>by rw [hGG];exact rd_vec (.there (.there (.there (.there .here)))) (by rw [List.getElem?_map,hqk];rfl)
      have htrv:∀ d1 d2:HProp,Rd (d1::d2::GG) pb 0 (.slice ra s.tr.length rc):=fun d1 d2=>by rw [hGG];exact .there (.there (Rd.row0 rfl))
      refine we_star (thC pt.tb (pt.cw.v pt.cs.length) t::wdC wb s.w::GG) (fun h st=>?_) ?_
      ·rw [hGG]
       have s1:=th_close (y:=(av,al)) e1 hr2 st
       refine Ent.star ?_ s1
       exact (.take .here (.take (.there (.there (.there (.there .here)))) .refl))
      refine we_draw (List.range' 0 13) (by kernel_rfl) ?_
      repeat (first | (apply ap_pure;exact rfl;exact rfl;exact trivial;intro L;apply mo_index1;exact rfl;exact rfl;exact hc) | (apply ap_read;exact rfl;exact rfl;exact trivial;apply mo_load;exact rfl;exact hptr _ _) | (apply ap_read;exact rfl;exact rfl;exact trivial;apply mo_load;exact rfl;exact htrv _ _) | refine aM ?_ | refine aD ?_)
      refine ap_callR rfl rfl rfl trivial rfl rfl (.cons rfl (.cons rfl .nil)) (op_tr (cw:=pt.cw) (cs:=pt.cs) (G:=GG) hop hgood (by omega) hcl htold .here .here hobs) ?_ ?_
      ·rintro v L' x' ⟨rfl,rfl,rfl⟩ p hp
       replace hp:=(List.mem_filter.1 hp).1
       simp only [List.mem_cons,List.not_mem_nil,or_false] at hp
       rcases hp with rfl | rfl | rfl | rfl | rfl | rfl | rfl <;> first | exact .inl rfl | exact .inr ⟨_,rfl,trivial,mo_load rfl (htrv _ _)⟩ | exact .inr ⟨_,rfl,trivial,mo_load rfl (hptr _ _)⟩
      rintro v L' x1 ⟨rfl,rfl,rfl⟩
      repeat (first | (apply ap_pure;exact rfl;exact rfl;exact trivial;intro L;apply mo_build (pv:=[(0,_),(1,_)]);exact rfl;exact .cons rfl (.cons rfl .nil);exact rfl))
      refine ap_loudR rfl rfl rfl rfl trivial (mo_buildSlice (sz:=3) (vs:=[.agg #[.int .i64 (k:Nat),.int .u8 (t.mark.1:Nat),.int .i64 (t.mark.2:Nat)]]) rfl (.cons rfl .nil) rfl (by intro v hv;cases (List.mem_singleton.1 hv);exact rfl) (by omega)) ?_ ?_
      ·rintro v L' ⟨sb,rfl,rfl⟩ p hp
       replace hp:=(List.mem_filter.1 hp).1
       rcases List.mem_cons.1 hp with rfl | hp
       ·exact .inl rfl
       replace hp:=(List.mem_filter.1 hp).1
       simp only [List.mem_cons,List.not_mem_nil,or_false] at hp
       rcases hp with rfl | rfl | rfl | rfl | rfl | rfl | rfl <;> first | exact .inl rfl | exact .inr ⟨_,rfl,trivial,mo_load rfl (.there (htrv _ _))⟩ | exact .inr ⟨_,rfl,trivial,mo_load rfl (.there (hptr _ _))⟩
      rintro v' L' ⟨sb,rfl,rfl⟩
      subst hGG
      refine ap_loud rfl rfl rfl rfl rfl trivial (mo_append (sz:=3) (new:=[.int .i64 (k:Nat),.int .u8 (t.mark.1:Nat),.int .i64 (t.mark.2:Nat)]) rfl rfl rfl rfl (.there (.there (.there (.there .here)))) rfl (.inr ⟨_,_,rfl,Rds.all .here⟩) (by intro v hv;simp at hv;rcases hv with rfl | rfl | rfl <;> rfl) (by simp only [sliceLen];omega)) ?_
      rintro v' L' rfl
      refine ap_know (of_has .here (vec_shape (by omega))) ?_
      rintro ⟨ua,un,uc,rfl,_⟩
      repeat (first | refine aD ?_)
      refine ap_loud rfl rfl rfl rfl rfl trivial (mo_store rfl rfl rfl (Wt.row0 (k:=0) (.there (.there (.there (.there .here)))) (Nat.succ_pos 1))) ?_
      rintro v' L' ⟨rfl,rfl⟩
      refine ap_end ?_
      repeat (first | (refine wR ?_;try simp only [oS]) | refine wo_nil ?_ | refine wM ?_ | refine wA ?_ | refine wadd ?_)
      refine at_roundS (I:=rndIn b6 b8 wb pb ov0 tv (.slice (some ⟨qb,qo,none⟩) pts.length qc) pts f r x1 R2) (R:=fun i'=>pts.length-i'.1<pts.length-k) (k+1,true,.slice ua un uc,⟨w',s.l.set k t',s.tr++[(k,t.mark)]⟩,q.set k (pt,t')) (by simp only;omega) ⟨by simp only;omega,hr,by simp only [List.map_set,hq1];exact set_same hpt,pk'⟩ ⟨rfl,rfl,rfl,rfl,rfl,rfl,rfl,rfl,rfl,trivial⟩ (fun h st=>?_) rfl
      dsimp only [rndIn]
      have s1:Star (thK (pt,t')::all ((q.map thK).eraseIdx k)::arr pb 0 [.slice ua un uc,.slice none 0 0]::vec 3 (.slice ua un uc) ((s.tr.map trC).flatten++trC (k,t.mark))::vec 1 (.slice (some ⟨qb,qo,none⟩) pts.length qc) (q.map ptrK)::wdC wb w'::R2) h:=by
       refine Ent.star ?_ st
       exact (.take (.there (.there .here)) (.take (.there (.there (.there (.there (.there .here))))) (.take (.there (.there (.there .here))) (.take .here (.take (.there (.there .here)) (.take (.there .here) (.drop .refl)))))))
      have s2:=star_put (M:=q.map thK) (by simp;omega) s1
      rw [List.map_set,List.map_set,set_same (l:=q.map ptrK) (by rw [List.getElem?_map,hqk];rfl),show ((s.tr++[(k,t.mark)]).map trC).flatten=(s.tr.map trC).flatten++trC (k,t.mark) by simp]
      refine Ent.star ?_ s2
      exact (.take (.there .here) (.take (.there .here) (.take (.there .here) (.take .here .refl))))
    ·rw [round_full (by omega)] at hr
     cases hr
     have hg':if left=true then Mach.rounds f g s=some st else s=st:=by
      dsimp only at hg
      cases left with
      | true=>rw [if_pos rfl] at hg ⊢;exact hg
      | false=>rw [if_neg (by decide)] at hg ⊢;exact Option.some.inj hg
     repeat (first | refine wlssT ?_ | refine wlssF ?_ | refine we_seq ?_ | (refine wR ?_;try simp only [oS]) | refine wo_nil ?_ | refine wM ?_ | refine wK ?_ | refine wD ?_ | refine wL ?_ | refine wE ?_ | refine wF ?_ | refine we_exit ?_)
     refine at_round (I:=rndInv b6 b8 wb pb ov0 tv (.slice qa pts.length qc) pts f st x R2) (R:=fun i'=>(if i'.2.1=true then i'.1+1 else 0)<(if true=true then g+1+1 else 0)) (g,left,.slice ra s.tr.length rc,s,q) (by dsimp only;rw [if_pos rfl];split <;> omega) ⟨hg',hq1,pk⟩ ⟨rfl,rfl,rfl,rfl,rfl,rfl,rfl,rfl,trivial⟩ .refl rfl
   ·rw [show pts.length-k=0 by omega] at hr
    cases hr
    have hg':if left=true then Mach.rounds f g s=some st else s=st:=by
     dsimp only at hg
     cases left with
     | true=>rw [if_pos rfl] at hg ⊢;exact hg
     | false=>rw [if_neg (by decide)] at hg ⊢;exact Option.some.inj hg
    repeat (first | refine wlssF ?_ | refine we_seq ?_ | (refine wR ?_;try simp only [oS]) | refine wo_nil ?_ | refine wM ?_ | (apply wo_no;exact rfl) | refine wJ ?_ | refine wE ?_ | refine wF ?_ | refine we_exit ?_)
    refine at_round (I:=rndInv b6 b8 wb pb ov0 tv (.slice qa pts.length qc) pts f st x R2) (R:=fun i'=>(if i'.2.1=true then i'.1+1 else 0)<(if true=true then g+1+1 else 0)) (g,left,.slice ra s.tr.length rc,s,q) (by dsimp only;rw [if_pos rfl];split <;> omega) ⟨hg',hq1,pk⟩ ⟨rfl,rfl,rfl,rfl,rfl,rfl,rfl,rfl,trivial⟩ .refl rfl
 ·rintro ⟨trv,q⟩ ⟨hq1,pk⟩
  dsimp only [playMid] at hq1 pk ⊢
  have hqn2:q.length=pts.length:=by rw [← hq1,List.length_map]
  rw [hR2]
  rw [← hqn2] at hqa ⊢
  exact play_tail3 (by omega) pk.l hqa hqa2 hQ
end
section
variable {B:Hand} [Lets B] {L F G:List HProp} {x:B.X}
set_option maxHeartbeats 8000000 in
theorem play_tail {um:FrameMode} {Q:PB.End→FrameMode→Hp→B.X→Prop} [pkk:Pass (leave Try.prog B 31 .normal Q) ⟨[],um⟩] {b6 b8 wb pb:Nat} {tv:Value} {w:Mach.Wd} {st s1:Mach.St} {oa:Option Addr} {oc:Nat} {o:List Int} {cc:Calls} {f g:Nat} {pts:List PT} {l0:List Mach.Th} {q:List (PT × Mach.Th)} {qa:Option Addr} {qc:Nat}
  (hby:Mach.byOrder f ⟨w,l0,[]⟩ (o.map fun k=>if k<0 then none else some k.toNat)=some s1) (hp:Mach.rounds f g s1=some st) (hf:16384*(f+1)+f<1000000000) (hcc:CallsOk F cc) (ho:o.length<1000000) (hoi:∀ k∈o,-9223372036854775808≤k∧k≤9223372036854775807)
  (hor:∀ i k,o[i]?=some k→∃ b p,oa=some ⟨b,p,none⟩∧Rd F b (p+i) (.int .i64 k)) (hpc:pts.map (fun p=>(p.cw,p.cs))=cc) (hq1:q.map (·.1)=pts) (pk:PlayOk f ⟨w,l0,[]⟩ q) (hqa:qa=none→q.length=0) (hqa2:∀ y,qa=some y→y=⟨y.block,y.off,none⟩)
  (hQ:∀ v L' x' h',playR x F st v L' x'→Star L' h'→Q (.ret v) um h' x') :
  We Try.prog B .normal 159 (seqTail 6 ((Try.f31.body).getD .skip)) (leave Try.prog B 31 .normal Q)
   [(1,.slice oa o.length oc),(2,tv),(6,.pointer (some ⟨b6,0,none⟩)),(8,.pointer (some ⟨b8,0,none⟩)),(9,.pointer (some ⟨wb,0,none⟩)),(10,.slice qa q.length qc),(13,.pointer (some ⟨pb,0,none⟩))] ⟨[],um⟩
   (arr pb 0 [.slice none 0 0,.slice none 0 0]::vec 1 (.slice qa q.length qc) (q.map ptrK)::all (q.map thK)::wdC wb w::arr b6 0 [.slice none 0 0,.slice none 0 0]::arr b8 0 [.slice none 0 0,.slice none 0 0]::F) x:=by
 obtain ⟨R2,hR2⟩:∃ R2,R2=arr b6 0 [.slice none 0 0,.slice none 0 0]::arr b8 0 [.slice none 0 0,.slice none 0 0]::F:=⟨_,rfl⟩
 have hcc2:CallsOk R2 cc:=by rw [hR2];exact hcc.there.there
 have hor2:∀ i k,o[i]?=some k→∃ b p,oa=some ⟨b,p,none⟩∧Rd R2 b (p+i) (.int .i64 k):=fun i k h=>by
  obtain ⟨b,p,h1,h2⟩:=hor i k h
  exact ⟨b,p,h1,by rw [hR2];exact .there (.there h2)⟩
 rw [← hR2]
 obtain ⟨oN,hoN⟩:∃ oN,oN=o.map fun k:Int=>if k<0 then none else some k.toNat:=⟨_,rfl⟩
 have hoNl:oN.length=o.length:=by rw [hoN,List.length_map]
 rw [← hoN] at hby
 have hcn:=hcc.n
 have hqn:q.length=cc.length:=by rw [← hpc,← hq1,List.length_map,List.length_map]
 repeat (first | refine we_seq ?_ | (refine wR ?_;try simp only [oS]) | refine wo_nil ?_ | refine wA ?_)
 refine we_join (playMid b6 b8 wb pb (.slice oa o.length oc) tv (.slice qa q.length qc) pts f s1 x R2) ?_ ?_
 rotate_left
 ·rintro ⟨trv,q2⟩ ⟨hq2,pk2⟩
  dsimp only [playMid] at hq2 pk2 ⊢
  have hqn2:q2.length=q.length:=by rw [← List.length_map (f:=(·.1)),hq2,← hq1,List.length_map]
  rw [hR2]
  rw [← hqn2] at hqa ⊢
  exact play_tail2 hp hf hcc hpc hq2 pk2 hqa hqa2 hQ
 refine we_block ?_
 refine we_star ((playInv3 b6 b8 wb pb (.slice oa o.length oc) tv (.slice qa q.length qc) pts f oN s1 x R2).L (0,.slice none 0 0,⟨w,l0,[]⟩,q)) (fun h st=>star_map st (fun _ z=>z) (fun _ z=>vec_nil z)) ?_
 obtain ⟨nq,hnq⟩:∃ nq,nq=q.length:=⟨_,rfl⟩
 rw [← hnq] at hqa hqn ⊢
 refine we_loopN (playInv3 b6 b8 wb pb (.slice oa o.length oc) tv (.slice qa nq qc) pts f oN s1 x R2) (fun i=>oN.length-i.1) (0,.slice none 0 0,⟨w,l0,[]⟩,q) ⟨Nat.zero_le _,hby,hq1,pk⟩ ⟨rfl,rfl,rfl,rfl,rfl,rfl,rfl,rfl,trivial⟩ .refl rfl ?_
 clear hby pk hq1 hnq q w l0
 rintro ⟨i,trv,s,q⟩ ⟨hi,hby,hq1,pk⟩
 dsimp only [playInv3] at hi hby hq1 pk ⊢
 have hqn2:q.length=nq:=by rw [hqn,← hpc,← hq1,List.length_map,List.length_map]
 have hsl:s.l.length=nq:=by rw [← pk.l,List.length_map];exact hqn2
 refine we_pure (of_has (.there .here) (vec_shape (by omega))) ?_
 rintro ⟨ra,rn,rc,rfl,hrn,_⟩
 have hrnn:=tr_len hrn
 subst hrnn
 have htr:=pk.tr
 by_cases hc:i<o.length
 ·by_cases hc2:s.tr.length<16384
  ·obtain ⟨ki,hk⟩:∃ k,o[i]?=some k:=⟨o[i],by simp [hc]⟩
   obtain ⟨k1,k2⟩:=hoi ki (List.mem_of_getElem? hk)
   obtain ⟨ob,op,rfl,hkr⟩:=hor2 i ki hk
   have hdrop:oN.drop i=(if ki<0 then none else some ki.toNat)::oN.drop (i+1):=by
    rw [List.drop_eq_getElem_cons (by omega:i<oN.length)]
    congr 1
    have:oN[i]?=some (if ki<0 then none else some ki.toNat):=by rw [hoN,List.getElem?_map,hk];rfl
    exact Option.some.inj (by rw [← this];simp)
   rw [hdrop] at hby
   by_cases hneg:ki<0
   ·rw [if_pos hneg] at hby
    have hkr':∀ {d1 d2 d3 d4 d5:HProp},Rd (d1::d2::d3::d4::d5::R2) ob (op+i) (.int .i64 ki):=fun {d1 d2 d3 d4 d5}=>.there (.there (.there (.there (.there hkr))))
    repeat (first | (apply wo_po;apply mo_indexAddr (r:=op+i);exact rfl;exact rfl;omega;omega;omega;exact trivial) | (apply wo_po;apply mo_load;exact rfl;exact hkr';exact trivial) | refine wlssT ?_ | refine we_seq ?_ | (refine wR ?_;try simp only [oS]) | refine wo_nil ?_ | refine wM ?_ | refine wA ?_ | (apply wo_no;exact rfl) | refine wK ?_ | refine wD ?_ | refine wL ?_ | refine wadd ?_ | refine wE ?_ | refine wT ?_ | refine we_skip ?_ | refine we_block ?_ | refine we_exit ?_)
    refine at_round (I:=playInv3 b6 b8 wb pb (.slice (some ⟨ob,op,none⟩) o.length oc) tv (.slice qa nq qc) pts f oN s1 x R2) (R:=fun i'=>oN.length-i'.1<oN.length-i) (i+1,_,s,q) (by simp only;omega) ⟨by simp only;omega,hby,hq1,pk⟩ ⟨rfl,rfl,rfl,rfl,rfl,rfl,rfl,rfl,trivial⟩ .refl rfl
   rw [if_neg hneg] at hby
   obtain ⟨k,rfl⟩:∃ k:Nat,ki=k:=⟨ki.toNat,by omega⟩
   rw [Int.toNat_natCast] at hby
   unfold Mach.byOrder at hby
   by_cases hkq:k<nq
   ·obtain ⟨⟨pt,t⟩,hqk⟩:∃ z,q[k]?=some z:=⟨q[k],by simp⟩
    have hlk:s.l[k]?=some t:=by rw [← pk.l,List.getElem?_map,hqk];rfl
    obtain ⟨⟨qb,qo,sp⟩,rfl⟩:∃ z,qa=some z:=by
     cases qa with
     | none=>have:nq=0:=hqa rfl;omega
     | some z=>exact ⟨z,rfl⟩
    cases hqa2 _ rfl
    have hpt:pts[k]?=some pt:=by rw [← hq1,List.getElem?_map,hqk];rfl
    have hccm:(pt.cw,pt.cs)∈cc:=by rw [← hpc];exact List.mem_map.2 ⟨pt,List.mem_of_getElem? hpt,rfl⟩
    refine we_star (thK (pt,t)::arr pb 0 [.slice ra s.tr.length rc,.slice none 0 0]::vec 3 (.slice ra s.tr.length rc) (s.tr.map trC).flatten::vec 1 (.slice (some ⟨qb,qo,none⟩) nq qc) (q.map ptrK)::all ((q.map thK).eraseIdx k)::wdC wb s.w::R2) (fun h st=>?_) ?_
    ·have s1:Star (all (q.map thK)::arr pb 0 [.slice ra s.tr.length rc,.slice none 0 0]::vec 3 (.slice ra s.tr.length rc) (s.tr.map trC).flatten::vec 1 (.slice (some ⟨qb,qo,none⟩) nq qc) (q.map ptrK)::wdC wb s.w::R2) h:=by
      refine Ent.star ?_ st
      repeat (first | exact Ent.refl | (apply Ent.take;(repeat (first | exact Has.here | apply Has.there))) | apply Ent.drop)
     have s2:=star_pick (i:=k) (c:=thK (pt,t)) (by rw [List.getElem?_map,hqk];rfl) s1
     refine Ent.star ?_ s2
     repeat (first | exact Ent.refl | (apply Ent.take;(repeat (first | exact Has.here | apply Has.there))) | apply Ent.drop)
    refine we_ex .here fun y=>we_and .here fun e1=>we_and .here fun hr=>we_open .here ?_
    obtain ⟨av,al⟩:=y
    refine we_ent (arr pt.tb 0 (thCells pt.cv t av)::vec 2 av (al.map ansV).flatten::all (al.map ansT)::arr pb 0 [.slice ra s.tr.length rc,.slice none 0 0]::vec 3 (.slice ra s.tr.length rc) (s.tr.map trC).flatten::vec 1 (.slice (some ⟨qb,qo,none⟩) nq qc) (q.map ptrK)::all ((q.map thK).eraseIdx k)::wdC wb s.w::R2) .refl ?_
    have hkr':∀ {d1 d2 d3 d4 d5 d6 d7 d8:HProp},Rd (d1::d2::d3::d4::d5::d6::d7::d8::R2) ob (op+i) (.int .i64 k):=fun {d1 d2 d3 d4 d5 d6 d7 d8}=>.there (.there (.there (.there (.there (.there (.there (.there hkr)))))))
    have hpv:Rd (arr pt.tb 0 (thCells pt.cv t av)::vec 2 av (al.map ansV).flatten::all (al.map ansT)::arr pb 0 [.slice ra s.tr.length rc,.slice none 0 0]::vec 3 (.slice ra s.tr.length rc) (s.tr.map trC).flatten::vec 1 (.slice (some ⟨qb,qo,none⟩) nq qc) (q.map ptrK)::all ((q.map thK).eraseIdx k)::wdC wb s.w::R2) qb (qo+k) (.pointer (some ⟨pt.tb,0,none⟩)):=rd_vec (.there (.there (.there (.there (.there .here))))) (by rw [List.getElem?_map,hqk];rfl)
    have hov:Rd (arr pt.tb 0 (thCells pt.cv t av)::vec 2 av (al.map ansV).flatten::all (al.map ansT)::arr pb 0 [.slice ra s.tr.length rc,.slice none 0 0]::vec 3 (.slice ra s.tr.length rc) (s.tr.map trC).flatten::vec 1 (.slice (some ⟨qb,qo,none⟩) nq qc) (q.map ptrK)::all ((q.map thK).eraseIdx k)::wdC wb s.w::R2) pt.tb 28 (.bool t.over):=Rd.row0 rfl
    cases hto:t.over with
    | true =>
     rw [hto] at hov
     rw [if_neg (by rw [may_over hlk hto];decide)] at hby
     repeat (first | (apply wo_po;apply mo_indexAddr (r:=op+i);exact rfl;exact rfl;omega;omega;omega;exact trivial) | (apply wo_po;apply mo_load;exact rfl;exact hkr';exact trivial) | (apply wo_po;apply mo_index1;exact rfl;exact rfl;omega;exact gY) | (apply wo_po;apply mo_load;exact rfl;exact hpv;exact gY) | (apply wo_po;apply mo_load;exact rfl;exact hov;exact gY) | refine wlssT ?_ | refine wlssF ?_ | refine wgeqF ?_ | refine we_seq ?_ | (refine wR ?_;try simp only [oS]) | refine wo_nil ?_ | refine wM ?_ | refine wA ?_ | refine wK ?_ | refine wJ ?_ | refine wN ?_ | refine wD ?_ | refine wL ?_ | refine wadd ?_ | refine wE ?_ | refine wT ?_ | refine we_skip ?_ | refine we_block ?_ | refine we_exit ?_)
     refine at_roundS (I:=playInv3 b6 b8 wb pb (.slice (some ⟨ob,op,none⟩) o.length oc) tv (.slice (some ⟨qb,qo,none⟩) nq qc) pts f oN s1 x R2) (R:=fun i'=>oN.length-i'.1<oN.length-i) (i+1,.slice ra s.tr.length rc,s,q) (by simp only;omega) ⟨by simp only;omega,hby,hq1,pk⟩ ⟨rfl,rfl,rfl,rfl,rfl,rfl,rfl,rfl,trivial⟩ (fun h st=>?_) rfl
     dsimp only [playInv3]
     have s1:=th_close (y:=(av,al)) e1 hr st
     have s2:Star (thK (pt,t)::all ((q.map thK).eraseIdx k)::arr pb 0 [.slice ra s.tr.length rc,.slice none 0 0]::vec 3 (.slice ra s.tr.length rc) (s.tr.map trC).flatten::vec 1 (.slice (some ⟨qb,qo,none⟩) nq qc) (q.map ptrK)::wdC wb s.w::R2) h:=by
      refine Ent.star ?_ s1
      exact (.take .here (.take (.there (.there (.there .here))) .refl))
     have s3:=star_put (M:=q.map thK) (by simp;omega) s2
     rw [set_same (by rw [List.getElem?_map,hqk];rfl)] at s3
     refine Ent.star ?_ s3
     repeat (first | exact Ent.refl | (apply Ent.take;(repeat (first | exact Has.here | apply Has.there))) | apply Ent.drop)
    | false =>
     rw [hto] at hov
     rw [if_pos (may_true hc2 hlk hto)] at hby
     cases htn:Mach.turn f s k with
     | none=>rw [htn] at hby;cases hby
     | some s' =>
     rw [htn,Option.bind_some] at hby
     obtain ⟨w',t',hop,rfl,pk',hgood,hcl,htold⟩:=turn_ok pk hf hqk hc2 hto htn
     repeat (first | (apply wo_po;apply mo_indexAddr (r:=op+i);exact rfl;exact rfl;omega;omega;omega;exact trivial) | (apply wo_po;apply mo_load;exact rfl;exact hkr';exact trivial) | (apply wo_po;apply mo_index1;exact rfl;exact rfl;omega;exact gY) | (apply wo_po;apply mo_load;exact rfl;exact hpv;exact gY) | (apply wo_po;apply mo_load;exact rfl;exact hov;exact gY) | refine wlssT ?_ | refine wlssF ?_ | refine wgeqF ?_ | refine we_seq ?_ | (refine wR ?_;try simp only [oS]) | refine wo_nil ?_ | refine wM ?_ | refine wA ?_ | refine wK ?_ | refine wJ ?_ | refine wN ?_ | refine wD ?_ | refine wL ?_ | refine wE ?_ | refine wT ?_ | refine wF ?_ | refine we_skip ?_ | refine we_block ?_)
     obtain ⟨GG,hGG⟩:∃ GG,GG=arr pb 0 [.slice ra s.tr.length rc,.slice none 0 0]::vec 3 (.slice ra s.tr.length rc) (s.tr.map trC).flatten::vec 1 (.slice (some ⟨qb,qo,none⟩) nq qc) (q.map ptrK)::all ((q.map thK).eraseIdx k)::R2:=⟨_,rfl⟩
     have hobs:Obs GG (codeC pt.cw pt.cs):=by rw [hGG];exact (hcc2.obs _ hccm).there.there.there.there
     have hptr:∀ d1 d2:HProp,Rd (d1::d2::GG) qb (qo+k) (.pointer (some ⟨pt.tb,0,none⟩)):=fun d1 d2=>by rw [hGG];exact rd_vec (.there (.there (.there (.there .here)))) (by rw [List.getElem?_map,hqk];rfl)
     have htrv:∀ d1 d2:HProp,Rd (d1::d2::GG) pb 0 (.slice ra s.tr.length rc):=fun d1 d2=>by rw [hGG];exact .there (.there (Rd.row0 rfl))
     refine we_star (thC pt.tb (pt.cw.v pt.cs.length) t::wdC wb s.w::GG) (fun h st=>?_) ?_
     ·rw [hGG]
      have s1:=th_close (y:=(av,al)) e1 hr st
      refine Ent.star ?_ s1
      exact (.take .here (.take (.there (.there (.there (.there .here)))) .refl))
     refine we_draw (List.range' 0 13) (by kernel_rfl) ?_
     repeat (first | (apply ap_pure;exact rfl;exact rfl;exact trivial;intro L;apply mo_index1;exact rfl;exact rfl;exact hkq) | (apply ap_read;exact rfl;exact rfl;exact trivial;apply mo_load;exact rfl;exact hptr _ _) | (apply ap_read;exact rfl;exact rfl;exact trivial;apply mo_load;exact rfl;exact htrv _ _) | refine aM ?_ | refine aD ?_)
     refine ap_callR rfl rfl rfl trivial rfl rfl (.cons rfl (.cons rfl .nil)) (op_tr (cw:=pt.cw) (cs:=pt.cs) (G:=GG) hop hgood (by omega) hcl htold .here .here hobs) ?_ ?_
     ·rintro v L' x' ⟨rfl,rfl,rfl⟩ p hp
      replace hp:=(List.mem_filter.1 hp).1
      simp only [List.mem_cons,List.not_mem_nil,or_false] at hp
      rcases hp with rfl | rfl | rfl | rfl | rfl | rfl | rfl <;> first | exact .inl rfl | exact .inr ⟨_,rfl,trivial,mo_load rfl (htrv _ _)⟩ | exact .inr ⟨_,rfl,trivial,mo_load rfl (hptr _ _)⟩
     rintro v L' x1 ⟨rfl,rfl,rfl⟩
     repeat (first | (apply ap_pure;exact rfl;exact rfl;exact trivial;intro L;apply mo_build (pv:=[(0,_),(1,_)]);exact rfl;exact .cons rfl (.cons rfl .nil);exact rfl))
     refine ap_loudR rfl rfl rfl rfl trivial (mo_buildSlice (sz:=3) (vs:=[.agg #[.int .i64 (k:Nat),.int .u8 (t.mark.1:Nat),.int .i64 (t.mark.2:Nat)]]) rfl (.cons rfl .nil) rfl (by intro v hv;cases (List.mem_singleton.1 hv);exact rfl) (by omega)) ?_ ?_
     ·rintro v L' ⟨sb,rfl,rfl⟩ p hp
      replace hp:=(List.mem_filter.1 hp).1
      rcases List.mem_cons.1 hp with rfl | hp
      ·exact .inl rfl
      replace hp:=(List.mem_filter.1 hp).1
      simp only [List.mem_cons,List.not_mem_nil,or_false] at hp
      rcases hp with rfl | rfl | rfl | rfl | rfl | rfl | rfl <;> first | exact .inl rfl | exact .inr ⟨_,rfl,trivial,mo_load rfl (.there (htrv _ _))⟩ | exact .inr ⟨_,rfl,trivial,mo_load rfl (.there (hptr _ _))⟩
     rintro v' L' ⟨sb,rfl,rfl⟩
     subst hGG
     refine ap_loud rfl rfl rfl rfl rfl trivial (mo_append (sz:=3) (new:=[.int .i64 (k:Nat),.int .u8 (t.mark.1:Nat),.int .i64 (t.mark.2:Nat)]) rfl rfl rfl rfl (.there (.there (.there (.there .here)))) rfl (.inr ⟨_,_,rfl,Rds.all .here⟩) (by intro v hv;simp at hv;rcases hv with rfl | rfl | rfl <;> rfl) (by simp only [sliceLen];omega)) ?_
     rintro v' L' rfl
     refine ap_know (of_has .here (vec_shape (by omega))) ?_
     rintro ⟨ua,un,uc,rfl,_⟩
     repeat (first | refine aD ?_)
     refine ap_loud rfl rfl rfl rfl rfl trivial (mo_store rfl rfl rfl (Wt.row0 (k:=0) (.there (.there (.there (.there .here)))) (Nat.succ_pos 1))) ?_
     rintro v' L' ⟨rfl,rfl⟩
     refine ap_end ?_
     repeat (first | (refine wR ?_;try simp only [oS]) | refine wo_nil ?_ | refine wM ?_ | refine wA ?_ | refine wadd ?_)
     refine at_roundS (I:=playInv3 b6 b8 wb pb (.slice (some ⟨ob,op,none⟩) o.length oc) tv (.slice (some ⟨qb,qo,none⟩) nq qc) pts f oN s1 x1 R2) (R:=fun i'=>oN.length-i'.1<oN.length-i) (i+1,.slice ua un uc,⟨w',s.l.set k t',s.tr++[(k,t.mark)]⟩,q.set k (pt,t')) (by simp only;omega) ⟨by simp only;omega,hby,by simp only [List.map_set,hq1];exact set_same hpt,pk'⟩ ⟨rfl,rfl,rfl,rfl,rfl,rfl,rfl,rfl,trivial⟩ (fun h st=>?_) rfl
     dsimp only [playInv3]
     have s1:Star (thK (pt,t')::all ((q.map thK).eraseIdx k)::arr pb 0 [.slice ua un uc,.slice none 0 0]::vec 3 (.slice ua un uc) ((s.tr.map trC).flatten++trC (k,t.mark))::vec 1 (.slice (some ⟨qb,qo,none⟩) nq qc) (q.map ptrK)::wdC wb w'::R2) h:=by
      refine Ent.star ?_ st
      exact (.take (.there (.there .here)) (.take (.there (.there (.there (.there (.there .here))))) (.take (.there (.there (.there .here))) (.take .here (.take (.there (.there .here)) (.take (.there .here) (.drop .refl)))))))
     have s2:=star_put (M:=q.map thK) (by simp;omega) s1
     rw [List.map_set,List.map_set,set_same (l:=q.map ptrK) (by rw [List.getElem?_map,hqk];rfl),show ((s.tr++[(k,t.mark)]).map trC).flatten=(s.tr.map trC).flatten++trC (k,t.mark) by simp]
     refine Ent.star ?_ s2
     repeat (first | exact Ent.refl | (apply Ent.take;(repeat (first | exact Has.here | apply Has.there))) | apply Ent.drop)
   ·rw [if_neg (by rw [may_none (List.getElem?_eq_none (by omega))];decide)] at hby
    have hkr':∀ {d1 d2 d3 d4 d5:HProp},Rd (d1::d2::d3::d4::d5::R2) ob (op+i) (.int .i64 k):=fun {d1 d2 d3 d4 d5}=>.there (.there (.there (.there (.there hkr))))
    repeat (first | (apply wo_po;apply mo_indexAddr (r:=op+i);exact rfl;exact rfl;omega;omega;omega;exact trivial) | (apply wo_po;apply mo_load;exact rfl;exact hkr';exact trivial) | refine wlssT ?_ | refine wlssF ?_ | refine wgeqT ?_ | refine we_seq ?_ | (refine wR ?_;try simp only [oS]) | refine wo_nil ?_ | refine wM ?_ | refine wA ?_ | (apply wo_no;exact rfl) | refine wK ?_ | refine wJ ?_ | refine wD ?_ | refine wL ?_ | refine wadd ?_ | refine wE ?_ | refine wT ?_ | refine we_skip ?_ | refine we_block ?_ | refine we_exit ?_)
    refine at_round (I:=playInv3 b6 b8 wb pb (.slice (some ⟨ob,op,none⟩) o.length oc) tv (.slice qa nq qc) pts f oN s1 x R2) (R:=fun i'=>oN.length-i'.1<oN.length-i) (i+1,_,s,q) (by simp only;omega) ⟨by simp only;omega,hby,hq1,pk⟩ ⟨rfl,rfl,rfl,rfl,rfl,rfl,rfl,rfl,trivial⟩ .refl rfl
  ·rw [byOrder_full (by omega)] at hby
   cases hby
   repeat (first | refine wlssT ?_ | refine wlssF ?_ | refine we_seq ?_ | (refine wR ?_;try simp only [oS]) | refine wo_nil ?_ | refine wM ?_ | refine wK ?_ | refine wD ?_ | refine wL ?_ | refine wE ?_ | refine wF ?_ | refine we_exit ?_)
   refine at_mid (I:=playMid b6 b8 wb pb (.slice oa o.length oc) tv (.slice qa nq qc) pts f s1 x R2) (_,q) ⟨hq1,pk⟩ ⟨rfl,rfl,rfl,rfl,rfl,rfl,rfl,trivial⟩ .refl rfl
 ·have:oN.drop i=[]:=List.drop_eq_nil_of_le (by omega)
  rw [this] at hby
  cases hby
  repeat (first | refine wlssF ?_ | refine we_seq ?_ | (refine wR ?_;try simp only [oS]) | refine wo_nil ?_ | refine wM ?_ | (apply wo_no;exact rfl) | refine wJ ?_ | refine wE ?_ | refine wF ?_ | refine we_exit ?_)
  refine at_mid (I:=playMid b6 b8 wb pb (.slice oa o.length oc) tv (.slice qa nq qc) pts f s1 x R2) (_,q) ⟨hq1,pk⟩ ⟨rfl,rfl,rfl,rfl,rfl,rfl,rfl,trivial⟩ .refl rfl
end
section
variable {B:Hand} [Lets B] {L F G:List HProp} {x:B.X}
set_option maxHeartbeats 8000000 in
theorem play_tr {wv lv tv:Value} {w:Mach.Wd} {st:Mach.St} {oa:Option Addr} {oc:Nat} {o:List Int} {cc:Calls} {f g:Nat}
  (hp:Mach.play f g w (o.map fun k=>if k<0 then none else some k.toNat) (cc.map (·.2))=some st) (hf:16384*(f+1)+f<1000000000) (hcc:CallsOk F cc) (ho:o.length<1000000) (hoi:∀ k∈o,-9223372036854775808≤k∧k≤9223372036854775807)
  (hor:∀ i k,o[i]?=some k→∃ b p,oa=some ⟨b,p,none⟩∧Rd F b (p+i) (.int .i64 k)) (hh:Has L (wvC wv lv w) G) (ht:Has G (vec 1 tv (cc.map cvK)) F) :
  Tr Try.prog B 31 [.agg #[wv,lv],.slice oa o.length oc,tv] L x (playR x (vec 1 tv (cc.map cvK)::wvC wv lv w::F) st):=by
 refine tr_star (wvC wv lv w::vec 1 tv (cc.map cvK)::F) (fun h s=>star_map (hh.star s) (fun _ z=>z) (fun _ z=>ht.star z)) ?_
 clear hh ht
 refine tr_pure (of_has (.there .here) (vec_shape (by omega))) ?_
 rintro ⟨ta,tn,tc,rfl,htn,_,hta,hta2⟩
 have htnn:tn=cc.length:=by simpa using htn.symm
 subst htnn
 -- the plain play,step by step
 unfold Mach.play at hp
 cases hb:Mach.begin_ f ((cc.map (·.2)).map fun c=>{ calls:=c }) with
 | none=>rw [hb] at hp;cases hp
 | some l0 =>
 rw [hb,Option.bind_some] at hp
 cases hby:Mach.byOrder f ⟨w,l0,[]⟩ (o.map fun k=>if k<0 then none else some k.toNat) with
 | none=>rw [hby] at hp;cases hp
 | some s1 =>
 rw [hby,Option.bind_some] at hp
 refine tr_of_body Try.func31 rfl Try.ntmps31 (by simp) fun um Q _ hQ=>?_
 simp only [argE,Nat.zero_add,Nat.reduceAdd]
 repeat (first | (apply wo_mo;apply mo_box;exact rfl;exact trivial) | refine we_seq ?_ | (refine wR ?_;try simp only [oS]))
 rintro v' L' ⟨b3,rfl,rfl⟩
 repeat (first | (apply wo_mo;apply mo_alloc;exact trivial))
 rintro v' L' ⟨b6,rfl,rfl⟩
 repeat (first | (apply wo_mo;apply mo_alloc;exact trivial) | refine wA ?_)
 rintro v' L' ⟨b8,rfl,rfl⟩
 refine wo_pure (of_has (.there (.there (.there .here))) wv_shape) ?_
 rintro ⟨⟨wa,wn,wc,rfl⟩,la,ln,lc,rfl⟩
 have hb3:Rds (arr b8 0 [.slice none 0 0,.slice none 0 0]::arr b6 0 [.slice none 0 0,.slice none 0 0]::arr b3 0 [.slice wa wn wc,.slice la ln lc]::wvC (.slice wa wn wc) (.slice la ln lc) w::vec 1 (.slice ta cc.length tc) (cc.map cvK)::F) b3 0 [.slice wa wn wc,.slice la ln lc]:=Rds.all (.there (.there .here))
 repeat (first | (apply wo_po;apply mo_loadA (vs:=[.slice wa wn wc,.slice la ln lc]);exact rfl;exact rfl;exact hb3;exact trivial) | refine we_seq ?_ | (refine wR ?_;try simp only [oS]) | refine wo_nil ?_)
 refine wo_call (.cons rfl .nil) trivial (copy_tr (.there (.there (.there .here)))) ?_
 rintro v L' x' ⟨wv',lv',rfl,rfl,rfl⟩
 refine wo_pure (of_has .here wv_shape) ?_
 rintro ⟨⟨wa',wn',wc',rfl⟩,la',ln',lc',rfl⟩
 repeat (first | (apply wo_mo;apply mo_alloc;exact trivial))
 rintro v' L' ⟨wb,rfl,rfl⟩
 repeat (first | (apply wo_pm;apply mo_storeA (c:=0) (k:=0) (a:=0) (vs:=[.slice none 0 0,.slice none 0 0]);exact rfl;exact rfl;exact rfl;(intro w hw;simp [Value.cells] at hw;rcases hw with rfl | rfl <;> rfl);exact rfl;exact Nat.le_refl 2;exact .here;exact trivial) | refine we_seq ?_ | (refine wR ?_;try simp only [oS]) | refine wo_nil ?_ | refine wA ?_)
 obtain ⟨R0,hR0⟩:∃ R0,R0=wvC (.slice wa wn wc) (.slice la ln lc) w::F:=⟨_,rfl⟩
 have hccR:∀ {d:HProp},CallsOk R0 cc:=fun {d}=>by rw [hR0];exact hcc.there
 refine we_block ?_
 refine we_star ((playInv1 b3 b6 b8 wb (.slice oa o.length oc) (.slice ta cc.length tc) cc x' (wdC wb w::arr b6 0 [.slice none 0 0,.slice none 0 0]::arr b8 0 [.slice none 0 0,.slice none 0 0]::R0)).L (0,.slice none 0 0,[])) (fun h st=>?_) ?_
 ·have s1:Star (arr wb 0 [.slice wa' wn' wc',.slice la' ln' lc']::wvC (.slice wa' wn' wc') (.slice la' ln' lc') w::vec 1 (.slice ta cc.length tc) (cc.map cvK)::arr b6 0 [.slice none 0 0,.slice none 0 0]::arr b8 0 [.slice none 0 0,.slice none 0 0]::R0) h:=by
   rw [hR0]
   refine Ent.star ?_ st
   repeat (first | exact Ent.refl | (apply Ent.take;(repeat (first | exact Has.here | apply Has.there))) | apply Ent.drop)
  have s2:=wd_of_wv s1
  dsimp only [playInv1]
  exact vec_nil (star_shut (M:=[]) (star_swap s2))
 refine we_loopN (playInv1 b3 b6 b8 wb (.slice oa o.length oc) (.slice ta cc.length tc) cc x' (wdC wb w::arr b6 0 [.slice none 0 0,.slice none 0 0]::arr b8 0 [.slice none 0 0,.slice none 0 0]::R0)) (fun i=>cc.length-i.1) (0,.slice none 0 0,[]) ⟨by simp,by simp,by simp⟩ ⟨rfl,rfl,rfl,rfl,rfl,rfl,rfl,trivial⟩ .refl rfl ?_
 rintro ⟨i,av,q⟩ ⟨hi,hq1,hq2⟩
 dsimp only [playInv1] at hi hq1 hq2 ⊢
 have hccn:=hcc.n
 by_cases hc:i<cc.length
 ·obtain ⟨⟨cw,cs⟩,hcs⟩:∃ z,cc[i]?=some z:=⟨cc[i],by simp [hc]⟩
  obtain ⟨⟨tb0,to0,sp⟩,rfl⟩:∃ z,ta=some z:=by
   cases ta with
   | none=>have:cc.length=0:=hta rfl;omega
   | some z=>exact ⟨z,rfl⟩
  cases hta2 _ rfl
  refine we_pure (of_has .here (vec_shape (by omega))) ?_
  rintro ⟨qa,qn,qc,rfl,hqn,_⟩
  have hqnn:qn=q.length:=by simpa using hqn.symm
  subst hqnn
  have hql:q.length=i:=by have:=congrArg List.length hq1;simpa [Nat.min_eq_left hi] using this
  have hcv:Rd (vec 1 (.slice qa q.length qc) (q.map ptrK)::all (q.map thK)::vec 1 (.slice (some ⟨tb0,to0,none⟩) cc.length tc) (cc.map cvK)::wdC wb w::arr b6 0 [.slice none 0 0,.slice none 0 0]::arr b8 0 [.slice none 0 0,.slice none 0 0]::R0) tb0 (to0+i) (cvK (cw,cs)):=rd_vec (.there (.there .here)) (by rw [List.getElem?_map,hcs];rfl)
  repeat (first | (apply wo_po;apply mo_index1;exact rfl;exact rfl;exact hc;exact trivial) | (apply wo_po;apply mo_load;exact rfl;exact hcv;exact trivial) | (apply wo_po;apply mo_build (pv:=[(0,_)]);exact rfl;exact .cons rfl .nil;exact rfl;exact trivial) | (apply wo_mo;apply mo_box;exact rfl;exact trivial) | refine wlssT ?_ | refine we_seq ?_ | (refine wR ?_;try simp only [oS]) | refine wo_nil ?_ | refine wM ?_ | refine wE ?_ | refine wT ?_ | refine we_skip ?_ | refine we_block ?_)
  rintro v' L' ⟨tb,rfl,rfl⟩
  refine wo_star (thK (⟨tb,cw,cs⟩,{ calls:=cs })::vec 1 (.slice qa q.length qc) (q.map ptrK)::all (q.map thK)::vec 1 (.slice (some ⟨tb0,to0,none⟩) cc.length tc) (cc.map cvK)::wdC wb w::arr b6 0 [.slice none 0 0,.slice none 0 0]::arr b8 0 [.slice none 0 0,.slice none 0 0]::R0) (fun h st=>new_th st) ?_
  repeat (first | (apply wo_mo;apply mo_buildSlice (sz:=1) (vs:=[.pointer (some ⟨tb,0,none⟩)]);exact rfl;exact .cons rfl .nil;exact rfl;(intro v hv;cases (List.mem_singleton.1 hv);exact rfl);omega;exact trivial))
  rintro v' L' ⟨sb,rfl,rfl⟩
  repeat (first | (apply wo_mo;apply mo_append (sz:=1) (new:=[.pointer (some ⟨tb,0,none⟩)]);exact rfl;exact rfl;exact rfl;exact rfl;exact (.there (.there .here));exact rfl;exact .inr ⟨_,_,rfl,Rds.all .here⟩;(intro v hv;cases (List.mem_singleton.1 hv);exact rfl);(simp only [sliceLen];omega);exact trivial))
  rintro v' L' rfl
  repeat (first | (refine wR ?_;try simp only [oS]) | refine wo_nil ?_ | refine wM ?_ | refine wA ?_ | refine wadd ?_)
  refine at_roundS (I:=playInv1 b3 b6 b8 wb (.slice oa o.length oc) (.slice (some ⟨tb0,to0,none⟩) cc.length tc) cc x' (wdC wb w::arr b6 0 [.slice none 0 0,.slice none 0 0]::arr b8 0 [.slice none 0 0,.slice none 0 0]::R0)) (R:=fun i'=>cc.length-i'.1<cc.length-i) (i+1,v',q++[(⟨tb,cw,cs⟩,{ calls:=cs })]) (by simp only;omega) ⟨by simp only;omega,?_,?_⟩ ⟨rfl,rfl,rfl,rfl,rfl,rfl,rfl,trivial⟩ (fun h st=>?_) rfl
  ·simp only [List.map_append,List.map_cons,List.map_nil,hq1]
   rw [List.take_add_one,hcs];rfl
  ·simp only [List.map_append,List.map_cons,List.map_nil,hq2]
   rw [List.take_add_one,hcs,List.map_append];rfl
  ·dsimp only [playInv1]
   rw [List.map_append,List.map_append]
   have s1:Star (vec 1 v' (q.map ptrK++[.pointer (some ⟨tb,0,none⟩)])::thK (⟨tb,cw,cs⟩,{ calls:=cs })::all (q.map thK)::vec 1 (.slice (some ⟨tb0,to0,none⟩) cc.length tc) (cc.map cvK)::wdC wb w::arr b6 0 [.slice none 0 0,.slice none 0 0]::arr b8 0 [.slice none 0 0,.slice none 0 0]::R0) h:=by
    refine Ent.star ?_ st
    repeat (first | exact Ent.refl | (apply Ent.take;(repeat (first | exact Has.here | apply Has.there))) | apply Ent.drop)
   exact star_map s1 (fun _ z=>z) (fun _ z=>star_push z)
 ·have hi':i=cc.length:=by omega
  subst hi'
  rw [List.take_length] at hq1 hq2
  repeat (first | refine wlssF ?_ | refine we_seq ?_ | (refine wR ?_;try simp only [oS]) | refine wo_nil ?_ | refine wM ?_ | refine wA ?_ | refine wE ?_ | refine wF ?_ | refine we_exit ?_)
  obtain ⟨pts,hpts⟩:∃ pts,pts=q.map (·.1):=⟨_,rfl⟩
  have hpc:pts.map (fun p=>(p.cw,p.cs))=cc:=by rw [hpts,List.map_map,← hq1];rfl
  have hpn:pts.length=cc.length:=by rw [← hpc,List.length_map]
  obtain ⟨hbl,hbg⟩:=begin_get hb
  rw [List.map_map] at hb hbl hbg
  have hql:q.length=cc.length:=by rw [← hpn,hpts,List.length_map]
  have hl0n:l0.length=cc.length:=by rw [hbl];simp
  refine we_pure (of_has .here (vec_shape (by omega))) ?_
  rintro ⟨qa,qn,qc,rfl,hqn,_,hqa,hqa2⟩
  have hqnn:qn=cc.length:=by rw [← hql];simpa using hqn.symm
  subst hqnn
  obtain ⟨R1,hR1⟩:∃ R1,R1=vec 1 (.slice ta cc.length tc) (cc.map cvK)::wdC wb w::arr b6 0 [.slice none 0 0,.slice none 0 0]::arr b8 0 [.slice none 0 0,.slice none 0 0]::R0:=⟨_,rfl⟩
  have hccR1:CallsOk R1 cc:=by rw [hR1,hR0];exact hcc.there.there.there.there.there
  rw [← hR1]
  refine we_block ?_
  refine we_loopN (playInv2 b6 b8 wb (.slice oa o.length oc) (.slice ta cc.length tc) (.slice qa cc.length qc) pts (cc.map fun y=>{ calls:=y.2 }) l0 x' R1) (fun i=>pts.length-i.1) (0,q) ⟨Nat.zero_le _,hpts.symm,by simpa using hq2⟩ ⟨rfl,rfl,rfl,rfl,rfl,rfl,rfl,trivial⟩ .refl rfl ?_
  clear hq1 hq2 hpts hql
  rintro ⟨i,q⟩ ⟨hi,hq1,hq2⟩
  dsimp only [playInv2] at hi hq1 hq2 ⊢
  have hql:q.length=pts.length:=by rw [← hq1,List.length_map]
  by_cases hc2:i<pts.length
  ·obtain ⟨⟨pt,t⟩,hqi⟩:∃ z,q[i]?=some z:=⟨q[i],by simp⟩
   obtain ⟨⟨qb,qo,sp⟩,rfl⟩:∃ z,qa=some z:=by
    cases qa with
    | none=>have:cc.length=0:=hqa rfl;omega
    | some z=>exact ⟨z,rfl⟩
   cases hqa2 _ rfl
   have hpti:pts[i]?=some pt:=by rw [← hq1,List.getElem?_map,hqi];rfl
   have hcci:cc[i]?=some (pt.cw,pt.cs):=by rw [← hpc,List.getElem?_map,hpti];rfl
   have hccm:=List.mem_of_getElem? hcci
   have hti:t={ calls:=pt.cs }:=by
    have h1:=congrArg (fun l=>l[i]?) hq2
    simp only [List.getElem?_map,hqi] at h1
    rw [List.getElem?_append_right (by simp;omega)] at h1
    have h2:i-(l0.take i).length=0:=by simp;omega
    rw [h2,List.getElem?_drop,Nat.add_zero,List.getElem?_map,hcci] at h1
    exact Option.some.inj h1
   subst hti
   obtain ⟨t',ht',hl0⟩:=hbg i { calls:=pt.cs } (by rw [List.getElem?_map,hcci];rfl)
   have hpv:Rd (vec 1 (.slice (some ⟨qb,qo,none⟩) cc.length qc) (q.map ptrK)::thK (pt,{ calls:=pt.cs })::all ((q.map thK).eraseIdx i)::R1) qb (qo+i) (.pointer (some ⟨pt.tb,0,none⟩)):=rd_vec .here (by rw [List.getElem?_map,hqi];rfl)
   refine we_star (vec 1 (.slice (some ⟨qb,qo,none⟩) cc.length qc) (q.map ptrK)::thK (pt,{ calls:=pt.cs })::all ((q.map thK).eraseIdx i)::R1) (fun h st=>star_map st (fun _ z=>z) (fun _ z=>star_pick (by rw [List.getElem?_map,hqi];rfl) z)) ?_
   repeat (first | (apply wo_po;apply mo_index1;exact rfl;exact rfl;omega;exact trivial) | (apply wo_po;apply mo_load;exact rfl;exact hpv;exact trivial) | refine wlssT ?_ | refine we_seq ?_ | (refine wR ?_;try simp only [oS]) | refine wo_nil ?_ | refine wM ?_ | refine wE ?_ | refine wT ?_ | refine we_skip ?_ | refine we_block ?_)
   refine wo_call (.cons rfl (.cons rfl .nil)) trivial (on_tr (cw:=pt.cw) (cs:=pt.cs) ht' (init_good (hcc.ok _ hccm) (hcc.len _ hccm)) (by omega) (.there .here) ((hccR1.obs _ hccm).there.there)) ?_
   rintro v L' x'' ⟨rfl,rfl,rfl⟩
   repeat (first | (refine wR ?_;try simp only [oS]) | refine wo_nil ?_ | refine wM ?_ | refine wA ?_ | refine wadd ?_)
   refine at_roundS (I:=playInv2 b6 b8 wb (.slice oa o.length oc) (.slice ta cc.length tc) (.slice (some ⟨qb,qo,none⟩) cc.length qc) pts (cc.map fun y=>{ calls:=y.2 }) l0 x'' R1) (R:=fun i'=>pts.length-i'.1<pts.length-i) (i+1,q.set i (pt,t')) (by simp only;omega) ⟨by simp only;omega,?_,?_⟩ ⟨rfl,rfl,rfl,rfl,rfl,rfl,rfl,trivial⟩ (fun h st=>?_) rfl
   ·simp only [List.map_set,hq1]
    exact set_same hpti
   ·simp only [List.map_set,hq2]
    exact take_set_drop hl0 (by simp;omega)
   ·dsimp only [playInv2]
    rw [List.map_set,List.map_set,set_same (l:=q.map ptrK) (by rw [List.getElem?_map,hqi];rfl)]
    have s1:Star (vec 1 (.slice (some ⟨qb,qo,none⟩) cc.length qc) (q.map ptrK)::thK (pt,t')::all ((q.map thK).eraseIdx i)::R1) h:=star_swap st
    exact star_map s1 (fun _ z=>z) (fun _ z=>star_put (by simp;omega) z)
  ·have hi2:i=pts.length:=by omega
   subst hi2
   have hq2':q.map (·.2)=l0:=by
    rw [hq2,List.take_of_length_le (by rw [hbl];simp;omega),List.drop_eq_nil_of_le (by simp;omega),List.append_nil]
   clear hq2
   repeat (first | refine wlssF ?_ | refine we_seq ?_ | (refine wR ?_;try simp only [oS]) | refine wo_nil ?_ | refine wM ?_ | refine wE ?_ | refine wF ?_ | refine we_exit ?_)
   repeat (first | (apply wo_mo;apply mo_alloc;exact trivial))
   rintro v' L' ⟨pb,rfl,rfl⟩
   refine wo_nil ?_
   have hqc:q.length=cc.length:=by omega
   have pk:PlayOk f ⟨w,l0,[]⟩ q:=by
    have hall:∀ y∈q,Good y.1.cs y.2 (16384*(f+1))∧Stands y.2:=by
     intro y hy
     obtain ⟨i,hi3⟩:=List.mem_iff_getElem?.1 hy
     have hpti:pts[i]?=some y.1:=by rw [← hq1,List.getElem?_map,hi3];rfl
     have hcci:cc[i]?=some (y.1.cw,y.1.cs):=by rw [← hpc,List.getElem?_map,hpti];rfl
     have hccm:=List.mem_of_getElem? hcci
     obtain ⟨t',ht',hl0⟩:=hbg i { calls:=y.1.cs } (by rw [List.getElem?_map,hcci];rfl)
     have:l0[i]?=some y.2:=by rw [← hq2',List.getElem?_map,hi3];rfl
     rw [this] at hl0
     cases hl0
     exact ⟨Good.onF (k:=16384*(f+1)) (f:=f) (init_good (hcc.ok _ hccm) (hcc.len _ hccm)) hf ht',onF_stands ht'⟩
    exact ⟨hq2',Nat.zero_le _,fun y hy=>(hall y hy).1,fun y hy=>(hall y hy).2⟩
   refine at_star (arr pb 0 [.slice none 0 0,.slice none 0 0]::vec 1 (.slice qa q.length qc) (q.map ptrK)::all (q.map thK)::wdC wb w::arr b6 0 [.slice none 0 0,.slice none 0 0]::arr b8 0 [.slice none 0 0,.slice none 0 0]::vec 1 (.slice ta cc.length tc) (cc.map cvK)::wvC (.slice wa wn wc) (.slice la ln lc) w::F) (fun h st=>?_) ?_
   ·rw [hR1,hR0] at st
    rw [hqc]
    refine Ent.star ?_ st
    exact (.take .here (.take .here (.take .here (.take (.there .here) (.take (.there .here) (.take (.there .here) (.take .here .refl)))))))
   refine at_sub [(1,.slice oa o.length oc),(2,.slice ta cc.length tc),(6,.pointer (some ⟨b6,0,none⟩)),(8,.pointer (some ⟨b8,0,none⟩)),(9,.pointer (some ⟨wb,0,none⟩)),(10,.slice qa q.length qc),(13,.pointer (some ⟨pb,0,none⟩))] ⟨rfl,rfl,rfl,rfl,rfl,by rw [hqc];rfl,rfl,trivial⟩ ?_
   exact play_tail (F:=vec 1 (.slice ta cc.length tc) (cc.map cvK)::wvC (.slice wa wn wc) (.slice la ln lc) w::F) (l0:=l0) (w:=w) hby hp hf hcc.there.there ho hoi (fun i k h=>by
    obtain ⟨b,p,h1,h2⟩:=hor i k h
    exact ⟨b,p,h1,.there (.there h2)⟩) hpc hq1 pk (by rw [hqc];exact hqa) hqa2 hQ
end
section
variable {B:Hand} [Lets B] {L F G:List HProp} {x:B.X}
def clC (kv dv:Value) (cl:Mach.Cl):HProp:=all [vec 7 kv (cl.code.map inC).flatten,vec 1 dv (cl.data.map num)]
end
section
section
variable {B:Hand} [Lets B] {L F G:List HProp} {x:B.X} {n k v:Nat}
def rowOf (N:Nat) (f:Nat→Nat):List Nat:=(List.range N).map f
theorem rowOf_len {N:Nat} {f:Nat→Nat}:(rowOf N f).length=N:=by simp [rowOf]
theorem rowOf_get {N i:Nat} {f:Nat→Nat} (h:i<N):(rowOf N f)[i]?=some (f i):=by simp [rowOf,h]
theorem rowOf_set {N q v:Nat} {f:Nat→Nat}:(rowOf N f).set q v=rowOf N (upd f q v):=by
 apply List.ext_getElem?
 intro i
 rw [List.getElem?_set,rowOf_len]
 by_cases h:q=i
 ·subst h
  by_cases hi:q<N
  ·rw [if_pos rfl,if_pos hi,rowOf_get hi,upd_same]
  ·rw [if_pos rfl,if_neg hi];simp [rowOf,hi]
 ·rw [if_neg h]
  by_cases hi:i<N
  ·rw [rowOf_get hi,rowOf_get hi,upd_other (fun e=>h e.symm)]
  ·simp [rowOf,hi]
theorem inC_one {l:List Mach.In}:∀ w∈(l.map inC).flatten,one w=true:=by
 intro w hw
 simp only [List.mem_flatten,List.mem_map] at hw
 obtain ⟨c,⟨i,_,rfl⟩,hw⟩:=hw
 simp only [inC,List.mem_cons,List.not_mem_nil,or_false] at hw
 rcases hw with rfl | rfl | rfl | rfl | rfl | rfl | rfl <;> rfl
theorem cl_shut {kv:Value} {cl:Mach.Cl} {cs:List Value} (hc:cs=(cl.code.map inC).flatten) (hd:cl.data=[]) {h:Hp} (s:Star (vec 7 kv cs::L) h):Star (clC kv (.slice none 0 0) cl::L) h:=by
 subst hc
 refine star_shut (M:=[_,_]) ?_
 rw [hd]
 exact star_swap (vec_nil s)
def yes (q:Bool):Nat:=if q then 1 else 0
theorem yes_tr {q:Bool}:Tr Try.prog B 38 [.bool q] L x fun v L' x'=>v=num (yes q)∧L'=L∧x'=x:=by
 cases q
 ·refine tr_of_body Try.func38 rfl Try.ntmps38 (by simp) fun um Q _ hQ=>?_
  simp only [argE,Nat.zero_add,Nat.reduceAdd]
  repeat (first | refine we_seq ?_ | (refine wR ?_;try simp only [oS]) | refine wo_nil ?_ | refine wM ?_ | refine wA ?_ | refine wF ?_ | refine we_ret ?_ | refine we_skip ?_)
  (first | refine or1 Try.func38 Try.results38 hQ rfl ?_ | refine on1 Try.func38 Try.results38 hQ rfl ?_)
  exact ⟨rfl,rfl,rfl⟩
 ·refine tr_of_body Try.func38 rfl Try.ntmps38 (by simp) fun um Q _ hQ=>?_
  simp only [argE,Nat.zero_add,Nat.reduceAdd]
  repeat (first | refine we_seq ?_ | (refine wR ?_;try simp only [oS]) | refine wo_nil ?_ | refine wM ?_ | refine wA ?_ | refine wT ?_ | refine we_ret ?_)
  (first | refine or1 Try.func38 Try.results38 hQ rfl ?_ | refine on1 Try.func38 Try.results38 hQ rfl ?_)
  exact ⟨rfl,rfl,rfl⟩
end
end
end Go.Proofs.Ytmkkanmkjfnpdaa
namespace Go.Proofs.Ytmkkanmkjfnpdaa
open Go Go.PB
attribute [local irreducible] Mo Bin Eql Tr Wo Ap Wle
section
section
variable {D:Wds} {N k:Nat} {Pv:Nat × Mach.Th→HProp} {Pm:HProp}
theorem acc_go {addr:Nat→Nat × Nat} {K:List (Nat × Nat × Value)} {A:Apart addr N K} {Z:HProp} {hPv:∀ q h,Star [Pv q] h→Pv q h} {sb says turn fin wg:Nat} {op w:Nat} {o:Int} {s:PlS} {R:PlS→Prop} {f0:Nat→Nat} (ho:((op:Nat):Int)=o) (h0:D.ok f0) (hfg:∀ i,i<N→s.f i=s.g i) (hpm:∀ h,Pm h→Pv (k,s.t) h)
  (hop:∀ f,D.ok f→∃ f' t',Mach.Op D.fu (D.W f) s.t (op,w) (D.W f') t'∧∀ n,n<s.n→R ⟨f,D.un (D.W f'),t',n⟩):(playAcc D addr N K A Z Pv hPv sb says turn fin wg k Pm).step o w s R:=by
 obtain ⟨_,_,o1,_⟩:=hop f0 h0
 refine ⟨o1.over,by rw [o1.mark];exact ho,by rw [o1.mark],hfg,hpm,fun f n hn hf=>?_⟩
 obtain ⟨f',t',o',h⟩:=hop f hf
 exact ⟨_,o'.on,h n hn⟩
theorem good_go {m:Nat × Nat} {t:Mach.Th} {f0:Nat→Nat} (h0:D.ok f0) (hop:∀ f,D.ok f→∃ f' t',Mach.Op D.fu (D.W f) t m (D.W f') t'∧D.ok f'∧GoodT D t'):GoodT D t:=by
 obtain ⟨_,_,o,_⟩:=hop f0 h0
 refine GoodT.mk o.over fun f hf=>?_
 obtain ⟨f',t',o',h1,h2⟩:=hop f hf
 exact ⟨f',t',o'.on,h1,h2⟩
end
theorem goodN_go {D:Wds} {m:Nat × Nat} {n:Nat} {t:Mach.Th} {f0:Nat→Nat} (h0:D.ok f0) (hop:∀ f,D.ok f→∃ f' t',Mach.Op D.fu (D.W f) t m (D.W f') t'∧D.ok f'∧GoodN D n t'):GoodN D (n+1) t:=by
 obtain ⟨_,_,o,_⟩:=hop f0 h0
 refine .inr ⟨o.over,fun f hf=>?_⟩
 obtain ⟨f',t',o',h1,h2⟩:=hop f hf
 exact ⟨f',t',o'.on,h1,h2⟩
theorem goodN_le {D:Wds}:∀ {n:Nat} {t:Mach.Th},GoodN D (n+1) t→GoodN D n t
 | 0,_,_=>trivial
 | n+1,t,h=>by
  rcases h with h | ⟨h1,h2⟩
  ·exact .inl h
  ·refine .inr ⟨h1,fun f hf=>?_⟩
   obtain ⟨f',t',a,b,c⟩:=h2 f hf
   exact ⟨f',t',a,b,goodN_le c⟩
end
section
structure QueueAt {B:Hand} {gv:Value} (A:Acc B gv) (r b n k:Nat):Prop where
 hn:n=2^k
 hk:k≤10
 hdr:∀ s,Rd [A.C s] r 2 (.slice (some ⟨b,0,none⟩) n n)
 a0:A.addr 0=(r,0)
 a1:A.addr 1=(r,1)
 a2:∀ i:Nat,i<2*n→A.addr (2+i)=(b,i)
section
variable {B:Hand} [Lets B] {gv:Value} {A:Acc B gv} {r b n k:Nat} {L F:List HProp}
theorem there_tr (R:QueueAt A r b n k) {s:A.S} (hh:Has L (A.C s) F) :
  Tr Try.prog B 66 [.pointer (some ⟨r,0,none⟩)] L (A.x s) fun v L' x'=>v=.bool true∧L'=L∧x'=A.x s:=by
 have hr:=Rd.of hh (R.hdr s)
 refine tr_of_body Try.func66 rfl Try.ntmps66 (by simp) fun um Q _ hQ=>?_
 simp only [argE,Nat.zero_add,Nat.reduceAdd]
 repeat (first | (apply wo_po;apply mo_load;exact rfl;exact hr;exact rfl) | refine we_seq ?_ | (refine wR ?_;try simp only [oS]) | refine wo_nil ?_ | refine wM ?_ | refine wA ?_ | refine wK ?_ | refine wN ?_ | refine wD ?_ | (apply wo_po;apply mo_bin;exact rfl;exact rfl;apply bin_ne;apply eql_ptr_nil;exact gY) | (apply wo_po;apply mo_bin;exact rfl;exact rfl;apply bin_ne;apply eql_slice_nil;exact gY) | refine we_ret ?_)
 (first | refine or1 Try.func66 Try.results66 hQ rfl ?_ | refine on1 Try.func66 Try.results66 hQ rfl ?_)
 exact ⟨rfl,rfl,rfl⟩
theorem step_tr {op:Int} {w:Nat} {s:A.S} {T:A.S→Prop} (hs:A.step op w s T) (hh:Has L (A.C s) F) :
  Tr Try.prog B 68 [gv,.int .u8 op,.int .i64 w] L (A.x s) fun v L' x'=>∃ s',T s'∧v=.tuple #[]∧L'=A.C s'::F∧x'=A.x s':=by
 rcases A.gate with ⟨rfl,hg⟩ | ⟨t,p,f,rfl,hm,he,hg⟩
 ·refine tr_of_body Try.func68 rfl Try.ntmps68 (by simp) fun um Q _ hQ=>?_
  simp only [argE,Nat.zero_add,Nat.reduceAdd]
  repeat (first | refine we_seq ?_ | (refine wR ?_;try simp only [oS]) | refine wo_nil ?_ | refine wM ?_ | (apply wo_po;apply mo_bin;exact rfl;exact rfl;apply bin_ne;apply eql_nil_nil;exact gY) | refine wF ?_ | refine we_skip ?_)
  refine at_ent _ (Ent.take hh .refl) ?_
  (first | refine or0 Try.func68 Try.results68 hQ ?_ | refine on0 Try.func68 Try.results68 hQ ?_)
  exact ⟨s,hg _ _ _ _ hs,rfl,rfl,rfl⟩
 ·refine tr_of_body Try.func68 rfl Try.ntmps68 (by simp) fun um Q _ hQ=>?_
  simp only [argE,Nat.zero_add,Nat.reduceAdd]
  repeat (first | (apply wo_po;apply mo_build (pv:=[(0,_),(1,_)]);exact rfl;exact .cons rfl (.cons rfl .nil);exact rfl;exact trivial) | refine we_seq ?_ | (refine wR ?_;try simp only [oS]) | refine wo_nil ?_ | refine wM ?_ | (apply wo_po;apply mo_bin;exact rfl;exact rfl;apply bin_ne;apply eql_iface_nil;exact gY) | refine wT ?_)
  refine wo_invoke (args:=[_]) rfl (.cons rfl .nil) trivial (hg op w s T L F hs hh) ?_
  rintro v L' x' ⟨s',h1,rfl,rfl,rfl⟩
  repeat (first | refine wo_nil ?_)
  (first | refine or0 Try.func68 Try.results68 hQ ?_ | refine on0 Try.func68 Try.results68 hQ ?_)
  exact ⟨s',h1,rfl,rfl,rfl⟩
def DrawF (A:Acc B gv) (n w whose:Nat) (Q:Option Nat→A.S→Prop) (X:A.S→Prop) (s:A.S):Prop :=
 A.step 1 w s fun s=>A.load w s fun t s=>A.step 1 (2+2*(t%n)) s fun s=>A.load (2+2*(t%n)) s fun q s =>
  if 9223372036854775808≤(q+36893488147419103232-t-whose)%18446744073709551616 then Q none s
  else if 0<(q+36893488147419103232-t-whose)%18446744073709551616 then X s
  else A.step 5 w s fun s=>A.cas w t ((t+1)%18446744073709551616) s fun c s=>if c then Q (some t) s else X s
def DrawT (A:Acc B gv) (n w whose:Nat) (s:A.S) (Q:Option Nat→A.S→Prop):Prop :=
 ∀ X:A.S→Prop,(∀ s,DrawF A n w whose Q X s→X s)→X s
theorem draw_tr (R:QueueAt A r b n k) {w whose:Nat} (hw:w=0∨w=1) (hwh:whose≤1) {s:A.S} {G:Option Nat→A.S→Prop} (hs:DrawT A n w whose s G) (hh:Has L (A.C s) F) :
  Tr Try.prog B 67 [.pointer (some ⟨r,0,none⟩),gv,.int .i64 w,.pointer (some ⟨r,w,none⟩),.int .u64 whose] L (A.x s) fun v' L' x'=>∃ q s',G q s' ∧
   (match q with
    | none=>v'=.tuple #[.int .u64 0,.int .i64 0,.bool false]
    | some t=>t<18446744073709551616∧v'=.tuple #[.int .u64 (t:Nat),.int .i64 ((t%n:Nat):Int),.bool true])∧L'=A.C s'::F∧x'=A.x s':=by
 have hle:n≤1024:=by rw [R.hn];exact pow_le R.hk
 have hpos:0<n:=by rw [R.hn];exact Nat.two_pow_pos k
 have aw:A.addr w=(r,w):=by rcases hw with rfl | rfl;exact R.a0;exact R.a1
 refine tr_of_body Try.func67 rfl Try.ntmps67 (by simp) fun um Q _ hQ=>?_
 simp only [argE,Nat.zero_add,Nat.reduceAdd]
 repeat (first | refine we_seq ?_ | (refine wR ?_;try simp only [oS]) | refine wo_nil ?_ | refine wA ?_ | refine we_label ?_ | refine we_block ?_ | refine we_scope ?_)
 refine we_lfp (DrawF A n w whose G) (fun s=>A.C s::F) A.x s hs [(0,.pointer (some ⟨r,0,none⟩)),(1,gv),(2,.int .i64 w),(3,.pointer (some ⟨r,w,none⟩)),(4,.int .u64 whose)] ⟨rfl,rfl,rfl,rfl,rfl,trivial⟩ (.take hh .refl) rfl ?_
 intro s hs
 repeat (first | refine we_seq ?_ | (refine wR ?_;try simp only [oS]) | refine wM ?_ | refine we_block ?_)
 refine wo_call (.cons rfl (.cons rfl (.cons rfl .nil))) trivial (step_tr hs .here) ?_
 rintro v1 L1 x1 ⟨s1,h1,rfl,rfl,rfl⟩
 repeat (first | refine we_seq ?_ | (refine wR ?_;try simp only [oS]) | refine wo_nil ?_ | refine wM ?_)
 refine wo_call (.cons rfl .nil) trivial (A.load_ok _ _ _ _ _ _ _ aw h1 .here) ?_
 rintro v1 L1 x1 ⟨t,s2,ht,h2,rfl,rfl,rfl⟩
 have hpow:=and_pow2 R.hn R.hk (p:=t) (by omega) (by omega)
 rw [Int.toNat_natCast] at hpow
 obtain ⟨m,hm⟩:∃ m,t%n=m:=⟨_,rfl⟩
 have hmod:m<n:=by rw [← hm];exact Nat.mod_lt _ hpos
 rw [hm] at hpow h2
 have hr:Rd (A.C s2::F) r 2 _:=Rd.of .here (R.hdr s2)
 have hw2:IntKind.i64.wrap ((2:Int)+2*(m:Int))=((2+2*m:Nat):Int):=by rw [wrap_i64 (by omega) (by omega)];omega
 repeat (first | (apply wo_po;apply mo_bin;exact rfl;exact rfl;apply bin_and;exact hpow;exact trivial) | (apply wo_po;apply mo_load;exact rfl;exact hr;exact trivial) | (apply wo_po;apply mo_bin;exact rfl;exact rfl;apply bin_mul;exact wrap_i64 (by omega) (by omega);exact trivial) | (apply wo_po;apply mo_bin;exact rfl;exact rfl;apply bin_add;exact hw2;exact trivial) | refine we_seq ?_ | (refine wR ?_;try simp only [oS]) | refine wo_nil ?_ | refine wM ?_ | refine wA ?_ | refine wN ?_ | refine wD ?_ | refine wsub ?_ | refine wE ?_ | (apply wo_po;apply mo_conv;exact rfl;(first | exact wrap_i64 (by omega) (by omega) | exact wrap_u64 (by omega) (by omega));exact gY))
 refine wo_call (.cons rfl (.cons rfl (.cons rfl .nil))) trivial (step_tr h2 .here) ?_
 rintro v1 L1 x1 ⟨s3,h3,rfl,rfl,rfl⟩
 have hr3:Rd (A.C s3::F) r 2 _:=Rd.of .here (R.hdr s3)
 repeat (first | (apply wo_po;apply mo_load;exact rfl;exact hr3;exact trivial) | (apply wo_po;apply mo_indexAddr (r:=2*m);exact rfl;exact rfl;omega;omega;omega;exact trivial) | refine we_seq ?_ | (refine wR ?_;try simp only [oS]) | refine wo_nil ?_ | refine wM ?_ | refine wN ?_ | refine wD ?_)
 refine wo_call (.cons rfl .nil) trivial (A.load_ok _ _ _ _ _ _ _ (R.a2 (2*m) (by omega)) h3 .here) ?_
 rintro v1 L1 x1 ⟨q,s4,hq,h4,rfl,rfl,rfl⟩
 have hsub1:IntKind.u64.wrap ((q:Int)-(t:Int))=(((q+18446744073709551616-t)%18446744073709551616:Nat):Int):=by rw [wrap_u64_mod];omega
 have hsub2:IntKind.u64.wrap ((((q+18446744073709551616-t)%18446744073709551616:Nat):Int)-(whose:Int))=(((q+36893488147419103232-t-whose)%18446744073709551616:Nat):Int):=by rw [wrap_u64_mod];omega
 obtain ⟨d,hd⟩:∃ d,(q+36893488147419103232-t-whose)%18446744073709551616=d:=⟨_,rfl⟩
 obtain ⟨d0,hd0⟩:∃ d,(q+18446744073709551616-t)%18446744073709551616=d:=⟨_,rfl⟩
 rw [hd0] at hsub1 hsub2
 rw [hd] at hsub2 h4
 have hd64:d<18446744073709551616:=by rw [← hd];exact Nat.mod_lt _ (by decide)
 clear hd hd0
 obtain ⟨sd,hsd⟩:∃ sd,IntKind.i64.wrap (d:Int)=sd:=⟨_,rfl⟩
 have hsd':=hsd
 rw [wrap_i64_s hd64] at hsd'
 by_cases c1:9223372036854775808≤d
 ·rw [if_pos c1] at h4
  have hneg:sd<0:=by rw [if_neg (by omega)] at hsd';omega
  clear hsd'
  repeat (first | (apply wo_po;apply mo_bin;exact rfl;exact rfl;apply bin_sub;exact hsub1;exact trivial) | (apply wo_po;apply mo_bin;exact rfl;exact rfl;apply bin_sub;exact hsub2;exact trivial) | (apply wo_po;apply mo_conv;exact rfl;exact hsd;exact trivial) | refine wlssT ?_ | refine we_seq ?_ | (refine wR ?_;try simp only [oS]) | refine wo_nil ?_ | refine wM ?_ | refine wA ?_ | refine wT ?_ | refine we_ret ?_ | refine we_block ?_)
  (first | refine or3 Try.func67 Try.results67 hQ rfl rfl rfl ?_ | refine on3 Try.func67 Try.results67 hQ rfl rfl rfl ?_)
  exact ⟨none,s4,h4,rfl,rfl,rfl⟩
 ·rw [if_neg c1] at h4
  by_cases c2:0<d
  ·rw [if_pos c2] at h4
   have hneg:0<sd:=by rw [if_pos (by omega)] at hsd';omega
   clear hsd'
   repeat (first | (apply wo_po;apply mo_bin;exact rfl;exact rfl;apply bin_sub;exact hsub1;exact trivial) | (apply wo_po;apply mo_bin;exact rfl;exact rfl;apply bin_sub;exact hsub2;exact trivial) | (apply wo_po;apply mo_conv;exact rfl;exact hsd;exact trivial) | refine wlssF ?_ | refine wgtrT ?_ | refine we_seq ?_ | (refine wR ?_;try simp only [oS]) | refine wo_nil ?_ | refine wM ?_ | refine wA ?_ | refine wT ?_ | refine wF ?_ | refine we_block ?_ | refine we_exit ?_)
   exact at_again h4 ⟨rfl,rfl,rfl,rfl,rfl,trivial⟩ .refl
  ·rw [if_neg c2] at h4
   have hneg:sd=0:=by rw [if_pos (by omega)] at hsd';omega
   clear hsd'
   repeat (first | (apply wo_po;apply mo_bin;exact rfl;exact rfl;apply bin_sub;exact hsub1;exact trivial) | (apply wo_po;apply mo_bin;exact rfl;exact rfl;apply bin_sub;exact hsub2;exact trivial) | (apply wo_po;apply mo_conv;exact rfl;exact hsd;exact trivial) | refine wlssF ?_ | refine wgtrF ?_ | refine we_seq ?_ | (refine wR ?_;try simp only [oS]) | refine wo_nil ?_ | refine wM ?_ | refine wA ?_ | refine wF ?_ | refine we_skip ?_ | refine we_block ?_)
   refine wo_call (.cons rfl (.cons rfl (.cons rfl .nil))) trivial (step_tr h4 .here) ?_
   rintro v1 L1 x1 ⟨s5,h5,rfl,rfl,rfl⟩
   have hadd:IntKind.u64.wrap ((t:Int)+1)=(((t+1)%18446744073709551616:Nat):Int):=by rw [wrap_u64_mod];omega
   repeat (first | (apply wo_po;apply mo_bin;exact rfl;exact rfl;apply bin_add;exact hadd;exact trivial) | refine we_seq ?_ | (refine wR ?_;try simp only [oS]) | refine wo_nil ?_ | refine wM ?_)
   refine wo_call (.cons rfl (.cons rfl (.cons rfl .nil))) trivial (A.cas_ok _ _ _ _ _ _ _ _ _ aw (Nat.mod_lt _ (by decide)) h5 .here) ?_
   rintro v1 L1 x1 ⟨c,s6,h6,rfl,rfl,rfl⟩
   cases c
   ·simp only [Bool.false_eq_true,if_false] at h6
    repeat (first | refine wo_nil ?_ | refine wF ?_ | refine we_skip ?_)
    exact at_again h6 ⟨rfl,rfl,rfl,rfl,rfl,trivial⟩ .refl
   ·repeat (first | refine we_seq ?_ | (refine wR ?_;try simp only [oS]) | refine wo_nil ?_ | refine wM ?_ | refine wA ?_ | refine wT ?_ | refine we_ret ?_)
    (first | refine or3 Try.func67 Try.results67 hQ rfl rfl rfl ?_ | refine on3 Try.func67 Try.results67 hQ rfl rfl rfl ?_)
    exact ⟨some t,s6,by simpa using h6,⟨ht,by rw [hm]⟩,rfl,rfl⟩
def PutT (A:Acc B gv) (n v:Nat) (s:A.S) (G:Bool→A.S→Prop):Prop :=
 DrawT A n 0 0 s fun q s=>match q with
  | none=>G false s
  | some t=>A.step 2 (3+2*(t%n)) s fun s=>A.store (3+2*(t%n)) v s fun s=>A.step 2 (2+2*(t%n)) s fun s=>A.store (2+2*(t%n)) ((t+1)%18446744073709551616) s (G true)
def TakeT (A:Acc B gv) (n:Nat) (s:A.S) (G:Option Nat→A.S→Prop):Prop :=
 DrawT A n 1 1 s fun q s=>match q with
  | none=>G none s
  | some t=>A.step 1 (3+2*(t%n)) s fun s=>A.load (3+2*(t%n)) s fun v s=>A.step 2 (2+2*(t%n)) s fun s=>A.store (2+2*(t%n)) ((t+n)%18446744073709551616) s (G (some v))
theorem put_tr (R:QueueAt A r b n k) {v:Nat} (hv:v<18446744073709551616) {s:A.S} {G:Bool→A.S→Prop} (hs:PutT A n v s G) (hh:Has L (A.C s) F) :
  Tr Try.prog B 45 [.pointer (some ⟨r,0,none⟩),gv,.int .u64 v] L (A.x s) fun v' L' x'=>∃ q s',G q s'∧v'=.tuple #[.bool q,.int .i64 0]∧L'=A.C s'::F∧x'=A.x s':=by
 have hle:n≤1024:=by rw [R.hn];exact pow_le R.hk
 have hpos:0<n:=by rw [R.hn];exact Nat.two_pow_pos k
 unfold PutT at hs
 refine tr_of_body Try.func45 rfl Try.ntmps45 (by simp) fun um Q _ hQ=>?_
 simp only [argE,Nat.zero_add,Nat.reduceAdd]
 repeat (first | refine we_seq ?_ | (refine wR ?_;try simp only [oS]) | refine wo_nil ?_ | refine wM ?_ | refine wA ?_)
 refine wo_call (.cons rfl .nil) trivial (there_tr R hh) ?_
 rintro v1 L1 x1 ⟨rfl,rfl,rfl⟩
 repeat (first | refine we_seq ?_ | (refine wR ?_;try simp only [oS]) | refine wo_nil ?_ | refine wM ?_ | refine wN ?_ | refine wD ?_ | (apply wo_po;apply mo_not;exact rfl;exact gY) | refine wF ?_ | refine we_skip ?_)
 refine wo_call (.cons rfl (.cons rfl (.cons rfl (.cons rfl (.cons rfl .nil))))) trivial (draw_tr (w:=0) (whose:=0) R (.inl rfl) (by omega) hs hh) ?_
 rintro v1 L1 x1 ⟨q,s1,h1,h2,rfl,rfl⟩
 cases q with
 | none =>
  subst h2
  repeat (first | refine we_seq ?_ | (refine wR ?_;try simp only [oS]) | refine wo_nil ?_ | refine wM ?_ | refine wA ?_ | (apply wo_po;apply mo_extract;exact rfl;exact rfl;exact gY) | (apply wo_po;apply mo_not;exact rfl;exact gY) | refine wT ?_ | refine we_ret ?_)
  (first | refine or2 Try.func45 Try.results45 hQ rfl rfl ?_ | refine on2 Try.func45 Try.results45 hQ rfl rfl ?_)
  exact ⟨false,s1,h1,rfl,rfl,rfl⟩
 | some t =>
  obtain ⟨ht,rfl⟩:=h2
  obtain ⟨m,hm⟩:∃ m,t%n=m:=⟨_,rfl⟩
  have hmod:m<n:=by rw [← hm];exact Nat.mod_lt _ hpos
  simp only at h1
  rw [hm] at h1 ⊢
  have hw2:IntKind.i64.wrap ((2:Int)+2*(m:Int))=((2+2*m:Nat):Int):=by rw [wrap_i64 (by omega) (by omega)];omega
  have hw3:IntKind.i64.wrap ((3:Int)+2*(m:Int))=((3+2*m:Nat):Int):=by rw [wrap_i64 (by omega) (by omega)];omega
  have a3:A.addr (3+2*m)=(b,2*m+1):=by rw [show 3+2*m=2+(2*m+1) by omega];exact R.a2 _ (by omega)
  repeat (first | (apply wo_po;apply mo_bin;exact rfl;exact rfl;apply bin_mul;exact wrap_i64 (by omega) (by omega);exact trivial) | (apply wo_po;apply mo_bin;exact rfl;exact rfl;apply bin_add;exact hw3;exact trivial) | refine we_seq ?_ | (refine wR ?_;try simp only [oS]) | refine wo_nil ?_ | refine wM ?_ | refine wA ?_ | (apply wo_po;apply mo_extract;exact rfl;exact rfl;exact gY) | (apply wo_po;apply mo_not;exact rfl;exact gY) | refine wF ?_ | refine we_skip ?_)
  refine wo_call (.cons rfl (.cons rfl (.cons rfl .nil))) trivial (step_tr h1 .here) ?_
  rintro v1 L1 x1 ⟨s3,h3,rfl,rfl,rfl⟩
  have hr3:Rd (A.C s3::F) r 2 _:=Rd.of .here (R.hdr s3)
  repeat (first | (apply wo_po;apply mo_load;exact rfl;exact hr3;exact trivial) | (apply wo_po;apply mo_indexAddr (r:=2*m);exact rfl;exact rfl;omega;omega;omega;exact trivial) | refine we_seq ?_ | (refine wR ?_;try simp only [oS]) | refine wo_nil ?_ | refine wM ?_ | refine wN ?_ | refine wD ?_)
  refine wo_call (.cons rfl (.cons rfl .nil)) trivial (A.store_ok _ _ _ _ _ _ _ _ a3 hv h3 .here) ?_
  rintro v1 L1 x1 ⟨s4,h4,rfl,rfl,rfl⟩
  repeat (first | (apply wo_po;apply mo_bin;exact rfl;exact rfl;apply bin_mul;exact wrap_i64 (by omega) (by omega);exact trivial) | (apply wo_po;apply mo_bin;exact rfl;exact rfl;apply bin_add;exact hw2;exact trivial) | refine we_seq ?_ | (refine wR ?_;try simp only [oS]) | refine wo_nil ?_ | refine wM ?_)
  refine wo_call (.cons rfl (.cons rfl (.cons rfl .nil))) trivial (step_tr h4 .here) ?_
  rintro v1 L1 x1 ⟨s5,h5,rfl,rfl,rfl⟩
  have hr5:Rd (A.C s5::F) r 2 _:=Rd.of .here (R.hdr s5)
  have hadd:IntKind.u64.wrap ((t:Int)+1)=(((t+1)%18446744073709551616:Nat):Int):=by rw [wrap_u64_mod];omega
  repeat (first | (apply wo_po;apply mo_load;exact rfl;exact hr5;exact trivial) | (apply wo_po;apply mo_indexAddr (r:=2*m);exact rfl;exact rfl;omega;omega;omega;exact trivial) | (apply wo_po;apply mo_bin;exact rfl;exact rfl;apply bin_add;exact hadd;exact trivial) | refine we_seq ?_ | (refine wR ?_;try simp only [oS]) | refine wo_nil ?_ | refine wM ?_ | refine wN ?_ | refine wD ?_)
  refine wo_call (.cons rfl (.cons rfl .nil)) trivial (A.store_ok _ _ _ _ _ _ _ _ (R.a2 (2*m) (by omega)) (Nat.mod_lt _ (by decide)) h5 .here) ?_
  rintro v1 L1 x1 ⟨s6,h6,rfl,rfl,rfl⟩
  repeat (first | refine we_seq ?_ | (refine wR ?_;try simp only [oS]) | refine wo_nil ?_ | refine wA ?_ | refine we_ret ?_)
  (first | refine or2 Try.func45 Try.results45 hQ rfl rfl ?_ | refine on2 Try.func45 Try.results45 hQ rfl rfl ?_)
  exact ⟨true,s6,h6,rfl,rfl,rfl⟩
theorem take_tr (R:QueueAt A r b n k) {s:A.S} {G:Option Nat→A.S→Prop} (hs:TakeT A n s G) (hh:Has L (A.C s) F) :
  Tr Try.prog B 46 [.pointer (some ⟨r,0,none⟩),gv] L (A.x s) fun v' L' x'=>∃ q s',G q s'∧q.getD 0<18446744073709551616∧v'=.tuple #[.int .u64 (q.getD 0:Nat),.bool q.isSome,.int .i64 0]∧L'=A.C s'::F∧x'=A.x s':=by
 have hle:n≤1024:=by rw [R.hn];exact pow_le R.hk
 have hpos:0<n:=by rw [R.hn];exact Nat.two_pow_pos k
 unfold TakeT at hs
 refine tr_of_body Try.func46 rfl Try.ntmps46 (by simp) fun um Q _ hQ=>?_
 simp only [argE,Nat.zero_add,Nat.reduceAdd]
 repeat (first | refine we_seq ?_ | (refine wR ?_;try simp only [oS]) | refine wo_nil ?_ | refine wM ?_ | refine wA ?_)
 refine wo_call (.cons rfl .nil) trivial (there_tr R hh) ?_
 rintro v1 L1 x1 ⟨rfl,rfl,rfl⟩
 repeat (first | refine we_seq ?_ | (refine wR ?_;try simp only [oS]) | refine wo_nil ?_ | refine wM ?_ | refine wN ?_ | refine wD ?_ | (apply wo_po;apply mo_not;exact rfl;exact gY) | refine wF ?_ | refine we_skip ?_)
 refine wo_call (.cons rfl (.cons rfl (.cons rfl (.cons rfl (.cons rfl .nil))))) trivial (draw_tr (w:=1) (whose:=1) R (.inr rfl) (by omega) hs hh) ?_
 rintro v1 L1 x1 ⟨q,s1,h1,h2,rfl,rfl⟩
 cases q with
 | none =>
  subst h2
  repeat (first | refine we_seq ?_ | (refine wR ?_;try simp only [oS]) | refine wo_nil ?_ | refine wM ?_ | refine wA ?_ | (apply wo_po;apply mo_extract;exact rfl;exact rfl;exact gY) | (apply wo_po;apply mo_not;exact rfl;exact gY) | refine wT ?_ | refine we_ret ?_)
  (first | refine or3 Try.func46 Try.results46 hQ rfl rfl rfl ?_ | refine on3 Try.func46 Try.results46 hQ rfl rfl rfl ?_)
  exact ⟨none,s1,h1,by decide,rfl,rfl,rfl⟩
 | some t =>
  obtain ⟨ht,rfl⟩:=h2
  obtain ⟨m,hm⟩:∃ m,t%n=m:=⟨_,rfl⟩
  have hmod:m<n:=by rw [← hm];exact Nat.mod_lt _ hpos
  simp only at h1
  rw [hm] at h1 ⊢
  have hw2:IntKind.i64.wrap ((2:Int)+2*(m:Int))=((2+2*m:Nat):Int):=by rw [wrap_i64 (by omega) (by omega)];omega
  have hw3:IntKind.i64.wrap ((3:Int)+2*(m:Int))=((3+2*m:Nat):Int):=by rw [wrap_i64 (by omega) (by omega)];omega
  have a3:A.addr (3+2*m)=(b,2*m+1):=by rw [show 3+2*m=2+(2*m+1) by omega];exact R.a2 _ (by omega)
  repeat (first | (apply wo_po;apply mo_bin;exact rfl;exact rfl;apply bin_mul;exact wrap_i64 (by omega) (by omega);exact trivial) | (apply wo_po;apply mo_bin;exact rfl;exact rfl;apply bin_add;exact hw3;exact trivial) | refine we_seq ?_ | (refine wR ?_;try simp only [oS]) | refine wo_nil ?_ | refine wM ?_ | refine wA ?_ | (apply wo_po;apply mo_extract;exact rfl;exact rfl;exact gY) | (apply wo_po;apply mo_not;exact rfl;exact gY) | refine wF ?_ | refine we_skip ?_)
  refine wo_call (.cons rfl (.cons rfl (.cons rfl .nil))) trivial (step_tr h1 .here) ?_
  rintro v1 L1 x1 ⟨s3,h3,rfl,rfl,rfl⟩
  have hr3:Rd (A.C s3::F) r 2 _:=Rd.of .here (R.hdr s3)
  repeat (first | (apply wo_po;apply mo_load;exact rfl;exact hr3;exact trivial) | (apply wo_po;apply mo_indexAddr (r:=2*m);exact rfl;exact rfl;omega;omega;omega;exact trivial) | refine we_seq ?_ | (refine wR ?_;try simp only [oS]) | refine wo_nil ?_ | refine wM ?_ | refine wN ?_ | refine wD ?_)
  refine wo_call (.cons rfl .nil) trivial (A.load_ok _ _ _ _ _ _ _ a3 h3 .here) ?_
  rintro v1 L1 x1 ⟨v,s4,hv,h4,rfl,rfl,rfl⟩
  repeat (first | (apply wo_po;apply mo_bin;exact rfl;exact rfl;apply bin_mul;exact wrap_i64 (by omega) (by omega);exact trivial) | (apply wo_po;apply mo_bin;exact rfl;exact rfl;apply bin_add;exact hw2;exact trivial) | refine we_seq ?_ | (refine wR ?_;try simp only [oS]) | refine wo_nil ?_ | refine wM ?_ | refine wA ?_)
  refine wo_call (.cons rfl (.cons rfl (.cons rfl .nil))) trivial (step_tr h4 .here) ?_
  rintro v1 L1 x1 ⟨s5,h5,rfl,rfl,rfl⟩
  have hr5:Rd (A.C s5::F) r 2 _:=Rd.of .here (R.hdr s5)
  have hadd:IntKind.u64.wrap ((t:Int)+(n:Int))=(((t+n)%18446744073709551616:Nat):Int):=by rw [wrap_u64_mod];omega
  repeat (first | refine we_seq ?_ | refine wo_nil ?_)
  refine we_draw [0,1,2,3,4,5,6,7,8,9,10,11,12,13,14,15] (by kernel_rfl) ?_
  repeat (first | (apply ap_read;exact rfl;exact rfl;exact trivial;apply mo_load;exact rfl;exact hr5) | (apply ap_pure;exact rfl;exact rfl;exact trivial;intro L;apply mo_indexAddr (r:=2*m);exact rfl;exact rfl;omega;omega;omega) | (apply ap_pure;exact rfl;exact rfl;exact trivial;intro L;apply mo_conv;exact rfl;exact wrap_u64 (by omega) (by omega)) | (apply ap_pure;exact rfl;exact rfl;exact trivial;intro L;apply mo_bin;exact rfl;exact rfl;apply bin_add;exact hadd) | refine aM ?_ | refine aN ?_ | refine aD ?_ | (apply ap_pure;exact rfl;exact rfl;exact gY;intro L;apply mo_len;exact rfl))
  refine ap_callv rfl rfl rfl rfl trivial rfl rfl (.cons rfl (.cons rfl .nil)) (A.store_ok _ _ _ _ _ _ _ _ (R.a2 (2*m) (by omega)) (Nat.mod_lt _ (by decide)) h5 .here) ?_
  rintro v1 L1 x1 ⟨s6,h6,rfl,rfl,rfl⟩
  refine ap_end ?_
  repeat (first | refine we_seq ?_ | (refine wR ?_;try simp only [oS]) | refine wo_nil ?_ | refine wM ?_ | refine wA ?_ | refine we_ret ?_)
  (first | refine or3 Try.func46 Try.results46 hQ rfl rfl rfl ?_ | refine on3 Try.func46 Try.results46 hQ rfl rfl rfl ?_)
  exact ⟨some v,s6,h6,hv,rfl,rfl,rfl⟩
end
end
section
structure RowAt (n:Nat) (s:Nat→Nat) (row:List Nat):Prop where
 len:row.length≤n
 put:s 0=(s 1+row.length)%18446744073709551616
 t:s 1<18446744073709551616
 full:∀ i v,row[i]?=some v→s (2+2*((s 1+i)%n))=(s 1+i+1)%18446744073709551616∧s (3+2*((s 1+i)%n))=v
 free:∀ i,row.length≤i→i<n→s (2+2*((s 1+i)%n))=(s 1+i)%18446744073709551616
theorem mod_pow {n k a:Nat} (hn:n=2^k) (hk:k≤10):a%18446744073709551616%n=a%n:=by
 refine Nat.mod_mod_of_dvd a ?_
 rw [hn,show 18446744073709551616=2^64 from rfl]
 exact Nat.pow_dvd_pow 2 (by omega)
theorem mod_inj {n a i j:Nat} (hi:i<n) (hj:j<n) (h:(a+i)%n=(a+j)%n):i=j:=by
 rcases Nat.lt_trichotomy i j with hlt | rfl | hlt
 ·have hd:=Nat.sub_mod_eq_zero_of_mod_eq h.symm
  rw [Nat.mod_eq_of_lt (by omega)] at hd
  omega
 ·rfl
 ·have hd:=Nat.sub_mod_eq_zero_of_mod_eq h
  rw [Nat.mod_eq_of_lt (by omega)] at hd
  omega
end
end Go.Proofs.Ytmkkanmkjfnpdaa
namespace Go.PB.Mach
section
def qputCode (on n w:Nat):List In:=[⟨1,on,10,9,0,0,0⟩,⟨6,0,11,0,0,0,n-1⟩,⟨12,0,12,10,11,0,0⟩,⟨14,0,12,12,0,0,1⟩,⟨1,on,13,12,0,0,2⟩,⟨9,0,13,13,10,0,0⟩,⟨21,0,13,0,0,0,w+16⟩,⟨19,0,13,9,0,0,w+9⟩,⟨18,0,0,0,0,0,w⟩,
 ⟨8,0,14,10,9,0,1⟩,⟨5,on,15,9,10,14,0⟩,⟨19,0,15,9,0,0,w⟩,⟨2,on,0,12,0,0,3⟩,⟨2,on,14,12,0,0,2⟩,⟨6,0,1,0,0,0,1⟩,⟨18,0,0,0,0,0,w+17⟩,⟨6,0,1,0,0,0,0⟩]
def qtakeCode (on n w:Nat):List In:=[⟨1,on,10,9,0,0,1⟩,⟨6,0,11,0,0,0,n-1⟩,⟨12,0,12,10,11,0,0⟩,⟨14,0,12,12,0,0,1⟩,⟨8,0,14,10,9,0,1⟩,⟨1,on,13,12,0,0,2⟩,⟨9,0,13,13,14,0,0⟩,⟨21,0,13,0,0,0,w+17⟩,⟨19,0,13,9,0,0,w+10⟩,⟨18,0,0,0,0,0,w⟩,
 ⟨5,on,15,9,10,14,1⟩,⟨19,0,15,9,0,0,w⟩,⟨1,on,0,12,0,0,3⟩,⟨8,0,14,10,9,0,n⟩,⟨2,on,14,12,0,0,2⟩,⟨6,0,1,0,0,0,1⟩,⟨18,0,0,0,0,0,w+19⟩,⟨6,0,1,0,0,0,0⟩,⟨6,0,0,0,0,0,0⟩]
theorem qmask_mod {n k:Nat} (hn:n=2^k) (p:Nat):(p &&& (n-1))=p%n:=by
 rw [hn,Nat.and_two_pow_sub_one_eq_mod]
variable {cs:List Cl} {cl:Cl} {c n v on b:Nat} {pre:List (Bool × List Nat)} {said:List Nat} {w:Wd} {t':Th} {t q d m:Nat} {l:List Nat} {r:Nat→Nat}
def HasPut (cl:Cl) (on n b:Nat):Prop:=∀ i x,(qputCode on n b)[i]?=some x→cl.code[b+i]?=some x
def qr1 (r:Nat→Nat) (n t m:Nat):Nat→Nat:=upd (upd (upd (upd r 10 t) 11 (n-1)) 12 m) 12 (2*m)
def qr5 (r:Nat→Nat) (n t m q d:Nat):Nat→Nat:=upd (upd (qr1 r n t m) 13 q) 13 d
def qr9 (r:Nat→Nat) (n t m q t1:Nat):Nat→Nat:=upd (qr5 r n t m q 0) 14 t1
def qrN (r:Nat→Nat) (n t m q d:Nat):Nat→Nat:=upd (qr5 r n t m q d) 1 0
def qrS (r:Nat→Nat) (n t m q t1:Nat):Nat→Nat:=upd (upd (qr9 r n t m q t1) 15 1) 1 1
theorem qput_0 (hc:cs[c]?=some cl) (hk:HasPut cl on n b) (h0:pre.length=c) (hw:w.words[on]?=some l) (hv:l[0]?=some t) (h9:r 9=0) (hn:n<18446744073709551616) (hm:(t &&& (n-1))%18446744073709551616=m) (hm2:2*m<18446744073709551616):Op 30 w (T cs c b r pre said) (1,0) w (T cs c (b+4) (qr1 r n t m) pre said) :=
 op_load (vb:=0) hc (hk 0 _ rfl) hw h9 rfl hv (Goes.on1 (st_set hc h0 (hk 1 _ rfl) (Nat.mod_eq_of_lt (by omega))) (Goes.on1 (st_and (vb:=t) (vc:=n-1) hc h0 (hk 2 _ rfl) hm rfl rfl) (Goes.on1 (st_left (vb:=m) hc h0 (hk 3 _ rfl) (by rw [Nat.pow_one,Nat.mul_comm];exact Nat.mod_eq_of_lt hm2) rfl) (on_stop hc h0 (hk 4 _ rfl) rfl))))
theorem qput_4F (hc:cs[c]?=some cl) (hk:HasPut cl on n b) (h0:pre.length=c) (hw:w.words[on]?=some l) (hv:l[2*m+2]?=some q) (hm:2*m+2<18446744073709551616) (hd:(q+18446744073709551616-t)%18446744073709551616=d) (hf:9223372036854775808≤d) (ho:onF 26 (T cs c (b+17) (qrN r n t m q d) pre said)=some t'):Op 30 w (T cs c (b+4) (qr1 r n t m) pre said) (1,2*m+2) w t' :=
 op_load (vb:=2*m) hc (hk 4 _ rfl) hw rfl (Nat.mod_eq_of_lt hm) hv (Goes.on1 (st_less (vb:=q) (vc:=t) hc h0 (hk 5 _ rfl) hd rfl rfl) (Goes.on1 (st_minusT (vb:=d) hc h0 (hk 6 _ rfl) hf rfl) (Goes.on1 (st_set hc h0 (hk 16 _ rfl) rfl) (onF_more (k:=1) ho))))
theorem qput_4R (hc:cs[c]?=some cl) (hk:HasPut cl on n b) (h0:pre.length=c) (hw:w.words[on]?=some l) (hv:l[2*m+2]?=some q) (h9:r 9=0) (hm:2*m+2<18446744073709551616) (hd:(q+18446744073709551616-t)%18446744073709551616=d) (hf:¬ 9223372036854775808≤d) (hne:¬ d=0):Op 30 w (T cs c (b+4) (qr1 r n t m) pre said) (1,2*m+2) w (T cs c b (qr5 r n t m q d) pre said) :=
 op_load (vb:=2*m) hc (hk 4 _ rfl) hw rfl (Nat.mod_eq_of_lt hm) hv (Goes.on1 (st_less (vb:=q) (vc:=t) hc h0 (hk 5 _ rfl) hd rfl rfl) (Goes.on1 (st_minusF (vb:=d) hc h0 (hk 6 _ rfl) hf rfl) (Goes.on1 (st_sameF (vb:=d) (vc:=0) hc h0 (hk 7 _ rfl) hne rfl h9) (Goes.on1 (goes_jump hc h0 (hk 8 _ rfl)) (on_stop hc h0 (hk 0 _ rfl) rfl)))))
theorem qput_4T {t1:Nat} (hc:cs[c]?=some cl) (hk:HasPut cl on n b) (h0:pre.length=c) (hw:w.words[on]?=some l) (hv:l[2*m+2]?=some q) (h9:r 9=0) (hm:2*m+2<18446744073709551616) (hd:(q+18446744073709551616-t)%18446744073709551616=0) (ht1:(t+1)%18446744073709551616=t1):Op 30 w (T cs c (b+4) (qr1 r n t m) pre said) (1,2*m+2) w (T cs c (b+10) (qr9 r n t m q t1) pre said) :=
 op_load (vb:=2*m) hc (hk 4 _ rfl) hw rfl (Nat.mod_eq_of_lt hm) hv (Goes.on1 (st_less (vb:=q) (vc:=t) hc h0 (hk 5 _ rfl) hd rfl rfl) (Goes.on1 (st_minusF (vb:=0) hc h0 (hk 6 _ rfl) (by decide) rfl) (Goes.on1 (st_sameT (vb:=0) (vc:=0) hc h0 (hk 7 _ rfl) rfl rfl h9) (Goes.on1 (st_plus (vb:=t) (vc:=0) hc h0 (hk 9 _ rfl) ht1 rfl h9) (on_stop hc h0 (hk 10 _ rfl) rfl)))))
theorem qput_10F {t1 u:Nat} (hc:cs[c]?=some cl) (hk:HasPut cl on n b) (h0:pre.length=c) (hw:w.words[on]?=some l) (hv:l[0]?=some u) (h9:r 9=0) (hne:¬ u=t):Op 30 w (T cs c (b+10) (qr9 r n t m q t1) pre said) (5,0) w (T cs c b (upd (qr9 r n t m q t1) 15 0) pre said) :=
 op_casF (vb:=0) (vc:=t) hc (hk 10 _ rfl) hw h9 rfl rfl hv hne (Goes.on1 (st_sameT (vb:=0) (vc:=0) hc h0 (hk 11 _ rfl) rfl rfl h9) (on_stop hc h0 (hk 0 _ rfl) rfl))
theorem qput_10T {t1:Nat} {ws:List (List Nat)} (hc:cs[c]?=some cl) (hk:HasPut cl on n b) (h0:pre.length=c) (hw:w.words[on]?=some l) (hv:l[0]?=some t) (h9:r 9=0) (hws:w.words.set on (l.set 0 t1)=ws):Op 30 w (T cs c (b+10) (qr9 r n t m q t1) pre said) (5,0) ⟨ws,w.nl⟩ (T cs c (b+12) (upd (qr9 r n t m q t1) 15 1) pre said) :=
 op_casT (vb:=0) (vd:=t1) hc (hk 10 _ rfl) hw h9 rfl rfl rfl hv hws (Goes.on1 (st_sameF (vb:=1) (vc:=0) hc h0 (hk 11 _ rfl) (by decide) rfl h9) (on_stop hc h0 (hk 12 _ rfl) rfl))
theorem qput_12 {t1:Nat} {ws:List (List Nat)} (hc:cs[c]?=some cl) (hk:HasPut cl on n b) (h0:pre.length=c) (hw:w.words[on]?=some l) (hv0:r 0=v) (hm:2*m+3<18446744073709551616) (hlt:2*m+3<l.length) (hws:w.words.set on (l.set (2*m+3) v)=ws):Op 30 w (T cs c (b+12) (upd (qr9 r n t m q t1) 15 1) pre said) (2,2*m+3) ⟨ws,w.nl⟩ (T cs c (b+13) (upd (qr9 r n t m q t1) 15 1) pre said) :=
 op_store (vb:=2*m) hc (hk 12 _ rfl) hw rfl (Nat.mod_eq_of_lt hm) hv0 hlt hws (on_stop hc h0 (hk 13 _ rfl) rfl)
theorem qput_13 {t1:Nat} {ws:List (List Nat)} (hc:cs[c]?=some cl) (hk:HasPut cl on n b) (h0:pre.length=c) (hw:w.words[on]?=some l) (hm:2*m+2<18446744073709551616) (hlt:2*m+2<l.length) (hws:w.words.set on (l.set (2*m+2) t1)=ws) (ho:onF 26 (T cs c (b+17) (qrS r n t m q t1) pre said)=some t'):Op 30 w (T cs c (b+13) (upd (qr9 r n t m q t1) 15 1) pre said) (2,2*m+2) ⟨ws,w.nl⟩ t' :=
 op_store (vb:=2*m) (v:=t1) hc (hk 13 _ rfl) hw rfl (Nat.mod_eq_of_lt hm) rfl hlt hws (Goes.on1 (st_set hc h0 (hk 14 _ rfl) rfl) (Goes.on1 (goes_jump hc h0 (hk 15 _ rfl)) (onF_more (k:=2) ho)))
def HasTake (cl:Cl) (on n b:Nat):Prop:=∀ i x,(qtakeCode on n b)[i]?=some x→cl.code[b+i]?=some x
def tr0 (r:Nat→Nat) (n t m t1:Nat):Nat→Nat:=upd (qr1 r n t m) 14 t1
def tr5 (r:Nat→Nat) (n t m t1 q d:Nat):Nat→Nat:=upd (upd (tr0 r n t m t1) 13 q) 13 d
def trN (r:Nat→Nat) (n t m t1 q d:Nat):Nat→Nat:=upd (upd (tr5 r n t m t1 q d) 1 0) 0 0
def tr12 (r:Nat→Nat) (n t m t1 q v tn:Nat):Nat→Nat:=upd (upd (upd (tr5 r n t m t1 q 0) 15 1) 0 v) 14 tn
def trS (r:Nat→Nat) (n t m t1 q v tn:Nat):Nat→Nat:=upd (tr12 r n t m t1 q v tn) 1 1
theorem qtake_0 {t1:Nat} (hc:cs[c]?=some cl) (hk:HasTake cl on n b) (h0:pre.length=c) (hw:w.words[on]?=some l) (hv:l[1]?=some t) (h9:r 9=0) (hn:n<18446744073709551616) (hm:(t &&& (n-1))%18446744073709551616=m) (hm2:2*m<18446744073709551616) (ht1:(t+1)%18446744073709551616=t1):Op 30 w (T cs c b r pre said) (1,1) w (T cs c (b+5) (tr0 r n t m t1) pre said) :=
 op_load (vb:=0) hc (hk 0 _ rfl) hw h9 rfl hv (Goes.on1 (st_set hc h0 (hk 1 _ rfl) (Nat.mod_eq_of_lt (by omega))) (Goes.on1 (st_and (vb:=t) (vc:=n-1) hc h0 (hk 2 _ rfl) hm rfl rfl) (Goes.on1 (st_left (vb:=m) hc h0 (hk 3 _ rfl) (by rw [Nat.pow_one,Nat.mul_comm];exact Nat.mod_eq_of_lt hm2) rfl) (Goes.on1 (st_plus (vb:=t) (vc:=0) hc h0 (hk 4 _ rfl) ht1 rfl h9) (on_stop hc h0 (hk 5 _ rfl) rfl)))))
theorem qtake_5F {t1:Nat} (hc:cs[c]?=some cl) (hk:HasTake cl on n b) (h0:pre.length=c) (hw:w.words[on]?=some l) (hv:l[2*m+2]?=some q) (hm:2*m+2<18446744073709551616) (hd:(q+18446744073709551616-t1)%18446744073709551616=d) (hf:9223372036854775808≤d) (ho:onF 26 (T cs c (b+19) (trN r n t m t1 q d) pre said)=some t'):Op 30 w (T cs c (b+5) (tr0 r n t m t1) pre said) (1,2*m+2) w t' :=
 op_load (vb:=2*m) hc (hk 5 _ rfl) hw rfl (Nat.mod_eq_of_lt hm) hv (Goes.on1 (st_less (vb:=q) (vc:=t1) hc h0 (hk 6 _ rfl) hd rfl rfl) (Goes.on1 (st_minusT (vb:=d) hc h0 (hk 7 _ rfl) hf rfl) (Goes.on1 (st_set hc h0 (hk 17 _ rfl) rfl) (Goes.on1 (st_set hc h0 (hk 18 _ rfl) rfl) ho))))
theorem qtake_5R {t1:Nat} (hc:cs[c]?=some cl) (hk:HasTake cl on n b) (h0:pre.length=c) (hw:w.words[on]?=some l) (hv:l[2*m+2]?=some q) (h9:r 9=0) (hm:2*m+2<18446744073709551616) (hd:(q+18446744073709551616-t1)%18446744073709551616=d) (hf:¬ 9223372036854775808≤d) (hne:¬ d=0):Op 30 w (T cs c (b+5) (tr0 r n t m t1) pre said) (1,2*m+2) w (T cs c b (tr5 r n t m t1 q d) pre said) :=
 op_load (vb:=2*m) hc (hk 5 _ rfl) hw rfl (Nat.mod_eq_of_lt hm) hv (Goes.on1 (st_less (vb:=q) (vc:=t1) hc h0 (hk 6 _ rfl) hd rfl rfl) (Goes.on1 (st_minusF (vb:=d) hc h0 (hk 7 _ rfl) hf rfl) (Goes.on1 (st_sameF (vb:=d) (vc:=0) hc h0 (hk 8 _ rfl) hne rfl h9) (Goes.on1 (goes_jump hc h0 (hk 9 _ rfl)) (on_stop hc h0 (hk 0 _ rfl) rfl)))))
theorem qtake_5T {t1:Nat} (hc:cs[c]?=some cl) (hk:HasTake cl on n b) (h0:pre.length=c) (hw:w.words[on]?=some l) (hv:l[2*m+2]?=some q) (h9:r 9=0) (hm:2*m+2<18446744073709551616) (hd:(q+18446744073709551616-t1)%18446744073709551616=0):Op 30 w (T cs c (b+5) (tr0 r n t m t1) pre said) (1,2*m+2) w (T cs c (b+10) (tr5 r n t m t1 q 0) pre said) :=
 op_load (vb:=2*m) hc (hk 5 _ rfl) hw rfl (Nat.mod_eq_of_lt hm) hv (Goes.on1 (st_less (vb:=q) (vc:=t1) hc h0 (hk 6 _ rfl) hd rfl rfl) (Goes.on1 (st_minusF (vb:=0) hc h0 (hk 7 _ rfl) (by decide) rfl) (Goes.on1 (st_sameT (vb:=0) (vc:=0) hc h0 (hk 8 _ rfl) rfl rfl h9) (on_stop hc h0 (hk 10 _ rfl) rfl))))
theorem qtake_10F {t1 u:Nat} (hc:cs[c]?=some cl) (hk:HasTake cl on n b) (h0:pre.length=c) (hw:w.words[on]?=some l) (hv:l[1]?=some u) (h9:r 9=0) (hne:¬ u=t):Op 30 w (T cs c (b+10) (tr5 r n t m t1 q 0) pre said) (5,1) w (T cs c b (upd (tr5 r n t m t1 q 0) 15 0) pre said) :=
 op_casF (vb:=0) (vc:=t) hc (hk 10 _ rfl) hw h9 rfl rfl hv hne (Goes.on1 (st_sameT (vb:=0) (vc:=0) hc h0 (hk 11 _ rfl) rfl rfl h9) (on_stop hc h0 (hk 0 _ rfl) rfl))
theorem qtake_10T {t1:Nat} {ws:List (List Nat)} (hc:cs[c]?=some cl) (hk:HasTake cl on n b) (h0:pre.length=c) (hw:w.words[on]?=some l) (hv:l[1]?=some t) (h9:r 9=0) (hws:w.words.set on (l.set 1 t1)=ws):Op 30 w (T cs c (b+10) (tr5 r n t m t1 q 0) pre said) (5,1) ⟨ws,w.nl⟩ (T cs c (b+12) (upd (tr5 r n t m t1 q 0) 15 1) pre said) :=
 op_casT (vb:=0) (vd:=t1) hc (hk 10 _ rfl) hw h9 rfl rfl rfl hv hws (Goes.on1 (st_sameF (vb:=1) (vc:=0) hc h0 (hk 11 _ rfl) (by decide) rfl h9) (on_stop hc h0 (hk 12 _ rfl) rfl))
theorem qtake_12 {t1 tn:Nat} (hc:cs[c]?=some cl) (hk:HasTake cl on n b) (h0:pre.length=c) (hw:w.words[on]?=some l) (hv:l[2*m+3]?=some v) (h9:r 9=0) (hm:2*m+3<18446744073709551616) (htn:(t+n)%18446744073709551616=tn):Op 30 w (T cs c (b+12) (upd (tr5 r n t m t1 q 0) 15 1) pre said) (1,2*m+3) w (T cs c (b+14) (tr12 r n t m t1 q v tn) pre said) :=
 op_load (vb:=2*m) hc (hk 12 _ rfl) hw rfl (Nat.mod_eq_of_lt hm) hv (Goes.on1 (st_plus (vb:=t) (vc:=0) hc h0 (hk 13 _ rfl) htn rfl h9) (on_stop hc h0 (hk 14 _ rfl) rfl))
theorem qtake_14 {t1 tn:Nat} {ws:List (List Nat)} (hc:cs[c]?=some cl) (hk:HasTake cl on n b) (h0:pre.length=c) (hw:w.words[on]?=some l) (hm:2*m+2<18446744073709551616) (hlt:2*m+2<l.length) (hws:w.words.set on (l.set (2*m+2) tn)=ws) (ho:onF 28 (T cs c (b+19) (trS r n t m t1 q v tn) pre said)=some t'):Op 30 w (T cs c (b+14) (tr12 r n t m t1 q v tn) pre said) (2,2*m+2) ⟨ws,w.nl⟩ t' :=
 op_store (vb:=2*m) (v:=tn) hc (hk 14 _ rfl) hw rfl (Nat.mod_eq_of_lt hm) rfl hlt hws (Goes.on1 (st_set hc h0 (hk 15 _ rfl) rfl) (Goes.on1 (goes_jump hc h0 (hk 16 _ rfl)) ho))
end
end Go.PB.Mach
namespace Go.Proofs.Ytmkkanmkjfnpdaa
open Go Go.PB
attribute [local irreducible] Mo Bin Eql Tr Wo Ap
section
section
variable {n k:Nat}
theorem put_plain (hn:n=2^k) (hk0:1≤k) (hk:k≤10) {v:Nat} {s:Nat→Nat} {row:List Nat} (R:RowAt n s row) :
  if row.length<n then (s (2+2*(s 0%n))+18446744073709551616-s 0)%18446744073709551616=0∧RowAt n (upd (upd (upd s 0 ((s 0+1)%18446744073709551616)) (3+2*(s 0%n)) v) (2+2*(s 0%n)) ((s 0+1)%18446744073709551616)) (row++[v])
  else 9223372036854775808≤(s (2+2*(s 0%n))+18446744073709551616-s 0)%18446744073709551616:=by
 have hle:n≤1024:=by rw [hn];exact pow_le hk
 have hpos:2≤n:=by have:=Nat.pow_le_pow_right (n:=2) (by omega) hk0;omega
 obtain ⟨h1,h2,h3,h4,h5⟩:=R
 have hm:s 0%n=(s 1+row.length)%n:=by rw [h2,mod_pow hn hk]
 have hmod:s 0%n<n:=Nat.mod_lt _ (by omega)
 by_cases hf:row.length<n
 ·have hq:=h5 row.length (Nat.le_refl _) hf
  rw [← hm,← h2] at hq
  rw [hq,if_pos hf]
  refine ⟨by omega,?_⟩
  obtain ⟨m,hme⟩:∃ m,s 0%n=m:=⟨_,rfl⟩
  rw [hme] at hm hmod ⊢
  have e0:∀ y z,upd (upd (upd s 0 ((s 0+1)%18446744073709551616)) (3+2*m) y) (2+2*m) z 0=(s 0+1)%18446744073709551616:=fun y z=>by rw [upd_other (by omega),upd_other (by omega),upd_same]
  have e1:∀ y z,upd (upd (upd s 0 ((s 0+1)%18446744073709551616)) (3+2*m) y) (2+2*m) z 1=s 1:=fun y z=>by rw [upd_other (by omega),upd_other (by omega),upd_other (by omega)]
  refine ⟨by simp;omega,?_,?_,?_,?_⟩
  ·rw [e0,e1]
   simp only [List.length_append,List.length_cons,List.length_nil]
   omega
  ·rw [e1];exact h3
  ·intro i u hi
   rw [e1]
   by_cases e:i=row.length
   ·subst e
    rw [← hm]
    have hu:v=u:=by simpa using hi
    refine ⟨by rw [upd_same];omega,?_⟩
    rw [upd_other (by omega),upd_same,hu]
   ·have hi':i<row.length:=by
     have:=(List.getElem?_eq_some_iff.1 hi).1
     simp at this;omega
    rw [List.getElem?_append_left hi'] at hi
    have hne:(s 1+i)%n≠m:=fun hx=>by
     have:=mod_inj (by omega) hf (hx.trans hm)
     omega
    rw [upd_other (by omega),upd_other (by omega),upd_other (by omega),upd_other (by omega),upd_other (by omega),upd_other (by omega)]
    exact h4 i u hi
  ·intro i hi hin
   simp only [List.length_append,List.length_cons,List.length_nil] at hi
   rw [e1]
   have hne:(s 1+i)%n≠m:=fun hx=>by
    have:=mod_inj hin hf (hx.trans hm)
    omega
   rw [upd_other (by omega),upd_other (by omega),upd_other (by omega)]
   exact h5 i (by omega) hin
 ·rw [if_neg hf]
  have hlen:row.length=n:=by omega
  obtain ⟨v0,hv0⟩:∃ v,row[0]?=some v:=⟨row[0]'(by omega),by simp⟩
  have hq:=(h4 0 v0 hv0).1
  rw [Nat.add_zero] at hq
  have hm':s 0%n=s 1%n:=by rw [hm,hlen,Nat.add_mod_right]
  rw [hm',hq,h2,hlen]
  omega
theorem take_plain (hn:n=2^k) (hk0:1≤k) (hk:k≤10) {s:Nat→Nat} {row:List Nat} (R:RowAt n s row) :
  match row with
  | []=>9223372036854775808≤(s (2+2*(s 1%n))+18446744073709551616-(s 1+1)%18446744073709551616)%18446744073709551616
  | v::row=>(s (2+2*(s 1%n))+18446744073709551616-(s 1+1)%18446744073709551616)%18446744073709551616=0∧s (3+2*(s 1%n))=v∧RowAt n (upd (upd s 1 ((s 1+1)%18446744073709551616)) (2+2*(s 1%n)) ((s 1+n)%18446744073709551616)) row:=by
 have hle:n≤1024:=by rw [hn];exact pow_le hk
 have hpos:2≤n:=by have:=Nat.pow_le_pow_right (n:=2) (by omega) hk0;omega
 obtain ⟨h1,h2,h3,h4,h5⟩:=R
 have hmod:s 1%n<n:=Nat.mod_lt _ (by omega)
 cases row with
 | nil =>
  have hq:=h5 0 (by simp) (by omega)
  rw [Nat.add_zero] at hq
  show 9223372036854775808≤(s (2+2*(s 1%n))+18446744073709551616-(s 1+1)%18446744073709551616)%18446744073709551616
  rw [hq];omega
 | cons v row =>
  simp only [List.length_cons] at h1 h2
  have hq:=h4 0 v rfl
  rw [Nat.add_zero] at hq
  show (s (2+2*(s 1%n))+18446744073709551616-(s 1+1)%18446744073709551616)%18446744073709551616=0∧_
  rw [hq.1]
  refine ⟨by omega,hq.2,?_⟩
  obtain ⟨m,hme⟩:∃ m,s 1%n=m:=⟨_,rfl⟩
  rw [hme] at hq hmod ⊢
  have e0:∀ z,upd (upd s 1 ((s 1+1)%18446744073709551616)) (2+2*m) z 0=s 0:=fun z=>by rw [upd_other (by omega),upd_other (by omega)]
  have e1:∀ z,upd (upd s 1 ((s 1+1)%18446744073709551616)) (2+2*m) z 1=(s 1+1)%18446744073709551616:=fun z=>by rw [upd_other (by omega),upd_same]
  have em:∀ i,((s 1+1)%18446744073709551616+i)%n=(s 1+(i+1))%n:=fun i=>by
   rw [← mod_pow (a:=s 1+(i+1)) hn hk,← mod_pow (a:=(s 1+1)%18446744073709551616+i) hn hk]
   congr 1
   omega
  refine ⟨by omega,?_,?_,?_,?_⟩
  ·rw [e0,e1];omega
  ·rw [e1];exact Nat.mod_lt _ (by decide)
  ·intro i u hi
   rw [e1,em]
   have hi':=(List.getElem?_eq_some_iff.1 hi).1
   have hne:(s 1+(i+1))%n≠m:=fun hx=>by
    have:=mod_inj (i:=i+1) (j:=0) (by omega) (by omega) (hx.trans (by rw [Nat.add_zero];exact hme.symm))
    omega
   rw [upd_other (by omega),upd_other (by omega),upd_other (by omega),upd_other (by omega)]
   have:=h4 (i+1) u hi
   exact ⟨by rw [this.1];omega,this.2⟩
  ·intro i hi hin
   rw [e1,em]
   by_cases e:i+1=n
   ·rw [show (s 1+(i+1))%n=m by rw [e,Nat.add_mod_right,hme],upd_same]
    omega
   ·have hne:(s 1+(i+1))%n≠m:=fun hx=>by
     have:=mod_inj (i:=i+1) (j:=0) (by omega) (by omega) (hx.trans (by rw [Nat.add_zero];exact hme.symm))
     omega
    rw [upd_other (by omega),upd_other (by omega),h5 (i+1) (by simp;omega) (by omega)]
    omega
end
end
end Go.Proofs.Ytmkkanmkjfnpdaa
namespace Go.Proofs.Ytmkkanmkjfnpdaa
open Go Go.PB
attribute [local irreducible] Mo Bin Eql Tr Wo Ap Wle
section
structure WdAt (W:(Nat→Nat)→Mach.Wd) (on n:Nat):Prop where
 get:∀ f,(W f).words[on]?=some (rowOf (2*n+2) f)
 set:∀ f q v,q<2*n+2→(⟨(W f).words.set on ((rowOf (2*n+2) f).set q v),(W f).nl⟩:Mach.Wd)=W (upd f q v)
section
variable {B:Hand} [Lets B] {x:B.X} {n k nb N on:Nat} {addr:Nat→Nat × Nat} {K:List (Nat × Nat × Value)} {ap:Apart addr N K} {W:(Nat→Nat)→Mach.Wd}
variable {w whose:Nat} {f:Nat→Nat} {tr:List (Int × Nat)} {G:Option Nat→(Nat→Nat) × List (Int × Nat)→Prop} {t m q t1:Nat}
theorem to_W {q v g:Nat} {w:Mach.Wd} {t t':Mach.Th} {mk:Nat × Nat} (HW:WdAt W on n) (hq:q<2*n+2) (o:Mach.Op g w t mk ⟨(W f).words.set on ((rowOf (2*n+2) f).set q v),(W f).nl⟩ t'):Mach.Op g w t mk (W (upd f q v)) t':=by
 rw [← HW.set f q v hq];exact o
end
end
section
section
variable {B:Hand} [Lets B] {L F:List HProp} {x:B.X}
def seqs (j:Nat) (w:Nat):Nat:=if 2≤w∧w%2=0∧(w-2)/2<j then (w-2)/2 else 0
def newInv (x:B.X) (r b n:Nat) (L:List HProp):Inv (Nat × (Nat→Nat)) B.X where
 e:=fun i=>[(4,.pointer (some ⟨r,0,none⟩)),(27,.int .i64 n),(28,.int .i64 i.1),(3,.int .i64 0)]
 L:=fun i=>wds (twoAddr r b) (2*n+2) [(r,2,.slice (some ⟨b,0,none⟩) n n)] i.2::L
 x:=fun _=>x
 ok:=fun i=>i.1≤n∧i.2=seqs i.1
theorem new_tr {n k:Nat} (hn:n=2^k) (hk0:1≤k) (hk:k≤10) :
  Tr Try.prog B 35 [.int .i64 n] L x fun v L' x'=>∃ r b,v=.tuple #[.pointer (some ⟨r,0,none⟩),.int .i64 0]∧r≠b∧L'=wds (twoAddr r b) (2*n+2) [(r,2,.slice (some ⟨b,0,none⟩) n n)] (seqs n)::L∧x'=x:=by
 have hle:n≤1024:=by rw [hn];exact pow_le hk
 have hpos:2≤n:=by have:=Nat.pow_le_pow_right (n:=2) (by omega) hk0;omega
 have hand:IntKind.i64.wrap (BitVec.ofInt IntKind.i64.bits (n:Int) &&& BitVec.ofInt IntKind.i64.bits ((n:Int)-1)).toNat=0:=by
  have e1:((n:Int)-1)=((n-1:Nat):Int):=by omega
  have key:∀ k∈List.range 11,(2^k) &&& (2^k-1)=0:=by decide +kernel
  rw [e1,and_i64 (by omega) (by omega),hn,key k (by simp;omega)];rfl
 refine tr_of_body Try.func35 rfl Try.ntmps35 (by simp) fun um Q _ hQ=>?_
 simp only [argE,Nat.zero_add,Nat.reduceAdd]
 repeat (first | (apply wo_po;apply mo_bin;exact rfl;exact rfl;apply bin_and;exact hand;exact gY) | (apply wo_mo;apply mo_make;exact rfl;exact rfl;exact rfl;omega;omega;exact trivial) | refine wlssF ?_ | refine wgtrF ?_ | refine wneqF ?_ | refine we_seq ?_ | (refine wR ?_;try simp only [oS]) | refine wo_nil ?_ | refine wM ?_ | refine wA ?_ | refine wJ ?_ | refine wsub ?_ | refine wF ?_ | refine we_skip ?_)
 rintro v' L' ⟨b,rfl,rfl⟩
 repeat (first | (apply wo_po;apply mo_build (pv:=[(2,_)]);exact rfl;exact .cons rfl .nil;exact rfl;exact trivial) | (apply wo_mo;apply mo_box;exact rfl;exact trivial))
 rintro v' L' ⟨r,rfl,rfl⟩
 refine wo_ent (arr r 0 [.int .u64 0,.int .u64 0,.slice (some ⟨b,0,none⟩) n n]::arr b 0 (zeros n [.int .u64 0,.int .u64 0])::L) .refl ?_
 refine wo_pure (p:=r≠b) (fun h st=>?_) fun hne=>?_
 ·obtain ⟨n',rfl⟩:∃ n',n=n'+1:=⟨n-1,by omega⟩
  exact star_ne (ws:=.int .u64 0::zeros n' [.int .u64 0,.int .u64 0]) st
 refine wo_star (wds (twoAddr r b) (2*n+2) [(r,2,.slice (some ⟨b,0,none⟩) n n)] (fun _=>0)::L) (fun h st=>two_wds (fun i hi=>zeros_two hi) st) ?_
 have hhdr:∀ s:Nat→Nat,Rd (wds (twoAddr r b) (2*n+2) [(r,2,.slice (some ⟨b,0,none⟩) n n)] s::L) r 2 (.slice (some ⟨b,0,none⟩) n n):=fun s=>Rd.of .here fun h hs=>by
  obtain ⟨h1,h2,s1,hc,_⟩:=hs
  exact ⟨rfl,.inl (s1.o1 _ _ _ (hc.2 (r,2,.slice (some ⟨b,0,none⟩) n n) (List.mem_singleton.2 rfl)))⟩
 repeat (first | (apply wo_po;apply mo_load;exact rfl;exact hhdr _;exact trivial) | refine we_seq ?_ | (refine wR ?_;try simp only [oS]) | refine wo_nil ?_ | refine wM ?_ | refine wA ?_ | refine wN ?_ | refine wD ?_ | refine wE ?_ | refine we_block ?_)
 refine we_loopN (newInv x r b n L) (fun i=>n-i.1) (0,fun _=>0) ⟨by simp,by funext w;simp [seqs]⟩ ⟨rfl,rfl,rfl,rfl,trivial⟩ .refl rfl ?_
 rintro ⟨j,s⟩ ⟨hj,hs⟩
 dsimp only [newInv] at hj hs ⊢
 subst hs
 by_cases hc:j<n
 ·repeat (first | (apply wo_po;apply mo_load;exact rfl;exact hhdr _;exact trivial) | (apply wo_po;apply mo_indexAddr (r:=2*j);exact rfl;exact rfl;omega;omega;omega;exact trivial) | refine wlssT ?_ | refine we_seq ?_ | (refine wR ?_;try simp only [oS]) | refine wo_nil ?_ | refine wM ?_ | refine wA ?_ | refine wN ?_ | refine wD ?_ | (apply wo_po;apply mo_conv;exact rfl;(first | exact wrap_i64 (by omega) (by omega) | exact wrap_u64 (by omega) (by omega));exact gY) | refine wT ?_ | refine we_skip ?_ | refine we_block ?_)
  refine wo_call (.cons rfl (.cons rfl .nil)) trivial (store_lone (wt_wds (two_apart hne _) .here (w:=2+2*j) (by omega) (by rw [Nat.add_comm];rfl) (n:=j) (by omega))) ?_
  rintro v L' x' ⟨rfl,rfl,rfl⟩
  repeat (first | (refine wR ?_;try simp only [oS]) | refine wo_nil ?_ | refine wM ?_ | refine wadd ?_)
  refine at_round (I:=newInv x' r b n L) (R:=fun i'=>n-i'.1<n-j) (j+1,upd (seqs j) (2+2*j) j) (by simp;omega) ⟨by simp;omega,?_⟩ ⟨rfl,rfl,rfl,rfl,trivial⟩ .refl rfl
  funext w
  simp only [upd,seqs]
  split <;> split <;> (try split) <;> omega
 ·obtain rfl:j=n:=by omega
  repeat (first | refine wlssF ?_ | refine we_seq ?_ | (refine wR ?_;try simp only [oS]) | refine wo_nil ?_ | refine wM ?_ | refine wA ?_ | refine wF ?_ | refine we_ret ?_ | refine we_exit ?_)
  (first | refine or2 Try.func35 Try.results35 hQ rfl rfl ?_ | refine on2 Try.func35 Try.results35 hQ rfl rfl ?_)
  exact ⟨r,b,rfl,hne,rfl,rfl⟩
end
end
section
variable {B:Hand} [Lets B] {gv:Value}
def accWith (A:Acc B gv) (R:HProp):Acc B gv where
 S:=A.S
 C:=fun s=>all [A.C s,R]
 x:=A.x
 step:=A.step
 addr:=A.addr
 load:=A.load
 store:=A.store
 cas:=A.cas
 add:=A.add
 swap:=A.swap
 gate:=A.gate.imp id fun ⟨t,p,f,e,m,en,g⟩=>⟨t,p,f,e,m,en,fun op w s T L F hs hh =>
  tr_star _ (fun h st=>star_open (hh.star st)) ((g op w s T _ _ hs .here).post fun v L' x' ⟨s',h1,h2,h3,h4⟩=>⟨_,⟨s',h1,h2,rfl,h4⟩,fun h st=>star_shut (M:=[_,_]) (by rw [h3] at st;exact st)⟩)⟩
 load_ok:=fun w s T L F b o ha hl hh=>tr_star _ (fun h st=>star_open (hh.star st)) ((A.load_ok w s T _ _ b o ha hl .here).post fun v L' x' ⟨n,s',h1,h2,h3,hL,h5⟩=>⟨_,⟨n,s',h1,h2,h3,rfl,h5⟩,fun h st=>star_shut (M:=[_,_]) (by subst hL;exact st)⟩)
 store_ok:=fun w n s T L F b o ha hn hl hh=>tr_star _ (fun h st=>star_open (hh.star st)) ((A.store_ok w n s T _ _ b o ha hn hl .here).post fun v L' x' ⟨s',h1,h2,hL,h4⟩=>⟨_,⟨s',h1,h2,rfl,h4⟩,fun h st=>star_shut (M:=[_,_]) (by subst hL;exact st)⟩)
 cas_ok:=fun w m n s T L F b o ha hn hl hh=>tr_star _ (fun h st=>star_open (hh.star st)) ((A.cas_ok w m n s T _ _ b o ha hn hl .here).post fun v L' x' ⟨q,s',h1,h2,hL,h4⟩=>⟨_,⟨q,s',h1,h2,rfl,h4⟩,fun h st=>star_shut (M:=[_,_]) (by subst hL;exact st)⟩)
 add_ok:=fun w n s T L F b o ha hn hl hh=>tr_star _ (fun h st=>star_open (hh.star st)) ((A.add_ok w n s T _ _ b o ha hn hl .here).post fun v L' x' ⟨r,s',h0,h1,h2,hL,h4⟩=>⟨_,⟨r,s',h0,h1,h2,rfl,h4⟩,fun h st=>star_shut (M:=[_,_]) (by subst hL;exact st)⟩)
end
section
def newsC (nc:Nat):HProp:=fun h=>∃ y:Array Value × Nat × Nat,chC nc 1 y.1 y.2.1 y.2.2 h
structure MirAt {B:Hand} {gv:Value} (A:Acc B gv) (mr r b n k nc:Nat):Prop where
 q:QueueAt A r b n k
 hq:∀ s,Rd [A.C s] mr 3 (.pointer (some ⟨r,0,none⟩))
 hc:∀ s,Rd [A.C s] mr 4 (.chan (some nc))
 a:∀ j,j<3→A.addr (2*n+2+j)=(mr,j)
structure News {B:Hand} {gv:Value} (A:Acc B gv) (nc:Nat):Prop where
 news:∃ Rs:A.S→HProp,(∀ s h,A.C s h→Star [newsC nc,Rs s] h)∧∀ s h,Star [newsC nc,Rs s] h→A.C s h
section
variable {B:Hand} {gv:Value}
def OfferT (A:Acc B gv) (n v:Nat) (s:A.S) (Q:Bool→A.S→Prop):Prop :=
 A.step 3 0 s fun s=>A.add (2*n+2+0) 1 s fun _ s=>PutT A n v s fun q s=>if q=true then Q true s else A.step 3 1 s fun s=>A.add (2*n+2+1) 1 s fun _ s=>Q false s
def MTakeT (A:Acc B gv) (n:Nat) (s:A.S) (Q:Option Nat→A.S→Prop):Prop :=
 TakeT A n s fun o s=>match o with
  | some v=>A.step 3 2 s fun s=>A.add (2*n+2+2) 1 s fun _ s=>Q (some v) s
  | none=>Q none s
def Cnt2 (A:Acc B gv) (n:Nat) (Q:Nat→Nat→Nat→A.S→Prop) (a b:Nat) (s:A.S):Prop:=A.step 1 2 s fun s=>A.load (2*n+2+2) s fun c s=>Q a b c s
def Cnt1 (A:Acc B gv) (n:Nat) (Q:Nat→Nat→Nat→A.S→Prop) (a:Nat) (s:A.S):Prop:=A.step 1 1 s fun s=>A.load (2*n+2+1) s fun b s=>Cnt2 A n Q a b s
def CountsT (A:Acc B gv) (n:Nat) (s:A.S) (Q:Nat→Nat→Nat→A.S→Prop):Prop:=A.step 1 0 s fun s=>A.load (2*n+2+0) s fun a s=>Cnt1 A n Q a s
end
section
variable {B:Hand} [Lets B] {gv:Value} {A:Acc B gv} {mr r b n k nc:Nat} {L F:List HProp}
theorem mstep_tr {op:Int} {w:Nat} {s:A.S} {T:A.S→Prop} (hs:A.step op w s T) (hh:Has L (A.C s) F) :
  Tr Try.prog B 47 [gv,.int .u8 op,.int .i64 w] L (A.x s) fun v L' x'=>∃ s',T s'∧v=.tuple #[]∧L'=A.C s'::F∧x'=A.x s':=by
 rcases A.gate with ⟨rfl,hg⟩ | ⟨t,p,f,rfl,hm,he,hg⟩
 ·refine tr_of_body Try.func47 rfl Try.ntmps47 (by simp) fun um Q _ hQ=>?_
  simp only [argE,Nat.zero_add,Nat.reduceAdd]
  repeat (first | refine we_seq ?_ | (refine wR ?_;try simp only [oS]) | refine wo_nil ?_ | refine wM ?_ | (apply wo_po;apply mo_bin;exact rfl;exact rfl;apply bin_ne;apply eql_nil_nil;exact gY) | refine wF ?_ | refine we_skip ?_)
  refine at_ent _ (Ent.take hh .refl) ?_
  (first | refine or0 Try.func47 Try.results47 hQ ?_ | refine on0 Try.func47 Try.results47 hQ ?_)
  exact ⟨s,hg _ _ _ _ hs,rfl,rfl,rfl⟩
 ·refine tr_of_body Try.func47 rfl Try.ntmps47 (by simp) fun um Q _ hQ=>?_
  simp only [argE,Nat.zero_add,Nat.reduceAdd]
  repeat (first | (apply wo_po;apply mo_build (pv:=[(0,_),(1,_)]);exact rfl;exact .cons rfl (.cons rfl .nil);exact rfl;exact trivial) | refine we_seq ?_ | (refine wR ?_;try simp only [oS]) | refine wo_nil ?_ | refine wM ?_ | (apply wo_po;apply mo_bin;exact rfl;exact rfl;apply bin_ne;apply eql_iface_nil;exact gY) | refine wT ?_)
  refine wo_invoke (args:=[_]) rfl (.cons rfl .nil) trivial (hg op w s T L F hs hh) ?_
  rintro v L' x' ⟨s',h1,rfl,rfl,rfl⟩
  repeat (first | refine wo_nil ?_)
  (first | refine or0 Try.func47 Try.results47 hQ ?_ | refine on0 Try.func47 Try.results47 hQ ?_)
  exact ⟨s',h1,rfl,rfl,rfl⟩
theorem mthere_tr (R:MirAt A mr r b n k nc) {s:A.S} (hh:Has L (A.C s) F):Tr Try.prog B 43 [.pointer (some ⟨mr,0,none⟩)] L (A.x s) fun v L' x'=>v=.bool true∧L'=L∧x'=A.x s:=by
 have hr:=Rd.of hh (R.hq s)
 refine tr_of_body Try.func43 rfl Try.ntmps43 (by simp) fun um Q _ hQ=>?_
 simp only [argE,Nat.zero_add,Nat.reduceAdd]
 repeat (first | (apply wo_po;apply mo_load;exact rfl;exact hr;exact gY) | refine we_seq ?_ | (refine wR ?_;try simp only [oS]) | refine wo_nil ?_ | refine wM ?_ | refine wA ?_ | refine wK ?_ | refine wN ?_ | refine wD ?_ | (apply wo_po;apply mo_bin;exact rfl;exact rfl;apply bin_ne;apply eql_ptr_nil;exact gY) | refine we_ret ?_)
 (first | refine or1 Try.func43 Try.results43 hQ rfl ?_ | refine on1 Try.func43 Try.results43 hQ rfl ?_)
 exact ⟨rfl,rfl,rfl⟩
theorem mcount_tr (R:MirAt A mr r b n k nc) {j:Nat} (hj:j<3) {s:A.S} {T:A.S→Prop} (hs:A.step 3 j s fun s=>A.add (2*n+2+j) 1 s fun _ s=>T s) (hh:Has L (A.C s) F) :
  Tr Try.prog B 44 [.pointer (some ⟨mr,0,none⟩),gv,.int .i64 (j:Nat)] L (A.x s) fun v L' x'=>∃ s',T s'∧v=.tuple #[]∧L'=A.C s'::F∧x'=A.x s':=by
 refine tr_of_body Try.func44 rfl Try.ntmps44 (by simp) fun um Q _ hQ=>?_
 simp only [argE,Nat.zero_add,Nat.reduceAdd]
 repeat (first | refine we_seq ?_ | (refine wR ?_;try simp only [oS]) | refine wM ?_)
 refine wo_call (.cons rfl (.cons rfl (.cons rfl .nil))) trivial (mstep_tr hs hh) ?_
 rintro v1 L1 x1 ⟨s1,h1,rfl,rfl,rfl⟩
 repeat (first | (apply wo_po;apply mo_indexArr (r:=j);exact rfl;exact rfl;omega;omega;omega;exact trivial) | (refine wR ?_;try simp only [oS]) | refine wo_nil ?_ | refine wM ?_ | refine wN ?_ | refine wD ?_)
 refine wo_call (.cons rfl (.cons rfl .nil)) trivial (A.add_ok _ 1 _ _ _ _ _ _ (R.a j hj) (by omega) h1 .here) ?_
 rintro v1 L1 x1 ⟨m,s2,hm,h2,rfl,rfl,rfl⟩
 repeat (first | refine wo_nil ?_)
 (first | refine or0 Try.func44 Try.results44 hQ ?_ | refine on0 Try.func44 Try.results44 hQ ?_)
 exact ⟨s2,h2,rfl,rfl,rfl⟩
theorem moffer_tr [Chans B] (R:MirAt A mr r b n k nc) (Nw:News A nc) {v:Nat} (hv:v<18446744073709551616) {s:A.S} {Q:Bool→A.S→Prop} (hs:OfferT A n v s Q) (hh:Has L (A.C s) F) :
  Tr Try.prog B 19 [.pointer (some ⟨mr,0,none⟩),gv,.int .u64 (v:Nat)] L (A.x s) fun w L' x'=>∃ q s',Q q s'∧w=.tuple #[.bool q,.int .i64 0]∧L'=A.C s'::F∧x'=A.x s':=by
 refine Tr.post (R:=fun w L' x'=>∃ q s',Q q s'∧w=.tuple #[.bool q,.int .i64 0]∧x'=A.x s'∧∀ h,Star L' h→Star (A.C s'::F) h) ?_
  (by rintro w L' x' ⟨q,s',h1,rfl,rfl,h2⟩;exact ⟨_,⟨q,s',h1,rfl,rfl,rfl⟩,h2⟩)
 refine tr_of_body Try.func19 rfl Try.ntmps19 (by simp) fun um Q _ hQ=>?_
 simp only [argE,Nat.zero_add,Nat.reduceAdd]
 repeat (first | refine we_seq ?_ | (refine wR ?_;try simp only [oS]) | refine wo_nil ?_ | refine wM ?_ | refine wA ?_)
 refine wo_call (.cons rfl .nil) trivial (mthere_tr R hh) ?_
 rintro v1 L1 x1 ⟨rfl,rfl,rfl⟩
 repeat (first | refine we_seq ?_ | (refine wR ?_;try simp only [oS]) | refine wo_nil ?_ | refine wM ?_ | (apply wo_po;apply mo_not;exact rfl;exact gY) | refine wF ?_ | refine we_skip ?_)
 refine wo_call (.cons rfl (.cons rfl (.cons rfl .nil))) trivial (mcount_tr (j:=0) R (by omega) hs hh) ?_
 rintro v1 L1 x1 ⟨s1,h1,rfl,rfl,rfl⟩
 have hr:=Rd.of (L:=A.C s1::F) .here (R.hq s1)
 repeat (first | (apply wo_po;apply mo_load;exact rfl;exact hr;exact gY) | refine we_seq ?_ | (refine wR ?_;try simp only [oS]) | refine wo_nil ?_ | refine wM ?_ | refine wN ?_ | refine wD ?_)
 refine wo_call (.cons rfl (.cons rfl (.cons rfl .nil))) trivial (put_tr R.q hv h1 .here) ?_
 rintro v1 L1 x1 ⟨q,s2,h2,rfl,rfl,rfl⟩
 cases q with
 | false =>
  rw [if_neg (by decide)] at h2
  repeat (first | refine we_seq ?_ | (refine wR ?_;try simp only [oS]) | refine wo_nil ?_ | refine wM ?_ | refine wA ?_ | (apply wo_po;apply mo_extract;exact rfl;exact rfl;exact gY) | (apply wo_po;apply mo_not;exact rfl;exact gY) | refine wT ?_)
  refine wo_call (.cons rfl (.cons rfl (.cons rfl .nil))) trivial (mcount_tr (j:=1) R (by omega) h2 .here) ?_
  rintro v1 L1 x1 ⟨s3,h3,rfl,rfl,rfl⟩
  repeat (first | refine we_seq ?_ | (refine wR ?_;try simp only [oS]) | refine wo_nil ?_ | refine wM ?_ | refine wA ?_ | refine we_ret ?_)
  (first | refine or2 Try.func19 Try.results19 hQ rfl rfl ?_ | refine on2 Try.func19 Try.results19 hQ rfl rfl ?_)
  exact ⟨false,s3,h3,rfl,rfl,fun _ st=>st⟩
 | true =>
  rw [if_pos rfl] at h2
  have hr2:=Rd.of (L:=A.C s2::F) .here (R.hc s2)
  repeat (first | (apply wo_po;apply mo_load;exact rfl;exact hr2;exact gY) | (apply wo_po;apply mo_build (pv:=[]);exact rfl;exact .nil;exact rfl;exact trivial) | refine we_seq ?_ | (refine wR ?_;try simp only [oS]) | refine wo_nil ?_ | refine wM ?_ | refine wA ?_ | refine wN ?_ | refine wD ?_ | (apply wo_po;apply mo_extract;exact rfl;exact rfl;exact gY) | (apply wo_po;apply mo_not;exact rfl;exact gY) | refine wF ?_ | refine we_skip ?_)
  obtain ⟨Rs,hop,hsh⟩:=Nw.news
  refine wo_star (newsC nc::Rs s2::F) (fun h st=>star_open (M:=[newsC nc,Rs s2]) (star_map st (fun h a=>hop s2 h a) (fun _ y=>y))) ?_
  refine wo_ex .here fun y=>?_
  refine wo_try rfl rfl trivial .here (fun hlt=>?_) (fun hle=>?_)
  ·repeat (first | refine we_seq ?_ | (refine wR ?_;try simp only [oS]) | refine wo_nil ?_ | refine wA ?_ | (apply wo_po;apply mo_extract;exact rfl;exact rfl;exact gY) | (apply wo_po;apply mo_bin;exact rfl;exact rfl;exact bin_eql;exact gY) | refine wT ?_ | refine we_ret ?_ | refine we_skip ?_ | refine we_block ?_)
   (first | refine or2 Try.func19 Try.results19 hQ rfl rfl ?_ | refine on2 Try.func19 Try.results19 hQ rfl rfl ?_)
   exact ⟨true,s2,h2,rfl,rfl,fun h st=>star_map (star_shut (M:=[newsC nc,Rs s2]) (star_map st (fun h a=>⟨(_,_,_),a⟩) (fun _ y=>y))) (fun h a=>hsh s2 h a) (fun _ y=>y)⟩
  ·repeat (first | refine we_seq ?_ | (refine wR ?_;try simp only [oS]) | refine wo_nil ?_ | refine wA ?_ | (apply wo_po;apply mo_extract;exact rfl;exact rfl;exact gY) | (apply wo_po;apply mo_bin;exact rfl;exact rfl;exact bin_eql;exact gY) | refine wF ?_ | refine we_ret ?_ | refine we_skip ?_ | refine we_block ?_)
   (first | refine or2 Try.func19 Try.results19 hQ rfl rfl ?_ | refine on2 Try.func19 Try.results19 hQ rfl rfl ?_)
   exact ⟨true,s2,h2,rfl,rfl,fun h st=>star_map (star_shut (M:=[newsC nc,Rs s2]) (star_map st (fun h a=>⟨y,a⟩) (fun _ y=>y))) (fun h a=>hsh s2 h a) (fun _ y=>y)⟩
theorem mtake_tr (R:MirAt A mr r b n k nc) {s:A.S} {Q:Option Nat→A.S→Prop} (hs:MTakeT A n s Q) (hh:Has L (A.C s) F) :
  Tr Try.prog B 20 [.pointer (some ⟨mr,0,none⟩),gv] L (A.x s) fun w L' x'=>∃ q s',Q q s'∧q.getD 0<18446744073709551616∧w=.tuple #[.int .u64 (q.getD 0:Nat),.bool q.isSome,.int .i64 0]∧L'=A.C s'::F∧x'=A.x s':=by
 refine tr_of_body Try.func20 rfl Try.ntmps20 (by simp) fun um Q _ hQ=>?_
 simp only [argE,Nat.zero_add,Nat.reduceAdd]
 repeat (first | refine we_seq ?_ | (refine wR ?_;try simp only [oS]) | refine wo_nil ?_ | refine wM ?_ | refine wA ?_)
 refine wo_call (.cons rfl .nil) trivial (mthere_tr R hh) ?_
 rintro v1 L1 x1 ⟨rfl,rfl,rfl⟩
 have hr:=Rd.of hh (R.hq s)
 repeat (first | (apply wo_po;apply mo_load;exact rfl;exact hr;exact gY) | refine we_seq ?_ | (refine wR ?_;try simp only [oS]) | refine wo_nil ?_ | refine wM ?_ | refine wN ?_ | refine wD ?_ | (apply wo_po;apply mo_not;exact rfl;exact gY) | refine wF ?_ | refine we_skip ?_)
 refine wo_call (.cons rfl (.cons rfl .nil)) trivial (take_tr R.q hs hh) ?_
 rintro v1 L1 x1 ⟨q,s2,h2,hlt,rfl,rfl,rfl⟩
 cases q with
 | none =>
  repeat (first | refine we_seq ?_ | (refine wR ?_;try simp only [oS]) | refine wo_nil ?_ | refine wM ?_ | refine wA ?_ | (apply wo_po;apply mo_extract;exact rfl;exact rfl;exact gY) | refine wF ?_ | refine we_ret ?_ | refine we_skip ?_)
  (first | refine or3 Try.func20 Try.results20 hQ rfl rfl rfl ?_ | refine on3 Try.func20 Try.results20 hQ rfl rfl rfl ?_)
  exact ⟨none,s2,h2,hlt,rfl,rfl,rfl⟩
 | some y =>
  repeat (first | refine we_seq ?_ | (refine wR ?_;try simp only [oS]) | refine wo_nil ?_ | refine wM ?_ | refine wA ?_ | (apply wo_po;apply mo_extract;exact rfl;exact rfl;exact gY) | refine wT ?_)
  refine wo_call (.cons rfl (.cons rfl (.cons rfl .nil))) trivial (mcount_tr (j:=2) R (by omega) h2 .here) ?_
  rintro v1 L1 x1 ⟨s3,h3,rfl,rfl,rfl⟩
  repeat (first | refine we_seq ?_ | (refine wR ?_;try simp only [oS]) | refine wo_nil ?_ | refine wM ?_ | refine wA ?_ | refine we_ret ?_)
  (first | refine or3 Try.func20 Try.results20 hQ rfl rfl rfl ?_ | refine on3 Try.func20 Try.results20 hQ rfl rfl rfl ?_)
  exact ⟨some y,s3,h3,hlt,rfl,rfl,rfl⟩
def cntInv (A:Acc B gv) (mr n tb:Nat) (F:List HProp) (Q:Nat→Nat→Nat→A.S→Prop):Inv (Nat × Nat × Nat × Nat × A.S) B.X where
 e:=fun i=>[(0,.pointer (some ⟨mr,0,none⟩)),(1,gv),(8,.pointer (some ⟨tb,0,none⟩)),(13,.int .i64 (i.1:Nat))]
 L:=fun i=>[arr tb 0 [.int .u64 (i.2.1:Nat),.int .u64 (i.2.2.1:Nat),.int .u64 (i.2.2.2.1:Nat)],A.C i.2.2.2.2]++F
 x:=fun i=>A.x i.2.2.2.2
 ok:=fun i=>(i.1=0∧CountsT A n i.2.2.2.2 Q)∨(i.1=1∧Cnt1 A n Q i.2.1 i.2.2.2.2)∨(i.1=2∧Cnt2 A n Q i.2.1 i.2.2.1 i.2.2.2.2)∨(i.1=3∧Q i.2.1 i.2.2.1 i.2.2.2.1 i.2.2.2.2)
set_option maxHeartbeats 4000000 in
theorem mcounts_tr (R:MirAt A mr r b n k nc) {s:A.S} {G:Nat→Nat→Nat→A.S→Prop} (hs:CountsT A n s G) (hh:Has L (A.C s) F) :
  Tr Try.prog B 21 [.pointer (some ⟨mr,0,none⟩),gv] L (A.x s) fun w L' x'=>∃ a b c s',G a b c s'∧w=.tuple #[.int .u64 (a:Nat),.int .u64 (b:Nat),.int .u64 (c:Nat),.int .i64 0]∧L'=A.C s'::F∧x'=A.x s':=by
 refine Tr.post (R:=fun w L' x'=>∃ a b c s',G a b c s'∧w=.tuple #[.int .u64 (a:Nat),.int .u64 (b:Nat),.int .u64 (c:Nat),.int .i64 0]∧x'=A.x s'∧∀ h,Star L' h→Star (A.C s'::F) h) ?_
  (by rintro w L' x' ⟨a,b,c,s',h1,rfl,rfl,h2⟩;exact ⟨_,⟨a,b,c,s',h1,rfl,rfl,rfl⟩,h2⟩)
 refine tr_of_body Try.func21 rfl Try.ntmps21 (by simp) fun um Q _ hQ=>?_
 simp only [argE,Nat.zero_add,Nat.reduceAdd]
 repeat (first | refine we_seq ?_ | (refine wR ?_;try simp only [oS]) | refine wo_nil ?_ | refine wM ?_ | refine wA ?_)
 refine wo_call (.cons rfl .nil) trivial (mthere_tr R hh) ?_
 rintro v1 L1 x1 ⟨rfl,rfl,rfl⟩
 repeat (first | (apply wo_mo;apply mo_alloc;exact trivial) | refine we_seq ?_ | (refine wR ?_;try simp only [oS]) | refine wo_nil ?_ | (apply wo_po;apply mo_not;exact rfl;exact gY) | refine wF ?_ | refine we_skip ?_)
 rintro v' L' ⟨tb,rfl,rfl⟩
 repeat (first | refine we_seq ?_ | (refine wR ?_;try simp only [oS]) | refine wo_nil ?_ | refine wM ?_ | refine we_block ?_)
 refine we_star ((cntInv A mr n tb F G).L (0,0,0,0,s)) (fun h st=>star_map st (fun _ y=>y) (fun _ y=>hh.star y)) ?_
 refine we_loopN (cntInv A mr n tb F G) (fun i=>3-i.1) (0,0,0,0,s) (.inl ⟨rfl,hs⟩) ⟨rfl,rfl,rfl,rfl,trivial⟩ .refl rfl ?_
 rintro ⟨i,a,b',c,s1⟩ hok
 dsimp only [cntInv] at hok ⊢
 rcases hok with ⟨rfl,hs1⟩ | ⟨rfl,hs1⟩ | ⟨rfl,hs1⟩ | ⟨rfl,hs1⟩
 ·repeat (first | refine wlssT ?_ | refine we_seq ?_ | (refine wR ?_;try simp only [oS]) | refine wo_nil ?_ | refine wM ?_ | refine wA ?_ | refine wT ?_ | refine we_skip ?_ | refine we_block ?_)
  refine wo_call (.cons rfl (.cons rfl (.cons rfl .nil))) trivial (mstep_tr hs1 (.there .here)) ?_
  rintro v1 L1 x1 ⟨s2,h2,rfl,rfl,rfl⟩
  repeat (first | (apply wo_po;apply mo_indexArr (r:=0);exact rfl;exact rfl;omega;omega;omega;exact trivial) | (refine wR ?_;try simp only [oS]) | refine wo_nil ?_ | refine wM ?_ | refine wN ?_ | refine wD ?_)
  refine wo_call (.cons rfl .nil) trivial (A.load_ok _ _ _ _ _ _ _ (R.a 0 (by omega)) h2 .here) ?_
  rintro v1 L1 x1 ⟨m,s3,hm,h3,rfl,rfl,rfl⟩
  repeat (first | (apply wo_po;apply mo_indexArr (r:=0);exact rfl;exact rfl;omega;omega;omega;exact trivial) | refine wS ?_ | (refine wR ?_;try simp only [oS]) | refine wo_nil ?_ | refine wM ?_ | refine wadd ?_)
  refine at_roundS (I:=cntInv A mr n tb F G) (R:=fun i'=>3-i'.1<3-0) (1,m,b',c,s3) (by show 3-1<3-0;omega) (.inr (.inl ⟨rfl,h3⟩)) ⟨rfl,rfl,rfl,rfl,trivial⟩ (fun h st=>?_) rfl
  exact Ent.star (.take (.there .here) (.take .here .refl)) st
 ·repeat (first | refine wlssT ?_ | refine we_seq ?_ | (refine wR ?_;try simp only [oS]) | refine wo_nil ?_ | refine wM ?_ | refine wA ?_ | refine wT ?_ | refine we_skip ?_ | refine we_block ?_)
  refine wo_call (.cons rfl (.cons rfl (.cons rfl .nil))) trivial (mstep_tr hs1 (.there .here)) ?_
  rintro v1 L1 x1 ⟨s2,h2,rfl,rfl,rfl⟩
  repeat (first | (apply wo_po;apply mo_indexArr (r:=1);exact rfl;exact rfl;omega;omega;omega;exact trivial) | (refine wR ?_;try simp only [oS]) | refine wo_nil ?_ | refine wM ?_ | refine wN ?_ | refine wD ?_)
  refine wo_call (.cons rfl .nil) trivial (A.load_ok _ _ _ _ _ _ _ (R.a 1 (by omega)) h2 .here) ?_
  rintro v1 L1 x1 ⟨m,s3,hm,h3,rfl,rfl,rfl⟩
  repeat (first | (apply wo_po;apply mo_indexArr (r:=1);exact rfl;exact rfl;omega;omega;omega;exact trivial) | refine wS ?_ | (refine wR ?_;try simp only [oS]) | refine wo_nil ?_ | refine wM ?_ | refine wadd ?_)
  refine at_roundS (I:=cntInv A mr n tb F G) (R:=fun i'=>3-i'.1<3-1) (2,a,m,c,s3) (by show 3-2<3-1;omega) (.inr (.inr (.inl ⟨rfl,h3⟩))) ⟨rfl,rfl,rfl,rfl,trivial⟩ (fun h st=>?_) rfl
  exact Ent.star (.take (.there .here) (.take .here .refl)) st
 ·repeat (first | refine wlssT ?_ | refine we_seq ?_ | (refine wR ?_;try simp only [oS]) | refine wo_nil ?_ | refine wM ?_ | refine wA ?_ | refine wT ?_ | refine we_skip ?_ | refine we_block ?_)
  refine wo_call (.cons rfl (.cons rfl (.cons rfl .nil))) trivial (mstep_tr hs1 (.there .here)) ?_
  rintro v1 L1 x1 ⟨s2,h2,rfl,rfl,rfl⟩
  repeat (first | (apply wo_po;apply mo_indexArr (r:=2);exact rfl;exact rfl;omega;omega;omega;exact trivial) | (refine wR ?_;try simp only [oS]) | refine wo_nil ?_ | refine wM ?_ | refine wN ?_ | refine wD ?_)
  refine wo_call (.cons rfl .nil) trivial (A.load_ok _ _ _ _ _ _ _ (R.a 2 (by omega)) h2 .here) ?_
  rintro v1 L1 x1 ⟨m,s3,hm,h3,rfl,rfl,rfl⟩
  repeat (first | (apply wo_po;apply mo_indexArr (r:=2);exact rfl;exact rfl;omega;omega;omega;exact trivial) | refine wS ?_ | (refine wR ?_;try simp only [oS]) | refine wo_nil ?_ | refine wM ?_ | refine wadd ?_)
  refine at_roundS (I:=cntInv A mr n tb F G) (R:=fun i'=>3-i'.1<3-2) (3,a,b',m,s3) (by show 3-3<3-2;omega) (.inr (.inr (.inr ⟨rfl,h3⟩))) ⟨rfl,rfl,rfl,rfl,trivial⟩ (fun h st=>?_) rfl
  exact Ent.star (.take (.there .here) (.take .here .refl)) st
 ·repeat (first | refine wlssF ?_ | refine we_seq ?_ | (refine wR ?_;try simp only [oS]) | refine wo_nil ?_ | refine wF ?_ | refine we_exit ?_)
  refine we_draw (List.range' 0 10) (by kernel_rfl) ?_
  repeat (first | (apply ap_pure;exact rfl;exact rfl;exact gY;intro L;apply mo_indexArr (r:=0);exact rfl;exact rfl;omega;omega;omega) | (apply ap_pure;exact rfl;exact rfl;exact gY;intro L;apply mo_indexArr (r:=1);exact rfl;exact rfl;omega;omega;omega) | (apply ap_pure;exact rfl;exact rfl;exact gY;intro L;apply mo_indexArr (r:=2);exact rfl;exact rfl;omega;omega;omega) | refine aA ?_ | refine aL ?_ | refine ap_end ?_)
  repeat (first | refine we_ret ?_)
  (first | refine at_ret4 (ex:=.ret) Try.func21 Try.results21 hQ (.inl rfl) rfl rfl rfl rfl ?_ | refine at_ret4 (ex:=.normal) Try.func21 Try.results21 hQ (.inr rfl) rfl rfl rfl rfl ?_)
  exact ⟨a,b',c,s1,hs1,rfl,rfl,fun h st=>star_drop st⟩
end
section
variable {B:Hand} [Lets B] {L:List HProp}
end
end
section
structure DAt (D:Wds) (NW on n:Nat):Prop where
 at_:WdAt D.W on n
 le:2*n+2≤NW
 un:∀ f i,i<NW→f i=D.un (D.W f) i
 ok0:D.ok (fun _=>0)
 upd:∀ f q v,D.ok f→v<18446744073709551616→D.ok (upd f q v)
 bnd:∀ f i,D.ok f→i<NW→f i<18446744073709551616
 fu:D.fu=30
section
variable {D:Wds} {NW on n k:Nat} {Pv:Nat × Mach.Th→HProp} {Pm:HProp}
theorem acc_goD (HD:DAt D NW on n) {addr:Nat→Nat × Nat} {K:List (Nat × Nat × Value)} {A:Apart addr NW K} {Z:HProp} {hPv:∀ q h,Star [Pv q] h→Pv q h} {sb says turn fin wg:Nat} {op w:Nat} {o:Int} {s:PlS} {R:PlS→Prop} {f0:Nat→Nat} (ho:((op:Nat):Int)=o) (h0:D.ok f0) (hfg:∀ i,i<NW→s.f i=s.g i) (hpm:∀ h,Pm h→Pv (k,s.t) h)
  (hop:∀ f,D.ok f→∃ f' t',Mach.Op 30 (D.W f) s.t (op,w) (D.W f') t'∧∀ n,n<s.n→R ⟨f,D.un (D.W f'),t',n⟩):(playAcc D addr NW K A Z Pv hPv sb says turn fin wg k Pm).step o w s R :=
 acc_go ho h0 hfg hpm fun f hf=>by
  obtain ⟨f',t',h1,h2⟩:=hop f hf
  exact ⟨f',t',by rw [HD.fu];exact h1,h2⟩
theorem goodN_goD (HD:DAt D NW on n) {m:Nat × Nat} {x:Nat} {t:Mach.Th} {f0:Nat→Nat} (h0:D.ok f0) (hop:∀ f,D.ok f→∃ f' t',Mach.Op 30 (D.W f) t m (D.W f') t'∧D.ok f'∧GoodN D x t'):GoodN D (x+1) t :=
 goodN_go h0 fun f hf=>by
  obtain ⟨f',t',h1,h2⟩:=hop f hf
  exact ⟨f',t',by rw [HD.fu];exact h1,h2⟩
end
section
variable {D:Wds} {NW on n j:Nat} {addr:Nat→Nat × Nat} {K:List (Nat × Nat × Value)} {A:Apart addr NW K} {Z:HProp} {Pv:Nat × Mach.Th→HProp} {hPv:∀ q h,Star [Pv q] h→Pv q h} {sb says turn fin wg k:Nat} {Pm:HProp}
variable {cs:List Mach.Cl} {cl:Mach.Cl} {c v b v0 v3:Nat} {pre:List (Bool × List Nat)} {said:List Nat}
theorem put_draw (HD:DAt D NW on n) (hn:n=2^j) (hj0:1≤j) (hj:j≤10) (hc:cs[c]?=some cl) (hk:Mach.HasPut cl on n b) (h0:pre.length=c) (hP:∀ p r said h,Pm h→Pv (k,Mach.T cs c p r pre said) h)
  (hend:∀ r',r' 1=0→r' 9=0→∃ t',Mach.onF 26 (Mach.T cs c (b+17) r' pre said)=some t')
  {G:Option Nat→PlS→Prop} (hnone:∀ r' (s':PlS),r' 1=0→r' 9=0→Mach.onF 26 (Mach.T cs c (b+17) r' pre said)=some s'.t→(∀ i,i<NW→s'.f i=s'.g i)→D.ok s'.f→G none s')
  (hsome:∀ r t m q t1 (s':PlS),r 9=0→r 0=v0→t<18446744073709551616→t%n=m→(t+1)%18446744073709551616=t1→s'.t=Mach.T cs c (b+12) (upd (Mach.qr9 r n t m q t1) 15 1) pre said→(∀ i,i<NW→s'.f i=s'.g i)→D.ok s'.f→G (some t) s')
  {r:Nat→Nat} {s:PlS} (h9:r 9=0) (hr0:r 0=v0) (ht:s.t=Mach.T cs c b r pre said) (hfg:∀ i,i<NW→s.f i=s.g i) :
  DrawT (playAcc D addr NW K A Z Pv hPv sb says turn fin wg k Pm) n 0 0 s G:=by
 have hle:n≤1024:=by rw [hn];exact pow_le hj
 have hNN:=HD.le
 have hpos:2≤n:=by have:=Nat.pow_le_pow_right (n:=2) (by omega) hj0;omega
 intro X hX
 suffices H:∀ (N:Nat) (r:Nat→Nat) (s:PlS),s.n<N→r 9=0→r 0=v0→s.t=Mach.T cs c b r pre said→(∀ i,i<NW→s.f i=s.g i)→X s from H (s.n+1) r s (by omega) h9 hr0 ht hfg
 intro N
 induction N with
 | zero=>intro r s hN;omega
 | succ N ih =>
  intro r s hN h9 hr0 ht hfg
  refine hX _ ?_
  unfold DrawF
  refine acc_goD HD (op:=1) rfl HD.ok0 hfg (by rw [ht];exact hP _ _ _) fun f1 ok1=>?_
  have htl:=HD.bnd _ 0 ok1 (by omega)
  obtain ⟨t,ht0⟩:∃ t,f1 0=t:=⟨_,rfl⟩
  rw [ht0] at htl
  obtain ⟨m,hm⟩:∃ m,t%n=m:=⟨_,rfl⟩
  have hmod:m<n:=by rw [← hm];exact Nat.mod_lt _ (by omega)
  have hand:(t &&& (n-1))%18446744073709551616=m:=by rw [Mach.qmask_mod hn,hm];omega
  obtain ⟨t1,ht1⟩:∃ t1,(t+1)%18446744073709551616=t1:=⟨_,rfl⟩
  have e2:2+2*m=2*m+2:=by omega
  refine ⟨f1,_,by rw [ht];exact Mach.qput_0 (w:=D.W f1) (l:=rowOf (2*n+2) f1) hc hk h0 (HD.at_.get _) (by rw [rowOf_get (by omega),ht0]) h9 (by omega) hand (by omega),fun m1 hm1=>⟨by omega,?_⟩⟩
  simp only [ht0,hm,e2]
  refine acc_goD HD (op:=1) rfl HD.ok0 (fun i hi=>HD.un _ _ hi) (hP _ _ _) fun f2 ok2=>?_
  have hql:=HD.bnd _ (2*m+2) ok2 (by omega)
  obtain ⟨q,hq⟩:∃ q,f2 (2*m+2)=q:=⟨_,rfl⟩
  rw [hq] at hql
  have hvq:(rowOf (2*n+2) f2)[2*m+2]?=some q:=by rw [rowOf_get (by omega),hq]
  have hprog:(q+36893488147419103232-t-0)%18446744073709551616=(q+18446744073709551616-t)%18446744073709551616:=by omega
  obtain ⟨d,hd⟩:∃ d,(q+18446744073709551616-t)%18446744073709551616=d:=⟨_,rfl⟩
  rw [hd] at hprog
  by_cases c1:9223372036854775808≤d
  ·obtain ⟨t',ho⟩:=hend (Mach.qrN r n t m q d) rfl h9
   refine ⟨f2,_,Mach.qput_4F (w:=D.W f2) (l:=rowOf (2*n+2) f2) hc hk h0 (HD.at_.get _) hvq (by omega) hd c1 ho,fun m2 hm2=>⟨by omega,?_⟩⟩
   simp only [hq,hprog]
   rw [if_pos c1]
   exact hnone (Mach.qrN r n t m q d) _ (by rfl) h9 ho (fun i hi=>HD.un _ _ hi) ok2
  ·by_cases c2:d=0
   ·rw [c2] at hd hprog
    refine ⟨f2,_,Mach.qput_4T (w:=D.W f2) (l:=rowOf (2*n+2) f2) hc hk h0 (HD.at_.get _) hvq h9 (by omega) hd ht1,fun m2 hm2=>⟨by omega,?_⟩⟩
    simp only [hq,hprog]
    rw [if_neg (by omega),if_neg (by omega)]
    refine acc_goD HD (op:=5) rfl HD.ok0 (fun i hi=>HD.un _ _ hi) (hP _ _ _) fun f3 ok3=>?_
    by_cases c3:f3 0=t
    ·refine ⟨upd f3 0 t1,_,to_W HD.at_ (by omega) (Mach.qput_10T hc hk h0 (HD.at_.get _) (by rw [rowOf_get (by omega),c3]) h9 rfl),fun m3 hm3=>⟨by omega,?_⟩⟩
     simp only [c3,ht1]
     rw [if_pos trivial,if_pos trivial]
     exact hsome r t m q t1 _ h9 hr0 htl hm ht1 rfl (fun i hi=>HD.un _ _ hi) (HD.upd _ _ _ ok3 (by omega))
    ·refine ⟨f3,_,Mach.qput_10F (w:=D.W f3) (l:=rowOf (2*n+2) f3) hc hk h0 (HD.at_.get _) (rowOf_get (by omega)) h9 c3,fun m3 hm3=>⟨by omega,?_⟩⟩
     dsimp only at hm1 hm2 hm3
     simp only
     rw [if_neg c3,if_neg (by decide)]
     exact ih (upd (Mach.qr9 r n t m q t1) 15 0) _ (by dsimp only;omega) h9 hr0 rfl fun i hi=>HD.un _ _ hi
   ·refine ⟨f2,_,Mach.qput_4R (w:=D.W f2) (l:=rowOf (2*n+2) f2) hc hk h0 (HD.at_.get _) hvq h9 (by omega) hd c1 c2,fun m2 hm2=>⟨by omega,?_⟩⟩
    dsimp only at hm1 hm2
    simp only [hq,hprog]
    rw [if_neg c1,if_pos (by omega)]
    exact ih (Mach.qr5 r n t m q d) _ (by dsimp only;omega) h9 hr0 rfl fun i hi=>HD.un _ _ hi
theorem take_draw (HD:DAt D NW on n) (hn:n=2^j) (hj0:1≤j) (hj:j≤10) (hc:cs[c]?=some cl) (hk:Mach.HasTake cl on n b) (h0:pre.length=c) (hP:∀ p r said h,Pm h→Pv (k,Mach.T cs c p r pre said) h)
  (hend:∀ r',r' 0=0→r' 1=0→r' 9=0→r' 3=v3→∃ t',Mach.onF 26 (Mach.T cs c (b+19) r' pre said)=some t')
  {G:Option Nat→PlS→Prop} (hnone:∀ r' (s':PlS),r' 0=0→r' 1=0→r' 9=0→r' 3=v3→Mach.onF 26 (Mach.T cs c (b+19) r' pre said)=some s'.t→(∀ i,i<NW→s'.f i=s'.g i)→D.ok s'.f→G none s')
  (hsome:∀ r t m q t1 (s':PlS),r 9=0→r 3=v3→t<18446744073709551616→t%n=m→s'.t=Mach.T cs c (b+12) (upd (Mach.tr5 r n t m t1 q 0) 15 1) pre said→(∀ i,i<NW→s'.f i=s'.g i)→D.ok s'.f→G (some t) s')
  {r:Nat→Nat} {s:PlS} (h9:r 9=0) (h3:r 3=v3) (ht:s.t=Mach.T cs c b r pre said) (hfg:∀ i,i<NW→s.f i=s.g i) :
  DrawT (playAcc D addr NW K A Z Pv hPv sb says turn fin wg k Pm) n 1 1 s G:=by
 have hle:n≤1024:=by rw [hn];exact pow_le hj
 have hNN:=HD.le
 have hpos:2≤n:=by have:=Nat.pow_le_pow_right (n:=2) (by omega) hj0;omega
 intro X hX
 suffices H:∀ (N:Nat) (r:Nat→Nat) (s:PlS),s.n<N→r 9=0→r 3=v3→s.t=Mach.T cs c b r pre said→(∀ i,i<NW→s.f i=s.g i)→X s from H (s.n+1) r s (by omega) h9 h3 ht hfg
 intro N
 induction N with
 | zero=>intro r s hN;omega
 | succ N ih =>
  intro r s hN h9 h3 ht hfg
  refine hX _ ?_
  unfold DrawF
  refine acc_goD HD (op:=1) rfl HD.ok0 hfg (by rw [ht];exact hP _ _ _) fun f1 ok1=>?_
  have htl:=HD.bnd _ 1 ok1 (by omega)
  obtain ⟨t,ht0⟩:∃ t,f1 1=t:=⟨_,rfl⟩
  rw [ht0] at htl
  obtain ⟨m,hm⟩:∃ m,t%n=m:=⟨_,rfl⟩
  have hmod:m<n:=by rw [← hm];exact Nat.mod_lt _ (by omega)
  have hand:(t &&& (n-1))%18446744073709551616=m:=by rw [Mach.qmask_mod hn,hm];omega
  obtain ⟨t1,ht1⟩:∃ t1,(t+1)%18446744073709551616=t1:=⟨_,rfl⟩
  have e2:2+2*m=2*m+2:=by omega
  refine ⟨f1,_,by rw [ht];exact Mach.qtake_0 (w:=D.W f1) (l:=rowOf (2*n+2) f1) hc hk h0 (HD.at_.get _) (by rw [rowOf_get (by omega),ht0]) h9 (by omega) hand (by omega) ht1,fun m1 hm1=>⟨by omega,?_⟩⟩
  simp only [ht0,hm,e2]
  refine acc_goD HD (op:=1) rfl HD.ok0 (fun i hi=>HD.un _ _ hi) (hP _ _ _) fun f2 ok2=>?_
  have hql:=HD.bnd _ (2*m+2) ok2 (by omega)
  obtain ⟨q,hq⟩:∃ q,f2 (2*m+2)=q:=⟨_,rfl⟩
  rw [hq] at hql
  have hvq:(rowOf (2*n+2) f2)[2*m+2]?=some q:=by rw [rowOf_get (by omega),hq]
  have hprog:(q+36893488147419103232-t-1)%18446744073709551616=(q+18446744073709551616-t1)%18446744073709551616:=by omega
  obtain ⟨d,hd⟩:∃ d,(q+18446744073709551616-t1)%18446744073709551616=d:=⟨_,rfl⟩
  rw [hd] at hprog
  by_cases c1:9223372036854775808≤d
  ·obtain ⟨t',ho⟩:=hend (Mach.trN r n t m t1 q d) rfl rfl h9 h3
   refine ⟨f2,_,Mach.qtake_5F (w:=D.W f2) (l:=rowOf (2*n+2) f2) hc hk h0 (HD.at_.get _) hvq (by omega) hd c1 ho,fun m2 hm2=>⟨by omega,?_⟩⟩
   simp only [hq,hprog]
   rw [if_pos c1]
   exact hnone (Mach.trN r n t m t1 q d) _ rfl rfl h9 h3 ho (fun i hi=>HD.un _ _ hi) ok2
  ·by_cases c2:d=0
   ·rw [c2] at hd hprog
    refine ⟨f2,_,Mach.qtake_5T (w:=D.W f2) (l:=rowOf (2*n+2) f2) hc hk h0 (HD.at_.get _) hvq h9 (by omega) hd,fun m2 hm2=>⟨by omega,?_⟩⟩
    simp only [hq,hprog]
    rw [if_neg (by omega),if_neg (by omega)]
    refine acc_goD HD (op:=5) rfl HD.ok0 (fun i hi=>HD.un _ _ hi) (hP _ _ _) fun f3 ok3=>?_
    by_cases c3:f3 1=t
    ·refine ⟨upd f3 1 t1,_,to_W HD.at_ (by omega) (Mach.qtake_10T hc hk h0 (HD.at_.get _) (by rw [rowOf_get (by omega),c3]) h9 rfl),fun m3 hm3=>⟨by omega,?_⟩⟩
     simp only [c3,ht1]
     rw [if_pos trivial,if_pos trivial]
     exact hsome r t m q t1 _ h9 h3 htl hm rfl (fun i hi=>HD.un _ _ hi) (HD.upd _ _ _ ok3 (by omega))
    ·refine ⟨f3,_,Mach.qtake_10F (w:=D.W f3) (l:=rowOf (2*n+2) f3) hc hk h0 (HD.at_.get _) (rowOf_get (by omega)) h9 c3,fun m3 hm3=>⟨by omega,?_⟩⟩
     dsimp only at hm1 hm2 hm3
     simp only
     rw [if_neg c3,if_neg (by decide)]
     exact ih (upd (Mach.tr5 r n t m t1 q 0) 15 0) _ (by dsimp only;omega) h9 h3 rfl fun i hi=>HD.un _ _ hi
   ·refine ⟨f2,_,Mach.qtake_5R (w:=D.W f2) (l:=rowOf (2*n+2) f2) hc hk h0 (HD.at_.get _) hvq h9 (by omega) hd c1 c2,fun m2 hm2=>⟨by omega,?_⟩⟩
    dsimp only at hm1 hm2
    simp only [hq,hprog]
    rw [if_neg c1,if_pos (by omega)]
    exact ih (Mach.tr5 r n t m t1 q d) _ (by dsimp only;omega) h9 h3 rfl fun i hi=>HD.un _ _ hi
theorem take_core (HD:DAt D NW on n) (hn:n=2^j) (hj0:1≤j) (hj:j≤10) (hc:cs[c]?=some cl) (hk:Mach.HasTake cl on n b) (h0:pre.length=c) (hP:∀ p r said h,Pm h→Pv (k,Mach.T cs c p r pre said) h)
  (hend:∀ (q:Option Nat) r',r' 0=q.getD 0→r' 1=yes q.isSome→r' 9=0→r' 3=v3→∃ t',Mach.onF 26 (Mach.T cs c (b+19) r' pre said)=some t')
  {Q:Option Nat→PlS→Prop} (hQ:∀ (q:Option Nat) r' (s':PlS),r' 0=q.getD 0→r' 1=yes q.isSome→r' 9=0→r' 3=v3→Mach.onF 26 (Mach.T cs c (b+19) r' pre said)=some s'.t→(∀ i,i<NW→s'.f i=s'.g i)→D.ok s'.f→Q q s')
  {r:Nat→Nat} {s:PlS} (h9:r 9=0) (h3:r 3=v3) (ht:s.t=Mach.T cs c b r pre said) (hfg:∀ i,i<NW→s.f i=s.g i) :
  TakeT (playAcc D addr NW K A Z Pv hPv sb says turn fin wg k Pm) n s Q:=by
 have hle:n≤1024:=by rw [hn];exact pow_le hj
 have hNN:=HD.le
 have hpos:2≤n:=by have:=Nat.pow_le_pow_right (n:=2) (by omega) hj0;omega
 unfold TakeT
 refine take_draw HD hn hj0 hj hc hk h0 hP (fun r' e0 e1 e9 e3=>hend none r' e0 e1 e9 e3) (fun r' s' e0 e1 e9 e3 ho a b=>?_) (fun r t m q t1 s e9 e3 htl hm ht hfg ok=>?_) h9 h3 ht hfg
 ·exact hQ none r' s' e0 e1 e9 e3 ho a b
 have hmod:m<n:=by rw [← hm];exact Nat.mod_lt _ (by omega)
 have e2:2+2*m=2*m+2:=by omega
 have e4:3+2*m=2*m+3:=by omega
 obtain ⟨tn,htn⟩:∃ tn,(t+n)%18446744073709551616=tn:=⟨_,rfl⟩
 dsimp only
 rw [hm,e2,e4,htn]
 refine acc_goD HD (op:=1) rfl HD.ok0 hfg (by rw [ht];exact hP _ _ _) fun f1 ok1=>?_
 obtain ⟨v,hv⟩:∃ v,f1 (2*m+3)=v:=⟨_,rfl⟩
 refine ⟨f1,_,by rw [ht];exact Mach.qtake_12 (w:=D.W f1) (l:=rowOf (2*n+2) f1) hc hk h0 (HD.at_.get _) (by rw [rowOf_get (by omega),hv]) e9 (by omega) htn,fun m1 hm1=>⟨by omega,?_⟩⟩
 dsimp only
 rw [hv]
 obtain ⟨t',ho⟩:=hend (some v) (Mach.trS r n t m t1 q v tn) rfl rfl e9 e3
 refine acc_goD HD (op:=2) rfl HD.ok0 (fun i hi=>HD.un _ _ hi) (hP _ _ _) fun f2 ok2=>⟨upd f2 (2*m+2) tn,_,to_W HD.at_ (by omega) (Mach.qtake_14 hc hk h0 (HD.at_.get _) (by omega) (by rw [rowOf_len];omega) rfl (Mach.onF_more (k:=2) ho)),fun m2 hm2=>⟨by omega,?_⟩⟩
 exact hQ (some v) (Mach.trS r n t m t1 q v tn) _ rfl rfl e9 e3 ho (fun i hi=>HD.un _ _ hi) (HD.upd _ _ _ ok2 (by rw [← htn];exact Nat.mod_lt _ (by decide)))
theorem put_core (HD:DAt D NW on n) (hn:n=2^j) (hj0:1≤j) (hj:j≤10) (hv:v<18446744073709551616) (hc:cs[c]?=some cl) (hk:Mach.HasPut cl on n b) (h0:pre.length=c) (hP:∀ p r said h,Pm h→Pv (k,Mach.T cs c p r pre said) h)
  (hend:∀ (q:Bool) r',r' 1=yes q→r' 9=0→∃ t',Mach.onF 26 (Mach.T cs c (b+17) r' pre said)=some t')
  {Q:Bool→PlS→Prop} (hQ:∀ (q:Bool) r' (s':PlS),r' 1=yes q→r' 9=0→Mach.onF 26 (Mach.T cs c (b+17) r' pre said)=some s'.t→(∀ i,i<NW→s'.f i=s'.g i)→D.ok s'.f→Q q s')
  {r:Nat→Nat} {s:PlS} (h9:r 9=0) (hr0:r 0=v) (ht:s.t=Mach.T cs c b r pre said) (hfg:∀ i,i<NW→s.f i=s.g i) :
  PutT (playAcc D addr NW K A Z Pv hPv sb says turn fin wg k Pm) n v s Q:=by
 have hle:n≤1024:=by rw [hn];exact pow_le hj
 have hNN:=HD.le
 have hpos:2≤n:=by have:=Nat.pow_le_pow_right (n:=2) (by omega) hj0;omega
 unfold PutT
 refine put_draw (v0:=v) HD hn hj0 hj hc hk h0 hP (fun r' e1 e9=>hend false r' e1 e9) (fun r' s' e1 e9 ho a b=>hQ false r' s' e1 e9 ho a b) (fun r t m q t1 s e9 e0 htl hm ht1 ht hfg ok=>?_) h9 hr0 ht hfg
 have hmod:m<n:=by rw [← hm];exact Nat.mod_lt _ (by omega)
 have e2:2+2*m=2*m+2:=by omega
 have e4:3+2*m=2*m+3:=by omega
 dsimp only
 rw [hm,e2,e4,ht1]
 obtain ⟨u1,ho⟩:=hend true (Mach.qrS r n t m q t1) rfl e9
 refine acc_goD HD (op:=2) rfl HD.ok0 hfg (by rw [ht];exact hP _ _ _) fun f1 ok1=>⟨upd f1 (2*m+3) v,_,by rw [ht];exact to_W HD.at_ (by omega) (Mach.qput_12 hc hk h0 (HD.at_.get _) e0 (by omega) (by rw [rowOf_len];omega) rfl),fun m1 hm1=>⟨by omega,?_⟩⟩
 refine acc_goD HD (op:=2) rfl HD.ok0 (fun i hi=>HD.un _ _ hi) (hP _ _ _) fun f2 ok2=>⟨upd f2 (2*m+2) t1,_,to_W HD.at_ (by omega) (Mach.qput_13 hc hk h0 (HD.at_.get _) (by omega) (by rw [rowOf_len];omega) rfl ho),fun m2 hm2=>⟨by omega,?_⟩⟩
 exact hQ true (Mach.qrS r n t m q t1) _ rfl e9 ho (fun i hi=>HD.un _ _ hi) (HD.upd _ _ _ ok2 (by rw [← ht1];exact Nat.mod_lt _ (by decide)))
end
section
variable {D:Wds} {NW on n j:Nat} {cs:List Mach.Cl} {cl:Mach.Cl} {c v b v0 v3:Nat} {pre:List (Bool × List Nat)} {said:List Nat}
theorem put_goodN (HD:DAt D NW on n) (hn:n=2^j) (hj0:1≤j) (hj:j≤10) (hv:v<18446744073709551616) (hc:cs[c]?=some cl) (hk:Mach.HasPut cl on n b) (h0:pre.length=c)
  (hend:∀ (q:Bool) r',r' 1=yes q→r' 9=0→∃ t',Mach.onF 26 (Mach.T cs c (b+17) r' pre said)=some t'∧GoodT D t'):∀ (N:Nat) (r:Nat→Nat),r 9=0→r 0=v→GoodN D N (Mach.T cs c b r pre said):=by
 have hle:n≤1024:=by rw [hn];exact pow_le hj
 have hNN:=HD.le
 have hpos:2≤n:=by have:=Nat.pow_le_pow_right (n:=2) (by omega) hj0;omega
 intro N
 induction N with
 | zero=>exact fun _ _ _=>trivial
 | succ N ih =>
  intro r h9 hr0
  refine goodN_goD HD (m:=(1,0)) HD.ok0 fun f1 ok1=>?_
  have htl:=HD.bnd _ 0 ok1 (by omega)
  obtain ⟨t,ht0⟩:∃ t,f1 0=t:=⟨_,rfl⟩
  rw [ht0] at htl
  obtain ⟨m,hm⟩:∃ m,t%n=m:=⟨_,rfl⟩
  have hmod:m<n:=by rw [← hm];exact Nat.mod_lt _ (by omega)
  have hand:(t &&& (n-1))%18446744073709551616=m:=by rw [Mach.qmask_mod hn,hm];omega
  obtain ⟨t1,ht1⟩:∃ t1,(t+1)%18446744073709551616=t1:=⟨_,rfl⟩
  refine ⟨f1,_,Mach.qput_0 (w:=D.W f1) (l:=rowOf (2*n+2) f1) hc hk h0 (HD.at_.get _) (by rw [rowOf_get (by omega),ht0]) h9 (by omega) hand (by omega),ok1,?_⟩
  refine goodN_le (goodN_goD HD (m:=(1,2*m+2)) HD.ok0 fun f2 ok2=>?_)
  obtain ⟨q,hq⟩:∃ q,f2 (2*m+2)=q:=⟨_,rfl⟩
  have hvq:(rowOf (2*n+2) f2)[2*m+2]?=some q:=by rw [rowOf_get (by omega),hq]
  obtain ⟨d,hd⟩:∃ d,(q+18446744073709551616-t)%18446744073709551616=d:=⟨_,rfl⟩
  by_cases c1:9223372036854775808≤d
  ·obtain ⟨u0,hu0,g0⟩:=hend false (Mach.qrN r n t m q d) rfl h9
   exact ⟨f2,_,Mach.qput_4F (w:=D.W f2) (l:=rowOf (2*n+2) f2) hc hk h0 (HD.at_.get _) hvq (by omega) hd c1 hu0,ok2,g0 N⟩
  ·by_cases c2:d=0
   ·rw [c2] at hd
    refine ⟨f2,_,Mach.qput_4T (w:=D.W f2) (l:=rowOf (2*n+2) f2) hc hk h0 (HD.at_.get _) hvq h9 (by omega) hd ht1,ok2,?_⟩
    refine goodN_le (goodN_goD HD (m:=(5,0)) HD.ok0 fun f3 ok3=>?_)
    by_cases c3:f3 0=t
    ·refine ⟨upd f3 0 t1,_,to_W HD.at_ (by omega) (Mach.qput_10T hc hk h0 (HD.at_.get _) (by rw [rowOf_get (by omega),c3]) h9 rfl),HD.upd _ _ _ ok3 (by omega),?_⟩
     refine goodN_le (goodN_goD HD (m:=(2,2*m+3)) HD.ok0 fun f4 ok4=>⟨upd f4 (2*m+3) v,_,to_W HD.at_ (by omega) (Mach.qput_12 hc hk h0 (HD.at_.get _) hr0 (by omega) (by rw [rowOf_len];omega) rfl),HD.upd _ _ _ ok4 hv,?_⟩)
     obtain ⟨u1,hu1,g1⟩:=hend true (Mach.qrS r n t m q t1) rfl h9
     exact goodN_le (goodN_goD HD (m:=(2,2*m+2)) HD.ok0 fun f5 ok5=>⟨upd f5 (2*m+2) t1,_,to_W HD.at_ (by omega) (Mach.qput_13 hc hk h0 (HD.at_.get _) (by omega) (by rw [rowOf_len];omega) rfl hu1),HD.upd _ _ _ ok5 (by omega),g1 N⟩)
    ·exact ⟨f3,_,Mach.qput_10F (w:=D.W f3) (l:=rowOf (2*n+2) f3) hc hk h0 (HD.at_.get _) (rowOf_get (by omega)) h9 c3,ok3,ih (upd (Mach.qr9 r n t m q t1) 15 0) h9 hr0⟩
   ·exact ⟨f2,_,Mach.qput_4R (w:=D.W f2) (l:=rowOf (2*n+2) f2) hc hk h0 (HD.at_.get _) hvq h9 (by omega) hd c1 c2,ok2,ih (Mach.qr5 r n t m q d) h9 hr0⟩
theorem take_goodN (HD:DAt D NW on n) (hn:n=2^j) (hj0:1≤j) (hj:j≤10) (hc:cs[c]?=some cl) (hk:Mach.HasTake cl on n b) (h0:pre.length=c)
  (hend:∀ (q:Option Nat) r',r' 0=q.getD 0→r' 1=yes q.isSome→r' 9=0→r' 3=v3→∃ t',Mach.onF 26 (Mach.T cs c (b+19) r' pre said)=some t'∧GoodT D t'):∀ (N:Nat) (r:Nat→Nat),r 9=0→r 3=v3→GoodN D N (Mach.T cs c b r pre said):=by
 have hle:n≤1024:=by rw [hn];exact pow_le hj
 have hNN:=HD.le
 have hpos:2≤n:=by have:=Nat.pow_le_pow_right (n:=2) (by omega) hj0;omega
 intro N
 induction N with
 | zero=>exact fun _ _ _=>trivial
 | succ N ih =>
  intro r h9 h3
  refine goodN_goD HD (m:=(1,1)) HD.ok0 fun f1 ok1=>?_
  have htl:=HD.bnd _ 1 ok1 (by omega)
  obtain ⟨t,ht0⟩:∃ t,f1 1=t:=⟨_,rfl⟩
  rw [ht0] at htl
  obtain ⟨m,hm⟩:∃ m,t%n=m:=⟨_,rfl⟩
  have hmod:m<n:=by rw [← hm];exact Nat.mod_lt _ (by omega)
  have hand:(t &&& (n-1))%18446744073709551616=m:=by rw [Mach.qmask_mod hn,hm];omega
  obtain ⟨t1,ht1⟩:∃ t1,(t+1)%18446744073709551616=t1:=⟨_,rfl⟩
  obtain ⟨tn,htn⟩:∃ tn,(t+n)%18446744073709551616=tn:=⟨_,rfl⟩
  refine ⟨f1,_,Mach.qtake_0 (w:=D.W f1) (l:=rowOf (2*n+2) f1) hc hk h0 (HD.at_.get _) (by rw [rowOf_get (by omega),ht0]) h9 (by omega) hand (by omega) ht1,ok1,?_⟩
  refine goodN_le (goodN_goD HD (m:=(1,2*m+2)) HD.ok0 fun f2 ok2=>?_)
  obtain ⟨q,hq⟩:∃ q,f2 (2*m+2)=q:=⟨_,rfl⟩
  have hvq:(rowOf (2*n+2) f2)[2*m+2]?=some q:=by rw [rowOf_get (by omega),hq]
  obtain ⟨d,hd⟩:∃ d,(q+18446744073709551616-t1)%18446744073709551616=d:=⟨_,rfl⟩
  by_cases c1:9223372036854775808≤d
  ·obtain ⟨t',ho,g⟩:=hend none (Mach.trN r n t m t1 q d) rfl rfl h9 h3
   exact ⟨f2,_,Mach.qtake_5F (w:=D.W f2) (l:=rowOf (2*n+2) f2) hc hk h0 (HD.at_.get _) hvq (by omega) hd c1 ho,ok2,g N⟩
  ·by_cases c2:d=0
   ·rw [c2] at hd
    refine ⟨f2,_,Mach.qtake_5T (w:=D.W f2) (l:=rowOf (2*n+2) f2) hc hk h0 (HD.at_.get _) hvq h9 (by omega) hd,ok2,?_⟩
    refine goodN_le (goodN_goD HD (m:=(5,1)) HD.ok0 fun f3 ok3=>?_)
    by_cases c3:f3 1=t
    ·refine ⟨upd f3 1 t1,_,to_W HD.at_ (by omega) (Mach.qtake_10T hc hk h0 (HD.at_.get _) (by rw [rowOf_get (by omega),c3]) h9 rfl),HD.upd _ _ _ ok3 (by omega),?_⟩
     refine goodN_le (goodN_goD HD (m:=(1,2*m+3)) HD.ok0 fun f4 ok4=>?_)
     obtain ⟨v,hv⟩:∃ v,f4 (2*m+3)=v:=⟨_,rfl⟩
     refine ⟨f4,_,Mach.qtake_12 (w:=D.W f4) (l:=rowOf (2*n+2) f4) hc hk h0 (HD.at_.get _) (by rw [rowOf_get (by omega),hv]) h9 (by omega) htn,ok4,?_⟩
     obtain ⟨t',ho,g⟩:=hend (some v) (Mach.trS r n t m t1 q v tn) rfl rfl h9 h3
     exact goodN_le (goodN_goD HD (m:=(2,2*m+2)) HD.ok0 fun f5 ok5=>⟨upd f5 (2*m+2) tn,_,to_W HD.at_ (by omega) (Mach.qtake_14 hc hk h0 (HD.at_.get _) (by omega) (by rw [rowOf_len];omega) rfl (Mach.onF_more (k:=2) ho)),HD.upd _ _ _ ok5 (by rw [← htn];exact Nat.mod_lt _ (by decide)),g N⟩)
    ·exact ⟨f3,_,Mach.qtake_10F (w:=D.W f3) (l:=rowOf (2*n+2) f3) hc hk h0 (HD.at_.get _) (rowOf_get (by omega)) h9 c3,ok3,ih (upd (Mach.tr5 r n t m t1 q 0) 15 0) h9 h3⟩
   ·exact ⟨f2,_,Mach.qtake_5R (w:=D.W f2) (l:=rowOf (2*n+2) f2) hc hk h0 (HD.at_.get _) hvq h9 (by omega) hd c1 c2,ok2,ih (Mach.tr5 r n t m t1 q d) h9 h3⟩
end
end
end Go.Proofs.Ytmkkanmkjfnpdaa
namespace Go.PB.Mach
section
variable {cs:List Cl} {c n v:Nat} {pre:List (Bool × List Nat)} {w:Wd} {t':Th} {ws:List (List Nat)} {r:Nat→Nat} {l:List Nat}
def rofferCode (n:Nat):List In:=[⟨6,0,2,0,0,0,1⟩,⟨3,0,3,9,2,0,0⟩]++qputCode 1 n 3++[⟨6,0,2,0,0,0,1⟩,⟨19,0,1,2,0,0,23⟩,⟨3,0,3,9,2,0,1⟩]
def rofferCl (n v:Nat):Cl:=⟨⟨6,0,0,0,0,0,v⟩::(rofferCode n++[⟨22,0,1,0,0,0,0⟩]),[]⟩
def rtakeCl (n:Nat):Cl:=⟨qtakeCode 1 n 0++[⟨6,0,2,0,0,0,1⟩,⟨19,0,1,9,0,0,22⟩,⟨3,0,3,9,2,0,2⟩,⟨22,0,0,0,0,0,0⟩,⟨22,0,1,0,0,0,0⟩],[]⟩
def rcountsCl:Cl:=⟨[⟨1,0,0,9,0,0,0⟩,⟨1,0,1,9,0,0,1⟩,⟨1,0,2,9,0,0,2⟩,⟨22,0,0,0,0,0,0⟩,⟨22,0,1,0,0,0,0⟩,⟨22,0,2,0,0,0,0⟩],[]⟩
theorem roffer_has:HasPut (rofferCl n v) 1 n 3:=fun i x h=>by
 show (_::_::_::(qputCode 1 n 3++_))[3+i]?=some x
 rw [Nat.add_comm,List.getElem?_cons_succ,List.getElem?_cons_succ,List.getElem?_cons_succ,List.getElem?_append_left (List.getElem?_eq_some_iff.1 h).1]
 exact h
theorem roffer_on (hc:cs[c]?=some (rofferCl n v)) (h0:pre.length=c) (hv:v<18446744073709551616):onF 20 (T cs c 0 (fun _=>0) pre [])=some (T cs c 2 (upd (upd (fun _=>0) 0 v) 2 1) pre []) :=
 Goes.on1 (st_set hc h0 rfl (Nat.mod_eq_of_lt hv)) (Goes.on1 (st_set hc h0 rfl rfl) (on_stop hc h0 rfl rfl))
theorem roffer_2 {a a':Nat} (hc:cs[c]?=some (rofferCl n v)) (h0:pre.length=c) (hw:w.words[0]?=some l) (hv:l[0]?=some a) (es:(a+1)%18446744073709551616=a') (hws:w.words.set 0 (l.set 0 a')=ws) :
  Op 30 w (T cs c 2 (upd (upd (fun _=>0) 0 v) 2 1) pre []) (3,0) ⟨ws,w.nl⟩ (T cs c 3 (upd (upd (upd (fun _=>0) 0 v) 2 1) 3 a') pre []) :=
 op_add (vb:=0) (vc:=1) hc rfl hw rfl rfl rfl hv es hws (on_stop hc h0 rfl rfl)
theorem roffer_yes (hc:cs[c]?=some (rofferCl n v)) (h0:pre.length=c) (e1:r 1=1) (ho:onF 20 (Bt cs (c+1) (pre++[(true,[1])]))=some t'):onF 26 (T cs c (3+17) r pre [])=some t' :=
 Goes.on1 (st_set hc h0 rfl rfl) (Goes.on1 (st_sameT (vb:=1) (vc:=1) hc h0 rfl rfl e1 rfl) (Goes.on1 (st_tell (vb:=1) hc h0 rfl e1) (Goes.on1 (goes_end hc h0 rfl) (onF_more (k:=2) ho))))
theorem roffer_no (hc:cs[c]?=some (rofferCl n v)) (h0:pre.length=c) (e1:r 1=0):onF 26 (T cs c (3+17) r pre [])=some (T cs c 22 (upd r 2 1) pre []) :=
 Goes.on1 (st_set hc h0 rfl rfl) (Goes.on1 (st_sameF (vb:=0) (vc:=1) hc h0 rfl (by decide) e1 rfl) (on_stop hc h0 rfl rfl))
theorem roffer_22 {a a':Nat} (hc:cs[c]?=some (rofferCl n v)) (h0:pre.length=c) (e1:r 1=0) (h9:r 9=0) (hw:w.words[0]?=some l) (hv:l[1]?=some a) (es:(a+1)%18446744073709551616=a') (hws:w.words.set 0 (l.set 1 a')=ws) (ho:onF 20 (Bt cs (c+1) (pre++[(true,[0])]))=some t') :
  Op 30 w (T cs c 22 (upd r 2 1) pre []) (3,1) ⟨ws,w.nl⟩ t' :=
 op_add (vb:=0) (vc:=1) hc rfl hw h9 rfl rfl hv es hws (Goes.on1 (st_tell (vb:=0) hc h0 rfl e1) (Goes.on1 (goes_end hc h0 rfl) (onF_more (k:=8) ho)))
theorem rtake_has:HasTake (rtakeCl n) 1 n 0:=fun i x h=>by
 show (qtakeCode 1 n 0++_)[0+i]?=some x
 rw [Nat.zero_add,List.getElem?_append_left (List.getElem?_eq_some_iff.1 h).1]
 exact h
theorem rtake_on (hc:cs[c]?=some (rtakeCl n)) (h0:pre.length=c):onF 20 (T cs c 0 (fun _=>0) pre [])=some (T cs c 0 (fun _=>0) pre []):=on_stop hc h0 rfl rfl
theorem rtake_yes (hc:cs[c]?=some (rtakeCl n)) (h0:pre.length=c) (e1:r 1=1) (h9:r 9=0):onF 26 (T cs c (0+19) r pre [])=some (T cs c 21 (upd r 2 1) pre []) :=
 Goes.on1 (st_set hc h0 rfl rfl) (Goes.on1 (st_sameF (vb:=1) (vc:=0) hc h0 rfl (by decide) e1 h9) (on_stop hc h0 rfl rfl))
theorem rtake_21 {a a' x:Nat} (hc:cs[c]?=some (rtakeCl n)) (h0:pre.length=c) (e0:r 0=x) (e1:r 1=1) (h9:r 9=0) (hw:w.words[0]?=some l) (hv:l[2]?=some a) (es:(a+1)%18446744073709551616=a') (hws:w.words.set 0 (l.set 2 a')=ws) (ho:onF 20 (Bt cs (c+1) (pre++[(true,[x,1])]))=some t') :
  Op 30 w (T cs c 21 (upd r 2 1) pre []) (3,2) ⟨ws,w.nl⟩ t' :=
 op_add (vb:=0) (vc:=1) hc rfl hw h9 rfl rfl hv es hws (Goes.on1 (st_tell (vb:=x) hc h0 rfl e0) (Goes.on1 (st_tell (vb:=1) hc h0 rfl e1) (Goes.on1 (goes_end hc h0 rfl) (onF_more (k:=7) ho))))
theorem rtake_no (hc:cs[c]?=some (rtakeCl n)) (h0:pre.length=c) (e0:r 0=0) (e1:r 1=0) (h9:r 9=0) (ho:onF 20 (Bt cs (c+1) (pre++[(true,[0,0])]))=some t'):onF 26 (T cs c (0+19) r pre [])=some t' :=
 Goes.on1 (st_set hc h0 rfl rfl) (Goes.on1 (st_sameT (vb:=0) (vc:=0) hc h0 rfl rfl e1 h9) (Goes.on1 (st_tell (vb:=0) hc h0 rfl e0) (Goes.on1 (st_tell (vb:=0) hc h0 rfl e1) (Goes.on1 (goes_end hc h0 rfl) (onF_more (k:=1) ho)))))
theorem rcounts_on (hc:cs[c]?=some rcountsCl) (h0:pre.length=c):onF 20 (T cs c 0 (fun _=>0) pre [])=some (T cs c 0 (fun _=>0) pre []):=on_stop hc h0 rfl rfl
theorem rcounts_0 {a:Nat} (hc:cs[c]?=some rcountsCl) (h0:pre.length=c) (hw:w.words[0]?=some l) (hv:l[0]?=some a):Op 30 w (T cs c 0 (fun _=>0) pre []) (1,0) w (T cs c 1 (upd (fun _=>0) 0 a) pre []) :=
 op_load (vb:=0) hc rfl hw rfl rfl hv (on_stop hc h0 rfl rfl)
theorem rcounts_1 {a b:Nat} (hc:cs[c]?=some rcountsCl) (h0:pre.length=c) (hw:w.words[0]?=some l) (hv:l[1]?=some b):Op 30 w (T cs c 1 (upd (fun _=>0) 0 a) pre []) (1,1) w (T cs c 2 (upd (upd (fun _=>0) 0 a) 1 b) pre []) :=
 op_load (vb:=0) hc rfl hw rfl rfl hv (on_stop hc h0 rfl rfl)
theorem rcounts_2 {a b d:Nat} (hc:cs[c]?=some rcountsCl) (h0:pre.length=c) (hw:w.words[0]?=some l) (hv:l[2]?=some d) (ho:onF 20 (Bt cs (c+1) (pre++[(true,[a,b,d])]))=some t'):Op 30 w (T cs c 2 (upd (upd (fun _=>0) 0 a) 1 b) pre []) (1,2) w t' :=
 op_load (vb:=0) hc rfl hw rfl rfl hv (Goes.on1 (st_tell (vb:=a) hc h0 rfl rfl) (Goes.on1 (st_tell (vb:=b) hc h0 rfl rfl) (Goes.on1 (st_tell (vb:=d) hc h0 rfl rfl) (Goes.on1 (goes_end hc h0 rfl) (onF_more (k:=6) ho)))))
end
end Go.PB.Mach
namespace Go.Proofs.Ytmkkanmkjfnpdaa
open Go Go.PB
attribute [local irreducible] Mo Bin Eql Tr Wo Ap Wle
section
def mirW (n:Nat) (f:Nat→Nat):Mach.Wd:=⟨[[f (2*n+2),f (2*n+3),f (2*n+4)],rowOf (2*n+2) f],2⟩
theorem mirW_at {n:Nat}:WdAt (mirW n) 1 n where
 get:=fun f=>rfl
 set:=fun f q v hq=>by
  have e0:=upd_other (m:=f) (w:=q) (n:=v) (i:=2*n+2) (by omega)
  have e1:=upd_other (m:=f) (w:=q) (n:=v) (i:=2*n+3) (by omega)
  have e2:=upd_other (m:=f) (w:=q) (n:=v) (i:=2*n+4) (by omega)
  show (⟨[[f (2*n+2),f (2*n+3),f (2*n+4)],(rowOf (2*n+2) f).set q v],2⟩:Mach.Wd)=⟨[[upd f q v (2*n+2),upd f q v (2*n+3),upd f q v (2*n+4)],rowOf (2*n+2) (upd f q v)],2⟩
  rw [rowOf_set,e0,e1,e2]
theorem row_same {N q v:Nat} {f:Nat→Nat} (h:N≤q):rowOf N (upd f q v)=rowOf N f:=by
 unfold rowOf
 refine List.map_congr_left fun i hi=>upd_other ?_
 have:=List.mem_range.1 hi
 omega
theorem mirW_0 {n v:Nat} {f:Nat→Nat}:(⟨(mirW n f).words.set 0 ([f (2*n+2),f (2*n+3),f (2*n+4)].set 0 v),(mirW n f).nl⟩:Mach.Wd)=mirW n (upd f (2*n+2) v):=by
 show (⟨[[v,f (2*n+3),f (2*n+4)],rowOf (2*n+2) f],2⟩:Mach.Wd)=⟨[[upd f (2*n+2) v (2*n+2),upd f (2*n+2) v (2*n+3),upd f (2*n+2) v (2*n+4)],rowOf (2*n+2) (upd f (2*n+2) v)],2⟩
 rw [row_same (by omega),upd_same,upd_other (by omega),upd_other (by omega)]
theorem mirW_1 {n v:Nat} {f:Nat→Nat}:(⟨(mirW n f).words.set 0 ([f (2*n+2),f (2*n+3),f (2*n+4)].set 1 v),(mirW n f).nl⟩:Mach.Wd)=mirW n (upd f (2*n+3) v):=by
 show (⟨[[f (2*n+2),v,f (2*n+4)],rowOf (2*n+2) f],2⟩:Mach.Wd)=⟨[[upd f (2*n+3) v (2*n+2),upd f (2*n+3) v (2*n+3),upd f (2*n+3) v (2*n+4)],rowOf (2*n+2) (upd f (2*n+3) v)],2⟩
 rw [row_same (by omega),upd_same,upd_other (by omega),upd_other (by omega)]
theorem mirW_2 {n v:Nat} {f:Nat→Nat}:(⟨(mirW n f).words.set 0 ([f (2*n+2),f (2*n+3),f (2*n+4)].set 2 v),(mirW n f).nl⟩:Mach.Wd)=mirW n (upd f (2*n+4) v):=by
 show (⟨[[f (2*n+2),f (2*n+3),v],rowOf (2*n+2) f],2⟩:Mach.Wd)=⟨[[upd f (2*n+4) v (2*n+2),upd f (2*n+4) v (2*n+3),upd f (2*n+4) v (2*n+4)],rowOf (2*n+2) (upd f (2*n+4) v)],2⟩
 rw [row_same (by omega),upd_same,upd_other (by omega),upd_other (by omega)]
theorem rowAt_same {n q v:Nat} {f:Nat→Nat} {row:List Nat} (hpos:0<n) (h:2*n+2≤q) (R:RowAt n f row):RowAt n (upd f q v) row where
 len:=R.len
 put:=by rw [upd_other (by omega),upd_other (by omega)];exact R.put
 t:=by rw [upd_other (by omega)];exact R.t
 full:=fun i x hi=>by
  have hm:=Nat.mod_lt (f 1+i) hpos
  rw [upd_other (m:=f) (i:=1) (by omega),upd_other (by omega),upd_other (by omega)]
  exact R.full i x hi
 free:=fun i h1 h2=>by
  have hm:=Nat.mod_lt (f 1+i) hpos
  rw [upd_other (m:=f) (i:=1) (by omega),upd_other (by omega)]
  exact R.free i h1 h2
section
variable {B:Hand} {gv:Value}
def DoneT (A:Acc B gv) (n:Nat) (kd v:Nat) (s:A.S) (Q:List Nat→A.S→Prop):Prop :=
 if kd=0 then OfferT A n v s fun q s=>Q [yes q] s
 else if kd=1 then MTakeT A n s fun o s=>Q [o.getD 0,yes o.isSome] s
 else CountsT A n s fun a b c s=>Q [a,b,c] s
end
def callCl (n kd v:Nat):Mach.Cl:=if kd=0 then Mach.rofferCl n v else if kd=1 then Mach.rtakeCl n else Mach.rcountsCl
section
variable {B:Hand} [Lets B] {x:B.X} {n k nb:Nat} {addr:Nat→Nat × Nat} {K:List (Nat × Nat × Value)} {ap:Apart addr (2*n+5) K} {f:Nat→Nat}
end
end
section
def mirUn (n:Nat) (w:Mach.Wd) (i:Nat):Nat:=if i<2*n+2 then (w.row 1).getD i 0 else (w.row 0).getD (i-(2*n+2)) 0
theorem mir_un {n i:Nat} {f:Nat→Nat} (h:i<2*n+5):f i=mirUn n (mirW n f) i:=by
 unfold mirUn
 split
 ·rename_i hlt
  show f i=(rowOf (2*n+2) f).getD i 0
  rw [List.getD_eq_getElem?_getD,rowOf_get hlt];rfl
 ·rename_i hge
  show f i=[f (2*n+2),f (2*n+3),f (2*n+4)].getD (i-(2*n+2)) 0
  have:i=2*n+2∨i=2*n+3∨i=2*n+4:=by omega
  rcases this with rfl | rfl | rfl
  ·rw [Nat.sub_self];rfl
  ·rw [show 2*n+3-(2*n+2)=1 by omega];rfl
  ·rw [show 2*n+4-(2*n+2)=2 by omega];rfl
theorem mirW_eq {n:Nat} {f g:Nat→Nat} (h:∀ i,i<2*n+5→f i=g i):mirW n f=mirW n g:=by
 unfold mirW
 rw [h (2*n+2) (by omega),h (2*n+3) (by omega),h (2*n+4) (by omega)]
 have:rowOf (2*n+2) f=rowOf (2*n+2) g:=List.map_congr_left fun i hi=>h i (by have:=List.mem_range.1 hi;omega)
 rw [this]
def mirD (n:Nat):Wds where
 W:=mirW n
 un:=mirUn n
 ok:=fun f=>∀ i,i<2*n+5→f i<18446744073709551616
 fu:=30
 back:=fun f=>mirW_eq fun i hi=>(mir_un hi).symm
 okun:=fun f h i hi=>by rw [← mir_un hi];exact h i hi
theorem mir_DAt {n:Nat}:DAt (mirD n) (2*n+5) 1 n where
 at_:=mirW_at
 le:=by omega
 un:=fun f i hi=>mir_un hi
 ok0:=fun i _=>by show 0<18446744073709551616;decide
 upd:=fun f q v h hv i hi=>by
  unfold Go.PB.upd
  split
  ·exact hv
  ·exact h i hi
 bnd:=fun f i h hi=>h i hi
 fu:=rfl
section
variable {n j:Nat} {addr:Nat→Nat × Nat} {K:List (Nat × Nat × Value)} {A:Apart addr (2*n+5) K} {Z:HProp} {Pv:Nat × Mach.Th→HProp} {hPv:∀ q h,Star [Pv q] h→Pv q h} {sb says turn fin wg k:Nat} {Pm:HProp}
variable {cs:List Mach.Cl} {c v:Nat} {pre:List (Bool × List Nat)}
theorem mir_op0 {f:Nat→Nat} {t t':Mach.Th} {mk:Nat × Nat} {v:Nat} (o:Mach.Op 30 (mirW n f) t mk ⟨(mirW n f).words.set 0 ([f (2*n+2),f (2*n+3),f (2*n+4)].set 0 v),(mirW n f).nl⟩ t'):Mach.Op 30 (mirW n f) t mk (mirW n (upd f (2*n+2) v)) t':=by rw [← mirW_0];exact o
theorem mir_op1 {f:Nat→Nat} {t t':Mach.Th} {mk:Nat × Nat} {v:Nat} (o:Mach.Op 30 (mirW n f) t mk ⟨(mirW n f).words.set 0 ([f (2*n+2),f (2*n+3),f (2*n+4)].set 1 v),(mirW n f).nl⟩ t'):Mach.Op 30 (mirW n f) t mk (mirW n (upd f (2*n+3) v)) t':=by rw [← mirW_1];exact o
theorem mir_op2 {f:Nat→Nat} {t t':Mach.Th} {mk:Nat × Nat} {v:Nat} (o:Mach.Op 30 (mirW n f) t mk ⟨(mirW n f).words.set 0 ([f (2*n+2),f (2*n+3),f (2*n+4)].set 2 v),(mirW n f).nl⟩ t'):Mach.Op 30 (mirW n f) t mk (mirW n (upd f (2*n+4) v)) t':=by rw [← mirW_2];exact o
theorem offer_plays (hn:n=2^j) (hj0:1≤j) (hj:j≤10) (hv:v<18446744073709551616) (hc:cs[c]?=some (Mach.rofferCl n v)) (h0:pre.length=c) (hP:∀ p r said h,Pm h→Pv (k,Mach.T cs c p r pre said) h)
  (nxt:∀ told,∃ t',Mach.onF 20 (Mach.Bt cs (c+1) (pre++[(true,told)]))=some t') {s:PlS} (ht:s.t=Mach.T cs c 2 (upd (upd (fun _=>0) 0 v) 2 1) pre []) (hfg:∀ i,i<2*n+5→s.f i=s.g i)
  {Q:Bool→PlS→Prop} (hQ:∀ q s',Mach.onF 20 (Mach.Bt cs (c+1) (pre++[(true,[yes q])]))=some s'.t→(∀ i,i<2*n+5→s'.f i=s'.g i)→(mirD n).ok s'.f→Q q s') :
  OfferT (playAcc (mirD n) addr (2*n+5) K A Z Pv hPv sb says turn fin wg k Pm) n v s Q:=by
 have HD:=mir_DAt (n:=n)
 obtain ⟨u0,hu0⟩:=nxt [0]
 obtain ⟨u1,hu1⟩:=nxt [1]
 unfold OfferT
 refine acc_goD HD (op:=3) rfl HD.ok0 hfg (by rw [ht];exact hP _ _ _) fun f1 ok1=>?_
 obtain ⟨a,ha⟩:∃ a,(f1 (2*n+2)+1)%18446744073709551616=a:=⟨_,rfl⟩
 have hal:a<18446744073709551616:=by rw [← ha];exact Nat.mod_lt _ (by decide)
 refine ⟨upd f1 (2*n+2) a,_,by rw [ht];exact mir_op0 (Mach.roffer_2 (w:=mirW n f1) hc h0 rfl rfl ha rfl),fun m1 hm1=>⟨by omega,?_⟩⟩
 dsimp only
 rw [show 2*n+2+0=2*n+2 from rfl,ha]
 refine put_core (v:=v) (b:=3) HD hn hj0 hj hv hc Mach.roffer_has h0 hP (fun q r' e1 e9=>?_) (fun q r' s' e1 e9 ho hfg' ok'=>?_) rfl rfl rfl (fun i hi=>mir_un hi)
 ·cases q with
  | true=>exact ⟨u1,Mach.roffer_yes hc h0 e1 hu1⟩
  | false=>exact ⟨_,Mach.roffer_no hc h0 e1⟩
 ·cases q with
  | true =>
   rw [Mach.roffer_yes hc h0 e1 hu1] at ho
   rw [if_pos rfl]
   exact hQ true s' (by rw [← ho];exact hu1) hfg' ok'
  | false =>
   rw [Mach.roffer_no hc h0 e1] at ho
   rw [if_neg (by decide)]
   have ht':=(Option.some.inj ho).symm
   refine acc_goD HD (op:=3) rfl HD.ok0 hfg' (by rw [ht'];exact hP _ _ _) fun f2 ok2=>?_
   obtain ⟨a2,ha2⟩:∃ a,(f2 (2*n+3)+1)%18446744073709551616=a:=⟨_,rfl⟩
   refine ⟨upd f2 (2*n+3) a2,_,by rw [ht'];exact mir_op1 (Mach.roffer_22 (w:=mirW n f2) hc h0 e1 e9 rfl rfl ha2 rfl hu0),fun m2 hm2=>⟨by omega,?_⟩⟩
   dsimp only
   rw [show 2*n+2+1=2*n+3 from rfl,ha2]
   exact hQ false _ hu0 (fun i hi=>mir_un hi) (HD.upd _ _ _ ok2 (by rw [← ha2];exact Nat.mod_lt _ (by decide)))
theorem mtake_plays (hn:n=2^j) (hj0:1≤j) (hj:j≤10) (hc:cs[c]?=some (Mach.rtakeCl n)) (h0:pre.length=c) (hP:∀ p r said h,Pm h→Pv (k,Mach.T cs c p r pre said) h)
  (nxt:∀ told,∃ t',Mach.onF 20 (Mach.Bt cs (c+1) (pre++[(true,told)]))=some t') {s:PlS} (ht:s.t=Mach.T cs c 0 (fun _=>0) pre []) (hfg:∀ i,i<2*n+5→s.f i=s.g i)
  {Q:Option Nat→PlS→Prop} (hQ:∀ (q:Option Nat) s',Mach.onF 20 (Mach.Bt cs (c+1) (pre++[(true,[q.getD 0,yes q.isSome])]))=some s'.t→(∀ i,i<2*n+5→s'.f i=s'.g i)→(mirD n).ok s'.f→Q q s') :
  MTakeT (playAcc (mirD n) addr (2*n+5) K A Z Pv hPv sb says turn fin wg k Pm) n s Q:=by
 have HD:=mir_DAt (n:=n)
 unfold MTakeT
 refine take_core (v3:=0) (b:=0) HD hn hj0 hj hc Mach.rtake_has h0 hP (fun q r' e0 e1 e9 e3=>?_) (fun q r' s' e0 e1 e9 e3 ho hfg' ok'=>?_) rfl rfl ht hfg
 ·cases q with
  | none=>obtain ⟨u,hu⟩:=nxt [0,0];exact ⟨u,Mach.rtake_no hc h0 e0 e1 e9 hu⟩
  | some y=>exact ⟨_,Mach.rtake_yes hc h0 e1 e9⟩
 ·cases q with
  | none =>
   obtain ⟨u,hu⟩:=nxt [0,0]
   rw [Mach.rtake_no hc h0 e0 e1 e9 hu] at ho
   exact hQ none s' (by rw [← ho];exact hu) hfg' ok'
  | some y =>
   rw [Mach.rtake_yes hc h0 e1 e9] at ho
   have ht':=(Option.some.inj ho).symm
   obtain ⟨u,hu⟩:=nxt [y,1]
   dsimp only
   refine acc_goD HD (op:=3) rfl HD.ok0 hfg' (by rw [ht'];exact hP _ _ _) fun f2 ok2=>?_
   obtain ⟨a2,ha2⟩:∃ a,(f2 (2*n+4)+1)%18446744073709551616=a:=⟨_,rfl⟩
   refine ⟨upd f2 (2*n+4) a2,_,by rw [ht'];exact mir_op2 (Mach.rtake_21 (w:=mirW n f2) hc h0 e0 e1 e9 rfl rfl ha2 rfl hu),fun m2 hm2=>⟨by omega,?_⟩⟩
   dsimp only
   rw [show 2*n+2+2=2*n+4 from rfl,ha2]
   exact hQ (some y) _ hu (fun i hi=>mir_un hi) (HD.upd _ _ _ ok2 (by rw [← ha2];exact Nat.mod_lt _ (by decide)))
theorem counts_plays (hc:cs[c]?=some Mach.rcountsCl) (h0:pre.length=c) (hP:∀ p r said h,Pm h→Pv (k,Mach.T cs c p r pre said) h)
  (nxt:∀ told,∃ t',Mach.onF 20 (Mach.Bt cs (c+1) (pre++[(true,told)]))=some t') {s:PlS} (ht:s.t=Mach.T cs c 0 (fun _=>0) pre []) (hfg:∀ i,i<2*n+5→s.f i=s.g i)
  {Q:Nat→Nat→Nat→PlS→Prop} (hQ:∀ a b d s',Mach.onF 20 (Mach.Bt cs (c+1) (pre++[(true,[a,b,d])]))=some s'.t→(∀ i,i<2*n+5→s'.f i=s'.g i)→(mirD n).ok s'.f→Q a b d s') :
  CountsT (playAcc (mirD n) addr (2*n+5) K A Z Pv hPv sb says turn fin wg k Pm) n s Q:=by
 have HD:=mir_DAt (n:=n)
 unfold CountsT
 refine acc_goD HD (op:=1) rfl HD.ok0 hfg (by rw [ht];exact hP _ _ _) fun f1 ok1=>?_
 refine ⟨f1,_,by rw [ht];exact Mach.rcounts_0 (w:=mirW n f1) hc h0 rfl rfl,fun m1 hm1=>⟨by omega,?_⟩⟩
 unfold Cnt1
 refine acc_goD HD (op:=1) rfl HD.ok0 (fun i hi=>mir_un hi) (hP _ _ _) fun f2 ok2=>?_
 refine ⟨f2,_,Mach.rcounts_1 (w:=mirW n f2) hc h0 rfl rfl,fun m2 hm2=>⟨by omega,?_⟩⟩
 unfold Cnt2
 refine acc_goD HD (op:=1) rfl HD.ok0 (fun i hi=>mir_un hi) (hP _ _ _) fun f3 ok3=>?_
 obtain ⟨u,hu⟩:=nxt [f1 (2*n+2),f2 (2*n+3),f3 (2*n+4)]
 exact ⟨f3,_,Mach.rcounts_2 (w:=mirW n f3) hc h0 rfl rfl hu,fun m3 hm3=>⟨by omega,hQ _ _ _ _ hu (fun i hi=>mir_un hi) ok3⟩⟩
def mirAt (n kd v:Nat) (cs:List Mach.Cl) (c:Nat) (pre:List (Bool × List Nat)):Mach.Th:=if kd=0 then Mach.T cs c 2 (upd (upd (fun _=>0) 0 v) 2 1) pre [] else Mach.T cs c 0 (fun _=>0) pre []
theorem mirror_on {kd:Nat} (hv:v<18446744073709551616) (hc:cs[c]?=some (callCl n kd v)) (h0:pre.length=c):Mach.onF 20 (Mach.Bt cs c pre)=some (mirAt n kd v cs c pre):=by
 rw [Mach.on_begin (f:=19) hc h0]
 unfold callCl at hc
 unfold mirAt
 by_cases k0:kd=0
 ·rw [if_pos k0] at hc ⊢;exact Mach.roffer_on hc h0 hv
 ·rw [if_neg k0] at hc ⊢
  by_cases k1:kd=1
  ·rw [if_pos k1] at hc;exact Mach.rtake_on hc h0
  ·rw [if_neg k1] at hc;exact Mach.rcounts_on hc h0
def MirCalls (n:Nat) (cs:List Mach.Cl):Prop:=∀ (i:Nat) (cl:Mach.Cl),cs[i]?=some cl→∃ kd v,cl=callCl n kd v∧v<18446744073709551616
theorem mirror_next (hcs:MirCalls n cs) (h0:pre.length=c):∃ t',Mach.onF 20 (Mach.Bt cs c pre)=some t':=by
 cases h:cs[c]? with
 | none=>exact ⟨_,Mach.on_over (f:=19) h⟩
 | some cl =>
  obtain ⟨kd,v,rfl,hv⟩:=hcs c cl h
  exact ⟨_,mirror_on hv h h0⟩
theorem done_plays {kd:Nat} (hn:n=2^j) (hj0:1≤j) (hj:j≤10) (hv:v<18446744073709551616) (hcs:MirCalls n cs) (hc:cs[c]?=some (callCl n kd v)) (h0:pre.length=c) (hP:∀ p r said h,Pm h→Pv (k,Mach.T cs c p r pre said) h)
  {s:PlS} (ht:Mach.onF 20 (Mach.Bt cs c pre)=some s.t) (hfg:∀ i,i<2*n+5→s.f i=s.g i) :
  DoneT (playAcc (mirD n) addr (2*n+5) K A Z Pv hPv sb says turn fin wg k Pm) n kd v s fun told s'=>Mach.onF 20 (Mach.Bt cs (c+1) (pre++[(true,told)]))=some s'.t∧(∀ i,i<2*n+5→s'.f i=s'.g i)∧(mirD n).ok s'.f:=by
 rw [mirror_on hv hc h0] at ht
 have ht:s.t=mirAt n kd v cs c pre:=(Option.some.inj ht).symm
 have nxt:∀ told,∃ t',Mach.onF 20 (Mach.Bt cs (c+1) (pre++[(true,told)]))=some t':=fun told=>mirror_next hcs (by simp [h0])
 unfold mirAt at ht
 unfold callCl at hc
 unfold DoneT
 by_cases k0:kd=0
 ·rw [if_pos k0] at hc ht ⊢
  exact offer_plays hn hj0 hj hv hc h0 hP nxt ht hfg fun q s' a b d=>⟨a,b,d⟩
 ·rw [if_neg k0] at hc ht ⊢
  by_cases k1:kd=1
  ·rw [if_pos k1] at hc ⊢
   exact mtake_plays hn hj0 hj hc h0 hP nxt ht hfg fun q s' a b d=>⟨a,b,d⟩
  ·rw [if_neg k1] at hc ⊢
   exact counts_plays hc h0 hP nxt ht hfg fun a b d s' h1 h2 h3=>⟨h1,h2,h3⟩
end
section
variable {n j:Nat} {cs:List Mach.Cl} {c v:Nat} {pre:List (Bool × List Nat)}
theorem mirror_good (hn:n=2^j) (hj0:1≤j) (hj:j≤10) (hcs:MirCalls n cs):∀ (m c:Nat) (pre:List (Bool × List Nat)),cs.length-c=m→pre.length=c→∃ t',Mach.onF 20 (Mach.Bt cs c pre)=some t'∧GoodT (mirD n) t':=by
 have HD:=mir_DAt (n:=n)
 intro m
 induction m with
 | zero =>
  intro c pre hm h0
  have h:cs[c]?=none:=List.getElem?_eq_none_iff.2 (by omega)
  exact ⟨_,Mach.on_over (f:=19) h,.over rfl⟩
 | succ m ih =>
  intro c pre hm h0
  have hlt:c<cs.length:=by omega
  have h:cs[c]?=some cs[c]:=List.getElem?_eq_getElem hlt
  obtain ⟨kd,v,e,hv⟩:=hcs c _ h
  rw [e] at h
  refine ⟨_,mirror_on hv h h0,?_⟩
  have nxt:∀ told,∃ t',Mach.onF 20 (Mach.Bt cs (c+1) (pre++[(true,told)]))=some t'∧GoodT (mirD n) t':=fun told=>ih (c+1) _ (by omega) (by simp [h0])
  unfold mirAt
  unfold callCl at h
  by_cases k0:kd=0
  ·rw [if_pos k0] at h ⊢
   obtain ⟨u0,hu0,g0⟩:=nxt [0]
   obtain ⟨u1,hu1,g1⟩:=nxt [1]
   refine good_go (m:=(3,0)) HD.ok0 fun f1 ok1=>?_
   obtain ⟨a,ha⟩:∃ a,(f1 (2*n+2)+1)%18446744073709551616=a:=⟨_,rfl⟩
   refine ⟨upd f1 (2*n+2) a,_,mir_op0 (Mach.roffer_2 (w:=mirW n f1) h h0 rfl rfl ha rfl),HD.upd _ _ _ ok1 (by rw [← ha];exact Nat.mod_lt _ (by decide)),fun N=>?_⟩
   refine put_goodN (v:=v) (b:=3) HD hn hj0 hj hv h Mach.roffer_has h0 (fun q r' e1 e9=>?_) N _ rfl rfl
   cases q with
   | true=>exact ⟨u1,Mach.roffer_yes h h0 e1 hu1,g1⟩
   | false =>
    refine ⟨_,Mach.roffer_no h h0 e1,good_go (m:=(3,1)) HD.ok0 fun f2 ok2=>?_⟩
    obtain ⟨a2,ha2⟩:∃ a,(f2 (2*n+3)+1)%18446744073709551616=a:=⟨_,rfl⟩
    exact ⟨upd f2 (2*n+3) a2,_,mir_op1 (Mach.roffer_22 (w:=mirW n f2) h h0 e1 e9 rfl rfl ha2 rfl hu0),HD.upd _ _ _ ok2 (by rw [← ha2];exact Nat.mod_lt _ (by decide)),g0⟩
  ·rw [if_neg k0] at h ⊢
   by_cases k1:kd=1
   ·rw [if_pos k1] at h
    refine fun N=>take_goodN (v3:=0) (b:=0) HD hn hj0 hj h Mach.rtake_has h0 (fun q r' e0 e1 e9 e3=>?_) N _ rfl rfl
    cases q with
    | none=>obtain ⟨u,hu,g⟩:=nxt [0,0];exact ⟨u,Mach.rtake_no h h0 e0 e1 e9 hu,g⟩
    | some y =>
     obtain ⟨u,hu,g⟩:=nxt [y,1]
     refine ⟨_,Mach.rtake_yes h h0 e1 e9,good_go (m:=(3,2)) HD.ok0 fun f2 ok2=>?_⟩
     obtain ⟨a2,ha2⟩:∃ a,(f2 (2*n+4)+1)%18446744073709551616=a:=⟨_,rfl⟩
     exact ⟨upd f2 (2*n+4) a2,_,mir_op2 (Mach.rtake_21 (w:=mirW n f2) h h0 e0 e1 e9 rfl rfl ha2 rfl hu),HD.upd _ _ _ ok2 (by rw [← ha2];exact Nat.mod_lt _ (by decide)),g⟩
   ·rw [if_neg k1] at h
    refine good_go (m:=(1,0)) HD.ok0 fun f1 ok1=>⟨f1,_,Mach.rcounts_0 (w:=mirW n f1) h h0 rfl rfl,ok1,?_⟩
    refine good_go (m:=(1,1)) HD.ok0 fun f2 ok2=>⟨f2,_,Mach.rcounts_1 (w:=mirW n f2) h h0 rfl rfl,ok2,?_⟩
    refine good_go (m:=(1,2)) HD.ok0 fun f3 ok3=>?_
    obtain ⟨u,hu,g⟩:=nxt [f1 (2*n+2),f2 (2*n+3),f3 (2*n+4)]
    exact ⟨f3,_,Mach.rcounts_2 (w:=mirW n f3) h h0 rfl rfl hu,ok3,g⟩
theorem mirror_begin (hn:n=2^j) (hj0:1≤j) (hj:j≤10) (hcs:MirCalls n cs):∃ t',Mach.onF 20 (Mach.Bt cs 0 [])=some t'∧Mach.onF (mirD n).fu { calls:=cs }=some t'∧GoodT (mirD n) t':=by
 obtain ⟨t',h1,h2⟩:=mirror_good hn hj0 hj hcs cs.length 0 [] (by omega) rfl
 exact ⟨t',h1,Mach.onF_more (k:=10) h1,h2⟩
end
end
end Go.Proofs.Ytmkkanmkjfnpdaa
namespace Go.Proofs.Ytmkkanmkjfnpdaa
open Go Go.PB
attribute [local irreducible] Mo Bin Eql Tr Wo Ap
section
section
variable {B:Hand} [Lets B] {L F:List HProp} {x:B.X} {n v:Nat}
def qwords (n:Nat):List Nat:=0::0::((List.range n).map fun i=>[i,0]).flatten
theorem qwords_len:∀ n,(qwords n).length=2*n+2:=by
 intro n
 have:∀ n,((List.range n).map fun i=>[i,0]).flatten.length=2*n:=by
  intro n
  induction n with
  | zero=>rfl
  | succ n ih=>rw [List.range_succ,List.map_append,List.flatten_append,List.length_append,ih];simp;omega
 simp only [qwords,List.length_cons,this]
theorem qwords_succ (n:Nat):qwords (n+1)=qwords n++[n,0]:=by
 simp [qwords,List.range_succ]
def wordsInv (x:B.X) (L:List HProp) (n:Nat):Inv (Nat × Value) B.X where
 e:=fun i=>[(0,.int .i64 (n:Nat)),(3,i.2),(4,.int .i64 (i.1:Nat))]
 L:=fun i=>vec 1 i.2 ((qwords i.1).map num)::L
 x:=fun _=>x
 ok:=fun i=>i.1≤n
theorem words_tr (hn:n≤1024):Tr Try.prog B 36 [.int .i64 (n:Nat)] L x fun v L' x'=>L'=vec 1 v ((qwords n).map num)::L∧x'=x:=by
 refine Tr.post (R:=fun v L' x'=>x'=x∧∀ h,Star L' h→Star (vec 1 v ((qwords n).map num)::L) h) ?_
  (by rintro v L' x' ⟨rfl,hs⟩;exact ⟨_,⟨rfl,rfl⟩,hs⟩)
 refine tr_of_body Try.func36 rfl Try.ntmps36 (by simp) fun um Q _ hQ=>?_
 simp only [argE,Nat.zero_add,Nat.reduceAdd]
 repeat (first | (apply wo_mo;apply mo_buildSlice (sz:=1) (vs:=[num 0,num 0]);exact rfl;exact .cons rfl (.cons rfl .nil);exact rfl;(repeat (first | exact List.forall_mem_nil _ | refine List.forall_mem_cons.2 ⟨rfl,?_⟩));omega;exact trivial) | refine we_seq ?_ | (refine wR ?_;try simp only [oS]) | refine wo_nil ?_ | refine wM ?_ | refine wA ?_)
 rintro v' L' ⟨sb,rfl,rfl⟩
 refine wo_star (vec 1 (.slice none 0 0) []::arr sb 0 [num 0,num 0]::L) (fun h st=>vec_nil st) ?_
 repeat (first | (apply wo_mo;apply mo_append (sz:=1) (new:=[num 0,num 0]);exact rfl;exact rfl;exact rfl;exact rfl;exact .here;exact rfl;exact .inr ⟨_,_,rfl,Rds.all (.there .here)⟩;(repeat (first | exact List.forall_mem_nil _ | refine List.forall_mem_cons.2 ⟨rfl,?_⟩));(simp only [sliceLen];omega);exact trivial))
 rintro v' L' rfl
 repeat (first | refine we_seq ?_ | (refine wR ?_;try simp only [oS]) | refine wo_nil ?_ | refine wA ?_)
 refine we_block ?_
 refine we_star (vec 1 v' ((qwords 0).map num)::L) (fun h st=>Ent.star (.take .here (.drop .refl)) st) ?_
 refine we_loopN (wordsInv x L n) (fun i=>n-i.1) (0,v') (by show 0≤n;omega) ⟨rfl,rfl,rfl,trivial⟩ .refl rfl ?_
 rintro ⟨i,sv⟩ hi
 dsimp only [wordsInv] at hi ⊢
 refine we_pure (of_has .here (vec_shape (by omega))) ?_
 rintro ⟨sa,sn,sc,rfl,hlen,_⟩
 have hsn:sn=2*i+2:=by rw [List.length_map,qwords_len] at hlen;omega
 by_cases hc:i<n
 ·repeat (first | (apply wo_mo;apply mo_buildSlice (sz:=1) (vs:=[num i,num 0]);exact rfl;exact .cons rfl (.cons rfl .nil);exact rfl;(repeat (first | exact List.forall_mem_nil _ | refine List.forall_mem_cons.2 ⟨rfl,?_⟩));omega;exact trivial) | refine wlssT ?_ | refine we_seq ?_ | (refine wR ?_;try simp only [oS]) | refine wo_nil ?_ | refine wM ?_ | (apply wo_po;apply mo_conv;exact rfl;(first | exact wrap_i64 (by omega) (by omega) | exact wrap_u64 (by omega) (by omega));exact gY) | refine wT ?_ | refine we_skip ?_ | refine we_block ?_)
  rintro v' L' ⟨sb,rfl,rfl⟩
  repeat (first | (apply wo_mo;apply mo_append (sz:=1) (new:=[num i,num 0]);exact rfl;exact rfl;exact rfl;exact rfl;exact (.there .here);exact rfl;exact .inr ⟨_,_,rfl,Rds.all .here⟩;(repeat (first | exact List.forall_mem_nil _ | refine List.forall_mem_cons.2 ⟨rfl,?_⟩));(simp only [sliceLen];omega);exact trivial))
  rintro v' L' rfl
  repeat (first | (refine wR ?_;try simp only [oS]) | refine wo_nil ?_ | refine wM ?_ | refine wA ?_ | refine wadd ?_)
  refine at_roundS (I:=wordsInv _ L n) (R:=fun i'=>n-i'.1<n-i) (i+1,v') (by show n-(i+1)<n-i;omega) (by show i+1≤n;omega) ⟨rfl,rfl,rfl,trivial⟩ (fun h st=>?_) rfl
  show Star (vec 1 v' ((qwords (i+1)).map num)::L) h
  rw [qwords_succ,List.map_append]
  exact Ent.star (.take .here (.drop .refl)) st
 ·obtain rfl:i=n:=by omega
  repeat (first | refine wlssF ?_ | refine we_seq ?_ | (refine wR ?_;try simp only [oS]) | refine wo_nil ?_ | refine wM ?_ | refine wA ?_ | refine wF ?_ | refine we_ret ?_ | refine we_exit ?_)
  (first | refine or1 Try.func36 Try.results36 hQ rfl ?_ | refine on1 Try.func36 Try.results36 hQ rfl ?_)
  exact ⟨rfl,fun h st=>st⟩
set_option maxHeartbeats 8000000 in
theorem put_code_tr {on a:Nat} (h1:1≤n) (hn:n≤1024) (ho:on≤1000) (ha:a≤1000):Tr Try.prog B 95 [.int .i64 (on:Nat),.int .i64 (n:Nat),.int .i64 (a:Nat),.int .i64 0,.int .i64 1] L x fun v L' x'=>∃ kb,v=.slice (some ⟨kb,0,none⟩) 17 17∧L'=arr kb 0 ((Mach.qputCode on n a).map inC).flatten::L∧x'=x:=by
 have hsub:IntKind.i64.wrap ((n:Int)-1)=((n-1:Nat):Int):=(wrap_i64 (by omega) (by omega)).trans (by omega)
 have h9:IntKind.u64.wrap ((a:Int)+9)=((a+9:Nat):Int):=(wrap_u64 (by omega) (by omega)).trans (by omega)
 have h16:IntKind.u64.wrap ((a:Int)+16)=((a+16:Nat):Int):=(wrap_u64 (by omega) (by omega)).trans (by omega)
 have h17:IntKind.u64.wrap ((a:Int)+17)=((a+17:Nat):Int):=(wrap_u64 (by omega) (by omega)).trans (by omega)
 refine tr_of_body Try.func95 rfl Try.ntmps95 (by simp) fun um Q _ hQ=>?_
 simp only [argE,Nat.zero_add,Nat.reduceAdd]
 repeat (first | (apply wo_po;apply mo_bin;exact rfl;exact rfl;apply bin_sub;exact hsub;exact trivial) | (apply wo_po;apply mo_bin;exact rfl;exact rfl;apply bin_add;(first | exact h9 | exact h16 | exact h17);exact trivial) | (apply wo_po;apply mo_buildV;(repeat (first | exact EvL.nil | apply EvL.cons rfl));exact rfl;exact trivial) | (apply wo_mo;apply mo_buildSlice (sz:=7);exact rfl;(repeat (first | exact EvL.nil | apply EvL.cons rfl));exact rfl;(repeat (first | exact List.forall_mem_nil _ | refine List.forall_mem_cons.2 ⟨rfl,?_⟩));omega;exact trivial) | refine we_seq ?_ | (refine wR ?_;try simp only [oS]) | refine wo_nil ?_ | refine wM ?_ | refine wA ?_ | (apply wo_po;apply mo_conv;exact rfl;(first | exact wrap_i64 (by omega) (by omega) | exact wrap_u64 (by omega) (by omega));exact gY))
 rintro v' L' ⟨kb,rfl,rfl⟩
 repeat (first | refine wo_nil ?_ | refine wA ?_ | refine we_ret ?_)
 (first | refine or1 Try.func95 Try.results95 hQ rfl ?_ | refine on1 Try.func95 Try.results95 hQ rfl ?_)
 exact ⟨kb,rfl,rfl,rfl⟩
set_option maxHeartbeats 8000000 in
theorem take_code_tr {on a:Nat} (h1:1≤n) (hn:n≤1024) (ho:on≤1000) (ha:a≤1000):Tr Try.prog B 64 [.int .i64 (on:Nat),.int .i64 (n:Nat),.int .i64 (a:Nat),.int .i64 0,.int .i64 1] L x fun v L' x'=>∃ kb,v=.slice (some ⟨kb,0,none⟩) 19 19∧L'=arr kb 0 ((Mach.qtakeCode on n a).map inC).flatten::L∧x'=x:=by
 have hsub:IntKind.i64.wrap ((n:Int)-1)=((n-1:Nat):Int):=(wrap_i64 (by omega) (by omega)).trans (by omega)
 have h9:IntKind.u64.wrap ((a:Int)+10)=((a+10:Nat):Int):=(wrap_u64 (by omega) (by omega)).trans (by omega)
 have h16:IntKind.u64.wrap ((a:Int)+17)=((a+17:Nat):Int):=(wrap_u64 (by omega) (by omega)).trans (by omega)
 have h17:IntKind.u64.wrap ((a:Int)+19)=((a+19:Nat):Int):=(wrap_u64 (by omega) (by omega)).trans (by omega)
 refine tr_of_body Try.func64 rfl Try.ntmps64 (by simp) fun um Q _ hQ=>?_
 simp only [argE,Nat.zero_add,Nat.reduceAdd]
 repeat (first | (apply wo_po;apply mo_bin;exact rfl;exact rfl;apply bin_sub;exact hsub;exact trivial) | (apply wo_po;apply mo_bin;exact rfl;exact rfl;apply bin_add;(first | exact h9 | exact h16 | exact h17);exact trivial) | (apply wo_po;apply mo_buildV;(repeat (first | exact EvL.nil | apply EvL.cons rfl));exact rfl;exact trivial) | (apply wo_mo;apply mo_buildSlice (sz:=7);exact rfl;(repeat (first | exact EvL.nil | apply EvL.cons rfl));exact rfl;(repeat (first | exact List.forall_mem_nil _ | refine List.forall_mem_cons.2 ⟨rfl,?_⟩));omega;exact trivial) | refine we_seq ?_ | (refine wR ?_;try simp only [oS]) | refine wo_nil ?_ | refine wM ?_ | refine wA ?_ | (apply wo_po;apply mo_conv;exact rfl;(first | exact wrap_i64 (by omega) (by omega) | exact wrap_u64 (by omega) (by omega));exact gY))
 rintro v' L' ⟨kb,rfl,rfl⟩
 repeat (first | refine wo_nil ?_ | refine wA ?_ | refine we_ret ?_)
 (first | refine or1 Try.func64 Try.results64 hQ rfl ?_ | refine on1 Try.func64 Try.results64 hQ rfl ?_)
 exact ⟨kb,rfl,rfl,rfl⟩
end
end
end Go.Proofs.Ytmkkanmkjfnpdaa
namespace Go.Proofs.Ytmkkanmkjfnpdaa
open Go Go.PB
attribute [local irreducible] Mo Bin Eql Tr Wo Ap Wle
section
section
variable {B:Hand} [Lets B] {L F:List HProp} {x:B.X} {n:Nat}
theorem mworld_tr (hn:n≤1024):Tr Try.prog B 11 [.int .i64 (n:Nat)] L x fun w L' x'=>∃ wv lv,w=.agg #[wv,lv]∧L'=wvC wv lv ⟨[[0,0,0],qwords n],2⟩::L∧x'=x:=by
 refine Tr.post (R:=fun v L' x'=>∃ wv lv,v=.agg #[wv,lv]∧x'=x∧∀ h,Star L' h→Star (wvC wv lv ⟨[[0,0,0],qwords n],2⟩::L) h) ?_
  (by rintro v L' x' ⟨wv,lv,rfl,rfl,hs⟩;exact ⟨_,⟨wv,lv,rfl,rfl,rfl⟩,hs⟩)
 refine tr_of_body Try.func11 rfl Try.ntmps11 (by simp) fun um Q _ hQ=>?_
 simp only [argE,Nat.zero_add,Nat.reduceAdd]
 repeat (first | (apply wo_mo;apply mo_alloc;exact trivial) | refine we_seq ?_ | (refine wR ?_;try simp only [oS]))
 rintro v' L' ⟨cb,rfl,rfl⟩
 repeat (first | (apply wo_mo;apply mo_buildSlice (sz:=1) (vs:=[num 0,num 0,num 0]);exact rfl;(repeat (first | exact EvL.nil | apply EvL.cons rfl));exact rfl;(repeat (first | exact List.forall_mem_nil _ | refine List.forall_mem_cons.2 ⟨rfl,?_⟩));omega;exact trivial) | refine we_seq ?_ | (refine wR ?_;try simp only [oS]) | refine wo_nil ?_)
 rintro v' L' ⟨ab,rfl,rfl⟩
 repeat (first | refine wM ?_)
 refine wo_call (.cons rfl .nil) trivial (words_tr hn) ?_
 rintro qv L' x' ⟨rfl,rfl⟩
 refine wo_pure (of_has .here (vec_shape (by omega))) ?_
 rintro ⟨qa,qn,qc,rfl,hqn,_⟩
 repeat (first | (apply wo_mo;apply mo_buildSlice (sz:=1) (vs:=[.slice (some ⟨ab,0,none⟩) 3 3,.slice qa qn qc]);exact rfl;(repeat (first | exact EvL.nil | apply EvL.cons rfl));exact rfl;(repeat (first | exact List.forall_mem_nil _ | refine List.forall_mem_cons.2 ⟨rfl,?_⟩));omega;exact trivial))
 rintro v' L' ⟨rb,rfl,rfl⟩
 repeat (first | (apply wo_mo;apply mo_buildSlice (sz:=1) (vs:=[.slice none 0 0,.slice none 0 0]);exact rfl;(repeat (first | exact EvL.nil | apply EvL.cons rfl));exact rfl;(repeat (first | exact List.forall_mem_nil _ | refine List.forall_mem_cons.2 ⟨rfl,?_⟩));omega;exact trivial))
 rintro v' L' ⟨lb,rfl,rfl⟩
 repeat (first | (apply wo_po;apply mo_build (pv:=[(0,.slice (some ⟨rb,0,none⟩) 2 2),(1,.slice (some ⟨lb,0,none⟩) 2 2)]);exact rfl;exact .cons rfl (.cons rfl .nil);exact rfl;exact trivial) | (apply wo_pm;apply mo_storeA (b:=cb) (c:=0) (k:=0) (a:=0) (vs:=[.slice none 0 0,.slice none 0 0]);exact rfl;exact rfl;exact rfl;(intro w hw;simp [Value.cells] at hw;rcases hw with rfl | rfl <;> rfl);exact rfl;exact Nat.le_refl 2;exact (.there (.there (.there (.there .here))));exact trivial) | refine wo_nil ?_ | refine we_ret ?_)
 refine at_leaveM (rs:=[.cell 2 32]) Try.func11 Try.results11 hQ (.inl rfl) (.cons (.cell (vs:=[.slice (some ⟨rb,0,none⟩) 2 2,.slice (some ⟨lb,0,none⟩) 2 2]) rfl rfl (Rds.all (.there (.there (.there (.there .here)))))) .nil) ?_
 refine ⟨_,_,rfl,rfl,fun h st=>?_⟩
 have s1:Star (arr lb 0 [.slice none 0 0,.slice none 0 0]::arr rb 0 [.slice (some ⟨ab,0,none⟩) 3 3,.slice qa qn qc]::arr ab 0 [num 0,num 0,num 0]::vec 1 (.slice qa qn qc) ((qwords n).map num)::L) h:=Ent.star (.take .here (.take .here (.take (.there .here) (.take .here (.drop .refl))))) st
 refine wv_shut (wl:=[(.slice (some ⟨ab,0,none⟩) 3 3,[0,0,0]),(.slice qa qn qc,qwords n)]) (lw:=[.slice none 0 0,.slice none 0 0]) rfl ?_ rfl ?_
 ·refine ⟨by show 2<1000000;omega,by show 2<1000000;omega,fun l hl=>?_,fun l hl v hv=>?_⟩
  ·simp only [List.mem_cons,List.not_mem_nil,or_false] at hl
   rcases hl with rfl | rfl
   ·show 3<_;omega
   ·rw [qwords_len];omega
  ·simp only [List.mem_cons,List.not_mem_nil,or_false] at hl
   rcases hl with rfl | rfl
   ·simp only [List.mem_cons,List.not_mem_nil,or_false] at hv
    omega
   ·simp only [qwords,List.mem_cons,List.mem_flatten,List.mem_map,List.mem_range] at hv
    rcases hv with rfl | rfl | ⟨l,⟨i,hi,rfl⟩,hv⟩
    ·omega
    ·omega
    ·simp at hv;omega
 ·refine star_map (vec_new (n:=2) (sz:=1) rfl s1) (fun _ y=>y) fun _ y=>?_
  refine star_shut (M:=[_,_]) (vec_nil (vec_nil ?_))
  refine star_map (vec_new (n:=2) (sz:=1) rfl y) (fun _ y=>y) fun _ z=>?_
  exact star_shut (M:=[_,_]) (vec_new (n:=3) (sz:=1) rfl z)
set_option maxHeartbeats 8000000 in
theorem moffer_code_tr (h1:1≤n) (hn:n≤1024):Tr Try.prog B 63 [.int .i64 0,.int .i64 (n:Nat),.int .i64 1,.int .i64 0,.int .i64 1] L x fun v L' x'=>L'=vec 7 v ((Mach.rofferCode n).map inC).flatten::L∧x'=x:=by
 refine Tr.post (R:=fun v L' x'=>x'=x∧∀ h,Star L' h→Star (vec 7 v ((Mach.rofferCode n).map inC).flatten::L) h) ?_ (by rintro v L' x' ⟨rfl,h⟩;exact ⟨_,⟨rfl,rfl⟩,h⟩)
 refine tr_of_body Try.func63 rfl Try.ntmps63 (by simp) fun um Q _ hQ=>?_
 simp only [argE,Nat.zero_add,Nat.reduceAdd]
 repeat (first | (apply wo_po;apply mo_buildV;(repeat (first | exact EvL.nil | apply EvL.cons rfl));exact rfl;exact trivial) | (apply wo_mo;apply mo_buildSlice (sz:=7);exact rfl;(repeat (first | exact EvL.nil | apply EvL.cons rfl));exact rfl;(repeat (first | exact List.forall_mem_nil _ | refine List.forall_mem_cons.2 ⟨rfl,?_⟩));omega;exact trivial) | refine we_seq ?_ | (refine wR ?_;try simp only [oS]) | refine wo_nil ?_ | refine wM ?_ | refine wA ?_)
 rintro v' L' ⟨kb0,rfl,rfl⟩
 refine wo_star (vec 7 (.slice (some ⟨kb0,0,none⟩) 2 2) (([⟨6,0,2,0,0,0,1⟩,⟨3,0,3,9,2,0,0⟩]:List Mach.In).map inC).flatten::L) (fun h st=>vec_new rfl st) ?_
 repeat (first | refine we_seq ?_ | (refine wR ?_;try simp only [oS]) | refine wo_nil ?_ | refine wM ?_ | refine wA ?_ | refine wadd ?_)
 refine wo_call (.cons rfl (.cons rfl (.cons rfl (.cons rfl (.cons rfl .nil))))) trivial (put_code_tr (on:=1) (a:=3) h1 hn (by omega) (by omega)) ?_
 rintro v' L' x' ⟨kb,rfl,rfl,rfl⟩
 repeat (first | (apply wo_mo;apply mo_append (sz:=7) (new:=((Mach.qputCode 1 n 3).map inC).flatten);exact rfl;exact rfl;exact rfl;exact rfl;exact (.there .here);exact rfl;exact .inr ⟨_,_,rfl,Rds.all .here⟩;exact inC_one;(simp only [sliceLen];omega);exact trivial))
 rintro v' L' rfl
 refine wo_pure (of_has .here (vec_shape (by omega))) ?_
 rintro ⟨va,vn,vc,rfl,hvn,_⟩
 replace hvn:133=vn*7:=hvn
 repeat (first | (apply wo_po;apply mo_buildV;(repeat (first | exact EvL.nil | apply EvL.cons rfl));exact rfl;exact trivial) | (apply wo_mo;apply mo_buildSlice (sz:=7);exact rfl;(repeat (first | exact EvL.nil | apply EvL.cons rfl));exact rfl;(repeat (first | exact List.forall_mem_nil _ | refine List.forall_mem_cons.2 ⟨rfl,?_⟩));omega;exact trivial) | (apply wo_po;apply mo_conv;exact rfl;exact wrap_u64 (by omega) (by omega);exact trivial) | refine we_seq ?_ | (refine wR ?_;try simp only [oS]) | refine wo_nil ?_ | refine wM ?_ | refine wA ?_ | refine wadd ?_)
 rintro v'' L' ⟨kb2,rfl,rfl⟩
 repeat (first | (apply wo_mo;apply mo_append (sz:=7) (new:=(([⟨6,0,2,0,0,0,1⟩,⟨19,0,1,2,0,0,23⟩,⟨3,0,3,9,2,0,1⟩]:List Mach.In).map inC).flatten);exact rfl;exact rfl;exact rfl;exact rfl;exact (.there .here);exact rfl;exact .inr ⟨_,_,rfl,Rds.all .here⟩;exact inC_one;(simp only [sliceLen];omega);exact trivial))
 rintro v'' L' rfl
 repeat (first | refine wo_nil ?_ | refine wA ?_ | refine we_ret ?_)
 (first | refine or1 Try.func63 Try.results63 hQ rfl ?_ | refine on1 Try.func63 Try.results63 hQ rfl ?_)
 exact ⟨rfl,fun h st=>Ent.star (.take .here (.drop (.drop .refl))) st⟩
theorem rds_vec {v:Value} {a:Option Addr} {m c:Nat} {cs:List Value} (hh:Has L (vec 7 (.slice a m c) cs) F) (hc:cs.length=m*7) (h0:0<m) (ha:a=none→m=0) (hy:∀ y,a=some y→y=⟨y.block,y.off,none⟩):(a=none∧m=0)∨∃ b o,a=some ⟨b,o,none⟩∧Rds L b o cs:=by
 cases a with
 | none=>have:=ha rfl;omega
 | some y =>
  have e:=hy y rfl
  obtain ⟨b,o,s⟩:=y
  simp only [Addr.mk.injEq,true_and] at e
  subst e
  exact .inr ⟨b,o,rfl,fun i v hv=>rd_vec hh hv⟩
set_option maxHeartbeats 8000000 in
theorem ref_offer_tr {u:Nat} (h1:1≤n) (hn:n≤1024):Tr Try.prog B 39 [.int .i64 (n:Nat),.int .u64 (u:Nat)] L x fun w L' x'=>∃ a m c,w=.agg #[.slice a m c,.slice none 0 0]∧L'=clC (.slice a m c) (.slice none 0 0) (Mach.rofferCl n u)::L∧x'=x:=by
 refine Tr.post (R:=fun v L' x'=>∃ a m c,v=.agg #[.slice a m c,.slice none 0 0]∧x'=x∧∀ h,Star L' h→Star (clC (.slice a m c) (.slice none 0 0) (Mach.rofferCl n u)::L) h) ?_
  (by rintro v L' x' ⟨a,m,c,rfl,rfl,hs⟩;exact ⟨_,⟨a,m,c,rfl,rfl,rfl⟩,hs⟩)
 refine tr_of_body Try.func39 rfl Try.ntmps39 (by simp) fun um Q _ hQ=>?_
 simp only [argE,Nat.zero_add,Nat.reduceAdd]
 repeat (first | (apply wo_mo;apply mo_alloc;exact trivial) | refine we_seq ?_ | (refine wR ?_;try simp only [oS]))
 rintro v' L' ⟨cb,rfl,rfl⟩
 repeat (first | (apply wo_po;apply mo_buildV;(repeat (first | exact EvL.nil | apply EvL.cons rfl));exact rfl;exact trivial) | (apply wo_mo;apply mo_buildSlice (sz:=7);exact rfl;(repeat (first | exact EvL.nil | apply EvL.cons rfl));exact rfl;(repeat (first | exact List.forall_mem_nil _ | refine List.forall_mem_cons.2 ⟨rfl,?_⟩));omega;exact trivial) | refine we_seq ?_ | (refine wR ?_;try simp only [oS]) | refine wo_nil ?_ | refine wM ?_)
 rintro v' L' ⟨kb0,rfl,rfl⟩
 refine wo_star (vec 7 (.slice (some ⟨kb0,0,none⟩) 1 1) (([⟨6,0,0,0,0,0,u⟩]:List Mach.In).map inC).flatten::arr cb 0 [.slice none 0 0,.slice none 0 0]::L) (fun h st=>vec_new rfl st) ?_
 repeat (first | refine we_seq ?_ | (refine wR ?_;try simp only [oS]) | refine wo_nil ?_ | refine wM ?_ | refine wA ?_)
 refine wo_call (.cons rfl (.cons rfl (.cons rfl (.cons rfl (.cons rfl .nil))))) trivial (moffer_code_tr h1 hn) ?_
 rintro v' L' x' ⟨rfl,rfl⟩
 refine wo_pure (of_has .here (vec_shape (by omega))) ?_
 rintro ⟨oa,on,oc,rfl,hon,_,ho1,ho2⟩
 replace hon:154=on*7:=hon
 obtain rfl:on=22:=by omega
 repeat (first | (apply wo_mo;apply mo_append (sz:=7) (new:=((Mach.rofferCode n).map inC).flatten);exact rfl;exact rfl;exact rfl;exact rfl;exact (.there .here);exact rfl;exact (rds_vec (v:=.nilIface) .here rfl (by omega) ho1 ho2).imp And.right id;exact inC_one;(simp only [sliceLen];omega);exact trivial))
 rintro v' L' rfl
 refine wo_pure (of_has .here (vec_shape (by omega))) ?_
 rintro ⟨va,vn,vc,rfl,hvn,_⟩
 replace hvn:161=vn*7:=hvn
 repeat (first | (apply wo_po;apply mo_buildV;(repeat (first | exact EvL.nil | apply EvL.cons rfl));exact rfl;exact trivial) | (apply wo_mo;apply mo_buildSlice (sz:=7);exact rfl;(repeat (first | exact EvL.nil | apply EvL.cons rfl));exact rfl;(repeat (first | exact List.forall_mem_nil _ | refine List.forall_mem_cons.2 ⟨rfl,?_⟩));omega;exact trivial) | refine we_seq ?_ | (refine wR ?_;try simp only [oS]) | refine wo_nil ?_ | refine wM ?_ | refine wA ?_)
 rintro v'' L' ⟨kb2,rfl,rfl⟩
 repeat (first | (apply wo_mo;apply mo_append (sz:=7) (new:=(([⟨22,0,1,0,0,0,0⟩]:List Mach.In).map inC).flatten);exact rfl;exact rfl;exact rfl;exact rfl;exact (.there .here);exact rfl;exact .inr ⟨_,_,rfl,Rds.all .here⟩;exact inC_one;(simp only [sliceLen];omega);exact trivial))
 rintro v'' L' rfl
 refine wo_pure (of_has .here (vec_shape (by omega))) ?_
 rintro ⟨qa,qn,qc,rfl,hqn,_⟩
 repeat (first | (apply wo_po;apply mo_buildV;(repeat (first | exact EvL.nil | apply EvL.cons rfl));exact rfl;exact trivial) | (apply wo_pm;apply mo_storeA (b:=cb) (c:=0) (k:=0) (a:=0) (vs:=[.slice none 0 0,.slice none 0 0]);exact rfl;exact rfl;exact rfl;(intro w hw;simp [Value.cells] at hw;rcases hw with rfl | rfl <;> rfl);exact rfl;exact Nat.le_refl 2;exact (.there (.there (.there .here)));exact trivial) | refine wo_nil ?_ | refine we_ret ?_)
 refine at_leaveM (rs:=[.cell 4 47]) Try.func39 Try.results39 hQ (.inl rfl) (.cons (.cell (vs:=[.slice qa qn qc,.slice none 0 0]) rfl rfl (Rds.all (.there (.there (.there .here))))) .nil) ?_
 refine ⟨qa,qn,qc,rfl,rfl,fun h st=>?_⟩
 refine cl_shut (cl:=Mach.rofferCl n u) ?_ rfl (Ent.star (.take .here (.drop (.drop (.drop .refl)))) st)
 rfl
set_option maxHeartbeats 8000000 in
theorem ref_take_tr (h1:1≤n) (hn:n≤1024):Tr Try.prog B 40 [.int .i64 (n:Nat)] L x fun w L' x'=>∃ a m c,w=.agg #[.slice a m c,.slice none 0 0]∧L'=clC (.slice a m c) (.slice none 0 0) (Mach.rtakeCl n)::L∧x'=x:=by
 refine Tr.post (R:=fun v L' x'=>∃ a m c,v=.agg #[.slice a m c,.slice none 0 0]∧x'=x∧∀ h,Star L' h→Star (clC (.slice a m c) (.slice none 0 0) (Mach.rtakeCl n)::L) h) ?_
  (by rintro v L' x' ⟨a,m,c,rfl,rfl,hs⟩;exact ⟨_,⟨a,m,c,rfl,rfl,rfl⟩,hs⟩)
 refine tr_of_body Try.func40 rfl Try.ntmps40 (by simp) fun um Q _ hQ=>?_
 simp only [argE,Nat.zero_add,Nat.reduceAdd]
 repeat (first | (apply wo_mo;apply mo_alloc;exact trivial) | refine we_seq ?_ | (refine wR ?_;try simp only [oS]))
 rintro v' L' ⟨cb,rfl,rfl⟩
 repeat (first | refine we_seq ?_ | (refine wR ?_;try simp only [oS]) | refine wo_nil ?_ | refine wM ?_)
 refine wo_call (.cons rfl (.cons rfl (.cons rfl (.cons rfl (.cons rfl .nil))))) trivial (take_code_tr (on:=1) (a:=0) h1 hn (by omega) (by omega)) ?_
 rintro v' L' x' ⟨kb,rfl,rfl,rfl⟩
 refine wo_star (vec 7 (.slice (some ⟨kb,0,none⟩) 19 19) ((Mach.qtakeCode 1 n 0).map inC).flatten::arr cb 0 [.slice none 0 0,.slice none 0 0]::L) (fun h st=>vec_new rfl st) ?_
 repeat (first | (apply wo_po;apply mo_buildV;(repeat (first | exact EvL.nil | apply EvL.cons rfl));exact rfl;exact trivial) | (apply wo_mo;apply mo_buildSlice (sz:=7);exact rfl;(repeat (first | exact EvL.nil | apply EvL.cons rfl));exact rfl;(repeat (first | exact List.forall_mem_nil _ | refine List.forall_mem_cons.2 ⟨rfl,?_⟩));omega;exact trivial) | refine we_seq ?_ | (refine wR ?_;try simp only [oS]) | refine wo_nil ?_ | refine wM ?_ | refine wA ?_)
 rintro v'' L' ⟨kb2,rfl,rfl⟩
 repeat (first | (apply wo_mo;apply mo_append (sz:=7) (new:=(([⟨6,0,2,0,0,0,1⟩,⟨19,0,1,9,0,0,22⟩,⟨3,0,3,9,2,0,2⟩,⟨22,0,0,0,0,0,0⟩,⟨22,0,1,0,0,0,0⟩]:List Mach.In).map inC).flatten);exact rfl;exact rfl;exact rfl;exact rfl;exact (.there .here);exact rfl;exact .inr ⟨_,_,rfl,Rds.all .here⟩;exact inC_one;(simp only [sliceLen];omega);exact trivial))
 rintro v'' L' rfl
 refine wo_pure (of_has .here (vec_shape (by omega))) ?_
 rintro ⟨qa,qn,qc,rfl,hqn,_⟩
 repeat (first | (apply wo_po;apply mo_buildV;(repeat (first | exact EvL.nil | apply EvL.cons rfl));exact rfl;exact trivial) | (apply wo_pm;apply mo_storeA (b:=cb) (c:=0) (k:=0) (a:=0) (vs:=[.slice none 0 0,.slice none 0 0]);exact rfl;exact rfl;exact rfl;(intro w hw;simp [Value.cells] at hw;rcases hw with rfl | rfl <;> rfl);exact rfl;exact Nat.le_refl 2;exact (.there (.there .here));exact trivial) | refine wo_nil ?_ | refine we_ret ?_)
 refine at_leaveM (rs:=[.cell 2 47]) Try.func40 Try.results40 hQ (.inl rfl) (.cons (.cell (vs:=[.slice qa qn qc,.slice none 0 0]) rfl rfl (Rds.all (.there (.there .here)))) .nil) ?_
 refine ⟨qa,qn,qc,rfl,rfl,fun h st=>?_⟩
 refine cl_shut (cl:=Mach.rtakeCl n) ?_ rfl (Ent.star (.take .here (.drop (.drop .refl))) st)
 rfl
def cloads (i:Nat):List Mach.In:=(List.range i).map fun j=>⟨1,0,j,9,0,0,j⟩
theorem cloads_succ {i:Nat}:((cloads (i+1)).map inC).flatten=((cloads i).map inC).flatten++(([⟨1,0,i,9,0,0,i⟩]:List Mach.In).map inC).flatten:=by
 simp [cloads,List.range_succ]
theorem cloads_len {i:Nat}:((cloads i).map inC).flatten.length=i*7:=by
 induction i with
 | zero=>rfl
 | succ i ih=>rw [cloads_succ,List.length_append,ih,Nat.succ_mul];rfl
def ccInv (x:B.X) (cb:Nat) (L:List HProp):Inv (Nat × Value) B.X where
 e:=fun i=>[(0,.pointer (some ⟨cb,0,none⟩)),(1,i.2),(2,.int .i64 (i.1:Nat))]
 L:=fun i=>vec 7 i.2 ((cloads i.1).map inC).flatten::arr cb 0 [.slice none 0 0,.slice none 0 0]::L
 x:=fun _=>x
 ok:=fun i=>i.1≤3
set_option maxHeartbeats 8000000 in
theorem ref_counts_tr:Tr Try.prog B 41 [] L x fun w L' x'=>∃ a m c,w=.agg #[.slice a m c,.slice none 0 0]∧L'=clC (.slice a m c) (.slice none 0 0) (Mach.rcountsCl)::L∧x'=x:=by
 refine Tr.post (R:=fun v L' x'=>∃ a m c,v=.agg #[.slice a m c,.slice none 0 0]∧x'=x∧∀ h,Star L' h→Star (clC (.slice a m c) (.slice none 0 0) (Mach.rcountsCl)::L) h) ?_
  (by rintro v L' x' ⟨a,m,c,rfl,rfl,hs⟩;exact ⟨_,⟨a,m,c,rfl,rfl,rfl⟩,hs⟩)
 refine tr_of_body Try.func41 rfl Try.ntmps41 (by simp) fun um Q _ hQ=>?_
 simp only [argE,Nat.zero_add,Nat.reduceAdd]
 repeat (first | (apply wo_mo;apply mo_alloc;exact trivial) | refine we_seq ?_ | (refine wR ?_;try simp only [oS]))
 rintro v' L' ⟨cb,rfl,rfl⟩
 repeat (first | refine we_seq ?_ | (refine wR ?_;try simp only [oS]) | refine wo_nil ?_ | refine wA ?_)
 refine we_block ?_
 refine we_star ((ccInv x cb L).L (0,.slice none 0 0)) (fun h st=>vec_nil st) ?_
 refine we_loopN (ccInv x cb L) (fun i=>4-i.1) (0,.slice none 0 0) (by show 0≤3;omega) ⟨rfl,rfl,rfl,trivial⟩ .refl rfl ?_
 rintro ⟨i,cv⟩ hi
 dsimp only [ccInv] at hi ⊢
 refine we_pure (of_has .here (vec_shape (by omega))) ?_
 rintro ⟨va,vn,vc,rfl,hvn,_⟩
 rw [cloads_len] at hvn
 by_cases hc:i<3
 ·repeat (first | (apply wo_po;apply mo_conv;exact rfl;exact (show IntKind.u64.wrap ((i:Nat):Int)=((i:Nat):Int) from wrap_u64 (by omega) (by omega));exact trivial) | (apply wo_po;apply mo_buildV;(repeat (first | exact EvL.nil | apply EvL.cons rfl));exact rfl;exact trivial) | (apply wo_mo;apply mo_buildSlice (sz:=7);exact rfl;(repeat (first | exact EvL.nil | apply EvL.cons rfl));exact rfl;(repeat (first | exact List.forall_mem_nil _ | refine List.forall_mem_cons.2 ⟨rfl,?_⟩));omega;exact trivial) | refine wlssT ?_ | refine we_seq ?_ | (refine wR ?_;try simp only [oS]) | refine wo_nil ?_ | refine wM ?_ | refine wT ?_ | refine we_skip ?_ | refine we_block ?_)
  rintro v'' L' ⟨kb2,rfl,rfl⟩
  repeat (first | (apply wo_mo;apply mo_append (sz:=7) (new:=(([⟨1,0,i,9,0,0,i⟩]:List Mach.In).map inC).flatten);exact rfl;exact rfl;exact rfl;exact rfl;exact (.there .here);exact rfl;exact .inr ⟨_,_,rfl,Rds.all .here⟩;exact inC_one;(simp only [sliceLen];omega);exact trivial))
  rintro v'' L' rfl
  repeat (first | (refine wR ?_;try simp only [oS]) | refine wo_nil ?_ | refine wM ?_ | refine wA ?_ | refine wadd ?_)
  refine at_roundS (I:=ccInv x cb L) (R:=fun i'=>4-i'.1<4-i) (i+1,_) (by show 4-(i+1)<4-i;omega) (by show i+1≤3;omega) ⟨rfl,rfl,rfl,trivial⟩ (fun h st=>?_) rfl
  dsimp only [ccInv]
  rw [cloads_succ]
  exact Ent.star (.take .here (.take (.there .here) (.drop .refl))) st
 ·obtain rfl:i=3:=by omega
  repeat (first | (apply wo_po;apply mo_buildV;(repeat (first | exact EvL.nil | apply EvL.cons rfl));exact rfl;exact trivial) | (apply wo_mo;apply mo_buildSlice (sz:=7);exact rfl;(repeat (first | exact EvL.nil | apply EvL.cons rfl));exact rfl;(repeat (first | exact List.forall_mem_nil _ | refine List.forall_mem_cons.2 ⟨rfl,?_⟩));omega;exact trivial) | refine wlssF ?_ | refine we_seq ?_ | (refine wR ?_;try simp only [oS]) | refine wo_nil ?_ | refine wM ?_ | refine wF ?_ | refine we_exit ?_)
  rintro v'' L' ⟨kb2,rfl,rfl⟩
  repeat (first | (apply wo_mo;apply mo_append (sz:=7) (new:=(([⟨22,0,0,0,0,0,0⟩,⟨22,0,1,0,0,0,0⟩,⟨22,0,2,0,0,0,0⟩]:List Mach.In).map inC).flatten);exact rfl;exact rfl;exact rfl;exact rfl;exact (.there .here);exact rfl;exact .inr ⟨_,_,rfl,Rds.all .here⟩;exact inC_one;(simp only [sliceLen];omega);exact trivial))
  rintro v'' L' rfl
  refine wo_pure (of_has .here (vec_shape (by omega))) ?_
  rintro ⟨qa,qn,qc,rfl,hqn,_⟩
  repeat (first | (apply wo_po;apply mo_buildV;(repeat (first | exact EvL.nil | apply EvL.cons rfl));exact rfl;exact trivial) | (apply wo_pm;apply mo_storeA (b:=cb) (c:=0) (k:=0) (a:=0) (vs:=[.slice none 0 0,.slice none 0 0]);exact rfl;exact rfl;exact rfl;(intro w hw;simp [Value.cells] at hw;rcases hw with rfl | rfl <;> rfl);exact rfl;exact Nat.le_refl 2;exact (.there (.there .here));exact trivial) | refine wo_nil ?_ | refine we_ret ?_)
  refine at_leaveM (rs:=[.cell 0 47]) Try.func41 Try.results41 hQ (.inl rfl) (.cons (.cell (vs:=[.slice qa qn qc,.slice none 0 0]) rfl rfl (Rds.all (.there (.there .here)))) .nil) ?_
  refine ⟨qa,qn,qc,rfl,rfl,fun h st=>?_⟩
  refine cl_shut (cl:=Mach.rcountsCl) ?_ rfl (Ent.star (.take .here (.drop (.drop .refl))) st)
  rfl
end
end
section
section
variable {B:Hand} [Lets B] {L F G:List HProp} {x:B.X} {n k:Nat}
theorem rowOf_succ {N:Nat} {f:Nat→Nat}:rowOf (N+1) f=rowOf N f++[f N]:=by
 simp [rowOf,List.range_succ]
def evenW (w:Nat):Nat:=if 2≤w∧w%2=0 then (w-2)/2 else 0
theorem even_row:∀ n,rowOf (2*n+2) evenW=qwords n:=by
 intro n
 induction n with
 | zero=>rfl
 | succ n ih =>
  show rowOf ((2*n+2)+1+1) evenW=_
  rw [rowOf_succ,rowOf_succ,ih,qwords_succ,List.append_assoc]
  have e1:evenW (2*n+2)=n:=by unfold evenW;rw [if_pos (by omega)];omega
  have e2:evenW (2*n+2+1)=0:=by unfold evenW;rw [if_neg (by omega)]
  rw [e1,e2];rfl
theorem seqs_row (n:Nat):rowOf (2*n+2) (seqs n)=qwords n:=by
 rw [← even_row]
 unfold rowOf
 refine List.map_congr_left fun w hw=>?_
 rw [List.mem_range] at hw
 unfold seqs evenW
 by_cases c:2≤w∧w%2=0
 ·rw [if_pos ⟨c.1,c.2,by omega⟩,if_pos c]
 ·rw [if_neg (fun h=>c ⟨h.1,h.2.1⟩),if_neg c]
theorem RowAt.seqs (h2:2≤n) (hle:n≤1024):RowAt n (seqs n) []:=by
 refine ⟨by simp,rfl,by show 0<18446744073709551616;decide,fun i v hi=>by simp at hi,fun i _ hi=>?_⟩
 show Go.Proofs.Ytmkkanmkjfnpdaa.seqs n (2+2*((0+i)%n))=(0+i)%18446744073709551616
 rw [Nat.zero_add,Nat.mod_eq_of_lt hi,Nat.mod_eq_of_lt (by omega)]
 unfold Go.Proofs.Ytmkkanmkjfnpdaa.seqs
 rw [if_pos (by omega)]
 omega
end
end
section
section
variable {B:Hand} [Lets B] {x:B.X} {n k N:Nat} {addr:Nat→Nat × Nat} {K:List (Nat × Nat × Value)} {ap:Apart addr N K}
theorem draw_lone (hN:2*n+2≤N) {w whose:Nat} (hw:w<2) {s:Nat→Nat} {G:Option Nat→(Nat→Nat)→Prop} (hn:0<n)
  (g:if 9223372036854775808≤(s (2+2*(s w%n))+36893488147419103232-s w-whose)%18446744073709551616 then G none s
   else (s (2+2*(s w%n))+36893488147419103232-s w-whose)%18446744073709551616=0∧G (some (s w)) (upd s w ((s w+1)%18446744073709551616))) :
  DrawT (loneAcc x addr N K ap) n w whose s G:=by
 intro X hX
 have hmod:s w%n<n:=Nat.mod_lt _ hn
 refine hX _ ⟨by omega,by omega,?_⟩
 show if 9223372036854775808≤(s (2+2*(s w%n))+36893488147419103232-s w-whose)%18446744073709551616 then G none s else _
 split
 ·rename_i hc;rw [if_pos hc] at g;exact g
 ·rename_i hc
  rw [if_neg hc] at g
  rw [if_neg (by rw [g.1];omega)]
  refine ⟨by omega,?_⟩
  rw [if_pos rfl]
  simpa using g.2
theorem put_rowG (hN:2*n+2≤N) (hn:n=2^k) (hk0:1≤k) (hk:k≤10) {v:Nat} {s:Nat→Nat} {row:List Nat} (R:RowAt n s row) {G:Bool→(Nat→Nat)→Prop}
  (g:∀ s',RowAt n s' (if row.length<n then row++[v] else row)→(∀ j,2*n+2≤j→s' j=s j)→G (decide (row.length<n)) s'):PutT (loneAcc x addr N K ap) n v s G:=by
 have hle:n≤1024:=by rw [hn];exact pow_le hk
 have hpos:2≤n:=by have:=Nat.pow_le_pow_right (n:=2) (by omega) hk0;omega
 have hp:=put_plain (v:=v) hn hk0 hk R
 have ht:s 0<18446744073709551616:=by rw [R.put];exact Nat.mod_lt _ (by decide)
 have hm:s 0%n<n:=Nat.mod_lt _ (by omega)
 refine draw_lone hN (by omega) (by omega) ?_
 have e:(s (2+2*(s 0%n))+36893488147419103232-s 0-0)%18446744073709551616=(s (2+2*(s 0%n))+18446744073709551616-s 0)%18446744073709551616:=by omega
 rw [e]
 by_cases hf:row.length<n
 ·rw [if_pos hf] at hp g
  rw [decide_eq_true hf] at g
  rw [hp.1,if_neg (by omega)]
  refine ⟨rfl,?_⟩
  dsimp only
  refine ⟨by show 3+2*(s 0%n)<N;omega,by show 2+2*(s 0%n)<N;omega,?_⟩
  refine g _ hp.2 fun j hj=>?_
  rw [upd_other (by omega),upd_other (by omega),upd_other (by omega)]
 ·rw [if_neg hf] at hp g
  rw [decide_eq_false hf] at g
  rw [if_pos hp]
  exact g _ R fun _ _=>rfl
theorem take_rowG (hN:2*n+2≤N) (hn:n=2^k) (hk0:1≤k) (hk:k≤10) {s:Nat→Nat} {row:List Nat} (R:RowAt n s row) {G:Option Nat→(Nat→Nat)→Prop}
  (g:∀ s',RowAt n s' row.tail→(∀ j,2*n+2≤j→s' j=s j)→G row.head? s'):TakeT (loneAcc x addr N K ap) n s G:=by
 have hle:n≤1024:=by rw [hn];exact pow_le hk
 have hpos:2≤n:=by have:=Nat.pow_le_pow_right (n:=2) (by omega) hk0;omega
 have hp:=take_plain hn hk0 hk R
 have ht:=R.t
 have hm:s 1%n<n:=Nat.mod_lt _ (by omega)
 refine draw_lone hN (by omega) (by omega) ?_
 have e:(s (2+2*(s 1%n))+36893488147419103232-s 1-1)%18446744073709551616=(s (2+2*(s 1%n))+18446744073709551616-(s 1+1)%18446744073709551616)%18446744073709551616:=by omega
 rw [e]
 cases row with
 | nil =>
  dsimp only at hp
  rw [if_pos hp]
  exact g _ R fun _ _=>rfl
 | cons v row =>
  dsimp only at hp
  obtain ⟨h1,h2,h3⟩:=hp
  rw [h1,if_neg (by omega)]
  refine ⟨rfl,?_⟩
  dsimp only
  refine ⟨by show 3+2*(s 1%n)<N;omega,by show 2+2*(s 1%n)<N;omega,?_⟩
  have h2':upd s 1 ((s 1+1)%18446744073709551616) (3+2*(s 1%n))=v:=by rw [upd_other (by omega)];exact h2
  show G (some (upd s 1 ((s 1+1)%18446744073709551616) (3+2*(s 1%n)))) _
  rw [h2']
  refine g _ h3 fun j hj=>?_
  rw [upd_other (by omega),upd_other (by omega)]
end
end
end Go.Proofs.Ytmkkanmkjfnpdaa
