/-
  Part 6 of 9.
-/
import Derived.Test.YtnnpdmhmpgmpnaaGp5
import Derived.Test.YtnnpdmhmpgmpnaaGp2
import Derived.Test.YtnnpdmhmpgmpnaaGp4
import Derived.Test.YtnnpdmhmpgmpnaaGp3
set_option linter.unusedVariables false
set_option linter.unusedSimpArgs false
namespace Go.Proofs.Ytnnpdmhmpgmpnaa
open Go Go.PB
attribute [local irreducible] Mo Bin Eql Tr Wo Ap
section
variable {B:Hand} [Lets B] {L F G:List HProp} {x:B.X}
def clC (kv dv:Value) (cl:Mach.Cl):HProp:=all [vec 7 kv (cl.code.map inC).flatten,vec 1 dv (cl.data.map num)]
theorem cdf {cb kn kc dn dc c:Nat} {ka da:Option Addr} {cl:Mach.Cl} (hk:kn=cl.code.length) (hd:dn=cl.data.length) (hka:∀ y,ka=some y→y=⟨y.block,y.off,none⟩) (hda:∀ y,da=some y→y=⟨y.block,y.off,none⟩) (hkn:ka=none→kn=0) (hdn:da=none→dn=0) :
  Obs (arr cb 0 [.slice ka kn kc,.slice da dn dc]::vec 7 (.slice ka kn kc) (cl.code.map inC).flatten::vec 1 (.slice da dn dc) (cl.data.map num)::F) (codeC ⟨some ⟨cb,0,none⟩,c,fun _=>(ka,kc),fun _=>(da,dc)⟩ [cl]):=by
 subst hk
 subst hd
 intro h s i y hy
 obtain ⟨rfl,rfl⟩:i=0∧cl=y:=by
  cases i with
  | zero=>exact ⟨rfl,by simpa using hy⟩
  | succ i=>simp at hy
 refine ⟨cb,0,rfl,(Rd.row0 rfl) h s,(Rd.row0 rfl) h s,fun j z hz=>?_,fun j v hv=>?_⟩
 ·have hlt:=(List.getElem?_eq_some_iff.1 hz).1
  cases ka with
  | none=>have:cl.code.length=0:=hkn rfl;omega
  | some a =>
   obtain ⟨kb,ko,sp⟩:=a
   cases hka _ rfl
   refine ⟨kb,ko,rfl,fun m v hm=>?_⟩
   have hm7:m<7:=(List.getElem?_eq_some_iff.1 hm).1
   have:=(df_ (i:=7*j+m) (v:=v) (L:=arr cb 0 [.slice (some ⟨kb,ko,none⟩) cl.code.length kc,.slice da cl.data.length dc]::vec 7 (.slice (some ⟨kb,ko,none⟩) cl.code.length kc) (cl.code.map inC).flatten::vec 1 (.slice da cl.data.length dc) (cl.data.map num)::F) (.there .here) (by rw [kh_ (k:=7) (fun _=>rfl) _ _ _ _ hz hm7];exact hm)) h s
   rwa [← Nat.add_assoc] at this
 ·have hlt:=(List.getElem?_eq_some_iff.1 hv).1
  cases da with
  | none=>have:cl.data.length=0:=hdn rfl;omega
  | some a =>
   obtain ⟨db,dq,sp⟩:=a
   cases hda _ rfl
   exact ⟨db,dq,rfl,(df_ (i:=j) (v:=num v) (L:=arr cb 0 [.slice ka cl.code.length kc,.slice (some ⟨db,dq,none⟩) cl.data.length dc]::vec 7 (.slice ka cl.code.length kc) (cl.code.map inC).flatten::vec 1 (.slice (some ⟨db,dq,none⟩) cl.data.length dc) (cl.data.map num)::F) (.there (.there .here)) (by rw [List.getElem?_map,hv];rfl)) h s⟩
def mkC (m:Nat × Nat):List Value:=[.int .u8 (m.1:Nat),.int .i64 (m.2:Nat)]
def mh_ (b5 pb nb:Nat) (ansv:Value) (st:Mach.St) (x:B.X) (F:List HProp):Inv (Nat × Value) B.X where
 e:=fun i=>[(5,.pointer (some ⟨b5,0,none⟩)),(7,.pointer (some ⟨pb,0,none⟩)),(8,ansv),(9,.pointer (some ⟨nb,0,none⟩)),(10,i.2),(11,.int .i64 (i.1:Nat))]
 L:=fun i=>vec 2 i.2 (((st.tr.take i.1).map (·.2)).map mkC).flatten::F
 x:=fun _=>x
 ok:=fun i=>i.1≤st.tr.length
set_option maxHeartbeats 8000000 in
theorem cfc {wv lv kv dv:Value} {w:Mach.Wd} {cl:Mach.Cl} {st:Mach.St} {f g:Nat} {d:Bool} {told:List Nat} {t:Mach.Th} (hp:Mach.play f g w [] [[cl]]=some st) (hf:16384*(f+1)+f<1000000000) (hcl:cl.ok=true) (htr:st.tr.length≤16384) (hl:st.l=[t]) (hans:t.ans=[(d,told)])
  (hh:Has L (wvC wv lv w) G) (hc:Has G (clC kv dv cl) F) :
  Tr Try.prog B 40 [.agg #[wv,lv],.agg #[kv,dv]] L x fun v L' x'=>∃ toldV wv' lv' marksV:Value,v=.tuple #[toldV,.agg #[wv',lv'],marksV]∧L'=vec 1 toldV (told.map num)::wvC wv' lv' st.w::vec 2 marksV ((st.tr.map (·.2)).map mkC).flatten::wvC wv lv w::F∧x'=x:=by
 refine dw_ (vec 7 kv (cl.code.map inC).flatten::vec 1 dv (cl.data.map num)::wvC wv lv w::F) (fun h s=>?_) ?_
 ·have s1:Star (clC kv dv cl::wvC wv lv w::F) h:=cx_ (bm_ (hh.star s) (fun _ z=>z) (fun _ z=>hc.star z))
  exact ci_ s1
 clear hh hc
 refine Tr.post (R:=fun v L' x'=>∃ toldV wv' lv' marksV:Value,v=.tuple #[toldV,.agg #[wv',lv'],marksV]∧x'=x∧∀ h,Star L' h→Star (vec 1 toldV (told.map num)::wvC wv' lv' st.w::vec 2 marksV ((st.tr.map (·.2)).map mkC).flatten::wvC wv lv w::F) h) ?_
  (by rintro v L' x' ⟨toldV,wv',lv',marksV,rfl,rfl,hs⟩;exact ⟨_,⟨toldV,wv',lv',marksV,rfl,rfl,rfl⟩,hs⟩)
 refine fm_ (bp_ .here (bg_ (by omega))) ?_
 rintro ⟨ka,kn,kc,rfl,hkn,_,hka,hka2⟩
 refine fm_ (bp_ (.there .here) (bg_ (by omega))) ?_
 rintro ⟨da,dn,dc,rfl,hdn,_,hda,hda2⟩
 refine fm_ (bp_ (.there (.there .here)) hf_) ?_
 rintro ⟨⟨wa,wn,wc,rfl⟩,la,ln,lc,rfl⟩
 have hkn':kn=cl.code.length:=by rw [gy_ (k:=7) (fun _=>rfl)] at hkn;omega
 have hdn':dn=cl.data.length:=by rw [List.length_map] at hdn;omega
 have hclo:=hcl
 simp only [Mach.Cl.ok,Bool.and_eq_true,decide_eq_true_eq] at hclo
 refine bd_ Try.func40 rfl Try.ntmps40 (by simp) fun um Q _ hQ=>?_
 simp only [argE,Nat.zero_add,Nat.reduceAdd]
 repeat (first | (apply wo_mo;apply ct_;exact rfl;exact trivial) | refine bb_ ?_ | (refine wR ?_;try simp only [oS]))
 rintro v' L' ⟨b2,rfl,rfl⟩
 repeat (first | (apply wo_mo;apply ct_;exact rfl;exact trivial))
 rintro v' L' ⟨b3,rfl,rfl⟩
 repeat (first | (apply wo_mo;apply ck_;exact trivial) | refine wA ?_)
 rintro v' L' ⟨b5,rfl,rfl⟩
 refine ft_ (arr b5 0 [.slice none 0 0,.slice none 0 0]::arr b3 0 [.slice ka kn kc,.slice da dn dc]::arr b2 0 [.slice wa wn wc,.slice la ln lc]::vec 7 (.slice ka kn kc) (cl.code.map inC).flatten::vec 1 (.slice da dn dc) (cl.data.map num)::wvC (.slice wa wn wc) (.slice la ln lc) w::F) .refl ?_
 have hr2:∀ {d1 d2:HProp} {F:List HProp},Rds (d1::d2::arr b2 0 [.slice wa wn wc,.slice la ln lc]::F) b2 0 [.slice wa wn wc,.slice la ln lc]:=fun {d1 d2 F}=>Rds.all (.there (.there .here))
 have hr3:∀ {d1:HProp} {F:List HProp},Rds (d1::arr b3 0 [.slice ka kn kc,.slice da dn dc]::F) b3 0 [.slice ka kn kc,.slice da dn dc]:=fun {d1 F}=>Rds.all (.there .here)
 repeat (first | (apply wo_po;apply cc_ (vs:=[.slice wa wn wc,.slice la ln lc]);exact rfl;exact rfl;exact hr2;exact trivial) | (apply wo_po;apply cc_ (vs:=[.slice ka kn kc,.slice da dn dc]);exact rfl;exact rfl;exact hr3;exact trivial) | (apply wo_mo;apply bi_ (sz:=2) (vs:=[.agg #[.slice ka kn kc,.slice da dn dc]]);exact rfl;exact .cons rfl .nil;exact rfl;(intro v hv;cases (List.mem_singleton.1 hv);exact rfl);omega;exact trivial) | refine bb_ ?_ | (refine wR ?_;try simp only [oS]) | refine ba_ ?_ | refine wA ?_)
 rintro v' L' ⟨cb,rfl,rfl⟩
 repeat (first | (apply wo_mo;apply bi_ (sz:=1) (vs:=[.slice (some ⟨cb,0,none⟩) 1 1]);exact rfl;exact .cons rfl .nil;exact rfl;(intro v hv;cases (List.mem_singleton.1 hv);exact rfl);omega;exact trivial))
 rintro v' L' ⟨tb,rfl,rfl⟩
 obtain ⟨cw,hcw⟩:∃ cw:CW,cw=⟨some ⟨cb,0,none⟩,1,fun _=>(ka,kc),fun _=>(da,dc)⟩:=⟨_,rfl⟩
 obtain ⟨FF,hFF⟩:∃ FF,FF=arr cb 0 [.slice ka kn kc,.slice da dn dc]::vec 7 (.slice ka kn kc) (cl.code.map inC).flatten::vec 1 (.slice da dn dc) (cl.data.map num)::arr b5 0 [.slice none 0 0,.slice none 0 0]::F:=⟨_,rfl⟩
 have hcc:CallsOk FF [(cw,[cl])]:=by
  refine ⟨by show 1<1000;omega,fun y hy=>?_,fun y hy=>?_,fun y hy=>?_⟩
  ·cases List.mem_singleton.1 hy
   rw [hFF,hcw]
   exact cdf hkn' hdn' hka2 hda2 hka hda
  ·cases List.mem_singleton.1 hy
   show ([cl].all Mach.Cl.ok)=true
   simp [hcl]
  ·cases List.mem_singleton.1 hy
   show 1<1000000;omega
 refine cd_ (wvC (.slice wa wn wc) (.slice la ln lc) w::vec 1 (.slice (some ⟨tb,0,none⟩) 1 1) ([(cw,[cl])].map cvK)::FF) (fun h st=>?_) ?_
 ·rw [hFF]
  have s1:Star (arr tb 0 [.slice (some ⟨cb,0,none⟩) 1 1]::wvC (.slice wa wn wc) (.slice la ln lc) w::arr cb 0 [.slice ka kn kc,.slice da dn dc]::vec 7 (.slice ka kn kc) (cl.code.map inC).flatten::vec 1 (.slice da dn dc) (cl.data.map num)::arr b5 0 [.slice none 0 0,.slice none 0 0]::F) h:=by
   refine Ent.star ?_ st
   exact (.take .here (.take (.there (.there (.there (.there (.there (.there .here)))))) (.take .here (.take (.there (.there (.there .here))) (.take (.there (.there (.there .here))) (.take .here (.drop (.drop .refl))))))))
  refine cx_ ?_
  rw [hcw]
  exact gu_ (n:=1) rfl s1
 refine bo_ (.cons rfl (.cons rfl (.cons rfl .nil))) trivial (bqz (F:=FF) (st:=st) (o:=[]) (oa:=none) (oc:=0) (cc:=[(cw,[cl])]) (f:=f) (g:=g) hp hf hcc (by show 0<1000000;omega) (fun k hk=>by cases hk) (fun i k hk=>by simp at hk) .here .here) ?_
 rintro v L' x' ⟨trv,cutv,ansv,wv',lv',os,rfl,rfl,hos,hs⟩
 refine cd_ _ hs ?_
 rw [hFF]
 refine cn_ (bp_ .here (bg_ (by omega))) ?_
 rintro ⟨ra,rn,rc,rfl,hrn,_,hra,hra2⟩
 have hrnn:=bmd hrn
 subst hrnn
 refine cn_ (bp_ (.there .here) (bg_ (by omega))) ?_
 rintro ⟨ca,cn,cc,rfl,_⟩
 refine cn_ (bp_ (.there (.there (.there (.there .here)))) hf_) ?_
 rintro ⟨⟨wa',wn',wc',rfl⟩,la',ln',lc',rfl⟩
 repeat (first | (apply wo_mo;apply ck_;exact trivial) | refine wM ?_ | (apply wo_po;apply cr_;exact rfl;exact rfl;exact gY))
 rintro v' L' ⟨pb,rfl,rfl⟩
 repeat (first | (apply wo_mo;apply ck_;exact trivial))
 rintro v' L' ⟨nb,rfl,rfl⟩
 repeat (first | (apply wo_pm;apply bw_ (b:=pb) (c:=0) (k:=0) (a:=0) (vs:=[.slice none 0 0,.slice none 0 0]);exact rfl;exact rfl;exact rfl;(intro w hw;simp [Value.cells] at hw;rcases hw with rfl | rfl <;> rfl);exact rfl;exact Nat.le_refl 2;exact (.there .here);exact trivial) | (apply wo_pm;apply bw_ (b:=nb) (c:=0) (k:=0) (a:=0) (vs:=[.slice none 0 0,.slice none 0 0]);exact rfl;exact rfl;exact rfl;(intro w hw;simp [Value.cells] at hw;rcases hw with rfl | rfl <;> rfl);exact rfl;exact Nat.le_refl 2;exact .here;exact trivial) | refine bb_ ?_ | (refine wR ?_;try simp only [oS]) | refine ba_ ?_ | refine wA ?_)
 refine bf_ ?_
 obtain ⟨F4,hF4⟩:∃ F4,F4=vec 1 ansv (os.map (·.1))::all (os.map ansK)::wvC (.slice wa' wn' wc') (.slice la' ln' lc') st.w::wvC (.slice wa wn wc) (.slice la ln lc) w::F:=⟨_,rfl⟩
 obtain ⟨F3,hF3⟩:∃ F3,F3=arr nb 0 [.slice wa' wn' wc',.slice la' ln' lc']::arr pb 0 [.slice ra st.tr.length rc,.slice ca cn cc]::vec 3 (.slice ra st.tr.length rc) (st.tr.map trC).flatten::arr b5 0 [.slice none 0 0,.slice none 0 0]::F4:=⟨_,rfl⟩
 refine di_ ((mh_ b5 pb nb ansv st x' F3).L (0,.slice none 0 0)) (fun h hs=>?_) ?_
 ·dsimp only [mh_]
  refine dp_ ?_
  rw [hF3,hF4]
  have s0:Star (arr nb 0 [.slice wa' wn' wc',.slice la' ln' lc']::arr pb 0 [.slice ra st.tr.length rc,.slice ca cn cc]::vec 3 (.slice ra st.tr.length rc) (st.tr.map trC).flatten::vec 1 (.slice ca cn cc) (st.cut.map cI)::vec 1 ansv (os.map (·.1))::all (os.map ansK)::wvC (.slice wa' wn' wc') (.slice la' ln' lc') st.w::vec 1 (.slice (some ⟨tb,0,none⟩) 1 1) ([(cw,[cl])].map cvK)::wvC (.slice wa wn wc) (.slice la ln lc) w::arr cb 0 [.slice ka kn kc,.slice da dn dc]::vec 7 (.slice ka kn kc) (cl.code.map inC).flatten::vec 1 (.slice da dn dc) (cl.data.map num)::arr b5 0 [.slice none 0 0,.slice none 0 0]::F) h:=hs
  refine Ent.star ?_ s0
  exact (.take .here (.take .here (.take .here (.take (.there (.there (.there (.there (.there (.there (.there (.there (.there .here))))))))) (.take (.there .here) (.take (.there .here) (.take (.there .here) (.take (.there (.there .here)) (.drop (.drop (.drop (.drop (.drop .refl)))))))))))))
 refine de_ (mh_ b5 pb nb ansv st x' F3) (fun i=>st.tr.length-i.1) (0,.slice none 0 0) (Nat.zero_le _) ⟨rfl,rfl,rfl,rfl,rfl,rfl,trivial⟩ .refl rfl ?_
 rintro ⟨i,mv⟩ hi
 dsimp only [mh_] at hi ⊢
 have htrl:∀ d1:HProp,Rd (d1::F3) pb 0 (.slice ra st.tr.length rc):=fun d1=>by rw [hF3];exact .there (.there (Rd.row0 rfl))
 by_cases hc:i<st.tr.length
 ·obtain ⟨⟨tk,m1,m2⟩,hti⟩:∃ z,st.tr[i]?=some z:=⟨st.tr[i],by simp [hc]⟩
  obtain ⟨⟨rb,ro,sp⟩,rfl⟩:∃ z,ra=some z:=by
   cases ra with
   | none=>have:st.tr.length=0:=hra rfl;omega
   | some z=>exact ⟨z,rfl⟩
  cases hra2 _ rfl
  refine dg_ (bp_ .here (bg_ (by omega))) ?_
  rintro ⟨ma,mn,mc,rfl,hmn,_⟩
  have hmn':mn=i:=by
   rw [gy_ (k:=2) (fun _=>rfl)] at hmn
   simp at hmn;omega
  subst hmn'
  have hmk:∀ d1:HProp,Rds (d1::F3) rb (ro+3*mn+1) [.int .u8 (m1:Nat),.int .i64 (m2:Nat)]:=fun d1 j v hj=>by
   rw [hF3]
   have hj2:j<2:=(List.getElem?_eq_some_iff.1 hj).1
   have:=df_ (i:=3*mn+(1+j)) (v:=v) (L:=d1::arr nb 0 [.slice wa' wn' wc',.slice la' ln' lc']::arr pb 0 [.slice (some ⟨rb,ro,none⟩) st.tr.length rc,.slice ca cn cc]::vec 3 (.slice (some ⟨rb,ro,none⟩) st.tr.length rc) (st.tr.map trC).flatten::arr b5 0 [.slice none 0 0,.slice none 0 0]::F4) (.there (.there (.there .here))) (by
    rw [kh_ (k:=3) (fun _=>rfl) _ _ _ _ hti (by omega)]
    show (trC (tk,m1,m2))[1+j]?=some v
    rw [← hj]
    show ([.int .i64 (tk:Nat),.int .u8 (m1:Nat),.int .i64 (m2:Nat)]:List Value)[1+j]?=_
    rw [Nat.add_comm];rfl)
   rwa [← Nat.add_assoc,← Nat.add_assoc] at this
  repeat (first | (apply wo_po;apply cb_ (r:=ro+3*mn);exact rfl;exact rfl;omega;omega;omega;exact trivial) | (apply wo_po;apply bc_;exact rfl;exact htrl _;exact trivial) | (apply wo_po;apply cc_ (vs:=[.int .u8 (m1:Nat),.int .i64 (m2:Nat)]);exact rfl;exact rfl;exact hmk _;exact trivial) | (apply wo_mo;apply bi_ (sz:=2) (vs:=[.agg #[.int .u8 (m1:Nat),.int .i64 (m2:Nat)]]);exact rfl;exact .cons rfl .nil;exact rfl;(intro v hv;cases (List.mem_singleton.1 hv);exact rfl);omega;exact trivial) | refine wlssT ?_ | refine bb_ ?_ | (refine wR ?_;try simp only [oS]) | refine ba_ ?_ | refine wM ?_ | refine wD ?_ | refine wE ?_ | refine wT ?_ | refine bk_ ?_ | refine bf_ ?_)
  rintro v' L' ⟨sb,rfl,rfl⟩
  repeat (first | (apply wo_mo;apply cf_ (sz:=2) (new:=mkC (m1,m2));exact rfl;exact rfl;exact rfl;exact rfl;exact (.there .here);exact rfl;exact .inr ⟨_,_,rfl,Rds.all .here⟩;(intro v hv;simp [mkC] at hv;rcases hv with rfl | rfl <;> rfl);(simp only [cj_];omega);exact trivial))
  rintro v' L' rfl
  repeat (first | (refine wR ?_;try simp only [oS]) | refine ba_ ?_ | refine wM ?_ | refine wA ?_ | refine wadd ?_)
  refine dr_ (I:=mh_ b5 pb nb ansv st x' F3) (R:=fun i'=>st.tr.length-i'.1<st.tr.length-mn) (mn+1,v') (by simp only;omega) (by show mn+1≤_;omega) ⟨rfl,rfl,rfl,rfl,rfl,rfl,trivial⟩ ?_ rfl
  dsimp only [mh_]
  rw [List.take_add_one,hti]
  have:((List.map (·.2) (st.tr.take mn++(some (tk,m1,m2)).toList)).map mkC).flatten=((List.map (·.2) (st.tr.take mn)).map mkC).flatten++mkC (m1,m2):=by simp
  rw [this]
  exact (.take .here (.drop .refl))
 ·have hi2:i=st.tr.length:=by omega
  subst hi2
  repeat (first | (apply wo_po;apply bc_;exact rfl;exact htrl _;exact trivial) | refine wlssF ?_ | refine bb_ ?_ | (refine wR ?_;try simp only [oS]) | refine ba_ ?_ | refine wM ?_ | refine wD ?_ | refine wE ?_ | refine wF ?_ | refine cu_ ?_)
  rw [List.take_length]
  subst hF3
  subst hF4
  rw [hl] at hos
  obtain ⟨⟨av,aa0⟩,rfl⟩:∃ y,os=[y]:=by
   have hos1:os.length=1:=by have:=congrArg List.length hos;simpa using this
   exact List.length_eq_one_iff.1 hos1
  have haa:aa0=[(d,told)]:=by
   simp only [List.map_cons,List.map_nil,hans,List.cons.injEq,and_true] at hos
   exact hos
  subst haa
  refine di_ (ansK (av,[(d,told)])::arr nb 0 [.slice wa' wn' wc',.slice la' ln' lc']::arr b5 0 [.slice none 0 0,.slice none 0 0]::vec 1 ansv [av]::vec 2 mv ((st.tr.map (·.2)).map mkC).flatten::wvC (.slice wa' wn' wc') (.slice la' ln' lc') st.w::wvC (.slice wa wn wc) (.slice la ln lc) w::F) (fun h hs=>?_) ?_
  ·have s1:Star (all [ansK (av,[(d,told)])]::arr nb 0 [.slice wa' wn' wc',.slice la' ln' lc']::arr b5 0 [.slice none 0 0,.slice none 0 0]::vec 1 ansv [av]::vec 2 mv ((st.tr.map (·.2)).map mkC).flatten::wvC (.slice wa' wn' wc') (.slice la' ln' lc') st.w::wvC (.slice wa wn wc) (.slice la ln lc) w::F) h:=by
    refine Ent.star ?_ hs
    exact (.take (.there (.there (.there (.there (.there (.there .here)))))) (.take (.there .here) (.take (.there (.there (.there .here))) (.take (.there (.there (.there .here))) (.take .here (.take (.there (.there .here)) (.take (.there (.there .here)) (.drop (.drop .refl)))))))))
   exact ci_ s1
  refine we_ex .here fun al=>jr_ .here fun e1=>so_ .here ?_
  obtain ⟨⟨d',tv,told'⟩,rfl⟩:∃ y,al=[y]:=by
   have hal1:al.length=1:=by have:=congrArg List.length e1;simpa using this
   exact List.length_eq_one_iff.1 hal1
  obtain ⟨rfl,rfl⟩:d'=d∧told'=told:=by
   simp only [List.map_cons,List.map_nil,ansOf,List.cons.injEq,Prod.mk.injEq,and_true] at e1
   exact e1
  refine di_ (vec 2 av [.bool d',tv]::vec 1 tv (told'.map num)::arr nb 0 [.slice wa' wn' wc',.slice la' ln' lc']::arr b5 0 [.slice none 0 0,.slice none 0 0]::vec 1 ansv [av]::vec 2 mv ((st.tr.map (·.2)).map mkC).flatten::wvC (.slice wa' wn' wc') (.slice la' ln' lc') st.w::wvC (.slice wa wn wc) (.slice la ln lc) w::F) (fun h hs=>?_) ?_
  ·exact bm_ hs (fun _ z=>z) (fun _ z=>ci_ z)
  refine dg_ (bp_ .here (bg_ (by omega))) ?_
  rintro ⟨aa,an,ac,rfl,han,_,haa,haa2⟩
  have han1:an=1:=by simp at han;omega
  subst han1
  obtain ⟨⟨ab,ao,sp⟩,rfl⟩:∃ z,aa=some z:=by
   cases aa with
   | none=>have:(1:Nat)=0:=haa rfl;omega
   | some z=>exact ⟨z,rfl⟩
  cases haa2 _ rfl
  refine dg_ (bp_ (.there (.there (.there (.there .here)))) (bg_ (by omega))) ?_
  rintro ⟨qa,qn,qc,rfl,hqn,_,hqa,hqa2⟩
  have hqn1:qn=1:=by simp at hqn;omega
  subst hqn1
  obtain ⟨⟨qb,qo,sp⟩,rfl⟩:∃ z,qa=some z:=by
   cases qa with
   | none=>have:(1:Nat)=0:=hqa rfl;omega
   | some z=>exact ⟨z,rfl⟩
  cases hqa2 _ rfl
  obtain ⟨F5,hF5⟩:∃ F5,F5=vec 1 (.slice (some ⟨qb,qo,none⟩) 1 qc) [.slice (some ⟨ab,ao,none⟩) 1 ac]::vec 2 mv ((st.tr.map (·.2)).map mkC).flatten::wvC (.slice wa' wn' wc') (.slice la' ln' lc') st.w::wvC (.slice wa wn wc) (.slice la ln lc) w::F:=⟨_,rfl⟩
  rw [← hF5]
  have hq0:∀ d1 d2 d3 d4:HProp,Rd (d1::d2::d3::d4::F5) qb (qo+0) (.slice (some ⟨ab,ao,none⟩) 1 ac):=fun d1 d2 d3 d4=>by rw [hF5];exact df_ (.there (.there (.there (.there .here)))) rfl
  have ht0:∀ {F:List HProp},Rd (vec 2 (.slice (some ⟨ab,ao,none⟩) 1 ac) [.bool d',tv]::F) ab (ao+0+1) tv:=fun {F}=>df_ (i:=1) .here rfl
  have hn0:∀ {d1 d2:HProp} {F:List HProp},Rds (d1::d2::arr nb 0 [.slice wa' wn' wc',.slice la' ln' lc']::F) nb 0 [.slice wa' wn' wc',.slice la' ln' lc']:=fun {d1 d2 F}=>Rds.all (.there (.there .here))
  refine br_ (List.range' 0 11) (by kernel_rfl) ?_
  repeat (first | (apply be_;exact rfl;exact rfl;exact trivial;intro L;apply cb_ (r:=qo+0);exact rfl;exact rfl;omega;omega;omega) | (apply be_;exact rfl;exact rfl;exact trivial;intro L;apply cb_ (r:=ao+0);exact rfl;exact rfl;omega;omega;omega) | (apply bj_;exact rfl;exact rfl;exact trivial;apply bc_;exact rfl;exact hq0 _ _ _ _) | (apply bj_;exact rfl;exact rfl;exact trivial;apply bc_;exact rfl;exact ht0) | (apply bj_;exact rfl;exact rfl;exact trivial;apply cc_ (vs:=[.slice wa' wn' wc',.slice la' ln' lc']);exact rfl;exact rfl;exact hn0) | refine aM ?_ | refine aA ?_ | refine aD ?_)
  refine cg_ rfl rfl rfl rfl rfl trivial (bw_ (c:=0) (k:=0) (a:=0) (vs:=[.slice none 0 0,.slice none 0 0]) rfl rfl rfl (by intro w hw;simp [Value.cells] at hw;rcases hw with rfl | rfl <;> rfl) rfl (Nat.le_refl 2) (.there (.there (.there .here)))) ?_
  rintro v' L' ⟨rfl,rfl⟩
  repeat (first | refine aA ?_ | refine bz_ ?_)
  repeat (first | refine bn_ ?_)
  refine cp_ (rs:=[.tmp 4,.cell 5 112,.tmp 6]) Try.func40 Try.results40 hQ (.inl rfl) (.cons (.tmp rfl) (.cons (.cell (vs:=[.slice wa' wn' wc',.slice la' ln' lc']) rfl rfl (Rds.all (.there (.there (.there .here))))) (.cons (.tmp rfl) .nil))) ?_
  refine ⟨tv,_,_,mv,rfl,rfl,fun h hs=>?_⟩
  rw [hF5] at hs
  refine Ent.star ?_ hs
  exact (.take (.there .here) (.take (.there (.there (.there (.there (.there .here))))) (.take (.there (.there (.there (.there .here)))) (.take (.there (.there (.there (.there .here)))) (.drop (.drop (.drop (.drop .refl))))))))
end
section
section
variable {B:Hand} [Lets B] {L F G:List HProp} {x:B.X} {n k v:Nat}
theorem bpq {kb k:Nat} {cl:Mach.Cl} {cs:List Value} (hc:cs=(cl.code.map inC).flatten) (hk:k=cl.code.length) (hd:cl.data=[]) {h:Hp} (s:Star (arr kb 0 cs::L) h):Star (clC (.slice (some ⟨kb,0,none⟩) k k) (.slice none 0 0) cl::L) h:=by
 subst hc
 subst hk
 have s1:Star (vec 7 (.slice (some ⟨kb,0,none⟩) cl.code.length cl.code.length) (cl.code.map inC).flatten::vec 1 (.slice none 0 0) []::L) h:=by
  refine gu_ ?_ (cx_ (dp_ s))
  exact gy_ (k:=7) (fun _=>rfl) _
 refine bv_ (M:=[_,_]) ?_
 rw [hd]
 exact s1
theorem fj_ {l:List Mach.In}:∀ w∈(l.map inC).flatten,one w=true:=by
 intro w hw
 simp only [List.mem_flatten,List.mem_map] at hw
 obtain ⟨c,⟨i,_,rfl⟩,hw⟩:=hw
 simp only [inC,List.mem_cons,List.not_mem_nil,or_false] at hw
 rcases hw with rfl | rfl | rfl | rfl | rfl | rfl | rfl <;> rfl
theorem cjv {kv:Value} {cl:Mach.Cl} {cs:List Value} (hc:cs=(cl.code.map inC).flatten) (hd:cl.data=[]) {h:Hp} (s:Star (vec 7 kv cs::L) h):Star (clC kv (.slice none 0 0) cl::L) h:=by
 subst hc
 refine bv_ (M:=[_,_]) ?_
 rw [hd]
 exact cx_ (dp_ s)
def yes (q:Bool):Nat:=if q then 1 else 0
theorem bxc {q:Bool}:Tr Try.prog B 69 [.bool q] L x fun v L' x'=>v=num (yes q)∧L'=L∧x'=x:=by
 cases q
 ·refine bd_ Try.func69 rfl Try.ntmps69 (by simp) fun um Q _ hQ=>?_
  simp only [argE,Nat.zero_add,Nat.reduceAdd]
  repeat (first | refine bb_ ?_ | (refine wR ?_;try simp only [oS]) | refine ba_ ?_ | refine wM ?_ | refine wA ?_ | refine wF ?_ | refine bn_ ?_ | refine bk_ ?_)
  (first | refine or1 Try.func69 Try.results69 hQ rfl ?_ | refine on1 Try.func69 Try.results69 hQ rfl ?_)
  exact ⟨rfl,rfl,rfl⟩
 ·refine bd_ Try.func69 rfl Try.ntmps69 (by simp) fun um Q _ hQ=>?_
  simp only [argE,Nat.zero_add,Nat.reduceAdd]
  repeat (first | refine bb_ ?_ | (refine wR ?_;try simp only [oS]) | refine ba_ ?_ | refine wM ?_ | refine wA ?_ | refine wT ?_ | refine bn_ ?_)
  (first | refine or1 Try.func69 Try.results69 hQ rfl ?_ | refine on1 Try.func69 Try.results69 hQ rfl ?_)
  exact ⟨rfl,rfl,rfl⟩
end
end
end Go.Proofs.Ytnnpdmhmpgmpnaa
namespace Go.Proofs.Ytnnpdmhmpgmpnaa
open Go Go.PB
attribute [local irreducible] Mo Bin Eql Tr Wo Ap Wle
section
theorem _root_.Go.PB.Mach.Op.more {f k:Nat} {w w':Mach.Wd} {t t':Mach.Th} {m:Nat × Nat} (h:Mach.Op f w t m w' t'):Mach.Op (f+k) w t m w' t' where
 over:=h.over
 mark:=h.mark
 on:=by
  have o:=h.on
  unfold Mach.opF at o ⊢
  split at o
  ·rename_i hp
   rw [if_pos hp]
   simp only [Option.map_eq_some_iff] at o ⊢
   obtain ⟨u,hu,e⟩:=o
   exact ⟨u,Mach.onF_more hu,e⟩
  ·cases o
theorem _root_.Go.PB.Mach.Op.up {f g:Nat} {w w':Mach.Wd} {t t':Mach.Th} {m:Nat × Nat} (h:Mach.Op f w t m w' t') (hle:f≤g):Mach.Op g w t m w' t':=by
 obtain ⟨k,rfl⟩:=Nat.le.dest hle
 exact h.more
section
variable {D:Wds} {N k:Nat} {Pv:Nat × Mach.Th→HProp} {Pm:HProp}
theorem jt_ {addr:Nat→Nat × Nat} {K:List (Nat × Nat × Value)} {A:Apart addr N K} {Z:HProp} {hPv:∀ q h,Star [Pv q] h→Pv q h} {sb says turn fin wg:Nat} {op w:Nat} {o:Int} {s:PlS} {R:PlS→Prop} {f0:Nat→Nat} (ho:((op:Nat):Int)=o) (h0:D.ok f0) (hfg:∀ i,i<N→s.f i=s.g i) (hpm:∀ h,Pm h→Pv (k,s.t) h)
  (hop:∀ f,D.ok f→∃ f' t',Mach.Op D.fu (D.W f) s.t (op,w) (D.W f') t'∧∀ n,n<s.n→R ⟨f,D.un (D.W f'),t',n⟩):(hv_ D addr N K A Z Pv hPv sb says turn fin wg k Pm).step o w s R:=by
 obtain ⟨_,_,o1,_⟩:=hop f0 h0
 refine ⟨o1.over,by rw [o1.mark];exact ho,by rw [o1.mark],hfg,hpm,fun f n hn hf=>?_⟩
 obtain ⟨f',t',o',h⟩:=hop f hf
 exact ⟨_,o'.on,h n hn⟩
theorem bdq {m:Nat × Nat} {t:Mach.Th} {f0:Nat→Nat} (h0:D.ok f0) (hop:∀ f,D.ok f→∃ f' t',Mach.Op D.fu (D.W f) t m (D.W f') t'∧D.ok f'∧GoodT D t'):GoodT D t:=by
 obtain ⟨_,_,o,_⟩:=hop f0 h0
 refine GoodT.mk o.over fun f hf=>?_
 obtain ⟨f',t',o',h1,h2⟩:=hop f hf
 exact ⟨f',t',o'.on,h1,h2⟩
end
theorem jm_ {D:Wds} {m:Nat × Nat} {n:Nat} {t:Mach.Th} {f0:Nat→Nat} (h0:D.ok f0) (hop:∀ f,D.ok f→∃ f' t',Mach.Op D.fu (D.W f) t m (D.W f') t'∧D.ok f'∧GoodN D n t'):GoodN D (n+1) t:=by
 obtain ⟨_,_,o,_⟩:=hop f0 h0
 refine .inr ⟨o.over,fun f hf=>?_⟩
 obtain ⟨f',t',o',h1,h2⟩:=hop f hf
 exact ⟨f',t',o'.on,h1,h2⟩
theorem yn_ {D:Wds}:∀ {n:Nat} {t:Mach.Th},GoodN D (n+1) t→GoodN D n t
 | 0,_,_=>trivial
 | n+1,t,h=>by
  rcases h with h | ⟨h1,h2⟩
  ·exact .inl h
  ·refine .inr ⟨h1,fun f hf=>?_⟩
   obtain ⟨f',t',a,b,c⟩:=h2 f hf
   exact ⟨f',t',a,b,yn_ c⟩
end
section
variable {B:Hand} {gv:Value}
def ji_ (A:Acc B gv) (φ:Nat→Nat):Acc B gv where
 S:=A.S
 C:=A.C
 x:=A.x
 step:=A.step
 addr:=fun w=>A.addr (φ w)
 load:=fun w=>A.load (φ w)
 store:=fun w=>A.store (φ w)
 cas:=fun w=>A.cas (φ w)
 add:=fun w=>A.add (φ w)
 swap:=fun w=>A.swap (φ w)
 gate:=A.gate
 load_ok:=fun w=>A.load_ok (φ w)
 store_ok:=fun w=>A.store_ok (φ w)
 cas_ok:=fun w=>A.cas_ok (φ w)
 add_ok:=fun w=>A.add_ok (φ w)
end
section
def w3 (a b c:Nat):Value:=.agg #[.int .u64 (a:Nat),.int .u64 (b:Nat),.int .u64 (c:Nat)]
def packN (a b c:Nat):Nat:=((((c*2^23)%18446744073709551616) ||| ((b*2^2)%18446744073709551616))%18446744073709551616 ||| a)%18446744073709551616
theorem xx_ {a b c:Nat}:packN a b c<18446744073709551616:=Nat.mod_lt _ (by decide)
theorem cbm {a b c:Nat} (ha:a<4) (hb:b<2097152) (hc:c<2199023255552):packN a b c=c*8388608+b*4+a:=by
 unfold packN
 have h1:(c*2^23)%18446744073709551616=2^23*c:=by omega
 have h2:(b*2^2)%18446744073709551616=b*4:=by omega
 rw [h1,h2,← Nat.two_pow_add_eq_or_of_lt (i:=23) (b:=b*4) (by omega)]
 have h3:(2^23*c+b*4)%18446744073709551616=2^2*(c*2097152+b):=by omega
 rw [h3,← Nat.two_pow_add_eq_or_of_lt (i:=2) (b:=a) (by omega)]
 omega
section
variable {B:Hand} [Lets B] {L F:List HProp} {x:B.X} {w:Nat}
theorem yz_ (hw:w<18446744073709551616):Tr Try.prog B 49 [.int .u64 (w:Nat)] L x fun v L' x'=>v=w3 (w%4) (w/4%2097152) (w/8388608)∧L'=L∧x'=x:=by
 refine Tr.post (R:=fun v L' x'=>v=w3 (w%4) (w/4%2097152) (w/8388608)∧x'=x∧∀ h,Star L' h→Star L h) ?_ (by rintro v L' x' ⟨rfl,rfl,hs⟩;exact ⟨L,⟨rfl,rfl,rfl⟩,hs⟩)
 have a1:IntKind.u64.wrap (BitVec.ofInt IntKind.u64.bits (w:Int) &&& BitVec.ofInt IntKind.u64.bits (3:Int)).toNat=((w%4:Nat):Int):=by
  rw [show (3:Int)=((3:Nat):Int) from rfl,zb_ hw (by omega),show w &&& 3=w%4 from Nat.and_two_pow_sub_one_eq_mod w 2];omega
 have s1:(w:Int).fdiv (2^(min (2:Int).toNat IntKind.u64.bits))=((w/4:Nat):Int):=by
  have:=wk_ (a:=w) (n:=2) (by omega) hw
  rw [show ((2:Nat):Int)=2 from rfl] at this
  rw [this];omega
 have s2:(w:Int).fdiv (2^(min (23:Int).toNat IntKind.u64.bits))=((w/8388608:Nat):Int):=by
  have:=wk_ (a:=w) (n:=23) (by omega) hw
  rw [show ((23:Nat):Int)=23 from rfl] at this
  rw [this];omega
 have a2:IntKind.u64.wrap (BitVec.ofInt IntKind.u64.bits ((w/4:Nat):Int) &&& BitVec.ofInt IntKind.u64.bits (2097151:Int)).toNat=((w/4%2097152:Nat):Int):=by
  rw [show (2097151:Int)=((2097151:Nat):Int) from rfl,zb_ (by omega) (by omega),show w/4 &&& 2097151=w/4%2097152 from Nat.and_two_pow_sub_one_eq_mod (w/4) 21];omega
 refine bd_ Try.func49 rfl Try.ntmps49 (by simp) fun um Q _ hQ=>?_
 simp only [argE,Nat.zero_add,Nat.reduceAdd]
 repeat (first | (apply wo_mo;apply ck_;exact trivial) | refine bb_ ?_ | (refine wR ?_;try simp only [oS]))
 rintro v' L' ⟨cb,rfl,rfl⟩
 repeat (first | (apply wo_po;apply bu_;exact rfl;exact rfl;apply mt_;(first | exact a1 | exact a2);exact trivial) | (apply wo_po;apply bu_;exact rfl;exact rfl;apply ms_;omega;(first | exact s1 | exact s2);exact trivial) | (apply wo_po;apply ce_;(repeat (first | exact EvL.nil | apply EvL.cons rfl));exact rfl;exact trivial) | (apply wo_pm;apply bw_ (c:=0) (k:=0) (a:=0) (vs:=[.int .u64 0,.int .u64 0,.int .u64 0]);exact rfl;exact rfl;exact rfl;(intro w hw;simp [Value.cells] at hw;rcases hw with rfl | rfl | rfl <;> rfl);exact rfl;exact Nat.le_refl 3;exact .here;exact trivial) | refine bb_ ?_ | (refine wR ?_;try simp only [oS]) | refine ba_ ?_ | refine wM ?_ | refine bn_ ?_)
 refine cp_ (rs:=[.cell 2 128]) Try.func49 Try.results49 hQ (.inl rfl) (.cons (.cell (vs:=[.int .u64 ((w%4:Nat):Int),.int .u64 ((w/4%2097152:Nat):Int),.int .u64 ((w/8388608:Nat):Int)]) rfl rfl (Rds.all .here)) .nil) ?_
 exact ⟨rfl,rfl,fun h st=>bs_ st⟩
theorem btq {a b c:Nat} (ha:a<18446744073709551616) (hb:b<18446744073709551616) (hc:c<18446744073709551616):Tr Try.prog B 74 [w3 a b c] L x fun v L' x'=>v=.int .u64 (packN a b c:Nat)∧L'=L∧x'=x:=by
 refine Tr.post (R:=fun v L' x'=>v=.int .u64 (packN a b c:Nat)∧x'=x∧∀ h,Star L' h→Star L h) ?_ (by rintro v L' x' ⟨rfl,rfl,hs⟩;exact ⟨L,⟨rfl,rfl,rfl⟩,hs⟩)
 have s1:IntKind.u64.wrap ((c:Int)*2^(min (23:Int).toNat IntKind.u64.bits))=(((c*2^23)%18446744073709551616:Nat):Int):=bcq (n:=23) (by omega)
 have s2:IntKind.u64.wrap ((b:Int)*2^(min (2:Int).toNat IntKind.u64.bits))=(((b*2^2)%18446744073709551616:Nat):Int):=bcq (n:=2) (by omega)
 have o1:=bnf (a:=(c*2^23)%18446744073709551616) (b:=(b*2^2)%18446744073709551616) (Nat.mod_lt _ (by decide)) (Nat.mod_lt _ (by decide))
 have o2:=bnf (a:=(((c*2^23)%18446744073709551616) ||| ((b*2^2)%18446744073709551616))%18446744073709551616) (b:=a) (Nat.mod_lt _ (by decide)) ha
 refine bd_ Try.func74 rfl Try.ntmps74 (by simp) fun um Q _ hQ=>?_
 simp only [argE,Nat.zero_add,Nat.reduceAdd]
 repeat (first | (apply wo_mo;apply ct_;exact rfl;exact trivial) | refine bb_ ?_ | (refine wR ?_;try simp only [oS]))
 rintro v' L' ⟨cb,rfl,rfl⟩
 refine ft_ (arr cb 0 [.int .u64 (a:Nat),.int .u64 (b:Nat),.int .u64 (c:Nat)]::L) .refl ?_
 repeat (first | (apply wo_po;apply bu_;exact rfl;exact rfl;apply cdn;(first | exact o1 | exact o2);exact trivial) | (apply wo_po;apply bu_;exact rfl;exact rfl;apply bfg;omega;(first | exact s1 | exact s2);exact trivial) | refine bb_ ?_ | (refine wR ?_;try simp only [oS]) | refine ba_ ?_ | refine wA ?_ | refine wD ?_ | refine wL ?_ | refine bn_ ?_)
 (first | refine or1 Try.func74 Try.results74 hQ rfl ?_ | refine on1 Try.func74 Try.results74 hQ rfl ?_)
 exact ⟨rfl,rfl,fun h st=>bs_ st⟩
end
end
section
structure GaugeAt {B:Hand} {gv:Value} (A:Acc B gv) (r limit:Nat):Prop where
 lo:1≤limit
 hi:limit≤1048576
 hdr:∀ s,Rd [A.C s] r 0 (.int .u64 (limit:Nat))
 a:∀ w,w<2→A.addr w=(r,1+w)
structure BreakerAt {B:Hand} {gv:Value} (A:Acc B gv) (r fails wait:Nat):Prop where
 lo:1≤fails
 hi:fails≤1048576
 whi:wait≤1099511627776
 hdr:∀ s,Rd [A.C s] r 0 (.int .u64 (fails:Nat))
 hdw:∀ s,Rd [A.C s] r 1 (.int .u64 (wait:Nat))
 a:A.addr 0=(r,2)
section
variable {B:Hand} [Lets B] {gv:Value} {A:Acc B gv} {r limit fails wait:Nat} {L F:List HProp}
theorem ss_ {op:Int} {w:Nat} {s:A.S} {T:A.S→Prop} (hs:A.step op w s T) (hh:Has L (A.C s) F) :
  Tr Try.prog B 48 [gv,.int .u8 op,.int .i64 w] L (A.x s) fun v L' x'=>∃ s',T s'∧v=.tuple #[]∧L'=A.C s'::F∧x'=A.x s':=by
 rcases A.gate with ⟨rfl,hg⟩ | ⟨t,p,f,rfl,hm,he,hg⟩
 ·refine bd_ Try.func48 rfl Try.ntmps48 (by simp) fun um Q _ hQ=>?_
  simp only [argE,Nat.zero_add,Nat.reduceAdd]
  repeat (first | refine bb_ ?_ | (refine wR ?_;try simp only [oS]) | refine ba_ ?_ | refine wM ?_ | (apply wo_po;apply bu_;exact rfl;exact rfl;apply yu_;apply wg_;exact gY) | refine wF ?_ | refine bk_ ?_)
  refine fk_ _ (Ent.take hh .refl) ?_
  (first | refine or0 Try.func48 Try.results48 hQ ?_ | refine on0 Try.func48 Try.results48 hQ ?_)
  exact ⟨s,hg _ _ _ _ hs,rfl,rfl,rfl⟩
 ·refine bd_ Try.func48 rfl Try.ntmps48 (by simp) fun um Q _ hQ=>?_
  simp only [argE,Nat.zero_add,Nat.reduceAdd]
  repeat (first | (apply wo_po;apply dq_ (pv:=[(0,_),(1,_)]);exact rfl;exact .cons rfl (.cons rfl .nil);exact rfl;exact trivial) | refine bb_ ?_ | (refine wR ?_;try simp only [oS]) | refine ba_ ?_ | refine wM ?_ | (apply wo_po;apply bu_;exact rfl;exact rfl;apply yu_;apply qq_;exact gY) | refine wT ?_)
  refine bsm (args:=[_]) rfl (.cons rfl .nil) trivial (hg op w s T L F hs hh) ?_
  rintro v L' x' ⟨s',h1,rfl,rfl,rfl⟩
  repeat (first | refine ba_ ?_)
  (first | refine or0 Try.func48 Try.results48 hQ ?_ | refine on0 Try.func48 Try.results48 hQ ?_)
  exact ⟨s',h1,rfl,rfl,rfl⟩
theorem bdg (R:GaugeAt A r limit) {s:A.S} (hh:Has L (A.C s) F) :
  Tr Try.prog B 52 [.pointer (some ⟨r,0,none⟩)] L (A.x s) fun v L' x'=>v=.bool false∧L'=L∧x'=A.x s:=by
 have hr:=Rd.of hh (R.hdr s)
 have h1:=R.lo
 refine bd_ Try.func52 rfl Try.ntmps52 (by simp) fun um Q _ hQ=>?_
 simp only [argE,Nat.zero_add,Nat.reduceAdd]
 repeat (first | (apply wo_po;apply bc_;exact rfl;exact hr;exact rfl) | refine weqlF ?_ | refine bb_ ?_ | (refine wR ?_;try simp only [oS]) | refine ba_ ?_ | refine wM ?_ | refine wA ?_ | refine wJ ?_ | refine wN ?_ | refine wD ?_ | (apply wo_po;apply bu_;exact rfl;exact rfl;apply si_;apply jo_;exact gY) | refine bn_ ?_)
 (first | refine or1 Try.func52 Try.results52 hQ rfl ?_ | refine on1 Try.func52 Try.results52 hQ rfl ?_)
 exact ⟨rfl,rfl,rfl⟩
theorem ys_ (R:BreakerAt A r fails wait) {s:A.S} (hh:Has L (A.C s) F) :
  Tr Try.prog B 44 [.pointer (some ⟨r,0,none⟩)] L (A.x s) fun v L' x'=>v=.bool false∧L'=L∧x'=A.x s:=by
 have hr:=Rd.of hh (R.hdr s)
 have h1:=R.lo
 refine bd_ Try.func44 rfl Try.ntmps44 (by simp) fun um Q _ hQ=>?_
 simp only [argE,Nat.zero_add,Nat.reduceAdd]
 repeat (first | (apply wo_po;apply bc_;exact rfl;exact hr;exact rfl) | refine weqlF ?_ | refine bb_ ?_ | (refine wR ?_;try simp only [oS]) | refine ba_ ?_ | refine wM ?_ | refine wA ?_ | refine wJ ?_ | refine wN ?_ | refine wD ?_ | (apply wo_po;apply bu_;exact rfl;exact rfl;apply si_;apply jo_;exact gY) | refine bn_ ?_)
 (first | refine or1 Try.func44 Try.results44 hQ rfl ?_ | refine on1 Try.func44 Try.results44 hQ rfl ?_)
 exact ⟨rfl,rfl,rfl⟩
theorem qd_ (R:GaugeAt A r limit) {w:Nat} (hw:w<2) {s:A.S} {Q:Nat→A.S→Prop} (hs:A.step 1 w s fun s=>A.load w s Q) (hh:Has L (A.C s) F) :
  Tr Try.prog B 53 [.pointer (some ⟨r,0,none⟩),gv,.int .i64 (w:Nat)] L (A.x s) fun v L' x'=>∃ n s',n<18446744073709551616∧Q n s'∧v=.int .u64 (n:Nat)∧L'=A.C s'::F∧x'=A.x s':=by
 refine bd_ Try.func53 rfl Try.ntmps53 (by simp) fun um Q _ hQ=>?_
 simp only [argE,Nat.zero_add,Nat.reduceAdd]
 repeat (first | refine bb_ ?_ | (refine wR ?_;try simp only [oS]) | refine ba_ ?_ | refine wM ?_ | refine wA ?_)
 refine bo_ (.cons rfl (.cons rfl (.cons rfl .nil))) trivial (ss_ hs hh) ?_
 rintro v1 L1 x1 ⟨s1,h1,rfl,rfl,rfl⟩
 repeat (first | (apply wo_po;apply bt_ (j:=w);exact rfl;exact rfl;omega;exact trivial) | refine bb_ ?_ | (refine wR ?_;try simp only [oS]) | refine ba_ ?_ | refine wM ?_ | refine wN ?_ | refine wD ?_)
 refine bo_ (.cons rfl .nil) trivial (A.load_ok _ _ _ _ _ _ _ (R.a w hw) h1 .here) ?_
 rintro v1 L1 x1 ⟨n,s2,hn,h2,rfl,rfl,rfl⟩
 repeat (first | refine ba_ ?_ | refine wA ?_ | refine bn_ ?_)
 (first | refine or1 Try.func53 Try.results53 hQ rfl ?_ | refine on1 Try.func53 Try.results53 hQ rfl ?_)
 exact ⟨n,s2,hn,h2,rfl,rfl,rfl⟩
theorem bcr (R:GaugeAt A r limit) {w a b:Nat} (hw:w<2) (hb:b<18446744073709551616) {s:A.S} {Q:Bool→A.S→Prop} (hs:A.step 5 w s fun s=>A.cas w a b s Q) (hh:Has L (A.C s) F) :
  Tr Try.prog B 54 [.pointer (some ⟨r,0,none⟩),gv,.int .i64 (w:Nat),.int .u64 (a:Nat),.int .u64 (b:Nat)] L (A.x s) fun v L' x'=>∃ q s',Q q s'∧v=.bool q∧L'=A.C s'::F∧x'=A.x s':=by
 refine bd_ Try.func54 rfl Try.ntmps54 (by simp) fun um Q _ hQ=>?_
 simp only [argE,Nat.zero_add,Nat.reduceAdd]
 repeat (first | refine bb_ ?_ | (refine wR ?_;try simp only [oS]) | refine ba_ ?_ | refine wM ?_ | refine wA ?_)
 refine bo_ (.cons rfl (.cons rfl (.cons rfl .nil))) trivial (ss_ hs hh) ?_
 rintro v1 L1 x1 ⟨s1,h1,rfl,rfl,rfl⟩
 repeat (first | (apply wo_po;apply bt_ (j:=w);exact rfl;exact rfl;omega;exact trivial) | refine bb_ ?_ | (refine wR ?_;try simp only [oS]) | refine ba_ ?_ | refine wM ?_ | refine wN ?_ | refine wD ?_)
 refine bo_ (.cons rfl (.cons rfl (.cons rfl .nil))) trivial (A.cas_ok _ _ _ _ _ _ _ _ _ (R.a w hw) hb h1 .here) ?_
 rintro v1 L1 x1 ⟨q,s2,h2,rfl,rfl,rfl⟩
 repeat (first | refine ba_ ?_ | refine wA ?_ | refine bn_ ?_)
 (first | refine or1 Try.func54 Try.results54 hQ rfl ?_ | refine on1 Try.func54 Try.results54 hQ rfl ?_)
 exact ⟨q,s2,h2,rfl,rfl,rfl⟩
def wv_ (A:Acc B gv) (n:Nat) (Q:Bool→A.S→Prop) (X:A.S→Prop) (s:A.S):Prop :=
 A.step 1 1 s fun s=>A.load 1 s fun p s=>if n<p then Q true s else A.step 5 1 s fun s=>A.cas 1 p ((n+1)%18446744073709551616) s fun c s=>if c then Q true s else X s
def cks (A:Acc B gv) (n:Nat) (Q:Bool→A.S→Prop) (s:A.S):Prop:=∀ X:A.S→Prop,(∀ s,wv_ A n Q X s→X s)→X s
def bfx (A:Acc B gv) (limit:Nat) (Q:Bool→A.S→Prop) (X:Nat × A.S→Prop) (y:Nat × A.S):Prop :=
 y.1<18446744073709551616∧if limit≤y.1 then Q false y.2 else A.step 5 0 y.2 fun s=>A.cas 0 y.1 ((y.1+1)%18446744073709551616) s fun c s=>if c then cks A y.1 Q s else A.step 1 0 s fun s=>A.load 0 s fun n s=>n<18446744073709551616→X (n,s)
def bfw (A:Acc B gv) (limit:Nat) (s:A.S) (Q:Bool→A.S→Prop):Prop :=
 A.step 1 0 s fun s=>A.load 0 s fun n s=>n<18446744073709551616→∀ X:Nat × A.S→Prop,(∀ y,bfx A limit Q X y→X y)→X (n,s)
theorem bjv (R:GaugeAt A r limit) {s:A.S} {G:Bool→A.S→Prop} (hs:bfw A limit s G) (hh:Has L (A.C s) F) :
  Tr Try.prog B 19 [.pointer (some ⟨r,0,none⟩),gv] L (A.x s) fun v L' x'=>∃ q s',G q s'∧v=.tuple #[.bool q,.int .i64 0]∧L'=A.C s'::F∧x'=A.x s':=by
 have hlo:=R.lo
 have hhi:=R.hi
 refine bd_ Try.func19 rfl Try.ntmps19 (by simp) fun um Q _ hQ=>?_
 simp only [argE,Nat.zero_add,Nat.reduceAdd]
 repeat (first | refine bb_ ?_ | (refine wR ?_;try simp only [oS]) | refine ba_ ?_ | refine wM ?_ | refine wA ?_)
 refine bo_ (.cons rfl .nil) trivial (bdg R hh) ?_
 rintro v1 L1 x1 ⟨rfl,rfl,rfl⟩
 repeat (first | refine bb_ ?_ | (refine wR ?_;try simp only [oS]) | refine ba_ ?_ | refine wM ?_ | refine wF ?_ | refine bk_ ?_)
 refine bo_ (.cons rfl (.cons rfl (.cons rfl .nil))) trivial (qd_ R (w:=0) (by omega) hs hh) ?_
 rintro v1 L1 x1 ⟨n,s1,hn,h1,rfl,rfl,rfl⟩
 repeat (first | refine bb_ ?_ | refine ba_ ?_ | refine wA ?_)
 refine bf_ ?_
 refine cfz (bfx A limit G) (fun y=>A.C y.2::F) (fun y=>A.x y.2) (fun y=>[(0,.pointer (some ⟨r,0,none⟩)),(1,gv),(6,.int .u64 (y.1:Nat))]) (n,s1) (h1 hn) ⟨rfl,rfl,rfl,trivial⟩ .refl rfl ?_
 clear h1 hn hs
 rintro ⟨n,s1⟩ ⟨hn,h1⟩
 dsimp only at hn h1 ⊢
 have hr:Rd (A.C s1::F) r 0 (.int .u64 (limit:Nat)):=Rd.of .here (R.hdr s1)
 by_cases c1:limit≤n
 ·rw [if_pos c1] at h1
  repeat (first | (apply wo_po;apply bc_;exact rfl;exact hr;exact trivial) | refine wgeqT ?_ | refine bb_ ?_ | (refine wR ?_;try simp only [oS]) | refine ba_ ?_ | refine wM ?_ | refine wA ?_ | refine wN ?_ | refine wD ?_ | refine wT ?_ | refine bn_ ?_ | refine bf_ ?_)
  (first | refine or2 Try.func19 Try.results19 hQ rfl rfl ?_ | refine on2 Try.func19 Try.results19 hQ rfl rfl ?_)
  exact ⟨false,s1,h1,rfl,rfl,rfl⟩
 ·rw [if_neg c1] at h1
  have hadd:IntKind.u64.wrap ((n:Int)+1)=(((n+1)%18446744073709551616:Nat):Int):=by rw [fi_];omega
  repeat (first | (apply wo_po;apply bc_;exact rfl;exact hr;exact trivial) | (apply wo_po;apply bu_;exact rfl;exact rfl;apply gb_;exact hadd;exact trivial) | refine wgeqF ?_ | refine bb_ ?_ | (refine wR ?_;try simp only [oS]) | refine ba_ ?_ | refine wM ?_ | refine wN ?_ | refine wD ?_ | refine wF ?_ | refine bk_ ?_ | refine bf_ ?_)
  refine bo_ (.cons rfl (.cons rfl (.cons rfl (.cons rfl (.cons rfl .nil))))) trivial (bcr R (w:=0) (by omega) (Nat.mod_lt _ (by decide)) h1 .here) ?_
  rintro v1 L1 x1 ⟨q,s2,h2,rfl,rfl,rfl⟩
  cases q
  ·simp only [Bool.false_eq_true,if_false] at h2
   repeat (first | (refine wR ?_;try simp only [oS]) | refine ba_ ?_ | refine wM ?_ | refine wF ?_ | refine bk_ ?_)
   refine bo_ (.cons rfl (.cons rfl (.cons rfl .nil))) trivial (qd_ R (w:=0) (by omega) h2 .here) ?_
   rintro v1 L1 x1 ⟨m,s3,hm,h3,rfl,rfl,rfl⟩
   repeat (first | refine ba_ ?_ | refine wA ?_)
   exact tv_ (h3 hm) ⟨rfl,rfl,rfl,trivial⟩ .refl
  ·simp only [if_true] at h2
   repeat (first | refine ba_ ?_ | refine wT ?_ | refine cu_ ?_)
   refine bf_ ?_
   refine bmb (wv_ A n G) (fun s=>A.C s::F) A.x s2 h2 [(0,.pointer (some ⟨r,0,none⟩)),(1,gv),(6,.int .u64 (n:Nat))] ⟨rfl,rfl,rfl,trivial⟩ .refl rfl ?_
   clear h2 h1
   intro s2 h2
   repeat (first | refine bb_ ?_ | (refine wR ?_;try simp only [oS]) | refine wM ?_ | refine bf_ ?_)
   refine bo_ (.cons rfl (.cons rfl (.cons rfl .nil))) trivial (qd_ R (w:=1) (by omega) h2 .here) ?_
   rintro v1 L1 x1 ⟨p,s3,hp,h3,rfl,rfl,rfl⟩
   by_cases c2:n<p
   ·rw [if_pos c2] at h3
    repeat (first | refine wgtrT ?_ | refine bb_ ?_ | (refine wR ?_;try simp only [oS]) | refine ba_ ?_ | refine wM ?_ | refine wA ?_ | (apply wo_no;exact rfl) | refine wK ?_ | refine wT ?_ | refine bn_ ?_)
    (first | refine or2 Try.func19 Try.results19 hQ rfl rfl ?_ | refine on2 Try.func19 Try.results19 hQ rfl rfl ?_)
    exact ⟨true,s3,h3,rfl,rfl,rfl⟩
   ·rw [if_neg c2] at h3
    repeat (first | (apply wo_po;apply bu_;exact rfl;exact rfl;apply gb_;exact hadd;exact gY) | refine wgtrF ?_ | refine bb_ ?_ | (refine wR ?_;try simp only [oS]) | refine ba_ ?_ | refine wM ?_ | refine wA ?_)
    refine bo_ (.cons rfl (.cons rfl (.cons rfl (.cons rfl (.cons rfl .nil))))) rfl (bcr R (w:=1) (by omega) (Nat.mod_lt _ (by decide)) h3 .here) ?_
    rintro v1 L1 x1 ⟨q,s4,h4,rfl,rfl,rfl⟩
    cases q
    ·simp only [Bool.false_eq_true,if_false] at h4
     repeat (first | refine ba_ ?_ | refine wJ ?_ | refine wF ?_ | refine bk_ ?_)
     exact tv_ h4 ⟨rfl,rfl,rfl,trivial⟩ .refl
    ·simp only [if_true] at h4
     repeat (first | refine bb_ ?_ | (refine wR ?_;try simp only [oS]) | refine ba_ ?_ | refine wA ?_ | refine wJ ?_ | refine wT ?_ | refine bn_ ?_)
     (first | refine or2 Try.func19 Try.results19 hQ rfl rfl ?_ | refine on2 Try.func19 Try.results19 hQ rfl rfl ?_)
     exact ⟨true,s4,h4,rfl,rfl,rfl⟩
def bqc (A:Acc B gv) (Q:Nat→A.S→Prop) (X:A.S→Prop) (s:A.S):Prop :=
 A.step 1 0 s fun s=>A.load 0 s fun n s=>if n=0 then Q 3 s else A.step 5 0 s fun s=>A.cas 0 n ((n+18446744073709551616-1)%18446744073709551616) s fun c s=>if c then Q 0 s else X s
def bqb (A:Acc B gv) (s:A.S) (Q:Nat→A.S→Prop):Prop:=∀ X:A.S→Prop,(∀ s,bqc A Q X s→X s)→X s
theorem ccg (R:GaugeAt A r limit) {s:A.S} {G:Nat→A.S→Prop} (hs:bqb A s G) (hh:Has L (A.C s) F) :
  Tr Try.prog B 21 [.pointer (some ⟨r,0,none⟩),gv] L (A.x s) fun v L' x'=>∃ q s',G q s'∧v=.int .i64 (q:Nat)∧L'=A.C s'::F∧x'=A.x s':=by
 refine bd_ Try.func21 rfl Try.ntmps21 (by simp) fun um Q _ hQ=>?_
 simp only [argE,Nat.zero_add,Nat.reduceAdd]
 repeat (first | refine bb_ ?_ | (refine wR ?_;try simp only [oS]) | refine ba_ ?_ | refine wM ?_ | refine wA ?_)
 refine bo_ (.cons rfl .nil) trivial (bdg R hh) ?_
 rintro v1 L1 x1 ⟨rfl,rfl,rfl⟩
 repeat (first | refine ba_ ?_ | refine wF ?_ | refine bk_ ?_ | refine bf_ ?_)
 refine bmb (bqc A G) (fun s=>A.C s::F) A.x s hs [(0,.pointer (some ⟨r,0,none⟩)),(1,gv)] ⟨rfl,rfl,trivial⟩ (.take hh .refl) rfl ?_
 clear hs hh
 intro s hs
 repeat (first | refine bb_ ?_ | (refine wR ?_;try simp only [oS]) | refine wM ?_ | refine bf_ ?_)
 refine bo_ (.cons rfl (.cons rfl (.cons rfl .nil))) trivial (qd_ R (w:=0) (by omega) hs .here) ?_
 rintro v1 L1 x1 ⟨n,s1,hn,h1,rfl,rfl,rfl⟩
 by_cases c1:n=0
 ·subst c1
  simp only [if_true] at h1
  repeat (first | refine weqlT ?_ | refine bb_ ?_ | (refine wR ?_;try simp only [oS]) | refine ba_ ?_ | refine wM ?_ | refine wA ?_ | refine wT ?_ | refine bn_ ?_)
  (first | refine or1 Try.func21 Try.results21 hQ rfl ?_ | refine on1 Try.func21 Try.results21 hQ rfl ?_)
  exact ⟨3,s1,h1,rfl,rfl,rfl⟩
 ·rw [if_neg c1] at h1
  have hsub:IntKind.u64.wrap ((n:Int)-1)=(((n+18446744073709551616-1)%18446744073709551616:Nat):Int):=by rw [fi_];omega
  repeat (first | (apply wo_po;apply bu_;exact rfl;exact rfl;apply bff;exact hsub;exact trivial) | refine weqlF ?_ | refine bb_ ?_ | (refine wR ?_;try simp only [oS]) | refine ba_ ?_ | refine wM ?_ | refine wA ?_ | refine wF ?_ | refine bk_ ?_)
  refine bo_ (.cons rfl (.cons rfl (.cons rfl (.cons rfl (.cons rfl .nil))))) trivial (bcr R (w:=0) (by omega) (Nat.mod_lt _ (by decide)) h1 .here) ?_
  rintro v1 L1 x1 ⟨q,s2,h2,rfl,rfl,rfl⟩
  cases q
  ·simp only [Bool.false_eq_true,if_false] at h2
   repeat (first | refine ba_ ?_ | refine wF ?_ | refine bk_ ?_)
   exact tv_ h2 ⟨rfl,rfl,trivial⟩ .refl
  ·simp only [if_true] at h2
   repeat (first | refine bb_ ?_ | (refine wR ?_;try simp only [oS]) | refine ba_ ?_ | refine wA ?_ | refine wT ?_ | refine bn_ ?_)
   (first | refine or1 Try.func21 Try.results21 hQ rfl ?_ | refine on1 Try.func21 Try.results21 hQ rfl ?_)
   exact ⟨0,s2,h2,rfl,rfl,rfl⟩
def GetT (A:Acc B gv) (s:A.S) (Q:Nat→Nat→A.S→Prop):Prop :=
 A.step 1 0 s fun s=>A.load 0 s fun a s=>A.step 1 1 s fun s=>A.load 1 s fun b s=>Q a b s
theorem ccm (R:GaugeAt A r limit) {s:A.S} {Q:Nat→Nat→A.S→Prop} (hs:GetT A s Q) (hh:Has L (A.C s) F) :
  Tr Try.prog B 20 [.pointer (some ⟨r,0,none⟩),gv] L (A.x s) fun v L' x'=>∃ a b s',Q a b s'∧a<18446744073709551616∧b<18446744073709551616∧v=.tuple #[.int .u64 (a:Nat),.int .u64 (b:Nat),.int .i64 0]∧L'=A.C s'::F∧x'=A.x s':=by
 refine bd_ Try.func20 rfl Try.ntmps20 (by simp) fun um Q _ hQ=>?_
 simp only [argE,Nat.zero_add,Nat.reduceAdd]
 repeat (first | refine bb_ ?_ | (refine wR ?_;try simp only [oS]) | refine ba_ ?_ | refine wM ?_ | refine wA ?_)
 refine bo_ (.cons rfl .nil) trivial (bdg R hh) ?_
 rintro v1 L1 x1 ⟨rfl,rfl,rfl⟩
 repeat (first | refine bb_ ?_ | (refine wR ?_;try simp only [oS]) | refine ba_ ?_ | refine wM ?_ | refine wF ?_ | refine bk_ ?_)
 refine bo_ (.cons rfl (.cons rfl (.cons rfl .nil))) trivial (qd_ R (w:=0) (by omega) hs hh) ?_
 rintro v1 L1 x1 ⟨a,s1,ha,h1,rfl,rfl,rfl⟩
 repeat (first | refine bb_ ?_ | (refine wR ?_;try simp only [oS]) | refine ba_ ?_ | refine wM ?_ | refine wA ?_)
 refine bo_ (.cons rfl (.cons rfl (.cons rfl .nil))) trivial (qd_ R (w:=1) (by omega) h1 .here) ?_
 rintro v1 L1 x1 ⟨b,s2,hb,h2,rfl,rfl,rfl⟩
 repeat (first | refine ba_ ?_ | refine wA ?_ | refine bn_ ?_)
 (first | refine or3 Try.func20 Try.results20 hQ rfl rfl rfl ?_ | refine on3 Try.func20 Try.results20 hQ rfl rfl rfl ?_)
 exact ⟨a,b,s2,h2,ha,hb,rfl,rfl,rfl⟩
theorem cmq {x:B.X} (h1:1≤limit) (h2:limit≤1048576) :
  Tr Try.prog B 15 [.int .u64 (limit:Nat)] L x fun v L' x'=>∃ r,v=.tuple #[.pointer (some ⟨r,0,none⟩),.int .i64 0]∧L'=arr r 0 [.int .u64 (limit:Nat),.int .u64 0,.int .u64 0]::L∧x'=x:=by
 refine bd_ Try.func15 rfl Try.ntmps15 (by simp) fun um Q _ hQ=>?_
 simp only [argE,Nat.zero_add,Nat.reduceAdd]
 repeat (first | (apply wo_po;apply dq_ (pv:=[(0,_)]);exact rfl;exact .cons rfl .nil;exact rfl;exact trivial) | (apply wo_mo;apply ct_;exact rfl;exact trivial) | refine wlssF ?_ | refine wgtrF ?_ | refine bb_ ?_ | (refine wR ?_;try simp only [oS]) | refine ba_ ?_ | refine wM ?_ | refine wA ?_ | refine wJ ?_ | refine wF ?_ | refine bk_ ?_)
 rintro v' L' ⟨r,rfl,rfl⟩
 repeat (first | refine ba_ ?_ | refine wA ?_ | refine bn_ ?_)
 (first | refine or2 Try.func15 Try.results15 hQ rfl rfl ?_ | refine on2 Try.func15 Try.results15 hQ rfl rfl ?_)
 exact ⟨r,rfl,rfl,rfl⟩
theorem chq {x:B.X} (h1:1≤fails) (h2:fails≤1048576) (h3:1≤wait) (h4:wait≤1099511627776) :
  Tr Try.prog B 16 [.int .u64 (fails:Nat),.int .u64 (wait:Nat)] L x fun v L' x'=>∃ r,v=.tuple #[.pointer (some ⟨r,0,none⟩),.int .i64 0]∧L'=arr r 0 [.int .u64 (fails:Nat),.int .u64 (wait:Nat),.int .u64 0]::L∧x'=x:=by
 refine bd_ Try.func16 rfl Try.ntmps16 (by simp) fun um Q _ hQ=>?_
 simp only [argE,Nat.zero_add,Nat.reduceAdd]
 repeat (first | (apply wo_po;apply dq_ (pv:=[(0,_),(1,_)]);exact rfl;exact .cons rfl (.cons rfl .nil);exact rfl;exact trivial) | (apply wo_mo;apply ct_;exact rfl;exact trivial) | refine wlssF ?_ | refine wgtrF ?_ | refine bb_ ?_ | (refine wR ?_;try simp only [oS]) | refine ba_ ?_ | refine wM ?_ | refine wA ?_ | refine wJ ?_ | refine wF ?_ | refine bk_ ?_)
 rintro v' L' ⟨r,rfl,rfl⟩
 repeat (first | refine ba_ ?_ | refine wA ?_ | refine bn_ ?_)
 (first | refine or2 Try.func16 Try.results16 hQ rfl rfl ?_ | refine on2 Try.func16 Try.results16 hQ rfl rfl ?_)
 exact ⟨r,rfl,rfl,rfl⟩
end
end
section
section
variable {B:Hand} [Lets B] {gv:Value} {A:Acc B gv} {r fails wait:Nat} {L F:List HProp}
def TurnF (A:Acc B gv) (G:Nat→Nat→Nat→Option (Nat × Nat × Nat)) (Q:Nat × Nat × Nat→Bool→A.S→Prop) (X:A.S→Prop) (s:A.S):Prop :=
 A.step 1 0 s fun s=>A.load 0 s fun o s=>match G (o%4) (o/4%2097152) (o/8388608) with
  | none=>Q (o%4,o/4%2097152,o/8388608) false s
  | some y=>A.step 5 0 s fun s=>A.cas 0 o (packN y.1 y.2.1 y.2.2) s fun c s=>if c then Q y true s else X s
def TurnT (A:Acc B gv) (G:Nat→Nat→Nat→Option (Nat × Nat × Nat)) (s:A.S) (Q:Nat × Nat × Nat→Bool→A.S→Prop):Prop:=∀ X:A.S→Prop,(∀ s,TurnF A G Q X s→X s)→X s
def bpz (A:Acc B gv) (F:List HProp) (fn:FuncId) (caps:List Value) (G:Nat→Nat→Nat→Option (Nat × Nat × Nat)):Prop :=
 ∀ s (d:HProp) a b c,a<4→b<2097152→c<2199023255552→Tr Try.prog B fn ([w3 a b c]++caps) (A.C s::d::F) (A.x s) fun v L' x'=>L'=A.C s::d::F∧x'=A.x s ∧
  match G a b c with
  | none=>∃ y1 y2 y3:Nat,v=.tuple #[w3 y1 y2 y3,.bool false]
  | some y=>y.1<18446744073709551616∧y.2.1<18446744073709551616∧y.2.2<18446744073709551616∧v=.tuple #[w3 y.1 y.2.1 y.2.2,.bool true]
theorem bqp (R:BreakerAt A r fails wait) {fn:FuncId} {caps:List Value} {G:Nat→Nat→Nat→Option (Nat × Nat × Nat)} [Ent' Try.prog fn] (hfn:bpz A F fn caps G) {s:A.S} {T:Nat × Nat × Nat→Bool→A.S→Prop} (hs:TurnT A G s T) (hh:Has L (A.C s) F) :
  Tr Try.prog B 45 [.pointer (some ⟨r,0,none⟩),gv,.func (.func fn) #[] caps.toArray] L (A.x s) fun v L' x'=>∃ y q s',T y q s'∧v=.tuple #[w3 y.1 y.2.1 y.2.2,.bool q]∧L'=A.C s'::F∧x'=A.x s':=by
 refine Tr.post (R:=fun v L' x'=>∃ y q s',T y q s'∧v=.tuple #[w3 y.1 y.2.1 y.2.2,.bool q]∧x'=A.x s'∧∀ h,Star L' h→Star (A.C s'::F) h) ?_ (by rintro v L' x' ⟨y,q,s',h1,rfl,rfl,hs⟩;exact ⟨_,⟨y,q,s',h1,rfl,rfl,rfl⟩,hs⟩)
 refine bd_ Try.func45 rfl Try.ntmps45 (by simp) fun um Q _ hQ=>?_
 simp only [argE,Nat.zero_add,Nat.reduceAdd]
 repeat (first | (apply wo_mo;apply ck_;exact trivial) | refine bb_ ?_ | (refine wR ?_;try simp only [oS]))
 rintro v' L' ⟨rb,rfl,rfl⟩
 repeat (first | refine ba_ ?_ | refine wA ?_ | refine bf_ ?_)
 refine bmb (TurnF A G T) (fun s=>A.C s::arr rb 0 [.int .u64 0,.int .u64 0,.int .u64 0]::F) A.x s hs [(0,.pointer (some ⟨r,0,none⟩)),(1,gv),(2,.func (.func fn) #[] caps.toArray),(6,.pointer (some ⟨rb,0,none⟩))] ⟨rfl,rfl,rfl,rfl,trivial⟩ (.take (.there hh) (.take .here .refl)) rfl ?_
 clear hs hh
 intro s hs
 repeat (first | refine bb_ ?_ | (refine wR ?_;try simp only [oS]) | refine wM ?_ | refine bf_ ?_)
 refine bo_ (.cons rfl (.cons rfl (.cons rfl .nil))) trivial (ss_ (w:=0) hs .here) ?_
 rintro v1 L1 x1 ⟨s1,h1,rfl,rfl,rfl⟩
 repeat (first | refine bb_ ?_ | (refine wR ?_;try simp only [oS]) | refine ba_ ?_ | refine wM ?_ | refine wN ?_ | refine wD ?_)
 refine bo_ (.cons rfl .nil) trivial (A.load_ok _ _ _ _ _ _ _ R.a h1 .here) ?_
 rintro v1 L1 x1 ⟨o,s2,ho,h2,rfl,rfl,rfl⟩
 repeat (first | refine bb_ ?_ | (refine wR ?_;try simp only [oS]) | refine ba_ ?_ | refine wM ?_ | refine wA ?_)
 refine bo_ (.cons rfl .nil) trivial (yz_ ho) ?_
 rintro v1 L1 x1 ⟨rfl,rfl,rfl⟩
 skip
 refine mw_ rfl (f:=fn) (first:=[]) (cap:=caps) rfl (.cons rfl .nil) trivial (hfn s2 _ _ _ _ (by omega) (by omega) (by omega)) ?_
 rintro v1 L1 x1 ⟨rfl,rfl,hv⟩
 cases hG:G (o%4) (o/4%2097152) (o/8388608) with
 | none =>
  rw [hG] at h2 hv
  obtain ⟨y1,y2,y3,rfl⟩:=hv
  repeat (first | (apply wo_mo;apply ck_;exact trivial) | refine wM ?_ | (apply wo_po;apply cr_;exact rfl;exact rfl;exact gY))
  rintro v' L' ⟨cb,rfl,rfl⟩
  repeat (first | (apply wo_pm;apply bw_ (b:=cb) (c:=0) (k:=0) (a:=0) (vs:=[.int .u64 0,.int .u64 0,.int .u64 0]);exact rfl;exact rfl;exact rfl;(intro w hw;simp [Value.cells,w3] at hw;rcases hw with rfl | rfl | rfl <;> rfl);exact rfl;exact Nat.le_refl 3;exact .here;exact trivial) | refine bb_ ?_ | (refine wR ?_;try simp only [oS]) | refine ba_ ?_ | refine wM ?_ | refine wA ?_ | (apply wo_po;apply ge_;exact rfl;exact gY) | refine wT ?_)
  refine bo_ (.cons rfl .nil) trivial (yz_ ho) ?_
  rintro v1 L1 x1 ⟨rfl,rfl,rfl⟩
  repeat (first | (apply wo_pm;apply bw_ (b:=rb) (c:=0) (k:=0) (a:=0) (vs:=[.int .u64 0,.int .u64 0,.int .u64 0]);exact rfl;exact rfl;exact rfl;(intro w hw;simp [Value.cells,w3] at hw;rcases hw with rfl | rfl | rfl <;> rfl);exact rfl;exact Nat.le_refl 3;exact (.there (.there .here));exact trivial) | refine ba_ ?_ | refine wA ?_ | refine bn_ ?_)
  refine cp_ (rs:=[.cell 6 128,.tmp 7]) Try.func45 Try.results45 hQ (.inl rfl) (.cons (.cell (vs:=[.int .u64 ((o%4:Nat):Int),.int .u64 ((o/4%2097152:Nat):Int),.int .u64 ((o/8388608:Nat):Int)]) rfl rfl (Rds.all (.there (.there .here)))) (.cons (.tmp rfl) .nil)) ?_
  exact ⟨(o%4,o/4%2097152,o/8388608),false,s2,h2,rfl,rfl,fun h st=>Ent.star (.take (.there .here) (.drop (.drop .refl))) st⟩
 | some y =>
  rw [hG] at h2 hv
  obtain ⟨b1,b2,b3,rfl⟩:=hv
  repeat (first | (apply wo_mo;apply ck_;exact trivial) | refine wM ?_ | (apply wo_po;apply cr_;exact rfl;exact rfl;exact gY))
  rintro v' L' ⟨cb,rfl,rfl⟩
  repeat (first | (apply wo_pm;apply bw_ (b:=cb) (c:=0) (k:=0) (a:=0) (vs:=[.int .u64 0,.int .u64 0,.int .u64 0]);exact rfl;exact rfl;exact rfl;(intro w hw;simp [Value.cells,w3] at hw;rcases hw with rfl | rfl | rfl <;> rfl);exact rfl;exact Nat.le_refl 3;exact .here;exact trivial) | refine bb_ ?_ | (refine wR ?_;try simp only [oS]) | refine ba_ ?_ | refine wM ?_ | refine wA ?_ | (apply wo_po;apply ge_;exact rfl;exact gY) | refine wF ?_ | refine bk_ ?_)
  refine bo_ (.cons rfl (.cons rfl (.cons rfl .nil))) trivial (ss_ (w:=0) h2 (.there .here)) ?_
  rintro v1 L1 x1 ⟨s3,h3,rfl,rfl,rfl⟩
  have hw:Rds (A.C s3::arr cb 0 [.int .u64 (y.1:Nat),.int .u64 (y.2.1:Nat),.int .u64 (y.2.2:Nat)]::arr rb 0 [.int .u64 0,.int .u64 0,.int .u64 0]::F) cb 0 [.int .u64 (y.1:Nat),.int .u64 (y.2.1:Nat),.int .u64 (y.2.2:Nat)]:=Rds.all (.there .here)
  refine ft_ (A.C s3::arr cb 0 [.int .u64 (y.1:Nat),.int .u64 (y.2.1:Nat),.int .u64 (y.2.2:Nat)]::arr rb 0 [.int .u64 0,.int .u64 0,.int .u64 0]::F) .refl ?_
  repeat (first | refine bb_ ?_ | refine ba_ ?_)
  refine br_ (List.range' 0 7) (by kernel_rfl) ?_
  repeat (first | (apply bj_;exact rfl;exact rfl;exact gY;apply cc_ (vs:=[.int .u64 (y.1:Nat),.int .u64 (y.2.1:Nat),.int .u64 (y.2.2:Nat)]);exact rfl;exact rfl;exact hw) | refine aM ?_ | refine aN ?_ | refine aD ?_)
  refine hk_ rfl rfl rfl rfl trivial rfl rfl (.cons rfl .nil) (btq b1 b2 b3) ?_
  rintro v1 L1 x1 ⟨rfl,rfl,rfl⟩
  refine hk_ rfl rfl rfl rfl trivial rfl rfl (.cons rfl (.cons rfl (.cons rfl .nil))) (A.cas_ok _ _ _ _ _ _ _ _ _ R.a xx_ h3 .here) ?_
  rintro v1 L1 x1 ⟨q,s4,h4,rfl,rfl,rfl⟩
  refine bz_ ?_
  cases q
  ·simp only [Bool.false_eq_true,if_false] at h4
   repeat (first | refine wF ?_ | refine bk_ ?_)
   exact tv_ h4 ⟨rfl,rfl,rfl,rfl,trivial⟩ (.take .here (.drop .refl))
  ·simp only [if_true] at h4
   repeat (first | (apply wo_po;apply cc_ (vs:=[.int .u64 (y.1:Nat),.int .u64 (y.2.1:Nat),.int .u64 (y.2.2:Nat)]);exact rfl;exact rfl;exact Rds.all (.there .here);exact trivial) | (apply wo_pm;apply bw_ (b:=rb) (c:=0) (k:=0) (a:=0) (vs:=[.int .u64 0,.int .u64 0,.int .u64 0]);exact rfl;exact rfl;exact rfl;(intro w hw;simp [Value.cells,w3] at hw;rcases hw with rfl | rfl | rfl <;> rfl);exact rfl;exact Nat.le_refl 3;exact (.there (.there .here));exact trivial) | refine bb_ ?_ | (refine wR ?_;try simp only [oS]) | refine ba_ ?_ | refine wA ?_ | refine wT ?_ | refine bn_ ?_)
   refine cp_ (rs:=[.cell 6 128,.tmp 7]) Try.func45 Try.results45 hQ (.inl rfl) (.cons (.cell (vs:=[.int .u64 (y.1:Nat),.int .u64 (y.2.1:Nat),.int .u64 (y.2.2:Nat)]) rfl rfl (Rds.all (.there (.there .here)))) (.cons (.tmp rfl) .nil)) ?_
   exact ⟨y,true,s4,h4,rfl,rfl,fun h st=>Ent.star (.take .here (.drop (.drop .refl))) st⟩
def askG (wait now:Nat) (a b c:Nat):Option (Nat × Nat × Nat):=if a≠0∧c+wait≤now then some (2,b,now) else none
def tellG (fails now:Nat) (good:Bool) (a b c:Nat):Option (Nat × Nat × Nat) :=
 if a=1∨(good=true∧a=0∧b=0) then none else if good=true then some (0,0,0) else if a=2 then some (1,b,now) else if b+1=fails then some (1,fails,now) else some (0,b+1,0)
end
section
variable {B:Hand} [Lets B] {gv:Value} {A:Acc B gv} {r fails wait:Nat} {L F:List HProp}
theorem ckh (R:BreakerAt A r fails wait) {now nb bb:Nat} (hn:now≤1099511627776):bpz A (arr nb 0 [.int .u64 (now:Nat)]::arr bb 0 [.pointer (some ⟨r,0,none⟩)]::F) 46 [.pointer (some ⟨nb,0,none⟩),.pointer (some ⟨bb,0,none⟩)] (askG wait now):=by
 intro s d a b c ha hb hc
 refine Tr.post (R:=fun v L' x'=>x'=A.x s∧(∀ h,Star L' h→Star (A.C s::d::arr nb 0 [.int .u64 (now:Nat)]::arr bb 0 [.pointer (some ⟨r,0,none⟩)]::F) h) ∧
  match askG wait now a b c with
  | none=>∃ y1 y2 y3:Nat,v=.tuple #[w3 y1 y2 y3,.bool false]
  | some y=>y.1<18446744073709551616∧y.2.1<18446744073709551616∧y.2.2<18446744073709551616∧v=.tuple #[w3 y.1 y.2.1 y.2.2,.bool true]) ?_ (by rintro v L' x' ⟨rfl,hs,h1⟩;exact ⟨_,⟨rfl,rfl,h1⟩,hs⟩)
 have hw:=R.whi
 have hadd:IntKind.u64.wrap ((c:Int)+(wait:Int))=((c+wait:Nat):Int):=(wrap_u64 (by omega) (by omega)).trans (by omega)
 simp only [List.cons_append,List.nil_append]
 refine bd_ Try.func46 rfl Try.ntmps46 (by simp) fun um Q _ hQ=>?_
 simp only [argE,Nat.zero_add,Nat.reduceAdd]
 repeat (first | (apply wo_mo;apply ct_;exact rfl;exact trivial) | refine bb_ ?_ | (refine wR ?_;try simp only [oS]))
 rintro v' L' ⟨kb,rfl,rfl⟩
 refine ft_ (arr kb 0 [.int .u64 (a:Nat),.int .u64 (b:Nat),.int .u64 (c:Nat)]::A.C s::d::arr nb 0 [.int .u64 (now:Nat)]::arr bb 0 [.pointer (some ⟨r,0,none⟩)]::F) .refl ?_
 repeat (first | (apply wo_mo;apply ck_;exact trivial))
 rintro v' L' ⟨cb,rfl,rfl⟩
 have hwt:∀ {c1 c2:HProp},Rd (c1::c2::A.C s::d::arr nb 0 [.int .u64 (now:Nat)]::arr bb 0 [.pointer (some ⟨r,0,none⟩)]::F) r 1 (.int .u64 (wait:Nat)):=fun {c1 c2}=>Rd.there (Rd.there (Rd.of .here (R.hdw s)))
 repeat (first | refine bb_ ?_ | refine ba_ ?_ | refine wA ?_)
 refine br_ (List.range' 0 20) (by kernel_rfl) ?_
 by_cases c1:a=0
 ·subst c1
  repeat (first | (apply be_;exact rfl;exact rfl;exact gY;intro L;apply bu_;exact rfl;exact rfl;apply yt_;rfl) | (apply be_;exact rfl;exact rfl;exact gY;intro L;apply ce_;(repeat (first | exact EvL.nil | apply EvL.cons rfl));exact rfl) | refine aM ?_ | (apply ap_no;exact rfl;exact rfl;exact rfl;exact rfl) | refine aD ?_ | (apply be_;exact rfl;exact rfl;exact gY;intro L;apply yh_;exact rfl;exact rfl;exact rfl) | refine aL ?_)
  refine fx_ rfl rfl rfl rfl trivial (bw_ (b:=cb) (c:=0) (k:=0) (a:=0) (vs:=[.int .u64 0,.int .u64 0,.int .u64 0]) rfl rfl rfl (by intro w hw;simp [Value.cells,w3] at hw;rcases hw with rfl | rfl | rfl <;> rfl) rfl (Nat.le_refl 3) .here) ?_ ?_
  ·rintro v L' ⟨rfl,rfl⟩ p hp
   replace hp:=(List.mem_filter.1 hp).1
   simp only [List.mem_cons,List.not_mem_nil,or_false] at hp
   repeat (rcases hp with rfl | hp;· first | exact .inl rfl | exact .inr ⟨_,rfl,(by first | exact trivial | exact rfl),bc_ rfl (by repeat (first | exact hwt | exact Rd.row0 rfl | exact Rd.row rfl rfl | exact Rd.still | apply Rd.there))⟩)
  rintro v' L' ⟨rfl,rfl⟩
  repeat (first | refine aA ?_ | refine bz_ ?_)
  repeat (first | refine bn_ ?_)
  refine cp_ (rs:=[.cell 4 128,.tmp 5]) Try.func46 Try.results46 hQ (.inl rfl) (.cons (.cell (vs:=[.int .u64 2,.int .u64 (b:Nat),.int .u64 (now:Nat)]) rfl rfl (Rds.all .here)) (.cons (.tmp rfl) .nil)) ?_
  refine ⟨rfl,fun h st=>Ent.star (.drop (.drop .refl)) st,?_⟩
  rw [show askG wait now 0 b c=none from if_neg (fun h=>h.1 rfl)]
  exact ⟨2,b,now,rfl⟩
 ·by_cases c2:c+wait≤now
  ·repeat (first | (apply be_;exact rfl;exact rfl;exact gY;intro L;apply bu_;exact rfl;exact rfl;apply tr_;omega) | (apply bj_;exact rfl;exact rfl;exact gY;apply bc_;exact rfl;exact hwt) | (apply be_;exact rfl;exact rfl;exact gY;intro L;apply ce_;(repeat (first | exact EvL.nil | apply EvL.cons rfl));exact rfl) | (apply be_;exact rfl;exact rfl;exact gY;intro L;apply bu_;exact rfl;exact rfl;apply gb_;exact hadd) | (apply be_;exact rfl;exact rfl;exact gY;intro L;apply bu_;exact rfl;exact rfl;apply yx_;omega) | refine aM ?_ | refine aN ?_ | refine aD ?_ | (apply be_;exact rfl;exact rfl;exact gY;intro L;apply yg_;exact rfl;exact rfl;exact rfl) | refine aL ?_)
   refine fx_ rfl rfl rfl rfl trivial (bw_ (b:=cb) (c:=0) (k:=0) (a:=0) (vs:=[.int .u64 0,.int .u64 0,.int .u64 0]) rfl rfl rfl (by intro w hw;simp [Value.cells,w3] at hw;rcases hw with rfl | rfl | rfl <;> rfl) rfl (Nat.le_refl 3) .here) ?_ ?_
   ·rintro v L' ⟨rfl,rfl⟩ p hp
    replace hp:=(List.mem_filter.1 hp).1
    simp only [List.mem_cons,List.not_mem_nil,or_false] at hp
    repeat (rcases hp with rfl | hp;· first | exact .inl rfl | exact .inr ⟨_,rfl,(by first | exact trivial | exact rfl),bc_ rfl (by repeat (first | exact hwt | exact Rd.row0 rfl | exact Rd.row rfl rfl | exact Rd.still | apply Rd.there))⟩)
   rintro v' L' ⟨rfl,rfl⟩
   repeat (first | refine aA ?_ | refine bz_ ?_)
   repeat (first | refine bn_ ?_)
   refine cp_ (rs:=[.cell 4 128,.tmp 5]) Try.func46 Try.results46 hQ (.inl rfl) (.cons (.cell (vs:=[.int .u64 2,.int .u64 (b:Nat),.int .u64 (now:Nat)]) rfl rfl (Rds.all .here)) (.cons (.tmp rfl) .nil)) ?_
   refine ⟨rfl,fun h st=>Ent.star (.drop (.drop .refl)) st,?_⟩
   rw [show askG wait now a b c=some (2,b,now) from if_pos ⟨c1,c2⟩]
   exact ⟨by show 2<18446744073709551616;omega,by show b<_;omega,by show now<_;omega,rfl⟩
  ·repeat (first | (apply be_;exact rfl;exact rfl;exact gY;intro L;apply bu_;exact rfl;exact rfl;apply tr_;omega) | (apply bj_;exact rfl;exact rfl;exact gY;apply bc_;exact rfl;exact hwt) | (apply be_;exact rfl;exact rfl;exact gY;intro L;apply ce_;(repeat (first | exact EvL.nil | apply EvL.cons rfl));exact rfl) | (apply be_;exact rfl;exact rfl;exact gY;intro L;apply bu_;exact rfl;exact rfl;apply gb_;exact hadd) | (apply be_;exact rfl;exact rfl;exact gY;intro L;apply bu_;exact rfl;exact rfl;apply ts_;omega) | refine aM ?_ | refine aN ?_ | refine aD ?_ | (apply be_;exact rfl;exact rfl;exact gY;intro L;apply yg_;exact rfl;exact rfl;exact rfl) | refine aL ?_)
   refine fx_ rfl rfl rfl rfl trivial (bw_ (b:=cb) (c:=0) (k:=0) (a:=0) (vs:=[.int .u64 0,.int .u64 0,.int .u64 0]) rfl rfl rfl (by intro w hw;simp [Value.cells,w3] at hw;rcases hw with rfl | rfl | rfl <;> rfl) rfl (Nat.le_refl 3) .here) ?_ ?_
   ·rintro v L' ⟨rfl,rfl⟩ p hp
    replace hp:=(List.mem_filter.1 hp).1
    simp only [List.mem_cons,List.not_mem_nil,or_false] at hp
    repeat (rcases hp with rfl | hp;· first | exact .inl rfl | exact .inr ⟨_,rfl,(by first | exact trivial | exact rfl),bc_ rfl (by repeat (first | exact hwt | exact Rd.row0 rfl | exact Rd.row rfl rfl | exact Rd.still | apply Rd.there))⟩)
   rintro v' L' ⟨rfl,rfl⟩
   repeat (first | refine aA ?_ | refine bz_ ?_)
   repeat (first | refine bn_ ?_)
   refine cp_ (rs:=[.cell 4 128,.tmp 5]) Try.func46 Try.results46 hQ (.inl rfl) (.cons (.cell (vs:=[.int .u64 2,.int .u64 (b:Nat),.int .u64 (now:Nat)]) rfl rfl (Rds.all .here)) (.cons (.tmp rfl) .nil)) ?_
   refine ⟨rfl,fun h st=>Ent.star (.drop (.drop .refl)) st,?_⟩
   rw [show askG wait now a b c=none from if_neg (fun h=>c2 h.2)]
   exact ⟨2,b,now,rfl⟩
end
end
section
section
variable {B:Hand} [Lets B] {gv:Value} {A:Acc B gv} {r fails wait:Nat} {L F:List HProp}
theorem bzr (R:BreakerAt A r fails wait) {now gb nb bb:Nat} {good:Bool} (hn:now≤1099511627776):bpz A (arr gb 0 [.bool good]::arr nb 0 [.int .u64 (now:Nat)]::arr bb 0 [.pointer (some ⟨r,0,none⟩)]::F) 47 [.pointer (some ⟨gb,0,none⟩),.pointer (some ⟨nb,0,none⟩),.pointer (some ⟨bb,0,none⟩)] (tellG fails now good):=by
 intro s d a b c ha hb hc
 refine Tr.post (R:=fun v L' x'=>x'=A.x s∧(∀ h,Star L' h→Star (A.C s::d::arr gb 0 [.bool good]::arr nb 0 [.int .u64 (now:Nat)]::arr bb 0 [.pointer (some ⟨r,0,none⟩)]::F) h) ∧
  match tellG fails now good a b c with
  | none=>∃ y1 y2 y3:Nat,v=.tuple #[w3 y1 y2 y3,.bool false]
  | some y=>y.1<18446744073709551616∧y.2.1<18446744073709551616∧y.2.2<18446744073709551616∧v=.tuple #[w3 y.1 y.2.1 y.2.2,.bool true]) ?_ (by rintro v L' x' ⟨rfl,hs,h1⟩;exact ⟨_,⟨rfl,rfl,h1⟩,hs⟩)
 have hw:=R.whi
 have hfh:=R.hi
 have hadd:IntKind.u64.wrap ((b:Int)+1)=((b+1:Nat):Int):=(wrap_u64 (by omega) (by omega)).trans (by omega)
 simp only [List.cons_append,List.nil_append]
 refine bd_ Try.func47 rfl Try.ntmps47 (by simp) fun um Q _ hQ=>?_
 simp only [argE,Nat.zero_add,Nat.reduceAdd]
 repeat (first | (apply wo_mo;apply ct_;exact rfl;exact trivial) | refine bb_ ?_ | (refine wR ?_;try simp only [oS]))
 rintro v' L' ⟨kb,rfl,rfl⟩
 refine ft_ (arr kb 0 [.int .u64 (a:Nat),.int .u64 (b:Nat),.int .u64 (c:Nat)]::A.C s::d::arr gb 0 [.bool good]::arr nb 0 [.int .u64 (now:Nat)]::arr bb 0 [.pointer (some ⟨r,0,none⟩)]::F) .refl ?_
 repeat (first | (apply wo_mo;apply ck_;exact trivial))
 rintro v' L' ⟨cb,rfl,rfl⟩
 have hft:∀ {c1 c2:HProp},Rd (c1::c2::A.C s::d::arr gb 0 [.bool good]::arr nb 0 [.int .u64 (now:Nat)]::arr bb 0 [.pointer (some ⟨r,0,none⟩)]::F) r 0 (.int .u64 (fails:Nat)):=fun {c1 c2}=>Rd.there (Rd.there (Rd.of .here (R.hdr s)))
 by_cases c1:a=1
 ·have hG:tellG fails now good a b c=none:=if_pos (.inl c1)
  repeat (first | (apply wo_po;apply cc_ (vs:=[.int .u64 (a:Nat),.int .u64 (b:Nat),.int .u64 (c:Nat)]);exact rfl;exact rfl;exact Rds.all (.there .here);exact trivial) | (apply wo_pm;apply bw_ (b:=cb) (c:=0) (k:=0) (a:=0) (vs:=[.int .u64 0,.int .u64 0,.int .u64 0]);exact rfl;exact rfl;exact rfl;(intro w hw;simp [Value.cells,w3] at hw;rcases hw with rfl | rfl | rfl <;> rfl);exact rfl;exact Nat.le_refl 3;exact .here;exact trivial) | refine weqlT ?_ | refine bb_ ?_ | (refine wR ?_;try simp only [oS]) | refine ba_ ?_ | refine wA ?_ | refine wD ?_ | refine wL ?_ | refine wT ?_ | refine bn_ ?_ | refine bk_ ?_ | refine bf_ ?_)
  refine cp_ (rs:=[.cell 5 128,.tmp 6]) Try.func47 Try.results47 hQ (.inl rfl) (.cons (.cell (vs:=[.int .u64 (a:Nat),.int .u64 (b:Nat),.int .u64 (c:Nat)]) rfl rfl (Rds.all .here)) (.cons (.tmp rfl) .nil)) ?_
  refine ⟨rfl,fun h st=>Ent.star (.drop (.drop .refl)) st,?_⟩
  rw [hG]
  exact ⟨a,b,c,rfl⟩
 cases good
 ·have hno:¬ (a=1∨(false=true∧a=0∧b=0)):=fun h=>h.elim c1 (fun h=>by cases h.1)
  by_cases c2:a=2
  ·have hG:tellG fails now false a b c=some (1,b,now):=by unfold tellG;rw [if_neg hno,if_neg (by simp),if_pos c2]
   repeat (first | (apply wo_po;apply ce_;(repeat (first | exact EvL.nil | apply EvL.cons rfl));exact rfl;exact trivial) | (apply wo_pm;apply bw_ (b:=cb) (c:=0) (k:=0) (a:=0) (vs:=[.int .u64 0,.int .u64 0,.int .u64 0]);exact rfl;exact rfl;exact rfl;(intro w hw;simp [Value.cells,w3] at hw;rcases hw with rfl | rfl | rfl <;> rfl);exact rfl;exact Nat.le_refl 3;exact .here;exact trivial) | refine weqlT ?_ | refine weqlF ?_ | refine bb_ ?_ | (refine wR ?_;try simp only [oS]) | refine ba_ ?_ | refine wM ?_ | refine wA ?_ | (apply wo_no;exact rfl) | refine wJ ?_ | refine wD ?_ | refine wL ?_ | refine wT ?_ | refine wF ?_ | refine bn_ ?_ | refine bf_ ?_)
   refine cp_ (rs:=[.cell 5 128,.tmp 6]) Try.func47 Try.results47 hQ (.inl rfl) (.cons (.cell (vs:=[.int .u64 (1:Nat),.int .u64 (b:Nat),.int .u64 (now:Nat)]) rfl rfl (Rds.all .here)) (.cons (.tmp rfl) .nil)) ?_
   refine ⟨rfl,fun h st=>Ent.star (.drop (.drop .refl)) st,?_⟩
   rw [hG]
   exact ⟨by dsimp only;omega,by dsimp only;omega,by dsimp only;omega,rfl⟩
  ·by_cases c3:b+1=fails
   ·have hG:tellG fails now false a b c=some (1,fails,now):=by unfold tellG;rw [if_neg hno,if_neg (by simp),if_neg c2,if_pos c3]
    repeat (first | refine weqlF ?_ | refine bb_ ?_ | (refine wR ?_;try simp only [oS]) | refine ba_ ?_ | refine wM ?_ | refine wA ?_ | (apply wo_no;exact rfl) | refine wJ ?_ | refine wD ?_ | refine wL ?_ | refine wF ?_ | refine bf_ ?_)
    refine br_ (List.range' 0 9) (by kernel_rfl) ?_
    repeat (first | (apply bj_;exact rfl;exact rfl;exact gY;apply bc_;exact rfl;exact hft) | (apply be_;exact rfl;exact rfl;exact gY;intro L;apply bu_;exact rfl;exact rfl;apply gb_;exact hadd) | (apply be_;exact rfl;exact rfl;exact gY;intro L;apply bu_;exact rfl;exact rfl;apply kj_;omega) | refine aA ?_ | refine aN ?_ | refine aD ?_ | refine aL ?_ | refine bz_ ?_)
    repeat (first | refine bb_ ?_ | refine wT ?_)
    refine br_ (List.range' 0 8) (by kernel_rfl) ?_
    repeat (first | (apply bj_;exact rfl;exact rfl;exact gY;apply bc_;exact rfl;exact hft) | (apply be_;exact rfl;exact rfl;exact gY;intro L;apply ce_;(repeat (first | exact EvL.nil | apply EvL.cons rfl));exact rfl) | refine aN ?_ | refine aD ?_ | refine aL ?_)
    refine cg_ rfl rfl rfl rfl rfl trivial (bw_ (b:=cb) (c:=0) (k:=0) (a:=0) (vs:=[.int .u64 0,.int .u64 0,.int .u64 0]) rfl rfl rfl (by intro w hw;simp [Value.cells,w3] at hw;rcases hw with rfl | rfl | rfl <;> rfl) rfl (Nat.le_refl 3) .here) ?_
    rintro v' L' ⟨rfl,rfl⟩
    repeat (first | refine aA ?_ | refine bz_ ?_)
    repeat (first | refine bn_ ?_)
    refine cp_ (rs:=[.cell 5 128,.tmp 6]) Try.func47 Try.results47 hQ (.inl rfl) (.cons (.cell (vs:=[.int .u64 (1:Nat),.int .u64 (fails:Nat),.int .u64 (now:Nat)]) rfl rfl (Rds.all .here)) (.cons (.tmp rfl) .nil)) ?_
    refine ⟨rfl,fun h st=>Ent.star (.drop (.drop .refl)) st,?_⟩
    rw [hG]
    exact ⟨by show 1<_;omega,by show fails<_;omega,by show now<_;omega,rfl⟩
   ·have hG:tellG fails now false a b c=some (0,b+1,0):=by unfold tellG;rw [if_neg hno,if_neg (by simp),if_neg c2,if_neg c3]
    repeat (first | refine weqlF ?_ | refine bb_ ?_ | (refine wR ?_;try simp only [oS]) | refine ba_ ?_ | refine wM ?_ | refine wA ?_ | (apply wo_no;exact rfl) | refine wJ ?_ | refine wD ?_ | refine wL ?_ | refine wF ?_ | refine bf_ ?_)
    refine br_ (List.range' 0 9) (by kernel_rfl) ?_
    repeat (first | (apply bj_;exact rfl;exact rfl;exact gY;apply bc_;exact rfl;exact hft) | (apply be_;exact rfl;exact rfl;exact gY;intro L;apply bu_;exact rfl;exact rfl;apply gb_;exact hadd) | (apply be_;exact rfl;exact rfl;exact gY;intro L;apply bu_;exact rfl;exact rfl;apply kk_;omega) | refine aA ?_ | refine aN ?_ | refine aD ?_ | refine aL ?_ | refine bz_ ?_)
    repeat (first | (apply wo_po;apply bu_;exact rfl;exact rfl;apply gb_;exact hadd;exact trivial) | (apply wo_po;apply ce_;(repeat (first | exact EvL.nil | apply EvL.cons rfl));exact rfl;exact trivial) | (apply wo_pm;apply bw_ (b:=cb) (c:=0) (k:=0) (a:=0) (vs:=[.int .u64 0,.int .u64 0,.int .u64 0]);exact rfl;exact rfl;exact rfl;(intro w hw;simp [Value.cells,w3] at hw;rcases hw with rfl | rfl | rfl <;> rfl);exact rfl;exact Nat.le_refl 3;exact .here;exact trivial) | refine bb_ ?_ | (refine wR ?_;try simp only [oS]) | refine ba_ ?_ | refine wA ?_ | refine wD ?_ | refine wL ?_ | refine wF ?_ | refine bn_ ?_ | refine bk_ ?_)
    refine cp_ (rs:=[.cell 5 128,.tmp 6]) Try.func47 Try.results47 hQ (.inl rfl) (.cons (.cell (vs:=[.int .u64 (0:Nat),.int .u64 (b+1:Nat),.int .u64 (0:Nat)]) rfl rfl (Rds.all .here)) (.cons (.tmp rfl) .nil)) ?_
    refine ⟨rfl,fun h st=>Ent.star (.drop (.drop .refl)) st,?_⟩
    rw [hG]
    exact ⟨by dsimp only;omega,by dsimp only;omega,by dsimp only;omega,rfl⟩
 ·by_cases c2:a=0
  ·by_cases c3:b=0
   ·have hG:tellG fails now true a b c=none:=if_pos (.inr ⟨rfl,c2,c3⟩)
    repeat (first | (apply wo_po;apply cc_ (vs:=[.int .u64 (a:Nat),.int .u64 (b:Nat),.int .u64 (c:Nat)]);exact rfl;exact rfl;exact Rds.all (.there .here);exact trivial) | (apply wo_pm;apply bw_ (b:=cb) (c:=0) (k:=0) (a:=0) (vs:=[.int .u64 0,.int .u64 0,.int .u64 0]);exact rfl;exact rfl;exact rfl;(intro w hw;simp [Value.cells,w3] at hw;rcases hw with rfl | rfl | rfl <;> rfl);exact rfl;exact Nat.le_refl 3;exact .here;exact trivial) | refine weqlT ?_ | refine weqlF ?_ | refine bb_ ?_ | (refine wR ?_;try simp only [oS]) | refine ba_ ?_ | refine wM ?_ | refine wA ?_ | refine wK ?_ | refine wD ?_ | refine wL ?_ | refine wT ?_ | refine wF ?_ | refine bn_ ?_ | refine bf_ ?_)
    refine cp_ (rs:=[.cell 5 128,.tmp 6]) Try.func47 Try.results47 hQ (.inl rfl) (.cons (.cell (vs:=[.int .u64 (a:Nat),.int .u64 (b:Nat),.int .u64 (c:Nat)]) rfl rfl (Rds.all .here)) (.cons (.tmp rfl) .nil)) ?_
    refine ⟨rfl,fun h st=>Ent.star (.drop (.drop .refl)) st,?_⟩
    rw [hG]
    exact ⟨a,b,c,rfl⟩
   ·have hG:tellG fails now true a b c=some (0,0,0):=by unfold tellG;rw [if_neg (fun h=>h.elim c1 (fun h=>c3 h.2.2)),if_pos rfl]
    repeat (first | (apply wo_po;apply ce_;(repeat (first | exact EvL.nil | apply EvL.cons rfl));exact rfl;exact trivial) | (apply wo_pm;apply bw_ (b:=cb) (c:=0) (k:=0) (a:=0) (vs:=[.int .u64 0,.int .u64 0,.int .u64 0]);exact rfl;exact rfl;exact rfl;(intro w hw;simp [Value.cells,w3] at hw;rcases hw with rfl | rfl | rfl <;> rfl);exact rfl;exact Nat.le_refl 3;exact .here;exact trivial) | refine weqlT ?_ | refine weqlF ?_ | refine bb_ ?_ | (refine wR ?_;try simp only [oS]) | refine ba_ ?_ | refine wM ?_ | refine wA ?_ | refine wK ?_ | refine wD ?_ | refine wL ?_ | refine wT ?_ | refine wF ?_ | refine bn_ ?_ | refine bf_ ?_)
    refine cp_ (rs:=[.cell 5 128,.tmp 6]) Try.func47 Try.results47 hQ (.inl rfl) (.cons (.cell (vs:=[.int .u64 0,.int .u64 0,.int .u64 0]) rfl rfl (Rds.all .here)) (.cons (.tmp rfl) .nil)) ?_
    refine ⟨rfl,fun h st=>Ent.star (.drop (.drop .refl)) st,?_⟩
    rw [hG]
    exact ⟨by dsimp only;omega,by dsimp only;omega,by dsimp only;omega,rfl⟩
  ·have hG:tellG fails now true a b c=some (0,0,0):=by unfold tellG;rw [if_neg (fun h=>h.elim c1 (fun h=>c2 h.2.1)),if_pos rfl]
   repeat (first | (apply wo_po;apply ce_;(repeat (first | exact EvL.nil | apply EvL.cons rfl));exact rfl;exact trivial) | (apply wo_pm;apply bw_ (b:=cb) (c:=0) (k:=0) (a:=0) (vs:=[.int .u64 0,.int .u64 0,.int .u64 0]);exact rfl;exact rfl;exact rfl;(intro w hw;simp [Value.cells,w3] at hw;rcases hw with rfl | rfl | rfl <;> rfl);exact rfl;exact Nat.le_refl 3;exact .here;exact trivial) | refine weqlF ?_ | refine bb_ ?_ | (refine wR ?_;try simp only [oS]) | refine ba_ ?_ | refine wM ?_ | refine wA ?_ | (apply wo_no;exact rfl) | refine wK ?_ | refine wJ ?_ | refine wD ?_ | refine wL ?_ | refine wT ?_ | refine wF ?_ | refine bn_ ?_ | refine bf_ ?_)
   refine cp_ (rs:=[.cell 5 128,.tmp 6]) Try.func47 Try.results47 hQ (.inl rfl) (.cons (.cell (vs:=[.int .u64 0,.int .u64 0,.int .u64 0]) rfl rfl (Rds.all .here)) (.cons (.tmp rfl) .nil)) ?_
   refine ⟨rfl,fun h st=>Ent.star (.drop (.drop .refl)) st,?_⟩
   rw [hG]
   exact ⟨by dsimp only;omega,by dsimp only;omega,by dsimp only;omega,rfl⟩
end
section
variable {B:Hand} [Lets B] {gv:Value} {A:Acc B gv} {r fails wait:Nat} {L F:List HProp}
def AskT (A:Acc B gv) (wait now:Nat) (s:A.S) (Q:Bool→A.S→Prop):Prop:=TurnT A (askG wait now) s fun y q s=>Q (q||y.1 == 0) s
theorem cdx (R:BreakerAt A r fails wait) {now:Nat} (hn:now≤1099511627776) {s:A.S} {Q:Bool→A.S→Prop} (hs:AskT A wait now s Q) (hh:Has L (A.C s) F) :
  Tr Try.prog B 12 [.pointer (some ⟨r,0,none⟩),gv,.int .u64 (now:Nat)] L (A.x s) fun v L' x'=>∃ q s',Q q s'∧v=.tuple #[.bool q,.int .i64 0]∧L'=A.C s'::F∧x'=A.x s':=by
 refine Tr.post (R:=fun v L' x'=>∃ q s',Q q s'∧v=.tuple #[.bool q,.int .i64 0]∧x'=A.x s'∧∀ h,Star L' h→Star (A.C s'::F) h) ?_ (by rintro v L' x' ⟨q,s',h1,rfl,rfl,hs⟩;exact ⟨_,⟨q,s',h1,rfl,rfl,rfl⟩,hs⟩)
 refine bd_ Try.func12 rfl Try.ntmps12 (by simp) fun um Q _ hQ=>?_
 simp only [argE,Nat.zero_add,Nat.reduceAdd]
 repeat (first | (apply wo_mo;apply ct_;exact rfl;exact trivial) | refine bb_ ?_ | (refine wR ?_;try simp only [oS]))
 rintro v' L' ⟨bb,rfl,rfl⟩
 refine ft_ (arr bb 0 [.pointer (some ⟨r,0,none⟩)]::L) .refl ?_
 repeat (first | (apply wo_mo;apply ct_;exact rfl;exact trivial))
 rintro v' L' ⟨nb,rfl,rfl⟩
 refine ft_ (arr nb 0 [.int .u64 (now:Nat)]::arr bb 0 [.pointer (some ⟨r,0,none⟩)]::L) .refl ?_
 repeat (first | refine bb_ ?_ | (refine wR ?_;try simp only [oS]) | refine ba_ ?_ | refine wA ?_ | refine wL ?_ | refine bf_ ?_)
 refine bo_ (.cons rfl .nil) trivial (ys_ R (.there (.there hh))) ?_
 rintro v1 L1 x1 ⟨rfl,rfl,rfl⟩
 refine ft_ (A.C s::arr nb 0 [.int .u64 (now:Nat)]::arr bb 0 [.pointer (some ⟨r,0,none⟩)]::F) (.take (.there (.there hh)) .refl) ?_
 repeat (first | (apply wo_po;apply kq_ (first:=[]) (cap:=[_,_]);exact .nil;exact .cons rfl (.cons rfl .nil);exact trivial) | refine wgtrF ?_ | refine bb_ ?_ | (refine wR ?_;try simp only [oS]) | refine ba_ ?_ | refine wM ?_ | refine wA ?_ | refine wL ?_ | refine wF ?_ | refine bk_ ?_)
 refine bo_ (.cons rfl (.cons rfl (.cons rfl .nil))) trivial (bqp R (caps:=[_,_]) (ckh R hn) hs .here) ?_
 rintro v1 L1 x1 ⟨⟨a,b,c⟩,q,s',h1,rfl,rfl,rfl⟩
 repeat (first | (apply wo_mo;apply ck_;exact trivial) | refine wM ?_ | (apply wo_po;apply cr_;exact rfl;exact rfl;exact gY))
 rintro v' L' ⟨cb,rfl,rfl⟩
 cases q
 ·by_cases c1:a=0
  ·subst c1
   repeat (first | (apply wo_pm;apply bw_ (b:=cb) (c:=0) (k:=0) (a:=0) (vs:=[.int .u64 0,.int .u64 0,.int .u64 0]);exact rfl;exact rfl;exact rfl;(intro w hw;simp [Value.cells,w3] at hw;rcases hw with rfl | rfl | rfl <;> rfl);exact rfl;exact Nat.le_refl 3;exact .here;exact trivial) | refine weqlT ?_ | refine bb_ ?_ | (refine wR ?_;try simp only [oS]) | refine ba_ ?_ | refine wM ?_ | refine wA ?_ | refine wJ ?_ | refine wD ?_ | refine wL ?_ | refine bn_ ?_)
   (first | refine or2 Try.func12 Try.results12 hQ rfl rfl ?_ | refine on2 Try.func12 Try.results12 hQ rfl rfl ?_)
   exact ⟨true,s',h1,rfl,rfl,fun h st=>Ent.star (.take (.there .here) (.drop (.drop (.drop .refl)))) st⟩
  ·repeat (first | (apply wo_pm;apply bw_ (b:=cb) (c:=0) (k:=0) (a:=0) (vs:=[.int .u64 0,.int .u64 0,.int .u64 0]);exact rfl;exact rfl;exact rfl;(intro w hw;simp [Value.cells,w3] at hw;rcases hw with rfl | rfl | rfl <;> rfl);exact rfl;exact Nat.le_refl 3;exact .here;exact trivial) | refine weqlF ?_ | refine bb_ ?_ | (refine wR ?_;try simp only [oS]) | refine ba_ ?_ | refine wM ?_ | refine wA ?_ | refine wJ ?_ | refine wD ?_ | refine wL ?_ | refine bn_ ?_)
   (first | refine or2 Try.func12 Try.results12 hQ rfl rfl ?_ | refine on2 Try.func12 Try.results12 hQ rfl rfl ?_)
   exact ⟨false,s',(by have e:(a == 0)=false:=beq_eq_false_iff_ne.2 c1;simp only [Bool.false_or,e] at h1;exact h1),rfl,rfl,fun h st=>Ent.star (.take (.there .here) (.drop (.drop (.drop .refl)))) st⟩
 ·repeat (first | (apply wo_pm;apply bw_ (b:=cb) (c:=0) (k:=0) (a:=0) (vs:=[.int .u64 0,.int .u64 0,.int .u64 0]);exact rfl;exact rfl;exact rfl;(intro w hw;simp [Value.cells,w3] at hw;rcases hw with rfl | rfl | rfl <;> rfl);exact rfl;exact Nat.le_refl 3;exact .here;exact trivial) | refine bb_ ?_ | (refine wR ?_;try simp only [oS]) | refine ba_ ?_ | refine wM ?_ | refine wA ?_ | (apply wo_no;exact rfl) | refine wK ?_ | refine bn_ ?_)
  (first | refine or2 Try.func12 Try.results12 hQ rfl rfl ?_ | refine on2 Try.func12 Try.results12 hQ rfl rfl ?_)
  exact ⟨true,s',by simpa using h1,rfl,rfl,fun h st=>Ent.star (.take (.there .here) (.drop (.drop (.drop .refl)))) st⟩
def TellT (A:Acc B gv) (fails now:Nat) (good:Bool) (s:A.S) (Q:A.S→Prop):Prop:=TurnT A (tellG fails now good) s fun y q s=>Q s
theorem bqq (R:BreakerAt A r fails wait) {now:Nat} {good:Bool} (hn:now≤1099511627776) {s:A.S} {Q:A.S→Prop} (hs:TellT A fails now good s Q) (hh:Has L (A.C s) F) :
  Tr Try.prog B 13 [.pointer (some ⟨r,0,none⟩),gv,.int .u64 (now:Nat),.bool good] L (A.x s) fun v L' x'=>∃ s',Q s'∧v=.int .i64 0∧L'=A.C s'::F∧x'=A.x s':=by
 refine Tr.post (R:=fun v L' x'=>∃ s',Q s'∧v=.int .i64 0∧x'=A.x s'∧∀ h,Star L' h→Star (A.C s'::F) h) ?_ (by rintro v L' x' ⟨s',h1,rfl,rfl,hs⟩;exact ⟨_,⟨s',h1,rfl,rfl,rfl⟩,hs⟩)
 refine bd_ Try.func13 rfl Try.ntmps13 (by simp) fun um Q _ hQ=>?_
 simp only [argE,Nat.zero_add,Nat.reduceAdd]
 repeat (first | (apply wo_mo;apply ct_;exact rfl;exact trivial) | refine bb_ ?_ | (refine wR ?_;try simp only [oS]))
 rintro v' L' ⟨bb,rfl,rfl⟩
 refine ft_ (arr bb 0 [.pointer (some ⟨r,0,none⟩)]::L) .refl ?_
 repeat (first | (apply wo_mo;apply ct_;exact rfl;exact trivial))
 rintro v' L' ⟨nb,rfl,rfl⟩
 refine ft_ (arr nb 0 [.int .u64 (now:Nat)]::arr bb 0 [.pointer (some ⟨r,0,none⟩)]::L) .refl ?_
 repeat (first | (apply wo_mo;apply ct_;exact rfl;exact trivial))
 rintro v' L' ⟨gb,rfl,rfl⟩
 refine ft_ (arr gb 0 [.bool good]::arr nb 0 [.int .u64 (now:Nat)]::arr bb 0 [.pointer (some ⟨r,0,none⟩)]::L) .refl ?_
 repeat (first | refine bb_ ?_ | (refine wR ?_;try simp only [oS]) | refine ba_ ?_ | refine wA ?_ | refine wL ?_ | refine bf_ ?_)
 refine bo_ (.cons rfl .nil) trivial (ys_ R (.there (.there (.there hh)))) ?_
 rintro v1 L1 x1 ⟨rfl,rfl,rfl⟩
 refine ft_ (A.C s::arr gb 0 [.bool good]::arr nb 0 [.int .u64 (now:Nat)]::arr bb 0 [.pointer (some ⟨r,0,none⟩)]::F) (.take (.there (.there (.there hh))) .refl) ?_
 repeat (first | (apply wo_po;apply kq_ (first:=[]) (cap:=[_,_,_]);exact .nil;exact .cons rfl (.cons rfl (.cons rfl .nil));exact trivial) | refine wgtrF ?_ | refine bb_ ?_ | (refine wR ?_;try simp only [oS]) | refine ba_ ?_ | refine wM ?_ | refine wA ?_ | refine wL ?_ | refine wF ?_ | refine bk_ ?_)
 refine bo_ (.cons rfl (.cons rfl (.cons rfl .nil))) trivial (bqp R (caps:=[_,_,_]) (bzr R hn) hs .here) ?_
 rintro v1 L1 x1 ⟨y,q,s',h1,rfl,rfl,rfl⟩
 repeat (first | refine bb_ ?_ | (refine wR ?_;try simp only [oS]) | refine ba_ ?_ | refine wA ?_ | refine bn_ ?_)
 (first | refine or1 Try.func13 Try.results13 hQ rfl ?_ | refine on1 Try.func13 Try.results13 hQ rfl ?_)
 exact ⟨s',h1,rfl,rfl,fun h st=>Ent.star (.take .here (.drop (.drop (.drop .refl)))) st⟩
def BGetT (A:Acc B gv) (s:A.S) (Q:Nat→A.S→Prop):Prop:=A.step 1 0 s fun s=>A.load 0 s fun o s=>Q o s
theorem brx (R:BreakerAt A r fails wait) {s:A.S} {Q:Nat→A.S→Prop} (hs:BGetT A s Q) (hh:Has L (A.C s) F) :
  Tr Try.prog B 14 [.pointer (some ⟨r,0,none⟩),gv] L (A.x s) fun v L' x'=>∃ o s',o<18446744073709551616∧Q o s'∧v=.tuple #[.int .i64 ((o%4:Nat):Int),.int .u64 ((o/4%2097152:Nat):Int),.int .u64 ((o/8388608:Nat):Int),.int .i64 0]∧L'=A.C s'::F∧x'=A.x s':=by
 refine Tr.post (R:=fun v L' x'=>∃ o s',o<18446744073709551616∧Q o s'∧v=.tuple #[.int .i64 ((o%4:Nat):Int),.int .u64 ((o/4%2097152:Nat):Int),.int .u64 ((o/8388608:Nat):Int),.int .i64 0]∧x'=A.x s'∧∀ h,Star L' h→Star (A.C s'::F) h) ?_ (by rintro v L' x' ⟨o,s',ho,h1,rfl,rfl,hs⟩;exact ⟨_,⟨o,s',ho,h1,rfl,rfl,rfl⟩,hs⟩)
 refine bd_ Try.func14 rfl Try.ntmps14 (by simp) fun um Q _ hQ=>?_
 simp only [argE,Nat.zero_add,Nat.reduceAdd]
 repeat (first | refine bb_ ?_ | (refine wR ?_;try simp only [oS]) | refine ba_ ?_ | refine wM ?_ | refine wA ?_)
 refine bo_ (.cons rfl .nil) trivial (ys_ R hh) ?_
 rintro v1 L1 x1 ⟨rfl,rfl,rfl⟩
 repeat (first | refine bb_ ?_ | (refine wR ?_;try simp only [oS]) | refine ba_ ?_ | refine wM ?_ | refine wF ?_ | refine bk_ ?_)
 refine bo_ (.cons rfl (.cons rfl (.cons rfl .nil))) trivial (ss_ (w:=0) hs hh) ?_
 rintro v1 L1 x1 ⟨s1,h1,rfl,rfl,rfl⟩
 repeat (first | refine bb_ ?_ | (refine wR ?_;try simp only [oS]) | refine ba_ ?_ | refine wM ?_ | refine wN ?_ | refine wD ?_)
 refine bo_ (.cons rfl .nil) trivial (A.load_ok _ _ _ _ _ _ _ R.a h1 .here) ?_
 rintro v1 L1 x1 ⟨o,s2,ho,h2,rfl,rfl,rfl⟩
 skip
 refine bo_ (.cons rfl .nil) trivial (yz_ ho) ?_
 rintro v1 L1 x1 ⟨rfl,rfl,rfl⟩
 repeat (first | (apply wo_mo;apply ck_;exact trivial))
 rintro v' L' ⟨cb,rfl,rfl⟩
 have hcv:IntKind.i64.wrap ((o%4:Nat):Int)=((o%4:Nat):Int):=hg_ (by omega) (by omega)
 repeat (first | (apply wo_pm;apply bw_ (b:=cb) (c:=0) (k:=0) (a:=0) (vs:=[.int .u64 0,.int .u64 0,.int .u64 0]);exact rfl;exact rfl;exact rfl;(intro w hw;simp [Value.cells,w3] at hw;rcases hw with rfl | rfl | rfl <;> rfl);exact rfl;exact Nat.le_refl 3;exact .here;exact trivial) | refine bb_ ?_ | refine ba_ ?_)
 refine dy_ (arr cb 0 [.int .u64 ((o%4:Nat):Int),.int .u64 ((o/4%2097152:Nat):Int),.int .u64 ((o/8388608:Nat):Int)]::A.C s2::F) .refl ?_
 refine br_ (List.range' 0 11) (by kernel_rfl) ?_
 repeat (first | (apply be_;exact rfl;exact rfl;exact gY;intro L;apply fe_;exact rfl;exact hcv) | refine aA ?_ | refine aD ?_ | refine aL ?_ | refine bz_ ?_)
 repeat (first | refine bn_ ?_)
 (first | refine bsb (ex:=.ret) Try.func14 Try.results14 hQ (.inl rfl) rfl rfl rfl rfl ?_ | refine bsb (ex:=.normal) Try.func14 Try.results14 hQ (.inr rfl) rfl rfl rfl rfl ?_)
 exact ⟨o,s2,ho,h2,rfl,rfl,fun h st=>Ent.star (.drop .refl) st⟩
end
end
section
def gAddr (r:Nat) (w:Nat):Nat × Nat:=(r,1+w)
def bAddr (r:Nat) (_:Nat):Nat × Nat:=(r,2)
def gK (r limit:Nat):List (Nat × Nat × Value):=[(r,0,.int .u64 (limit:Nat))]
def bK (r fails wait:Nat):List (Nat × Nat × Value):=[(r,0,.int .u64 (fails:Nat)),(r,1,.int .u64 (wait:Nat))]
theorem cjm (r limit:Nat):Apart (gAddr r) 2 (gK r limit) where
 inj:=fun i j _ _ h=>by have:=congrArg Prod.snd h;simp only [gAddr] at this;omega
 fix:=fun i _ k hk=>by simp only [gK,List.mem_singleton] at hk;subst hk;simp [gAddr]
theorem ckc (r fails wait:Nat):Apart (bAddr r) 1 (bK r fails wait) where
 inj:=fun i j hi hj _=>by omega
 fix:=fun i _ k hk=>by simp only [bK,List.mem_cons,List.not_mem_nil,or_false] at hk;rcases hk with rfl | rfl <;> simp [bAddr]
section
variable {B:Hand} [Lets B] {x:B.X} {r limit fails wait:Nat} {L F:List HProp} {h:Hp}
def gC (r limit:Nat) (s:Nat→Nat):HProp:=wds (gAddr r) 2 (gK r limit) s
def bC (r fails wait:Nat) (s:Nat→Nat):HProp:=wds (bAddr r) 1 (bK r fails wait) s
theorem g_wds (st:Star (arr r 0 [.int .u64 (limit:Nat),.int .u64 0,.int .u64 0]::L) h):Star (gC r limit (fun _=>0)::L) h:=by
 refine bm_ st (fun h a=>⟨fun w hw=>⟨by show 0<18446744073709551616;decide,?_⟩,fun k hk=>?_⟩) (fun _ y=>y)
 ·match w with
  | 0=>exact a 1 _ rfl
  | 1=>exact a 2 _ rfl
  | w+2=>omega
 ·simp only [gK,List.mem_singleton] at hk;subst hk;exact a 0 _ rfl
theorem b_wds (st:Star (arr r 0 [.int .u64 (fails:Nat),.int .u64 (wait:Nat),.int .u64 0]::L) h):Star (bC r fails wait (fun _=>0)::L) h:=by
 refine bm_ st (fun h a=>⟨fun w hw=>⟨by show 0<18446744073709551616;decide,a 2 _ rfl⟩,fun k hk=>?_⟩) (fun _ y=>y)
 simp only [bK,List.mem_cons,List.not_mem_nil,or_false] at hk
 rcases hk with rfl | rfl
 ·exact a 0 _ rfl
 ·exact a 1 _ rfl
theorem gC_rd {s:Nat→Nat}:Rd [gC r limit s] r 0 (.int .u64 (limit:Nat)):=fun h hs=>by
 obtain ⟨h1,h2,s1,hc,_⟩:=hs
 exact ⟨rfl,.inl (s1.o1 _ _ _ (hc.2 (r,0,.int .u64 (limit:Nat)) (List.mem_singleton.2 rfl)))⟩
theorem bC_rd {s:Nat→Nat}:Rd [bC r fails wait s] r 0 (.int .u64 (fails:Nat)):=fun h hs=>by
 obtain ⟨h1,h2,s1,hc,_⟩:=hs
 exact ⟨rfl,.inl (s1.o1 _ _ _ (hc.2 (r,0,.int .u64 (fails:Nat)) (by simp [bK])))⟩
theorem bC_rw {s:Nat→Nat}:Rd [bC r fails wait s] r 1 (.int .u64 (wait:Nat)):=fun h hs=>by
 obtain ⟨h1,h2,s1,hc,_⟩:=hs
 exact ⟨rfl,.inl (s1.o1 _ _ _ (hc.2 (r,1,.int .u64 (wait:Nat)) (by simp [bK])))⟩
def gLone (x:B.X) (r limit:Nat):Acc B .nilIface:=bdj x (gAddr r) 2 (gK r limit) (cjm r limit)
def bLone (x:B.X) (r fails wait:Nat):Acc B .nilIface:=bdj x (bAddr r) 1 (bK r fails wait) (ckc r fails wait)
theorem g_at (h1:1≤limit) (h2:limit≤1048576):GaugeAt (gLone x r limit) r limit:=⟨h1,h2,fun s=>gC_rd,fun w _=>rfl⟩
theorem b_at (h1:1≤fails) (h2:fails≤1048576) (h3:wait≤1099511627776):BreakerAt (bLone x r fails wait) r fails wait:=⟨h1,h2,h3,fun s=>bC_rd,fun s=>bC_rw,rfl⟩
def bdv (s:Nat→Nat):Nat→Nat:=if s 0<s 1 then upd s 0 (s 0+1) else upd (upd s 0 (s 0+1)) 1 (s 0+1)
theorem yp_ (h1:1≤limit) (h2:limit≤1048576) {s:Nat→Nat} (hh:Has L (gC r limit s) F) :
  Tr Try.prog B 19 [.pointer (some ⟨r,0,none⟩),.nilIface] L x fun v L' x'=>v=.tuple #[.bool (decide (s 0<limit)),.int .i64 0]∧L'=gC r limit (if s 0<limit then bdv s else s)::F∧x'=x:=by
 refine (bjv (A:=gLone x r limit) (g_at h1 h2) (s:=s) (G:=fun q s'=>q=decide (s 0<limit)∧s'=if s 0<limit then bdv s else s) ?_ hh).mono ?_
 ·refine ⟨by show 0<2;omega,fun h64 X hX=>hX _ ⟨h64,?_⟩⟩
  dsimp only
  by_cases c:limit≤s 0
  ·rw [if_pos c]
   exact ⟨by simp;omega,by rw [if_neg (by omega)]⟩
  ·rw [if_neg c]
   refine ⟨by show 0<2;omega,?_⟩
   rw [if_pos rfl]
   simp only [if_true]
   intro Y hY
   refine hY _ ⟨by show 1<2;omega,?_⟩
   have e:(s 0+1)%18446744073709551616=s 0+1:=Nat.mod_eq_of_lt (by omega)
   rw [e,jy_ (by omega)]
   dsimp only
   have hd:decide (s 0<limit)=true:=decide_eq_true (by omega)
   by_cases c2:s 0<s 1
   ·rw [if_pos c2]
    refine ⟨hd.symm,?_⟩
    rw [if_pos (by omega)]
    exact (if_pos c2).symm
   ·rw [if_neg c2]
    refine ⟨by show 1<2;omega,?_⟩
    rw [jy_ (by omega),if_pos rfl]
    simp only [if_true]
    refine ⟨hd.symm,?_⟩
    rw [if_pos (by omega)]
    exact (if_neg c2).symm
 ·rintro v L' x' ⟨q,s',⟨rfl,rfl⟩,rfl,rfl,rfl⟩
  exact ⟨rfl,rfl,rfl⟩
theorem ccn (h1:1≤limit) (h2:limit≤1048576) {s:Nat→Nat} (hh:Has L (gC r limit s) F) :
  Tr Try.prog B 20 [.pointer (some ⟨r,0,none⟩),.nilIface] L x fun v L' x'=>v=.tuple #[.int .u64 (s 0:Nat),.int .u64 (s 1:Nat),.int .i64 0]∧L'=gC r limit s::F∧x'=x:=by
 refine (ccm (A:=gLone x r limit) (g_at h1 h2) (s:=s) (Q:=fun a b s'=>a=s 0∧b=s 1∧s'=s) ⟨by show 0<2;omega,by show 1<2;omega,rfl,rfl,rfl⟩ hh).mono ?_
 rintro v L' x' ⟨a,b,s',⟨rfl,rfl,rfl⟩,_,_,rfl,rfl,rfl⟩
 exact ⟨rfl,rfl,rfl⟩
def BS (s:Nat→Nat) (a b c:Nat):Prop:=a<4∧b<2097152∧c<2199023255552∧s 0=c*8388608+b*4+a
theorem BS.parts {s:Nat→Nat} {a b c:Nat} (h:BS s a b c):s 0%4=a∧s 0/4%2097152=b∧s 0/8388608=c:=by
 obtain ⟨h1,h2,h3,h4⟩:=h
 rw [h4]
 omega
theorem BS.pack {s:Nat→Nat} {a b c:Nat} (ha:a<4) (hb:b<2097152) (hc:c<2199023255552):BS (upd s 0 (packN a b c)) a b c :=
 ⟨ha,hb,hc,by rw [my_,cbm ha hb hc]⟩
theorem zq_ {G:Nat→Nat→Nat→Option (Nat × Nat × Nat)} {s:Nat→Nat} {Q:Nat × Nat × Nat→Bool→(Nat→Nat)→Prop}
  (g:match G (s 0%4) (s 0/4%2097152) (s 0/8388608) with
   | none=>Q (s 0%4,s 0/4%2097152,s 0/8388608) false s
   | some y=>Q y true (upd s 0 (packN y.1 y.2.1 y.2.2))):TurnT (bLone x r fails wait) G s Q:=by
 intro X hX
 refine hX _ ⟨by show 0<1;omega,?_⟩
 show match G (s 0%4) (s 0/4%2097152) (s 0/8388608) with | none=>_ | some y=>_
 cases hG:G (s 0%4) (s 0/4%2097152) (s 0/8388608) with
 | none=>rw [hG] at g;exact g
 | some y =>
  rw [hG] at g
  refine ⟨by show 0<1;omega,?_⟩
  rw [if_pos rfl]
  simp only [if_true]
  exact g
theorem yy_ (h1:1≤fails) (h2:fails≤1048576) (h3:wait≤1099511627776) {now:Nat} (hn:now≤1099511627776) {s:Nat→Nat} {a b c:Nat} (S:BS s a b c) (hh:Has L (bC r fails wait s) F) :
  Tr Try.prog B 12 [.pointer (some ⟨r,0,none⟩),.nilIface,.int .u64 (now:Nat)] L x fun v L' x'=>∃ s',v=.tuple #[.bool (decide (a=0∨c+wait≤now)),.int .i64 0]∧BS s' (if a≠0∧c+wait≤now then 2 else a) b (if a≠0∧c+wait≤now then now else c)∧L'=bC r fails wait s'::F∧x'=x:=by
 obtain ⟨e1,e2,e3⟩:=S.parts
 refine (cdx (A:=bLone x r fails wait) (b_at h1 h2 h3) hn (s:=s) (Q:=fun q s'=>q=decide (a=0∨c+wait≤now)∧BS s' (if a≠0∧c+wait≤now then 2 else a) b (if a≠0∧c+wait≤now then now else c)) ?_ hh).mono ?_
 ·refine zq_ ?_
  rw [e1,e2,e3]
  by_cases c1:a≠0∧c+wait≤now
  ·rw [show askG wait now a b c=some (2,b,now) from if_pos c1,if_pos c1,if_pos c1]
   refine ⟨?_,BS.pack (by show 2<4;omega) S.2.1 (by show now<_;omega)⟩
   rw [decide_eq_true (Or.inr c1.2)]
   rfl
  ·rw [show askG wait now a b c=none from if_neg c1,if_neg c1,if_neg c1]
   refine ⟨?_,S⟩
   by_cases c2:a=0
   ·simp [c2]
   ·have:¬ (c+wait≤now):=fun h=>c1 ⟨c2,h⟩
    simp [c2,this]
 ·rintro v L' x' ⟨q,s',⟨rfl,hS⟩,rfl,rfl,rfl⟩
  exact ⟨s',rfl,hS,rfl,rfl⟩
theorem zr_ (h1:1≤fails) (h2:fails≤1048576) (h3:wait≤1099511627776) {now:Nat} (hn:now≤1099511627776) {good:Bool} {s:Nat→Nat} {a b c:Nat} (S:BS s a b c) (hb:b≤fails) (hh:Has L (bC r fails wait s) F) :
  Tr Try.prog B 13 [.pointer (some ⟨r,0,none⟩),.nilIface,.int .u64 (now:Nat),.bool good] L x fun v L' x'=>∃ s',v=.int .i64 0∧(match tellG fails now good a b c with
   | none=>BS s' a b c
   | some y=>BS s' y.1 y.2.1 y.2.2)∧L'=bC r fails wait s'::F∧x'=x:=by
 obtain ⟨e1,e2,e3⟩:=S.parts
 refine (bqq (A:=bLone x r fails wait) (b_at h1 h2 h3) hn (s:=s) (Q:=fun s'=>match tellG fails now good a b c with
   | none=>BS s' a b c
   | some y=>BS s' y.1 y.2.1 y.2.2) ?_ hh).mono ?_
 ·refine zq_ ?_
  rw [e1,e2,e3]
  cases hG:tellG fails now good a b c with
  | none=>exact S
  | some y =>
   have hy:y.1<4∧y.2.1<2097152∧y.2.2<2199023255552:=by
    unfold tellG at hG
    split at hG
    ·cases hG
    split at hG
    ·cases hG;exact ⟨by show 0<4;omega,by show 0<2097152;omega,by show 0<2199023255552;omega⟩
    split at hG
    ·cases hG;exact ⟨by show 1<4;omega,S.2.1,by show now<_;omega⟩
    split at hG
    ·cases hG;exact ⟨by show 1<4;omega,by show fails<_;omega,by show now<_;omega⟩
    ·cases hG;exact ⟨by show 0<4;omega,by show b+1<_;omega,by show 0<2199023255552;omega⟩
   exact BS.pack hy.1 hy.2.1 hy.2.2
 ·rintro v L' x' ⟨s',hS,rfl,rfl,rfl⟩
  exact ⟨s',rfl,hS,rfl,rfl⟩
theorem bwt (h1:1≤fails) (h2:fails≤1048576) (h3:wait≤1099511627776) {s:Nat→Nat} {a b c:Nat} (S:BS s a b c) (hh:Has L (bC r fails wait s) F) :
  Tr Try.prog B 14 [.pointer (some ⟨r,0,none⟩),.nilIface] L x fun v L' x'=>v=.tuple #[.int .i64 (a:Nat),.int .u64 (b:Nat),.int .u64 (c:Nat),.int .i64 0]∧L'=bC r fails wait s::F∧x'=x:=by
 obtain ⟨e1,e2,e3⟩:=S.parts
 refine (brx (A:=bLone x r fails wait) (b_at h1 h2 h3) (s:=s) (Q:=fun o s'=>o=s 0∧s'=s) ⟨by show 0<1;omega,rfl,rfl⟩ hh).mono ?_
 rintro v L' x' ⟨o,s',_,⟨rfl,rfl⟩,rfl,rfl,rfl⟩
 rw [e1,e2,e3]
 exact ⟨rfl,rfl,rfl⟩
end
end
end Go.Proofs.Ytnnpdmhmpgmpnaa
namespace Go.PB.Mach
section
def genterCl (limit:Nat):Cl:=⟨[⟨6,0,2,0,0,0,limit⟩,⟨6,0,3,0,0,0,1⟩,⟨1,0,1,0,0,0,0⟩,⟨20,0,1,2,0,0,6⟩,⟨22,0,0,0,0,0,0⟩,⟨23,0,0,0,0,0,0⟩,⟨8,0,4,1,3,0,0⟩,⟨5,0,5,0,1,4,0⟩,⟨19,0,5,0,0,0,2⟩,⟨1,0,6,0,0,0,1⟩,⟨20,0,6,4,0,0,13⟩,⟨22,0,3,0,0,0,0⟩,⟨23,0,0,0,0,0,0⟩,⟨5,0,5,0,6,4,1⟩,⟨19,0,5,0,0,0,9⟩,⟨18,0,0,0,0,0,11⟩],[]⟩
def gleaveCl:Cl:=⟨[⟨6,0,3,0,0,0,1⟩,⟨1,0,1,0,0,0,0⟩,⟨19,0,1,0,0,0,8⟩,⟨9,0,4,1,3,0,0⟩,⟨5,0,5,0,1,4,0⟩,⟨19,0,5,0,0,0,1⟩,⟨22,0,0,0,0,0,0⟩,⟨23,0,0,0,0,0,0⟩,⟨6,0,6,0,0,0,3⟩,⟨22,0,6,0,0,0,0⟩],[]⟩
def ggetCl:Cl:=⟨[⟨1,0,1,0,0,0,0⟩,⟨1,0,2,0,0,0,1⟩,⟨22,0,1,0,0,0,0⟩,⟨22,0,2,0,0,0,0⟩],[]⟩
def gaskCl (now fails wait:Nat):Cl:=⟨[⟨17,0,5,0,0,0,0⟩,⟨17,0,6,0,0,0,1⟩,⟨17,0,7,0,0,0,2⟩,⟨6,0,8,0,0,0,1⟩,⟨6,0,9,0,0,0,2⟩,⟨1,1,1,0,0,0,0⟩,⟨14,0,2,1,0,0,62⟩,⟨15,0,2,2,0,0,62⟩,⟨14,0,3,1,0,0,41⟩,⟨15,0,3,3,0,0,43⟩,⟨15,0,4,1,0,0,23⟩,⟨19,0,2,0,0,0,20⟩,⟨8,0,12,4,7,0,0⟩,⟨20,0,5,12,0,0,22⟩,⟨14,0,12,5,0,0,23⟩,⟨14,0,13,3,0,0,2⟩,⟨13,0,10,12,13,0,0⟩,⟨13,0,10,10,9,0,0⟩,⟨5,1,11,0,1,10,0⟩,⟨19,0,11,0,0,0,5⟩,⟨22,0,8,0,0,0,0⟩,⟨23,0,0,0,0,0,0⟩,⟨22,0,0,0,0,0,0⟩],[now,fails,wait]⟩
def gtellgCl (now fails wait:Nat):Cl:=⟨[⟨17,0,5,0,0,0,0⟩,⟨17,0,6,0,0,0,1⟩,⟨17,0,7,0,0,0,2⟩,⟨6,0,8,0,0,0,1⟩,⟨6,0,9,0,0,0,2⟩,⟨1,1,1,0,0,0,0⟩,⟨14,0,2,1,0,0,62⟩,⟨15,0,2,2,0,0,62⟩,⟨14,0,3,1,0,0,41⟩,⟨15,0,3,3,0,0,43⟩,⟨15,0,4,1,0,0,23⟩,⟨19,0,2,0,0,0,21⟩,⟨19,0,2,8,0,0,20⟩,⟨14,0,12,0,0,0,23⟩,⟨14,0,13,0,0,0,2⟩,⟨13,0,10,12,13,0,0⟩,⟨13,0,10,10,0,0,0⟩,⟨5,1,11,0,1,10,0⟩,⟨19,0,11,0,0,0,5⟩,⟨23,0,0,0,0,0,0⟩,⟨23,0,0,0,0,0,0⟩,⟨19,0,3,0,0,0,28⟩,⟨14,0,12,0,0,0,23⟩,⟨14,0,13,0,0,0,2⟩,⟨13,0,10,12,13,0,0⟩,⟨13,0,10,10,0,0,0⟩,⟨5,1,11,0,1,10,0⟩,⟨19,0,11,0,0,0,5⟩,⟨23,0,0,0,0,0,0⟩],[now,fails,wait]⟩
def gtellbCl (now fails wait:Nat):Cl:=⟨[⟨17,0,5,0,0,0,0⟩,⟨17,0,6,0,0,0,1⟩,⟨17,0,7,0,0,0,2⟩,⟨6,0,8,0,0,0,1⟩,⟨6,0,9,0,0,0,2⟩,⟨1,1,1,0,0,0,0⟩,⟨14,0,2,1,0,0,62⟩,⟨15,0,2,2,0,0,62⟩,⟨14,0,3,1,0,0,41⟩,⟨15,0,3,3,0,0,43⟩,⟨15,0,4,1,0,0,23⟩,⟨19,0,2,0,0,0,21⟩,⟨19,0,2,8,0,0,20⟩,⟨14,0,12,5,0,0,23⟩,⟨14,0,13,3,0,0,2⟩,⟨13,0,10,12,13,0,0⟩,⟨13,0,10,10,8,0,0⟩,⟨5,1,11,0,1,10,0⟩,⟨19,0,11,0,0,0,5⟩,⟨23,0,0,0,0,0,0⟩,⟨23,0,0,0,0,0,0⟩,⟨8,0,3,3,8,0,0⟩,⟨19,0,3,6,0,0,30⟩,⟨14,0,12,0,0,0,23⟩,⟨14,0,13,3,0,0,2⟩,⟨13,0,10,12,13,0,0⟩,⟨13,0,10,10,0,0,0⟩,⟨5,1,11,0,1,10,0⟩,⟨19,0,11,0,0,0,5⟩,⟨23,0,0,0,0,0,0⟩,⟨14,0,12,5,0,0,23⟩,⟨14,0,13,3,0,0,2⟩,⟨13,0,10,12,13,0,0⟩,⟨13,0,10,10,8,0,0⟩,⟨5,1,11,0,1,10,0⟩,⟨19,0,11,0,0,0,5⟩],[now,fails,wait]⟩
def gstateCl:Cl:=⟨[⟨1,1,1,0,0,0,0⟩,⟨14,0,2,1,0,0,62⟩,⟨15,0,2,2,0,0,62⟩,⟨14,0,3,1,0,0,41⟩,⟨15,0,3,3,0,0,43⟩,⟨15,0,4,1,0,0,23⟩,⟨22,0,2,0,0,0,0⟩,⟨22,0,3,0,0,0,0⟩,⟨22,0,4,0,0,0,0⟩],[]⟩
variable {cs:List Cl} {c limit now fails wait n m o p s u t1 t2 a0 b0 b1 c0 a1 a2 x1 x2 x3 x4 x5:Nat} {pre:List (Bool × List Nat)} {w:Wd} {t':Th} {l:List Nat} {r:Nat→Nat} {ws:List (List Nat)}
theorem genter_on (hc:cs[c]?=some (genterCl limit)) (h0:pre.length=c) (e1:limit%18446744073709551616=limit):onF 12 (T cs c 0 (fun _=>0) pre [])=some (T cs c 2 (upd (upd (fun _=>0) 2 limit) 3 1) pre []) :=
 onF_more (k:=9) (Goes.on1 (ks_ hc h0 rfl e1) (Goes.on1 (ks_ hc h0 rfl rfl) (do_ hc h0 rfl rfl)))
theorem genter_2F (hc:cs[c]?=some (genterCl limit)) (h0:pre.length=c) (h0r:r 0=0) (h2:r 2=limit) (hw:w.words[0]?=some l) (hv:l[0]?=some n)  (e1:¬ n<limit) (ho:onF 12 (Bt cs (c+1) (pre++[(true,[0])]))=some t'):Op 40 w (T cs c 2 r pre []) (1,0) w t' :=
 fo_ (vb:=0) hc rfl hw h0r rfl hv (Goes.on1 (vb_ (vb:=n) (vc:=limit) hc h0 rfl e1 rfl h2) (Goes.on1 (ha_ (vb:=0) hc h0 rfl h0r) (Goes.on1 (du_ hc h0 rfl) (onF_more (k:=25) ho))))
theorem genter_2T (hc:cs[c]?=some (genterCl limit)) (h0:pre.length=c) (h0r:r 0=0) (h2:r 2=limit) (h3:r 3=1) (hw:w.words[0]?=some l) (hv:l[0]?=some n)  (e1:n<limit) (e2:(n+1+0)%18446744073709551616=m):Op 40 w (T cs c 2 r pre []) (1,0) w (T cs c 7 (upd (upd r 1 n) 4 m) pre []) :=
 fo_ (vb:=0) hc rfl hw h0r rfl hv (Goes.on1 (va_ (vb:=n) (vc:=limit) hc h0 rfl e1 rfl h2) (Goes.on1 (su_ (vb:=n) (vc:=1) hc h0 rfl e2 rfl h3) (do_ hc h0 rfl rfl)))
theorem genter_7T (hc:cs[c]?=some (genterCl limit)) (h0:pre.length=c) (h0r:r 0=0) (hw:w.words[0]?=some l) (hv:l[0]?=some n) (hws:w.words.set 0 (l.set 0 m)=ws)  : Op 40 w (T cs c 7 (upd (upd r 1 n) 4 m) pre []) (5,0) ⟨ws,w.nl⟩ (T cs c 9 (upd (upd (upd r 1 n) 4 m) 5 1) pre []) :=
 jv_ (vb:=0) (vd:=m) hc rfl hw h0r rfl rfl rfl hv hws (Goes.on1 (dt_ (vb:=1) (vc:=0) hc h0 rfl (by decide) rfl h0r) (do_ hc h0 rfl rfl))
theorem genter_7F (hc:cs[c]?=some (genterCl limit)) (h0:pre.length=c) (h0r:r 0=0) (hw:w.words[0]?=some l) (hv:l[0]?=some u) (hne:¬ u=n)  : Op 40 w (T cs c 7 (upd (upd r 1 n) 4 m) pre []) (5,0) w (T cs c 2 (upd (upd (upd r 1 n) 4 m) 5 0) pre []) :=
 jw_ (vb:=0) (vc:=n) hc rfl hw h0r rfl rfl hv hne (Goes.on1 (fa_ (vb:=0) (vc:=0) hc h0 rfl rfl rfl h0r) (do_ hc h0 rfl rfl))
theorem genter_9F (hc:cs[c]?=some (genterCl limit)) (h0:pre.length=c) (h0r:r 0=0) (h3:r 3=1) (h4:r 4=m) (hw:w.words[0]?=some l) (hv:l[1]?=some p)  (e1:¬ p<m) (ho:onF 12 (Bt cs (c+1) (pre++[(true,[1])]))=some t'):Op 40 w (T cs c 9 r pre []) (1,1) w t' :=
 fo_ (vb:=0) hc rfl hw h0r rfl hv (Goes.on1 (vb_ (vb:=p) (vc:=m) hc h0 rfl e1 rfl h4) (Goes.on1 (ha_ (vb:=1) hc h0 rfl h3) (Goes.on1 (du_ hc h0 rfl) (onF_more (k:=25) ho))))
theorem genter_9T (hc:cs[c]?=some (genterCl limit)) (h0:pre.length=c) (h0r:r 0=0) (h4:r 4=m) (hw:w.words[0]?=some l) (hv:l[1]?=some p)  (e1:p<m):Op 40 w (T cs c 9 r pre []) (1,1) w (T cs c 13 (upd r 6 p) pre []) :=
 fo_ (vb:=0) hc rfl hw h0r rfl hv (Goes.on1 (va_ (vb:=p) (vc:=m) hc h0 rfl e1 rfl h4) (do_ hc h0 rfl rfl))
theorem genter_13T (hc:cs[c]?=some (genterCl limit)) (h0:pre.length=c) (h0r:r 0=0) (h3:r 3=1) (h4:r 4=m) (hw:w.words[0]?=some l) (hv:l[1]?=some p) (hws:w.words.set 0 (l.set 1 m)=ws)  (ho:onF 12 (Bt cs (c+1) (pre++[(true,[1])]))=some t'):Op 40 w (T cs c 13 (upd r 6 p) pre []) (5,1) ⟨ws,w.nl⟩ t' :=
 jv_ (vb:=0) (vd:=m) hc rfl hw h0r rfl rfl h4 hv hws (Goes.on1 (dt_ (vb:=1) (vc:=0) hc h0 rfl (by decide) rfl h0r) (Goes.on1 (bvx hc h0 rfl) (Goes.on1 (ha_ (vb:=1) hc h0 rfl h3) (Goes.on1 (du_ hc h0 rfl) (onF_more (k:=24) ho)))))
theorem genter_13F (hc:cs[c]?=some (genterCl limit)) (h0:pre.length=c) (h0r:r 0=0) (hw:w.words[0]?=some l) (hv:l[1]?=some u) (hne:¬ u=p)  : Op 40 w (T cs c 13 (upd r 6 p) pre []) (5,1) w (T cs c 9 (upd (upd r 6 p) 5 0) pre []) :=
 jw_ (vb:=0) (vc:=p) hc rfl hw h0r rfl rfl hv hne (Goes.on1 (fa_ (vb:=0) (vc:=0) hc h0 rfl rfl rfl h0r) (do_ hc h0 rfl rfl))
theorem gleave_on (hc:cs[c]?=some gleaveCl) (h0:pre.length=c)  : onF 12 (T cs c 0 (fun _=>0) pre [])=some (T cs c 1 (upd (fun _=>0) 3 1) pre []) :=
 onF_more (k:=10) (Goes.on1 (ks_ hc h0 rfl rfl) (do_ hc h0 rfl rfl))
theorem gleave_1T (hc:cs[c]?=some gleaveCl) (h0:pre.length=c) (h0r:r 0=0) (hw:w.words[0]?=some l) (hv:l[0]?=some n)  (e1:n=0) (ho:onF 12 (Bt cs (c+1) (pre++[(true,[3])]))=some t'):Op 40 w (T cs c 1 r pre []) (1,0) w t' :=
 fo_ (vb:=0) hc rfl hw h0r rfl hv (Goes.on1 (fa_ (vb:=n) (vc:=0) hc h0 rfl e1 rfl h0r) (Goes.on1 (ks_ hc h0 rfl rfl) (Goes.on1 (ha_ (vb:=3) hc h0 rfl rfl) (Goes.on1 (pj_ hc h0 rfl) (onF_more (k:=24) ho)))))
theorem gleave_1F (hc:cs[c]?=some gleaveCl) (h0:pre.length=c) (h0r:r 0=0) (h3:r 3=1) (hw:w.words[0]?=some l) (hv:l[0]?=some n)  (e1:¬ n=0) (e2:(n+18446744073709551616-1)%18446744073709551616=m):Op 40 w (T cs c 1 r pre []) (1,0) w (T cs c 4 (upd (upd r 1 n) 4 m) pre []) :=
 fo_ (vb:=0) hc rfl hw h0r rfl hv (Goes.on1 (dt_ (vb:=n) (vc:=0) hc h0 rfl e1 rfl h0r) (Goes.on1 (cgv (vb:=n) (vc:=1) hc h0 rfl e2 rfl h3) (do_ hc h0 rfl rfl)))
theorem gleave_4T (hc:cs[c]?=some gleaveCl) (h0:pre.length=c) (h0r:r 0=0) (hw:w.words[0]?=some l) (hv:l[0]?=some n) (hws:w.words.set 0 (l.set 0 m)=ws)  (ho:onF 12 (Bt cs (c+1) (pre++[(true,[0])]))=some t'):Op 40 w (T cs c 4 (upd (upd r 1 n) 4 m) pre []) (5,0) ⟨ws,w.nl⟩ t' :=
 jv_ (vb:=0) (vd:=m) hc rfl hw h0r rfl rfl rfl hv hws (Goes.on1 (dt_ (vb:=1) (vc:=0) hc h0 rfl (by decide) rfl h0r) (Goes.on1 (ha_ (vb:=0) hc h0 rfl h0r) (Goes.on1 (du_ hc h0 rfl) (onF_more (k:=25) ho))))
theorem gleave_4F (hc:cs[c]?=some gleaveCl) (h0:pre.length=c) (h0r:r 0=0) (hw:w.words[0]?=some l) (hv:l[0]?=some u) (hne:¬ u=n)  : Op 40 w (T cs c 4 (upd (upd r 1 n) 4 m) pre []) (5,0) w (T cs c 1 (upd (upd (upd r 1 n) 4 m) 5 0) pre []) :=
 jw_ (vb:=0) (vc:=n) hc rfl hw h0r rfl rfl hv hne (Goes.on1 (fa_ (vb:=0) (vc:=0) hc h0 rfl rfl rfl h0r) (do_ hc h0 rfl rfl))
theorem gget_on (hc:cs[c]?=some ggetCl) (h0:pre.length=c)  : onF 12 (T cs c 0 (fun _=>0) pre [])=some (T cs c 0 (fun _=>0) pre []) :=
 onF_more (k:=11) (do_ hc h0 rfl rfl)
theorem gget_0 (hc:cs[c]?=some ggetCl) (h0:pre.length=c) (h0r:r 0=0) (hw:w.words[0]?=some l) (hv:l[0]?=some n)   : Op 40 w (T cs c 0 r pre []) (1,0) w (T cs c 1 (upd r 1 n) pre []) :=
 fo_ (vb:=0) hc rfl hw h0r rfl hv (do_ hc h0 rfl rfl)
theorem gget_1 (hc:cs[c]?=some ggetCl) (h0:pre.length=c) (h0r:r 0=0) (hw:w.words[0]?=some l) (hv:l[1]?=some m)   (ho:onF 12 (Bt cs (c+1) (pre++[(true,[n,m])]))=some t'):Op 40 w (T cs c 1 (upd r 1 n) pre []) (1,1) w t' :=
 fo_ (vb:=0) hc rfl hw h0r rfl hv (Goes.on1 (ha_ (vb:=n) hc h0 rfl rfl) (Goes.on1 (ha_ (vb:=m) hc h0 rfl rfl) (Goes.on1 (pj_ hc h0 rfl) (onF_more (k:=25) ho))))
theorem gstate_on (hc:cs[c]?=some gstateCl) (h0:pre.length=c)  : onF 12 (T cs c 0 (fun _=>0) pre [])=some (T cs c 0 (fun _=>0) pre []) :=
 onF_more (k:=11) (do_ hc h0 rfl rfl)
theorem gstate_0 (hc:cs[c]?=some gstateCl) (h0:pre.length=c) (h0r:r 0=0) (hw:w.words[1]?=some l) (hv:l[0]?=some o)  (e1:(o*2^62)%18446744073709551616=x1) (e2:(x1/2^62)%18446744073709551616=a0) (e3:(o*2^41)%18446744073709551616=x2) (e4:(x2/2^43)%18446744073709551616=b0) (e5:(o/2^23)%18446744073709551616=c0) (ho:onF 12 (Bt cs (c+1) (pre++[(true,[a0,b0,c0])]))=some t'):Op 40 w (T cs c 0 r pre []) (1,0) w t' :=
 fo_ (vb:=0) hc rfl hw h0r rfl hv (Goes.on1 (cz_ (vb:=o) hc h0 rfl e1 rfl) (Goes.on1 (cs_ (vb:=x1) hc h0 rfl e2 rfl) (Goes.on1 (cz_ (vb:=o) hc h0 rfl e3 rfl) (Goes.on1 (cs_ (vb:=x2) hc h0 rfl e4 rfl) (Goes.on1 (cs_ (vb:=o) hc h0 rfl e5 rfl) (Goes.on1 (ha_ (vb:=a0) hc h0 rfl rfl) (Goes.on1 (ha_ (vb:=b0) hc h0 rfl rfl) (Goes.on1 (ha_ (vb:=c0) hc h0 rfl rfl) (Goes.on1 (pj_ hc h0 rfl) (onF_more (k:=19) ho))))))))))
theorem gask_on (hc:cs[c]?=some (gaskCl now fails wait)) (h0:pre.length=c) (e1:now%18446744073709551616=now) (e2:fails%18446744073709551616=fails) (e3:wait%18446744073709551616=wait):onF 12 (T cs c 0 (fun _=>0) pre [])=some (T cs c 5 (upd (upd (upd (upd (upd (fun _=>0) 5 now) 6 fails) 7 wait) 8 1) 9 2) pre []) :=
 onF_more (k:=6) (Goes.on1 (ju_ (vb:=0) hc h0 rfl e1 rfl) (Goes.on1 (ju_ (vb:=0) hc h0 rfl e2 rfl) (Goes.on1 (ju_ (vb:=0) hc h0 rfl e3 rfl) (Goes.on1 (ks_ hc h0 rfl rfl) (Goes.on1 (ks_ hc h0 rfl rfl) (do_ hc h0 rfl rfl))))))
theorem gtellg_on (hc:cs[c]?=some (gtellgCl now fails wait)) (h0:pre.length=c) (e1:now%18446744073709551616=now) (e2:fails%18446744073709551616=fails) (e3:wait%18446744073709551616=wait):onF 12 (T cs c 0 (fun _=>0) pre [])=some (T cs c 5 (upd (upd (upd (upd (upd (fun _=>0) 5 now) 6 fails) 7 wait) 8 1) 9 2) pre []) :=
 onF_more (k:=6) (Goes.on1 (ju_ (vb:=0) hc h0 rfl e1 rfl) (Goes.on1 (ju_ (vb:=0) hc h0 rfl e2 rfl) (Goes.on1 (ju_ (vb:=0) hc h0 rfl e3 rfl) (Goes.on1 (ks_ hc h0 rfl rfl) (Goes.on1 (ks_ hc h0 rfl rfl) (do_ hc h0 rfl rfl))))))
theorem gtellb_on (hc:cs[c]?=some (gtellbCl now fails wait)) (h0:pre.length=c) (e1:now%18446744073709551616=now) (e2:fails%18446744073709551616=fails) (e3:wait%18446744073709551616=wait):onF 12 (T cs c 0 (fun _=>0) pre [])=some (T cs c 5 (upd (upd (upd (upd (upd (fun _=>0) 5 now) 6 fails) 7 wait) 8 1) 9 2) pre []) :=
 onF_more (k:=6) (Goes.on1 (ju_ (vb:=0) hc h0 rfl e1 rfl) (Goes.on1 (ju_ (vb:=0) hc h0 rfl e2 rfl) (Goes.on1 (ju_ (vb:=0) hc h0 rfl e3 rfl) (Goes.on1 (ks_ hc h0 rfl rfl) (Goes.on1 (ks_ hc h0 rfl rfl) (do_ hc h0 rfl rfl))))))
theorem gask_5C (hc:cs[c]?=some (gaskCl now fails wait)) (h0:pre.length=c) (h0r:r 0=0) (h8:r 8=1) (hw:w.words[1]?=some l) (hv:l[0]?=some o)  (e1:(o*2^62)%18446744073709551616=x1) (e2:(x1/2^62)%18446744073709551616=a0) (e3:(o*2^41)%18446744073709551616=x2) (e4:(x2/2^43)%18446744073709551616=b0) (e5:(o/2^23)%18446744073709551616=c0) (e6:a0=0) (ho:onF 12 (Bt cs (c+1) (pre++[(true,[1])]))=some t'):Op 40 w (T cs c 5 r pre []) (1,0) w t' :=
 fo_ (vb:=0) hc rfl hw h0r rfl hv (Goes.on1 (cz_ (vb:=o) hc h0 rfl e1 rfl) (Goes.on1 (cs_ (vb:=x1) hc h0 rfl e2 rfl) (Goes.on1 (cz_ (vb:=o) hc h0 rfl e3 rfl) (Goes.on1 (cs_ (vb:=x2) hc h0 rfl e4 rfl) (Goes.on1 (cs_ (vb:=o) hc h0 rfl e5 rfl) (Goes.on1 (fa_ (vb:=a0) (vc:=0) hc h0 rfl e6 rfl h0r) (Goes.on1 (ha_ (vb:=1) hc h0 rfl h8) (Goes.on1 (du_ hc h0 rfl) (onF_more (k:=20) ho)))))))))
theorem gask_5N (hc:cs[c]?=some (gaskCl now fails wait)) (h0:pre.length=c) (h0r:r 0=0) (h5:r 5=now) (h7:r 7=wait) (hw:w.words[1]?=some l) (hv:l[0]?=some o)  (e1:(o*2^62)%18446744073709551616=x1) (e2:(x1/2^62)%18446744073709551616=a0) (e3:(o*2^41)%18446744073709551616=x2) (e4:(x2/2^43)%18446744073709551616=b0) (e5:(o/2^23)%18446744073709551616=c0) (e6:¬ a0=0) (e7:(c0+wait+0)%18446744073709551616=s) (e8:now<s) (ho:onF 12 (Bt cs (c+1) (pre++[(true,[0])]))=some t'):Op 40 w (T cs c 5 r pre []) (1,0) w t' :=
 fo_ (vb:=0) hc rfl hw h0r rfl hv (Goes.on1 (cz_ (vb:=o) hc h0 rfl e1 rfl) (Goes.on1 (cs_ (vb:=x1) hc h0 rfl e2 rfl) (Goes.on1 (cz_ (vb:=o) hc h0 rfl e3 rfl) (Goes.on1 (cs_ (vb:=x2) hc h0 rfl e4 rfl) (Goes.on1 (cs_ (vb:=o) hc h0 rfl e5 rfl) (Goes.on1 (dt_ (vb:=a0) (vc:=0) hc h0 rfl e6 rfl h0r) (Goes.on1 (su_ (vb:=c0) (vc:=wait) hc h0 rfl e7 rfl h7) (Goes.on1 (va_ (vb:=now) (vc:=s) hc h0 rfl e8 h5 rfl) (Goes.on1 (ha_ (vb:=0) hc h0 rfl h0r) (Goes.on1 (pj_ hc h0 rfl) (onF_more (k:=18) ho)))))))))))
theorem gask_5Y (hc:cs[c]?=some (gaskCl now fails wait)) (h0:pre.length=c) (h0r:r 0=0) (h5:r 5=now) (h7:r 7=wait) (h9:r 9=2) (hw:w.words[1]?=some l) (hv:l[0]?=some o)  (e1:(o*2^62)%18446744073709551616=x1) (e2:(x1/2^62)%18446744073709551616=a0) (e3:(o*2^41)%18446744073709551616=x2) (e4:(x2/2^43)%18446744073709551616=b0) (e5:(o/2^23)%18446744073709551616=c0) (e6:¬ a0=0) (e7:(c0+wait+0)%18446744073709551616=s) (e8:¬ now<s) (e9:(now*2^23)%18446744073709551616=x3) (e10:(b0*2^2)%18446744073709551616=x4) (e11:(x3 ||| x4)%18446744073709551616=x5) (e12:(x5 ||| 2)%18446744073709551616=m):Op 40 w (T cs c 5 r pre []) (1,0) w (T cs c 18 (upd (upd (upd (upd (upd (upd (upd (upd (upd (upd (upd r 1 o) 2 x1) 2 a0) 3 x2) 3 b0) 4 c0) 12 s) 12 x3) 13 x4) 10 x5) 10 m) pre []) :=
 fo_ (vb:=0) hc rfl hw h0r rfl hv (Goes.on1 (cz_ (vb:=o) hc h0 rfl e1 rfl) (Goes.on1 (cs_ (vb:=x1) hc h0 rfl e2 rfl) (Goes.on1 (cz_ (vb:=o) hc h0 rfl e3 rfl) (Goes.on1 (cs_ (vb:=x2) hc h0 rfl e4 rfl) (Goes.on1 (cs_ (vb:=o) hc h0 rfl e5 rfl) (Goes.on1 (dt_ (vb:=a0) (vc:=0) hc h0 rfl e6 rfl h0r) (Goes.on1 (su_ (vb:=c0) (vc:=wait) hc h0 rfl e7 rfl h7) (Goes.on1 (vb_ (vb:=now) (vc:=s) hc h0 rfl e8 h5 rfl) (Goes.on1 (cz_ (vb:=now) hc h0 rfl e9 h5) (Goes.on1 (cz_ (vb:=b0) hc h0 rfl e10 rfl) (Goes.on1 (st_or (vb:=x3) (vc:=x4) hc h0 rfl e11 rfl rfl) (Goes.on1 (st_or (vb:=x5) (vc:=2) hc h0 rfl e12 rfl h9) (do_ hc h0 rfl rfl)))))))))))))
theorem gask_18T (hc:cs[c]?=some (gaskCl now fails wait)) (h0:pre.length=c) (h0r:r 0=0) (h8:r 8=1) (hw:w.words[1]?=some l) (hv:l[0]?=some o) (hws:w.words.set 1 (l.set 0 m)=ws)  (ho:onF 12 (Bt cs (c+1) (pre++[(true,[1])]))=some t'):Op 40 w (T cs c 18 (upd (upd (upd (upd (upd (upd (upd (upd (upd (upd (upd r 1 o) 2 x1) 2 a0) 3 x2) 3 b0) 4 c0) 12 s) 12 x3) 13 x4) 10 x5) 10 m) pre []) (5,0) ⟨ws,w.nl⟩ t' :=
 jv_ (vb:=0) (vd:=m) hc rfl hw h0r rfl rfl rfl hv hws (Goes.on1 (dt_ (vb:=1) (vc:=0) hc h0 rfl (by decide) rfl h0r) (Goes.on1 (ha_ (vb:=1) hc h0 rfl h8) (Goes.on1 (du_ hc h0 rfl) (onF_more (k:=25) ho))))
theorem gask_18F (hc:cs[c]?=some (gaskCl now fails wait)) (h0:pre.length=c) (h0r:r 0=0) (hw:w.words[1]?=some l) (hv:l[0]?=some u) (hne:¬ u=o)  : Op 40 w (T cs c 18 (upd (upd (upd (upd (upd (upd (upd (upd (upd (upd (upd r 1 o) 2 x1) 2 a0) 3 x2) 3 b0) 4 c0) 12 s) 12 x3) 13 x4) 10 x5) 10 m) pre []) (5,0) w (T cs c 5 (upd (upd (upd (upd (upd (upd (upd (upd (upd (upd (upd (upd r 1 o) 2 x1) 2 a0) 3 x2) 3 b0) 4 c0) 12 s) 12 x3) 13 x4) 10 x5) 10 m) 11 0) pre []) :=
 jw_ (vb:=0) (vc:=o) hc rfl hw h0r rfl rfl hv hne (Goes.on1 (fa_ (vb:=0) (vc:=0) hc h0 rfl rfl rfl h0r) (do_ hc h0 rfl rfl))
theorem gtellg_5O (hc:cs[c]?=some (gtellgCl now fails wait)) (h0:pre.length=c) (h0r:r 0=0) (h8:r 8=1) (hw:w.words[1]?=some l) (hv:l[0]?=some o)  (e1:(o*2^62)%18446744073709551616=x1) (e2:(x1/2^62)%18446744073709551616=a0) (e3:(o*2^41)%18446744073709551616=x2) (e4:(x2/2^43)%18446744073709551616=b0) (e5:(o/2^23)%18446744073709551616=c0) (e6:¬ a0=0) (e7:a0=1) (ho:onF 12 (Bt cs (c+1) (pre++[(true,[])]))=some t'):Op 40 w (T cs c 5 r pre []) (1,0) w t' :=
 fo_ (vb:=0) hc rfl hw h0r rfl hv (Goes.on1 (cz_ (vb:=o) hc h0 rfl e1 rfl) (Goes.on1 (cs_ (vb:=x1) hc h0 rfl e2 rfl) (Goes.on1 (cz_ (vb:=o) hc h0 rfl e3 rfl) (Goes.on1 (cs_ (vb:=x2) hc h0 rfl e4 rfl) (Goes.on1 (cs_ (vb:=o) hc h0 rfl e5 rfl) (Goes.on1 (dt_ (vb:=a0) (vc:=0) hc h0 rfl e6 rfl h0r) (Goes.on1 (fa_ (vb:=a0) (vc:=1) hc h0 rfl e7 rfl h8) (Goes.on1 (du_ hc h0 rfl) (onF_more (k:=20) ho)))))))))
theorem gtellg_5T (hc:cs[c]?=some (gtellgCl now fails wait)) (h0:pre.length=c) (h0r:r 0=0) (h8:r 8=1) (hw:w.words[1]?=some l) (hv:l[0]?=some o)  (e1:(o*2^62)%18446744073709551616=x1) (e2:(x1/2^62)%18446744073709551616=a0) (e3:(o*2^41)%18446744073709551616=x2) (e4:(x2/2^43)%18446744073709551616=b0) (e5:(o/2^23)%18446744073709551616=c0) (e6:¬ a0=0) (e7:¬ a0=1) (e8:(0*2^23)%18446744073709551616=x3) (e9:(0*2^2)%18446744073709551616=x4) (e10:(x3 ||| x4)%18446744073709551616=x5) (e11:(x5 ||| 0)%18446744073709551616=m):Op 40 w (T cs c 5 r pre []) (1,0) w (T cs c 17 (upd (upd (upd (upd (upd (upd (upd (upd (upd (upd r 1 o) 2 x1) 2 a0) 3 x2) 3 b0) 4 c0) 12 x3) 13 x4) 10 x5) 10 m) pre []) :=
 fo_ (vb:=0) hc rfl hw h0r rfl hv (Goes.on1 (cz_ (vb:=o) hc h0 rfl e1 rfl) (Goes.on1 (cs_ (vb:=x1) hc h0 rfl e2 rfl) (Goes.on1 (cz_ (vb:=o) hc h0 rfl e3 rfl) (Goes.on1 (cs_ (vb:=x2) hc h0 rfl e4 rfl) (Goes.on1 (cs_ (vb:=o) hc h0 rfl e5 rfl) (Goes.on1 (dt_ (vb:=a0) (vc:=0) hc h0 rfl e6 rfl h0r) (Goes.on1 (dt_ (vb:=a0) (vc:=1) hc h0 rfl e7 rfl h8) (Goes.on1 (cz_ (vb:=0) hc h0 rfl e8 h0r) (Goes.on1 (cz_ (vb:=0) hc h0 rfl e9 h0r) (Goes.on1 (st_or (vb:=x3) (vc:=x4) hc h0 rfl e10 rfl rfl) (Goes.on1 (st_or (vb:=x5) (vc:=0) hc h0 rfl e11 rfl h0r) (do_ hc h0 rfl rfl))))))))))))
theorem gtellg_5C (hc:cs[c]?=some (gtellgCl now fails wait)) (h0:pre.length=c) (h0r:r 0=0) (hw:w.words[1]?=some l) (hv:l[0]?=some o)  (e1:(o*2^62)%18446744073709551616=x1) (e2:(x1/2^62)%18446744073709551616=a0) (e3:(o*2^41)%18446744073709551616=x2) (e4:(x2/2^43)%18446744073709551616=b0) (e5:(o/2^23)%18446744073709551616=c0) (e6:a0=0) (e7:b0=0) (ho:onF 12 (Bt cs (c+1) (pre++[(true,[])]))=some t'):Op 40 w (T cs c 5 r pre []) (1,0) w t' :=
 fo_ (vb:=0) hc rfl hw h0r rfl hv (Goes.on1 (cz_ (vb:=o) hc h0 rfl e1 rfl) (Goes.on1 (cs_ (vb:=x1) hc h0 rfl e2 rfl) (Goes.on1 (cz_ (vb:=o) hc h0 rfl e3 rfl) (Goes.on1 (cs_ (vb:=x2) hc h0 rfl e4 rfl) (Goes.on1 (cs_ (vb:=o) hc h0 rfl e5 rfl) (Goes.on1 (fa_ (vb:=a0) (vc:=0) hc h0 rfl e6 rfl h0r) (Goes.on1 (fa_ (vb:=b0) (vc:=0) hc h0 rfl e7 rfl h0r) (Goes.on1 (du_ hc h0 rfl) (onF_more (k:=20) ho)))))))))
theorem gtellg_5D (hc:cs[c]?=some (gtellgCl now fails wait)) (h0:pre.length=c) (h0r:r 0=0) (hw:w.words[1]?=some l) (hv:l[0]?=some o)  (e1:(o*2^62)%18446744073709551616=x1) (e2:(x1/2^62)%18446744073709551616=a0) (e3:(o*2^41)%18446744073709551616=x2) (e4:(x2/2^43)%18446744073709551616=b0) (e5:(o/2^23)%18446744073709551616=c0) (e6:a0=0) (e7:¬ b0=0) (e8:(0*2^23)%18446744073709551616=x3) (e9:(0*2^2)%18446744073709551616=x4) (e10:(x3 ||| x4)%18446744073709551616=x5) (e11:(x5 ||| 0)%18446744073709551616=m):Op 40 w (T cs c 5 r pre []) (1,0) w (T cs c 26 (upd (upd (upd (upd (upd (upd (upd (upd (upd (upd r 1 o) 2 x1) 2 a0) 3 x2) 3 b0) 4 c0) 12 x3) 13 x4) 10 x5) 10 m) pre []) :=
 fo_ (vb:=0) hc rfl hw h0r rfl hv (Goes.on1 (cz_ (vb:=o) hc h0 rfl e1 rfl) (Goes.on1 (cs_ (vb:=x1) hc h0 rfl e2 rfl) (Goes.on1 (cz_ (vb:=o) hc h0 rfl e3 rfl) (Goes.on1 (cs_ (vb:=x2) hc h0 rfl e4 rfl) (Goes.on1 (cs_ (vb:=o) hc h0 rfl e5 rfl) (Goes.on1 (fa_ (vb:=a0) (vc:=0) hc h0 rfl e6 rfl h0r) (Goes.on1 (dt_ (vb:=b0) (vc:=0) hc h0 rfl e7 rfl h0r) (Goes.on1 (cz_ (vb:=0) hc h0 rfl e8 h0r) (Goes.on1 (cz_ (vb:=0) hc h0 rfl e9 h0r) (Goes.on1 (st_or (vb:=x3) (vc:=x4) hc h0 rfl e10 rfl rfl) (Goes.on1 (st_or (vb:=x5) (vc:=0) hc h0 rfl e11 rfl h0r) (do_ hc h0 rfl rfl))))))))))))
theorem gtellg_17T (hc:cs[c]?=some (gtellgCl now fails wait)) (h0:pre.length=c) (h0r:r 0=0) (hw:w.words[1]?=some l) (hv:l[0]?=some o) (hws:w.words.set 1 (l.set 0 m)=ws)  (ho:onF 12 (Bt cs (c+1) (pre++[(true,[])]))=some t'):Op 40 w (T cs c 17 (upd (upd (upd (upd (upd (upd (upd (upd (upd (upd r 1 o) 2 x1) 2 a0) 3 x2) 3 b0) 4 c0) 12 x3) 13 x4) 10 x5) 10 m) pre []) (5,0) ⟨ws,w.nl⟩ t' :=
 jv_ (vb:=0) (vd:=m) hc rfl hw h0r rfl rfl rfl hv hws (Goes.on1 (dt_ (vb:=1) (vc:=0) hc h0 rfl (by decide) rfl h0r) (Goes.on1 (du_ hc h0 rfl) (onF_more (k:=26) ho)))
theorem gtellg_17F (hc:cs[c]?=some (gtellgCl now fails wait)) (h0:pre.length=c) (h0r:r 0=0) (hw:w.words[1]?=some l) (hv:l[0]?=some u) (hne:¬ u=o)  : Op 40 w (T cs c 17 (upd (upd (upd (upd (upd (upd (upd (upd (upd (upd r 1 o) 2 x1) 2 a0) 3 x2) 3 b0) 4 c0) 12 x3) 13 x4) 10 x5) 10 m) pre []) (5,0) w (T cs c 5 (upd (upd (upd (upd (upd (upd (upd (upd (upd (upd (upd r 1 o) 2 x1) 2 a0) 3 x2) 3 b0) 4 c0) 12 x3) 13 x4) 10 x5) 10 m) 11 0) pre []) :=
 jw_ (vb:=0) (vc:=o) hc rfl hw h0r rfl rfl hv hne (Goes.on1 (fa_ (vb:=0) (vc:=0) hc h0 rfl rfl rfl h0r) (do_ hc h0 rfl rfl))
theorem gtellg_26T (hc:cs[c]?=some (gtellgCl now fails wait)) (h0:pre.length=c) (h0r:r 0=0) (hw:w.words[1]?=some l) (hv:l[0]?=some o) (hws:w.words.set 1 (l.set 0 m)=ws)  (ho:onF 12 (Bt cs (c+1) (pre++[(true,[])]))=some t'):Op 40 w (T cs c 26 (upd (upd (upd (upd (upd (upd (upd (upd (upd (upd r 1 o) 2 x1) 2 a0) 3 x2) 3 b0) 4 c0) 12 x3) 13 x4) 10 x5) 10 m) pre []) (5,0) ⟨ws,w.nl⟩ t' :=
 jv_ (vb:=0) (vd:=m) hc rfl hw h0r rfl rfl rfl hv hws (Goes.on1 (dt_ (vb:=1) (vc:=0) hc h0 rfl (by decide) rfl h0r) (Goes.on1 (du_ hc h0 rfl) (onF_more (k:=26) ho)))
theorem gtellg_26F (hc:cs[c]?=some (gtellgCl now fails wait)) (h0:pre.length=c) (h0r:r 0=0) (hw:w.words[1]?=some l) (hv:l[0]?=some u) (hne:¬ u=o)  : Op 40 w (T cs c 26 (upd (upd (upd (upd (upd (upd (upd (upd (upd (upd r 1 o) 2 x1) 2 a0) 3 x2) 3 b0) 4 c0) 12 x3) 13 x4) 10 x5) 10 m) pre []) (5,0) w (T cs c 5 (upd (upd (upd (upd (upd (upd (upd (upd (upd (upd (upd r 1 o) 2 x1) 2 a0) 3 x2) 3 b0) 4 c0) 12 x3) 13 x4) 10 x5) 10 m) 11 0) pre []) :=
 jw_ (vb:=0) (vc:=o) hc rfl hw h0r rfl rfl hv hne (Goes.on1 (fa_ (vb:=0) (vc:=0) hc h0 rfl rfl rfl h0r) (do_ hc h0 rfl rfl))
theorem gtellb_5O (hc:cs[c]?=some (gtellbCl now fails wait)) (h0:pre.length=c) (h0r:r 0=0) (h8:r 8=1) (hw:w.words[1]?=some l) (hv:l[0]?=some o)  (e1:(o*2^62)%18446744073709551616=x1) (e2:(x1/2^62)%18446744073709551616=a0) (e3:(o*2^41)%18446744073709551616=x2) (e4:(x2/2^43)%18446744073709551616=b0) (e5:(o/2^23)%18446744073709551616=c0) (e6:¬ a0=0) (e7:a0=1) (ho:onF 12 (Bt cs (c+1) (pre++[(true,[])]))=some t'):Op 40 w (T cs c 5 r pre []) (1,0) w t' :=
 fo_ (vb:=0) hc rfl hw h0r rfl hv (Goes.on1 (cz_ (vb:=o) hc h0 rfl e1 rfl) (Goes.on1 (cs_ (vb:=x1) hc h0 rfl e2 rfl) (Goes.on1 (cz_ (vb:=o) hc h0 rfl e3 rfl) (Goes.on1 (cs_ (vb:=x2) hc h0 rfl e4 rfl) (Goes.on1 (cs_ (vb:=o) hc h0 rfl e5 rfl) (Goes.on1 (dt_ (vb:=a0) (vc:=0) hc h0 rfl e6 rfl h0r) (Goes.on1 (fa_ (vb:=a0) (vc:=1) hc h0 rfl e7 rfl h8) (Goes.on1 (du_ hc h0 rfl) (onF_more (k:=20) ho)))))))))
theorem gtellb_5T (hc:cs[c]?=some (gtellbCl now fails wait)) (h0:pre.length=c) (h0r:r 0=0) (h5:r 5=now) (h8:r 8=1) (hw:w.words[1]?=some l) (hv:l[0]?=some o)  (e1:(o*2^62)%18446744073709551616=x1) (e2:(x1/2^62)%18446744073709551616=a0) (e3:(o*2^41)%18446744073709551616=x2) (e4:(x2/2^43)%18446744073709551616=b0) (e5:(o/2^23)%18446744073709551616=c0) (e6:¬ a0=0) (e7:¬ a0=1) (e8:(now*2^23)%18446744073709551616=x3) (e9:(b0*2^2)%18446744073709551616=x4) (e10:(x3 ||| x4)%18446744073709551616=x5) (e11:(x5 ||| 1)%18446744073709551616=m):Op 40 w (T cs c 5 r pre []) (1,0) w (T cs c 17 (upd (upd (upd (upd (upd (upd (upd (upd (upd (upd r 1 o) 2 x1) 2 a0) 3 x2) 3 b0) 4 c0) 12 x3) 13 x4) 10 x5) 10 m) pre []) :=
 fo_ (vb:=0) hc rfl hw h0r rfl hv (Goes.on1 (cz_ (vb:=o) hc h0 rfl e1 rfl) (Goes.on1 (cs_ (vb:=x1) hc h0 rfl e2 rfl) (Goes.on1 (cz_ (vb:=o) hc h0 rfl e3 rfl) (Goes.on1 (cs_ (vb:=x2) hc h0 rfl e4 rfl) (Goes.on1 (cs_ (vb:=o) hc h0 rfl e5 rfl) (Goes.on1 (dt_ (vb:=a0) (vc:=0) hc h0 rfl e6 rfl h0r) (Goes.on1 (dt_ (vb:=a0) (vc:=1) hc h0 rfl e7 rfl h8) (Goes.on1 (cz_ (vb:=now) hc h0 rfl e8 h5) (Goes.on1 (cz_ (vb:=b0) hc h0 rfl e9 rfl) (Goes.on1 (st_or (vb:=x3) (vc:=x4) hc h0 rfl e10 rfl rfl) (Goes.on1 (st_or (vb:=x5) (vc:=1) hc h0 rfl e11 rfl h8) (do_ hc h0 rfl rfl))))))))))))
theorem gtellb_5P (hc:cs[c]?=some (gtellbCl now fails wait)) (h0:pre.length=c) (h0r:r 0=0) (h5:r 5=now) (h6:r 6=fails) (h8:r 8=1) (hw:w.words[1]?=some l) (hv:l[0]?=some o)  (e1:(o*2^62)%18446744073709551616=x1) (e2:(x1/2^62)%18446744073709551616=a0) (e3:(o*2^41)%18446744073709551616=x2) (e4:(x2/2^43)%18446744073709551616=b0) (e5:(o/2^23)%18446744073709551616=c0) (e6:a0=0) (e7:(b0+1+0)%18446744073709551616=b1) (e8:b1=fails) (e9:(now*2^23)%18446744073709551616=x3) (e10:(b1*2^2)%18446744073709551616=x4) (e11:(x3 ||| x4)%18446744073709551616=x5) (e12:(x5 ||| 1)%18446744073709551616=m):Op 40 w (T cs c 5 r pre []) (1,0) w (T cs c 34 (upd (upd (upd (upd (upd (upd (upd (upd (upd (upd (upd r 1 o) 2 x1) 2 a0) 3 x2) 3 b0) 4 c0) 3 b1) 12 x3) 13 x4) 10 x5) 10 m) pre []) :=
 fo_ (vb:=0) hc rfl hw h0r rfl hv (Goes.on1 (cz_ (vb:=o) hc h0 rfl e1 rfl) (Goes.on1 (cs_ (vb:=x1) hc h0 rfl e2 rfl) (Goes.on1 (cz_ (vb:=o) hc h0 rfl e3 rfl) (Goes.on1 (cs_ (vb:=x2) hc h0 rfl e4 rfl) (Goes.on1 (cs_ (vb:=o) hc h0 rfl e5 rfl) (Goes.on1 (fa_ (vb:=a0) (vc:=0) hc h0 rfl e6 rfl h0r) (Goes.on1 (su_ (vb:=b0) (vc:=1) hc h0 rfl e7 rfl h8) (Goes.on1 (fa_ (vb:=b1) (vc:=fails) hc h0 rfl e8 rfl h6) (Goes.on1 (cz_ (vb:=now) hc h0 rfl e9 h5) (Goes.on1 (cz_ (vb:=b1) hc h0 rfl e10 rfl) (Goes.on1 (st_or (vb:=x3) (vc:=x4) hc h0 rfl e11 rfl rfl) (Goes.on1 (st_or (vb:=x5) (vc:=1) hc h0 rfl e12 rfl h8) (do_ hc h0 rfl rfl)))))))))))))
theorem gtellb_5D (hc:cs[c]?=some (gtellbCl now fails wait)) (h0:pre.length=c) (h0r:r 0=0) (h6:r 6=fails) (h8:r 8=1) (hw:w.words[1]?=some l) (hv:l[0]?=some o)  (e1:(o*2^62)%18446744073709551616=x1) (e2:(x1/2^62)%18446744073709551616=a0) (e3:(o*2^41)%18446744073709551616=x2) (e4:(x2/2^43)%18446744073709551616=b0) (e5:(o/2^23)%18446744073709551616=c0) (e6:a0=0) (e7:(b0+1+0)%18446744073709551616=b1) (e8:¬ b1=fails) (e9:(0*2^23)%18446744073709551616=x3) (e10:(b1*2^2)%18446744073709551616=x4) (e11:(x3 ||| x4)%18446744073709551616=x5) (e12:(x5 ||| 0)%18446744073709551616=m):Op 40 w (T cs c 5 r pre []) (1,0) w (T cs c 27 (upd (upd (upd (upd (upd (upd (upd (upd (upd (upd (upd r 1 o) 2 x1) 2 a0) 3 x2) 3 b0) 4 c0) 3 b1) 12 x3) 13 x4) 10 x5) 10 m) pre []) :=
 fo_ (vb:=0) hc rfl hw h0r rfl hv (Goes.on1 (cz_ (vb:=o) hc h0 rfl e1 rfl) (Goes.on1 (cs_ (vb:=x1) hc h0 rfl e2 rfl) (Goes.on1 (cz_ (vb:=o) hc h0 rfl e3 rfl) (Goes.on1 (cs_ (vb:=x2) hc h0 rfl e4 rfl) (Goes.on1 (cs_ (vb:=o) hc h0 rfl e5 rfl) (Goes.on1 (fa_ (vb:=a0) (vc:=0) hc h0 rfl e6 rfl h0r) (Goes.on1 (su_ (vb:=b0) (vc:=1) hc h0 rfl e7 rfl h8) (Goes.on1 (dt_ (vb:=b1) (vc:=fails) hc h0 rfl e8 rfl h6) (Goes.on1 (cz_ (vb:=0) hc h0 rfl e9 h0r) (Goes.on1 (cz_ (vb:=b1) hc h0 rfl e10 rfl) (Goes.on1 (st_or (vb:=x3) (vc:=x4) hc h0 rfl e11 rfl rfl) (Goes.on1 (st_or (vb:=x5) (vc:=0) hc h0 rfl e12 rfl h0r) (do_ hc h0 rfl rfl)))))))))))))
theorem gtellb_17T (hc:cs[c]?=some (gtellbCl now fails wait)) (h0:pre.length=c) (h0r:r 0=0) (hw:w.words[1]?=some l) (hv:l[0]?=some o) (hws:w.words.set 1 (l.set 0 m)=ws)  (ho:onF 12 (Bt cs (c+1) (pre++[(true,[])]))=some t'):Op 40 w (T cs c 17 (upd (upd (upd (upd (upd (upd (upd (upd (upd (upd r 1 o) 2 x1) 2 a0) 3 x2) 3 b0) 4 c0) 12 x3) 13 x4) 10 x5) 10 m) pre []) (5,0) ⟨ws,w.nl⟩ t' :=
 jv_ (vb:=0) (vd:=m) hc rfl hw h0r rfl rfl rfl hv hws (Goes.on1 (dt_ (vb:=1) (vc:=0) hc h0 rfl (by decide) rfl h0r) (Goes.on1 (du_ hc h0 rfl) (onF_more (k:=26) ho)))
theorem gtellb_17F (hc:cs[c]?=some (gtellbCl now fails wait)) (h0:pre.length=c) (h0r:r 0=0) (hw:w.words[1]?=some l) (hv:l[0]?=some u) (hne:¬ u=o)  : Op 40 w (T cs c 17 (upd (upd (upd (upd (upd (upd (upd (upd (upd (upd r 1 o) 2 x1) 2 a0) 3 x2) 3 b0) 4 c0) 12 x3) 13 x4) 10 x5) 10 m) pre []) (5,0) w (T cs c 5 (upd (upd (upd (upd (upd (upd (upd (upd (upd (upd (upd r 1 o) 2 x1) 2 a0) 3 x2) 3 b0) 4 c0) 12 x3) 13 x4) 10 x5) 10 m) 11 0) pre []) :=
 jw_ (vb:=0) (vc:=o) hc rfl hw h0r rfl rfl hv hne (Goes.on1 (fa_ (vb:=0) (vc:=0) hc h0 rfl rfl rfl h0r) (do_ hc h0 rfl rfl))
theorem gtellb_27T (hc:cs[c]?=some (gtellbCl now fails wait)) (h0:pre.length=c) (h0r:r 0=0) (hw:w.words[1]?=some l) (hv:l[0]?=some o) (hws:w.words.set 1 (l.set 0 m)=ws)  (ho:onF 12 (Bt cs (c+1) (pre++[(true,[])]))=some t'):Op 40 w (T cs c 27 (upd (upd (upd (upd (upd (upd (upd (upd (upd (upd (upd r 1 o) 2 x1) 2 a0) 3 x2) 3 b0) 4 c0) 3 b1) 12 x3) 13 x4) 10 x5) 10 m) pre []) (5,0) ⟨ws,w.nl⟩ t' :=
 jv_ (vb:=0) (vd:=m) hc rfl hw h0r rfl rfl rfl hv hws (Goes.on1 (dt_ (vb:=1) (vc:=0) hc h0 rfl (by decide) rfl h0r) (Goes.on1 (du_ hc h0 rfl) (onF_more (k:=26) ho)))
theorem gtellb_27F (hc:cs[c]?=some (gtellbCl now fails wait)) (h0:pre.length=c) (h0r:r 0=0) (hw:w.words[1]?=some l) (hv:l[0]?=some u) (hne:¬ u=o)  : Op 40 w (T cs c 27 (upd (upd (upd (upd (upd (upd (upd (upd (upd (upd (upd r 1 o) 2 x1) 2 a0) 3 x2) 3 b0) 4 c0) 3 b1) 12 x3) 13 x4) 10 x5) 10 m) pre []) (5,0) w (T cs c 5 (upd (upd (upd (upd (upd (upd (upd (upd (upd (upd (upd (upd r 1 o) 2 x1) 2 a0) 3 x2) 3 b0) 4 c0) 3 b1) 12 x3) 13 x4) 10 x5) 10 m) 11 0) pre []) :=
 jw_ (vb:=0) (vc:=o) hc rfl hw h0r rfl rfl hv hne (Goes.on1 (fa_ (vb:=0) (vc:=0) hc h0 rfl rfl rfl h0r) (do_ hc h0 rfl rfl))
theorem gtellb_34T (hc:cs[c]?=some (gtellbCl now fails wait)) (h0:pre.length=c) (h0r:r 0=0) (hw:w.words[1]?=some l) (hv:l[0]?=some o) (hws:w.words.set 1 (l.set 0 m)=ws)  (ho:onF 12 (Bt cs (c+1) (pre++[(true,[])]))=some t'):Op 40 w (T cs c 34 (upd (upd (upd (upd (upd (upd (upd (upd (upd (upd (upd r 1 o) 2 x1) 2 a0) 3 x2) 3 b0) 4 c0) 3 b1) 12 x3) 13 x4) 10 x5) 10 m) pre []) (5,0) ⟨ws,w.nl⟩ t' :=
 jv_ (vb:=0) (vd:=m) hc rfl hw h0r rfl rfl rfl hv hws (Goes.on1 (dt_ (vb:=1) (vc:=0) hc h0 rfl (by decide) rfl h0r) (Goes.on1 (pj_ hc h0 rfl) (onF_more (k:=26) ho)))
theorem gtellb_34F (hc:cs[c]?=some (gtellbCl now fails wait)) (h0:pre.length=c) (h0r:r 0=0) (hw:w.words[1]?=some l) (hv:l[0]?=some u) (hne:¬ u=o)  : Op 40 w (T cs c 34 (upd (upd (upd (upd (upd (upd (upd (upd (upd (upd (upd r 1 o) 2 x1) 2 a0) 3 x2) 3 b0) 4 c0) 3 b1) 12 x3) 13 x4) 10 x5) 10 m) pre []) (5,0) w (T cs c 5 (upd (upd (upd (upd (upd (upd (upd (upd (upd (upd (upd (upd r 1 o) 2 x1) 2 a0) 3 x2) 3 b0) 4 c0) 3 b1) 12 x3) 13 x4) 10 x5) 10 m) 11 0) pre []) :=
 jw_ (vb:=0) (vc:=o) hc rfl hw h0r rfl rfl hv hne (Goes.on1 (fa_ (vb:=0) (vc:=0) hc h0 rfl rfl rfl h0r) (do_ hc h0 rfl rfl))
end
end Go.PB.Mach
namespace Go.Proofs.Ytnnpdmhmpgmpnaa
open Go Go.PB
attribute [local irreducible] Mo Bin Eql Tr Wo Ap Wle
section
def gD:Wds where
 W:=fun f=>⟨[[f 0,f 1],[f 2]],2⟩
 un:=fun w i=>if i=0 then (w.row 0).getD 0 0 else if i=1 then (w.row 0).getD 1 0 else (w.row 1).getD 0 0
 ok:=fun f=>(∀ i,i<3→f i<18446744073709551616)∧f 2%4≠3
 fu:=60
 back:=fun f=>rfl
 okun:=fun f h=>⟨fun i hi=>by
  match i with
  | 0=>exact h.1 0 (by omega)
  | 1=>exact h.1 1 (by omega)
  | 2=>exact h.1 2 (by omega)
  | i+3=>omega,h.2⟩
theorem gd_un {f:Nat→Nat}:∀ i,i<3→f i=gD.un (gD.W f) i
 | 0,_=>rfl
 | 1,_=>rfl
 | 2,_=>rfl
 | i+3,h=>by omega
theorem fq_:gD.ok (fun _=>0):=⟨fun i _=>by show 0<18446744073709551616;decide,by decide⟩
theorem sd_ {f:Nat→Nat} {q v:Nat} (h:gD.ok f) (hv:v<18446744073709551616) (h2:q=2→v%4≠3):gD.ok (upd f q v):=by
 refine ⟨fun i hi=>?_,?_⟩
 ·unfold upd;split
  ·exact hv
  ·exact h.1 i hi
 ·show upd f q v 2%4≠3
  unfold upd;split
  ·rename_i e;exact h2 e.symm
  ·exact h.2
theorem bbh {a b c:Nat} (ha:a<4):packN a b c%4=a:=by
 unfold packN
 rw [Nat.mod_mod_of_dvd _ (by decide),show (4:Nat)=2^2 from rfl,Nat.or_mod_two_pow]
 have h1:((((c*2^23)%18446744073709551616) ||| ((b*2^2)%18446744073709551616))%18446744073709551616)%2^2=0:=by
  rw [Nat.mod_mod_of_dvd _ (by decide),Nat.or_mod_two_pow]
  have e1:(c*2^23)%18446744073709551616%2^2=0:=by omega
  have e2:(b*2^2)%18446744073709551616%2^2=0:=by omega
  rw [e1,e2];rfl
 rw [h1,Nat.zero_or]
 omega
theorem vm_ {o:Nat} (h:o<18446744073709551616):((o*2^62)%18446744073709551616/2^62)%18446744073709551616=o%4:=by omega
theorem vk_ {o:Nat} (h:o<18446744073709551616):((o*2^41)%18446744073709551616/2^43)%18446744073709551616=o/4%2097152:=by omega
theorem vj_ {o:Nat} (h:o<18446744073709551616):(o/2^23)%18446744073709551616=o/8388608:=by omega
def zc_ (cl:Mach.Cl) (K:(Nat→Nat)→Prop) (G:Nat→Nat→Nat→Option (Nat × Nat × Nat)) (told:Nat × Nat × Nat→Bool→List Nat):Prop :=
 ∀ (cs:List Mach.Cl) (c:Nat) (pre:List (Bool × List Nat)),cs[c]?=some cl→pre.length=c→(∃ r,K r∧Mach.onF 12 (Mach.T cs c 0 (fun _=>0) pre [])=some (Mach.T cs c 5 r pre [])) ∧
  ∀ r,K r→∀ o,o<18446744073709551616→o%4≠3→∀ (w:Mach.Wd) l,w.words[1]?=some l→l[0]?=some o →
   match G (o%4) (o/4%2097152) (o/8388608) with
   | none=>∀ t',Mach.onF 12 (Mach.Bt cs (c+1) (pre++[(true,told (o%4,o/4%2097152,o/8388608) false)]))=some t'→Mach.Op 40 w (Mach.T cs c 5 r pre []) (1,0) w t'
   | some y=>∃ pc R,Mach.Op 40 w (Mach.T cs c 5 r pre []) (1,0) w (Mach.T cs c pc R pre []) ∧
     ∀ (w':Mach.Wd) l',w'.words[1]?=some l' →
      (l'[0]?=some o→∀ t',Mach.onF 12 (Mach.Bt cs (c+1) (pre++[(true,told y true)]))=some t'→Mach.Op 40 w' (Mach.T cs c pc R pre []) (5,0) ⟨w'.words.set 1 (l'.set 0 (packN y.1 y.2.1 y.2.2)),w'.nl⟩ t') ∧
      ∀ u,l'[0]?=some u→u≠o→∃ R',K R'∧Mach.Op 40 w' (Mach.T cs c pc R pre []) (5,0) w' (Mach.T cs c 5 R' pre [])
def BK (now fails wait:Nat) (r:Nat→Nat):Prop:=r 0=0∧r 5=now∧r 6=fails∧r 7=wait∧r 8=1∧r 9=2
theorem bkn {now fails wait:Nat} (hn:now≤1099511627776) (hf:fails≤1048576) (hw:wait≤1099511627776):zc_ (Mach.gaskCl now fails wait) (BK now fails wait) (askG wait now) fun y q=>[yes (q||y.1 == 0)]:=by
 intro cs c pre hc h0
 refine ⟨⟨_,⟨rfl,rfl,rfl,rfl,rfl,rfl⟩,Mach.gask_on hc h0 (by omega) (by omega) (by omega)⟩,?_⟩
 rintro r ⟨k0,k5,k6,k7,k8,k9⟩ o ho h3 w l hw1 hv
 obtain ⟨a,ha⟩:∃ a,o%4=a:=⟨_,rfl⟩
 obtain ⟨b,hb⟩:∃ b,o/4%2097152=b:=⟨_,rfl⟩
 obtain ⟨d,hcc⟩:∃ d,o/8388608=d:=⟨_,rfl⟩
 have pa:=(vm_ ho).trans ha
 have pb:=(vk_ ho).trans hb
 have pc:=(vj_ ho).trans hcc
 rw [ha] at h3
 have hcb:d<2199023255552:=by omega
 unfold askG
 rw [ha,hb,hcc]
 by_cases c1:a=0
 ·rw [if_neg (by omega)]
  subst c1
  intro t' ht'
  exact Mach.gask_5C hc h0 k0 k8 hw1 hv rfl pa rfl pb pc rfl ht'
 ·by_cases c2:d+wait≤now
  ·rw [if_pos ⟨c1,c2⟩]
   refine ⟨_,_,Mach.gask_5Y (s:=d+wait) hc h0 k0 k5 k7 k9 hw1 hv rfl pa rfl pb pc c1 (by omega) (by omega) rfl rfl rfl rfl,fun w' l' hw'=>⟨fun hv' t' ht'=>?_,fun u hu hne=>?_⟩⟩
   ·exact Mach.gask_18T hc h0 k0 k8 hw' hv' rfl ht'
   ·refine ⟨_,?_,Mach.gask_18F hc h0 k0 hw' hu hne⟩;exact ⟨k0,k5,k6,k7,k8,k9⟩
  ·rw [if_neg (by omega)]
   intro t' ht'
   have e:(a == 0)=false:=by simpa using c1
   simp only [e,Bool.or_false] at ht'
   exact Mach.gask_5N (s:=d+wait) hc h0 k0 k5 k7 hw1 hv rfl pa rfl pb pc c1 (by omega) (by omega) ht'
theorem xg_ {now fails wait:Nat} (hn:now≤1099511627776) (hf:fails≤1048576) (hw:wait≤1099511627776):zc_ (Mach.gtellgCl now fails wait) (BK now fails wait) (tellG fails now true) fun y q=>[]:=by
 intro cs c pre hc h0
 refine ⟨⟨_,⟨rfl,rfl,rfl,rfl,rfl,rfl⟩,Mach.gtellg_on hc h0 (by omega) (by omega) (by omega)⟩,?_⟩
 rintro r ⟨k0,k5,k6,k7,k8,k9⟩ o ho h3 w l hw1 hv
 obtain ⟨a,ha⟩:∃ a,o%4=a:=⟨_,rfl⟩
 obtain ⟨b,hb⟩:∃ b,o/4%2097152=b:=⟨_,rfl⟩
 obtain ⟨d,hcc⟩:∃ d,o/8388608=d:=⟨_,rfl⟩
 have pa:=(vm_ ho).trans ha
 have pb:=(vk_ ho).trans hb
 have pc:=(vj_ ho).trans hcc
 rw [ha] at h3
 unfold tellG
 rw [ha,hb,hcc]
 by_cases c1:a=1
 ·rw [if_pos (.inl c1)]
  subst c1
  intro t' ht'
  exact Mach.gtellg_5O hc h0 k0 k8 hw1 hv rfl pa rfl pb pc (by decide) rfl ht'
 ·by_cases c0:a=0
  ·subst c0
   by_cases c2:b=0
   ·subst c2
    rw [if_pos (.inr ⟨rfl,rfl,rfl⟩)]
    intro t' ht'
    exact Mach.gtellg_5C hc h0 k0 hw1 hv rfl pa rfl pb pc rfl rfl ht'
   ·rw [if_neg (by omega),if_pos rfl]
    refine ⟨_,_,Mach.gtellg_5D hc h0 k0 hw1 hv rfl pa rfl pb pc rfl c2 rfl rfl rfl rfl,fun w' l' hw'=>⟨fun hv' t' ht'=>?_,fun u hu hne=>?_⟩⟩
    ·exact Mach.gtellg_26T hc h0 k0 hw' hv' rfl ht'
    ·refine ⟨_,?_,Mach.gtellg_26F hc h0 k0 hw' hu hne⟩;exact ⟨k0,k5,k6,k7,k8,k9⟩
  ·rw [if_neg (by omega),if_pos rfl]
   refine ⟨_,_,Mach.gtellg_5T hc h0 k0 k8 hw1 hv rfl pa rfl pb pc c0 c1 rfl rfl rfl rfl,fun w' l' hw'=>⟨fun hv' t' ht'=>?_,fun u hu hne=>?_⟩⟩
   ·exact Mach.gtellg_17T hc h0 k0 hw' hv' rfl ht'
   ·refine ⟨_,?_,Mach.gtellg_17F hc h0 k0 hw' hu hne⟩;exact ⟨k0,k5,k6,k7,k8,k9⟩
theorem xh_ {now fails wait:Nat} (hn:now≤1099511627776) (hf:fails≤1048576) (hw:wait≤1099511627776):zc_ (Mach.gtellbCl now fails wait) (BK now fails wait) (tellG fails now false) fun y q=>[]:=by
 intro cs c pre hc h0
 refine ⟨⟨_,⟨rfl,rfl,rfl,rfl,rfl,rfl⟩,Mach.gtellb_on hc h0 (by omega) (by omega) (by omega)⟩,?_⟩
 rintro r ⟨k0,k5,k6,k7,k8,k9⟩ o ho h3 w l hw1 hv
 obtain ⟨a,ha⟩:∃ a,o%4=a:=⟨_,rfl⟩
 obtain ⟨b,hb⟩:∃ b,o/4%2097152=b:=⟨_,rfl⟩
 obtain ⟨d,hcc⟩:∃ d,o/8388608=d:=⟨_,rfl⟩
 have pa:=(vm_ ho).trans ha
 have pb:=(vk_ ho).trans hb
 have pc:=(vj_ ho).trans hcc
 rw [ha] at h3
 have hbb:b<2097152:=by omega
 have ha4:a<4:=by omega
 unfold tellG
 rw [ha,hb,hcc]
 by_cases c1:a=1
 ·rw [if_pos (.inl c1)]
  subst c1
  intro t' ht'
  exact Mach.gtellb_5O hc h0 k0 k8 hw1 hv rfl pa rfl pb pc (by decide) rfl ht'
 ·rw [if_neg (by rintro (h | ⟨h,_⟩);exact c1 h;cases h),if_neg (by decide)]
  by_cases c0:a=0
  ·subst c0
   rw [if_neg (by decide)]
   by_cases c2:b+1=fails
   ·rw [if_pos c2]
    refine ⟨_,_,Mach.gtellb_5P (b1:=b+1) hc h0 k0 k5 k6 k8 hw1 hv rfl pa rfl pb pc rfl (by omega) c2 rfl rfl rfl rfl,fun w' l' hw'=>⟨fun hv' t' ht'=>?_,fun u hu hne=>?_⟩⟩
    ·rw [← c2];exact Mach.gtellb_34T hc h0 k0 hw' hv' rfl ht'
    ·refine ⟨_,?_,Mach.gtellb_34F hc h0 k0 hw' hu hne⟩;exact ⟨k0,k5,k6,k7,k8,k9⟩
   ·rw [if_neg c2]
    refine ⟨_,_,Mach.gtellb_5D (b1:=b+1) hc h0 k0 k6 k8 hw1 hv rfl pa rfl pb pc rfl (by omega) c2 rfl rfl rfl rfl,fun w' l' hw'=>⟨fun hv' t' ht'=>?_,fun u hu hne=>?_⟩⟩
    ·exact Mach.gtellb_27T hc h0 k0 hw' hv' rfl ht'
    ·refine ⟨_,?_,Mach.gtellb_27F hc h0 k0 hw' hu hne⟩;exact ⟨k0,k5,k6,k7,k8,k9⟩
  ·rw [if_pos (show a=2 by omega)]
   refine ⟨_,_,Mach.gtellb_5T hc h0 k0 k5 k8 hw1 hv rfl pa rfl pb pc c0 c1 rfl rfl rfl rfl,fun w' l' hw'=>⟨fun hv' t' ht'=>?_,fun u hu hne=>?_⟩⟩
   ·exact Mach.gtellb_17T hc h0 k0 hw' hv' rfl ht'
   ·refine ⟨_,?_,Mach.gtellb_17F hc h0 k0 hw' hu hne⟩;exact ⟨k0,k5,k6,k7,k8,k9⟩
theorem cdz {wait now a b c:Nat} {y:Nat × Nat × Nat} (h:askG wait now a b c=some y):y.1<3:=by
 unfold askG at h
 split at h
 ·simp only [Option.some.injEq] at h;subst h;show 2<3;omega
 ·cases h
theorem wn_ {fails now a b c:Nat} {good:Bool} {y:Nat × Nat × Nat} (h:tellG fails now good a b c=some y):y.1<3:=by
 unfold tellG at h
 repeat' split at h
 all_goals first | (cases h;done) | (simp only [Option.some.injEq] at h;subst h;show _<3;dsimp only;omega)
section
variable {limit fails wait now:Nat} {addr:Nat→Nat × Nat} {K:List (Nat × Nat × Value)} {A:Apart addr 3 K} {Z:HProp} {Pv:Nat × Mach.Th→HProp} {hPv:∀ q h,Star [Pv q] h→Pv q h} {sb says turn fin wg k:Nat} {Pm:HProp}
variable {cs:List Mach.Cl} {cl:Mach.Cl} {c:Nat} {pre:List (Bool × List Nat)}
theorem bjw (hl:limit≤1048576) (hc:cs[c]?=some (Mach.genterCl limit)) (h0:pre.length=c) (hP:∀ p r said h,Pm h→Pv (k,Mach.T cs c p r pre said) h)
  (nxt:∀ told,∃ t',Mach.onF 12 (Mach.Bt cs (c+1) (pre++[(true,told)]))=some t') {s:PlS} {r0:Nat→Nat} (q0:r0 0=0) (q2:r0 2=limit) (q3:r0 3=1) (ht:s.t=Mach.T cs c 2 r0 pre []) (hfg:∀ i,i<3→s.f i=s.g i)
  {Q:Bool→PlS→Prop} (hQ:∀ q s',Mach.onF 12 (Mach.Bt cs (c+1) (pre++[(true,[yes q])]))=some s'.t→(∀ i,i<3→s'.f i=s'.g i)→gD.ok s'.f→Q q s') :
  bfw (hv_ gD addr 3 K A Z Pv hPv sb says turn fin wg k Pm) limit s Q:=by
 obtain ⟨tf,htf⟩:=nxt [0]
 obtain ⟨tt,htt⟩:=nxt [1]
 -- the second loop
 have H2:∀ n,n<limit→∀ X:PlS→Prop,(∀ s,wv_ (hv_ gD addr 3 K A Z Pv hPv sb says turn fin wg k Pm) n Q X s→X s)→∀ (N:Nat) (r:Nat→Nat) (s:PlS),s.n<N→r 0=0→r 3=1→r 4=n+1→s.t=Mach.T cs c 9 r pre []→(∀ i,i<3→s.f i=s.g i)→X s:=by
  intro n hn X hX N
  induction N with
  | zero=>intro r s hN;omega
  | succ N ih =>
   intro r s hN k0 k3 k4 ht hfg
   refine hX _ ?_
   unfold wv_
   refine jt_ (op:=1) rfl fq_ hfg (by rw [ht];exact hP _ _ _) fun f1 ok1=>?_
   rw [ht]
   by_cases c1:n<f1 1
   ·refine ⟨f1,tt,(Mach.genter_9F (w:=gD.W f1) hc h0 k0 k3 k4 rfl rfl (by omega) htt).up (by decide),fun m1 hm1=>⟨by omega,?_⟩⟩
    dsimp only
    rw [if_pos c1]
    exact hQ true _ htt gd_un ok1
   ·refine ⟨f1,_,(Mach.genter_9T (w:=gD.W f1) hc h0 k0 k4 rfl rfl (by omega)).up (by decide),fun m1 hm1=>⟨by omega,?_⟩⟩
    dsimp only
    rw [if_neg c1]
    refine jt_ (op:=5) rfl fq_ gd_un (hP _ _ _) fun f2 ok2=>?_
    by_cases c3:f2 1=f1 1
    ·refine ⟨upd f2 1 (n+1),tt,(Mach.genter_13T (w:=gD.W f2) (ws:=(gD.W (upd f2 1 (n+1))).words) hc h0 k0 k3 k4 rfl (by rw [← c3];rfl) rfl htt).up (by decide),fun m3 hm3=>⟨by omega,?_⟩⟩
     dsimp only
     rw [if_pos c3,Nat.mod_eq_of_lt (by omega)]
     exact hQ true _ htt gd_un (sd_ ok2 (by omega) (by omega))
    ·refine ⟨f2,_,(Mach.genter_13F (w:=gD.W f2) hc h0 k0 rfl rfl c3).up (by decide),fun m3 hm3=>⟨by omega,?_⟩⟩
     dsimp only at hm1 hm3 ⊢
     rw [if_neg c3,if_neg (by decide)]
     exact ih (upd (upd r 6 (f1 1)) 5 0) _ (by dsimp only;omega) k0 k3 k4 rfl gd_un
 -- the load that both ways of the first loop begin with
 have L1:∀ (r:Nat→Nat) (f1:Nat→Nat),r 0=0→r 2=limit→r 3=1→gD.ok f1→∃ t',Mach.Op gD.fu (gD.W f1) (Mach.T cs c 2 r pre []) (1,0) (gD.W f1) t'∧if limit≤f1 0 then Mach.onF 12 (Mach.Bt cs (c+1) (pre++[(true,[0])]))=some t' else t'=Mach.T cs c 7 (upd (upd r 1 (f1 0)) 4 (f1 0+1)) pre []:=by
  intro r f1 k0 k2 k3 ok1
  by_cases c1:limit≤f1 0
  ·exact ⟨tf,(Mach.genter_2F (w:=gD.W f1) hc h0 k0 k2 rfl rfl (by omega) htf).up (by decide),by rw [if_pos c1];exact htf⟩
  ·exact ⟨_,(Mach.genter_2T (w:=gD.W f1) (m:=f1 0+1) hc h0 k0 k2 k3 rfl rfl (by omega) (by omega)).up (by decide),by rw [if_neg c1]⟩
 unfold bfw
 refine jt_ (op:=1) rfl fq_ hfg (by rw [ht];exact hP _ _ _) fun f1 ok1=>?_
 obtain ⟨t1,o1,e1⟩:=L1 r0 f1 q0 q2 q3 ok1
 rw [ht]
 refine ⟨f1,t1,o1,fun m1 hm1=>⟨by omega,fun hn X hX=>?_⟩⟩
 suffices H:∀ (N:Nat) (r:Nat→Nat) (n:Nat) (s:PlS),s.n<N→r 0=0→r 2=limit→r 3=1→n<18446744073709551616→(if limit≤n then Mach.onF 12 (Mach.Bt cs (c+1) (pre++[(true,[0])]))=some s.t else s.t=Mach.T cs c 7 (upd (upd r 1 n) 4 (n+1)) pre [])→(∀ i,i<3→s.f i=s.g i)→gD.ok s.f→X (n,s) from
  H (m1+1) r0 _ _ (by dsimp only;omega) q0 q2 q3 hn e1 gd_un ok1
 intro N
 induction N with
 | zero=>intro r n s hN;omega
 | succ N ih =>
  intro r n s hN k0 k2 k3 hn e hfg ok1
  refine hX _ ?_
  unfold bfx
  refine ⟨hn,?_⟩
  dsimp only
  by_cases c1:limit≤n
  ·rw [if_pos c1] at e ⊢
   exact hQ false _ e hfg ok1
  ·rw [if_neg c1] at e ⊢
   refine jt_ (op:=5) rfl fq_ hfg (by rw [e];exact hP _ _ _) fun f2 ok2=>?_
   rw [e]
   by_cases c3:f2 0=n
   ·refine ⟨upd f2 0 (n+1),_,(Mach.genter_7T (m:=n+1) (w:=gD.W f2) (ws:=(gD.W (upd f2 0 (n+1))).words) hc h0 k0 rfl (by rw [← c3];rfl) rfl).up (by decide),fun m3 hm3=>⟨by omega,?_⟩⟩
    dsimp only
    rw [if_pos c3,Nat.mod_eq_of_lt (by omega),if_pos rfl]
    intro X2 hX2
    exact H2 n (by omega) X2 hX2 _ (upd (upd (upd r 1 n) 4 (n+1)) 5 1) _ (Nat.lt_succ_self _) k0 k3 rfl rfl gd_un
   ·refine ⟨f2,_,(Mach.genter_7F (w:=gD.W f2) hc h0 k0 rfl rfl c3).up (by decide),fun m3 hm3=>⟨by omega,?_⟩⟩
    dsimp only
    rw [if_neg c3,if_neg (by decide)]
    refine jt_ (op:=1) rfl fq_ gd_un (hP _ _ _) fun f3 ok3=>?_
    obtain ⟨t4,o4,e4⟩:=L1 (upd (upd (upd r 1 n) 4 (n+1)) 5 0) f3 k0 k2 k3 ok3
    refine ⟨f3,t4,o4,fun m4 hm4=>⟨by omega,fun hn'=>?_⟩⟩
    dsimp only at hm3 hm4
    exact ih (upd (upd (upd r 1 n) 4 (n+1)) 5 0) _ _ (by dsimp only;omega) k0 k2 k3 hn' e4 gd_un ok3
theorem bjd (hc:cs[c]?=some Mach.gleaveCl) (h0:pre.length=c) (hP:∀ p r said h,Pm h→Pv (k,Mach.T cs c p r pre said) h)
  (nxt:∀ told,∃ t',Mach.onF 12 (Mach.Bt cs (c+1) (pre++[(true,told)]))=some t') {s:PlS} {r0:Nat→Nat} (q0:r0 0=0) (q3:r0 3=1) (ht:s.t=Mach.T cs c 1 r0 pre []) (hfg:∀ i,i<3→s.f i=s.g i)
  {Q:Nat→PlS→Prop} (hQ:∀ e s',e≤3→Mach.onF 12 (Mach.Bt cs (c+1) (pre++[(true,[e])]))=some s'.t→(∀ i,i<3→s'.f i=s'.g i)→gD.ok s'.f→Q e s') :
  bqb (hv_ gD addr 3 K A Z Pv hPv sb says turn fin wg k Pm) s Q:=by
 obtain ⟨tf,htf⟩:=nxt [0]
 obtain ⟨tt,htt⟩:=nxt [3]
 intro X hX
 suffices H:∀ (N:Nat) (r:Nat→Nat) (s:PlS),s.n<N→r 0=0→r 3=1→s.t=Mach.T cs c 1 r pre []→(∀ i,i<3→s.f i=s.g i)→X s from H (s.n+1) _ s (by omega) q0 q3 ht hfg
 intro N
 induction N with
 | zero=>intro r s hN;omega
 | succ N ih =>
  intro r s hN k0 k3 ht hfg
  refine hX _ ?_
  unfold bqc
  refine jt_ (op:=1) rfl fq_ hfg (by rw [ht];exact hP _ _ _) fun f1 ok1=>?_
  rw [ht]
  obtain ⟨v,hv⟩:∃ v,(f1 0+18446744073709551616-1)%18446744073709551616=v:=⟨_,rfl⟩
  have hvl:v<18446744073709551616:=by rw [← hv];exact Nat.mod_lt _ (by decide)
  by_cases c1:f1 0=0
  ·refine ⟨f1,tt,(Mach.gleave_1T (w:=gD.W f1) hc h0 k0 rfl rfl c1 htt).up (by decide),fun m1 hm1=>⟨by omega,?_⟩⟩
   dsimp only
   rw [if_pos c1]
   exact hQ 3 _ (by omega) htt gd_un ok1
  ·refine ⟨f1,_,(Mach.gleave_1F (w:=gD.W f1) hc h0 k0 k3 rfl rfl c1 hv).up (by decide),fun m1 hm1=>⟨by omega,?_⟩⟩
   dsimp only
   rw [if_neg c1,hv]
   refine jt_ (op:=5) rfl fq_ gd_un (hP _ _ _) fun f2 ok2=>?_
   by_cases c3:f2 0=f1 0
   ·refine ⟨upd f2 0 v,tf,(Mach.gleave_4T (m:=v) (w:=gD.W f2) (ws:=(gD.W (upd f2 0 v)).words) hc h0 k0 rfl (by rw [← c3];rfl) rfl htf).up (by decide),fun m3 hm3=>⟨by omega,?_⟩⟩
    dsimp only
    rw [if_pos c3,if_pos rfl]
    exact hQ 0 _ (by omega) htf gd_un (sd_ ok2 hvl (by omega))
   ·refine ⟨f2,_,(Mach.gleave_4F (w:=gD.W f2) hc h0 k0 rfl rfl c3).up (by decide),fun m3 hm3=>⟨by omega,?_⟩⟩
    dsimp only at hm1 hm3 ⊢
    rw [if_neg c3,if_neg (by decide)]
    exact ih (upd (upd (upd r 1 (f1 0)) 4 v) 5 0) _ (by dsimp only;omega) k0 k3 rfl gd_un
theorem bwb (hc:cs[c]?=some Mach.ggetCl) (h0:pre.length=c) (hP:∀ p r said h,Pm h→Pv (k,Mach.T cs c p r pre said) h)
  (nxt:∀ told,∃ t',Mach.onF 12 (Mach.Bt cs (c+1) (pre++[(true,told)]))=some t') {s:PlS} (ht:s.t=Mach.T cs c 0 (fun _=>0) pre []) (hfg:∀ i,i<3→s.f i=s.g i)
  {Q:Nat→Nat→PlS→Prop} (hQ:∀ a b s',Mach.onF 12 (Mach.Bt cs (c+1) (pre++[(true,[a,b])]))=some s'.t→(∀ i,i<3→s'.f i=s'.g i)→gD.ok s'.f→Q a b s') :
  GetT (hv_ gD addr 3 K A Z Pv hPv sb says turn fin wg k Pm) s Q:=by
 unfold GetT
 refine jt_ (op:=1) rfl fq_ hfg (by rw [ht];exact hP _ _ _) fun f1 ok1=>?_
 rw [ht]
 refine ⟨f1,_,(Mach.gget_0 (w:=gD.W f1) hc h0 rfl rfl rfl).up (by decide),fun m1 hm1=>⟨by omega,?_⟩⟩
 refine jt_ (op:=1) rfl fq_ gd_un (hP _ _ _) fun f2 ok2=>?_
 obtain ⟨tt,htt⟩:=nxt [f1 0,f2 1]
 refine ⟨f2,tt,(Mach.gget_1 (w:=gD.W f2) hc h0 rfl rfl rfl htt).up (by decide),fun m2 hm2=>⟨by omega,?_⟩⟩
 exact hQ _ _ _ htt gd_un ok2
theorem bpv (hc:cs[c]?=some Mach.gstateCl) (h0:pre.length=c) (hP:∀ p r said h,Pm h→Pv (k,Mach.T cs c p r pre said) h)
  (nxt:∀ told,∃ t',Mach.onF 12 (Mach.Bt cs (c+1) (pre++[(true,told)]))=some t') {s:PlS} (ht:s.t=Mach.T cs c 0 (fun _=>0) pre []) (hfg:∀ i,i<3→s.f i=s.g i)
  {Q:Nat→PlS→Prop} (hQ:∀ o s',Mach.onF 12 (Mach.Bt cs (c+1) (pre++[(true,[o%4,o/4%2097152,o/8388608])]))=some s'.t→(∀ i,i<3→s'.f i=s'.g i)→gD.ok s'.f→Q o s') :
  BGetT (ji_ (hv_ gD addr 3 K A Z Pv hPv sb says turn fin wg k Pm) fun _=>2) s Q:=by
 unfold BGetT
 dsimp only [ji_]
 refine jt_ (op:=1) rfl fq_ hfg (by rw [ht];exact hP _ _ _) fun f1 ok1=>?_
 rw [ht]
 have ho:=ok1.1 2 (by omega)
 obtain ⟨o,hoo⟩:∃ o,f1 2=o:=⟨_,rfl⟩
 rw [hoo] at ho
 obtain ⟨a,ha⟩:∃ a,o%4=a:=⟨_,rfl⟩
 obtain ⟨b,hb⟩:∃ b,o/4%2097152=b:=⟨_,rfl⟩
 obtain ⟨d,hd⟩:∃ d,o/8388608=d:=⟨_,rfl⟩
 obtain ⟨x1,hx1⟩:∃ x1,(o*2^62)%18446744073709551616=x1:=⟨_,rfl⟩
 obtain ⟨x2,hx2⟩:∃ x2,(o*2^41)%18446744073709551616=x2:=⟨_,rfl⟩
 obtain ⟨tt,htt⟩:=nxt [a,b,d]
 refine ⟨f1,tt,(Mach.gstate_0 (w:=gD.W f1) hc h0 rfl rfl (congrArg some hoo) hx1 (by rw [← hx1];exact (vm_ ho).trans ha) hx2 (by rw [← hx2];exact (vk_ ho).trans hb) ((vj_ ho).trans hd) htt).up (by decide),fun m1 hm1=>⟨by omega,?_⟩⟩
 rw [← ha,← hb,← hd,← hoo] at htt
 exact hQ _ _ htt gd_un ok1
theorem qu_ {KR:(Nat→Nat)→Prop} {G:Nat→Nat→Nat→Option (Nat × Nat × Nat)} {told:Nat × Nat × Nat→Bool→List Nat} (H0:zc_ cl KR G told) (hG:∀ a b c y,G a b c=some y→y.1<3)
  (hc:cs[c]?=some cl) (h0:pre.length=c) (hP:∀ p r said h,Pm h→Pv (k,Mach.T cs c p r pre said) h)
  (nxt:∀ told,∃ t',Mach.onF 12 (Mach.Bt cs (c+1) (pre++[(true,told)]))=some t') {s:PlS} {r0:Nat→Nat} (q0:KR r0) (ht:s.t=Mach.T cs c 5 r0 pre []) (hfg:∀ i,i<3→s.f i=s.g i)
  {Q:Nat × Nat × Nat→Bool→PlS→Prop} (hQ:∀ y q s',Mach.onF 12 (Mach.Bt cs (c+1) (pre++[(true,told y q)]))=some s'.t→(∀ i,i<3→s'.f i=s'.g i)→gD.ok s'.f→Q y q s') :
  TurnT (ji_ (hv_ gD addr 3 K A Z Pv hPv sb says turn fin wg k Pm) fun _=>2) G s Q:=by
 obtain ⟨_,H1⟩:=H0 _ _ _ hc h0
 intro X hX
 suffices H:∀ (N:Nat) (r:Nat→Nat) (s:PlS),s.n<N→KR r→s.t=Mach.T cs c 5 r pre []→(∀ i,i<3→s.f i=s.g i)→X s from H (s.n+1) _ s (by omega) q0 ht hfg
 intro N
 induction N with
 | zero=>intro r s hN;omega
 | succ N ih =>
  intro r s hN kr ht hfg
  refine hX _ ?_
  unfold TurnF
  dsimp only [ji_]
  refine jt_ (op:=1) rfl fq_ hfg (by rw [ht];exact hP _ _ _) fun f1 ok1=>?_
  rw [ht]
  have h:=H1 r kr (f1 2) (ok1.1 2 (by omega)) ok1.2 (gD.W f1) [f1 2] rfl rfl
  cases hg:G (f1 2%4) (f1 2/4%2097152) (f1 2/8388608) with
  | none =>
   rw [hg] at h
   obtain ⟨tt,htt⟩:=nxt (told (f1 2%4,f1 2/4%2097152,f1 2/8388608) false)
   refine ⟨f1,tt,(h tt htt).up (by decide),fun m1 hm1=>⟨by omega,?_⟩⟩
   dsimp only
   rw [hg]
   exact hQ _ _ _ htt gd_un ok1
  | some y =>
   rw [hg] at h
   obtain ⟨pc,R,o1,h2⟩:=h
   refine ⟨f1,_,o1.up (by decide),fun m1 hm1=>⟨by omega,?_⟩⟩
   dsimp only
   rw [hg]
   refine jt_ (op:=5) rfl fq_ gd_un (hP _ _ _) fun f2 ok2=>?_
   obtain ⟨h3,h4⟩:=h2 (gD.W f2) [f2 2] rfl
   obtain ⟨v,hv⟩:∃ v,packN y.1 y.2.1 y.2.2=v:=⟨_,rfl⟩
   have hvl:v<18446744073709551616:=hv▸xx_
   have hv4:v%4≠3:=by have:=hG _ _ _ _ hg;rw [← hv,bbh (by omega)];omega
   rw [hv] at h3
   by_cases c3:f2 2=f1 2
   ·obtain ⟨tt,htt⟩:=nxt (told y true)
    refine ⟨upd f2 2 v,tt,(h3 (by rw [← c3];rfl) tt htt).up (by decide),fun m3 hm3=>⟨by omega,?_⟩⟩
    dsimp only
    rw [hv,if_pos c3,if_pos rfl]
    exact hQ _ _ _ htt gd_un (sd_ ok2 hvl fun _=>hv4)
   ·obtain ⟨R',kr',o2⟩:=h4 (f2 2) rfl c3
    refine ⟨f2,_,o2.up (by decide),fun m3 hm3=>⟨by omega,?_⟩⟩
    dsimp only at hm1 hm3 ⊢
    rw [if_neg c3,if_neg (by decide)]
    exact ih _ _ (by dsimp only;omega) kr' rfl gd_un
end
end
section
def fr_ (limit fails wait:Nat) (kind:Int) (now:Nat) (good:Bool):Mach.Cl :=
 if kind=1 then Mach.genterCl limit else if kind=2 then Mach.gleaveCl else if kind=4 then Mach.gaskCl now fails wait
 else if kind=5 then (if good=true then Mach.gtellgCl now fails wait else Mach.gtellbCl now fails wait) else if kind=6 then Mach.gstateCl else Mach.ggetCl
def ze_ {B:Hand} {gv:Value} (A:Acc B gv) (φ:Nat→Nat) (limit fails wait:Nat) (kind:Int) (now:Nat) (good:Bool) (s:A.S) (Q:List Nat→A.S→Prop):Prop :=
 if kind=1 then bfw A limit s fun q s=>Q [yes q] s else if kind=2 then bqb A s fun e s=>e≤3∧Q [e] s else if kind=4 then AskT (ji_ A φ) wait now s fun q s=>Q [yes q] s
 else if kind=5 then TellT (ji_ A φ) fails now good s fun s=>Q [] s else if kind=6 then BGetT (ji_ A φ) s fun o s=>Q [o%4,o/4%2097152,o/8388608] s else GetT A s fun a b s=>Q [a,b] s
structure GOk (limit fails wait:Nat):Prop where
 l1:1≤limit
 l2:limit≤1048576
 f1:1≤fails
 f2:fails≤1048576
 w1:1≤wait
 w2:wait≤1099511627776
def gz_ (limit fails wait:Nat) (cs:List Mach.Cl):Prop:=∀ (i:Nat) (cl:Mach.Cl),cs[i]?=some cl→∃ kind now good,now≤1099511627776∧cl=fr_ limit fails wait kind now good
section
variable {limit fails wait now:Nat} {kind:Int} {good:Bool} {cs:List Mach.Cl} {c:Nat} {pre:List (Bool × List Nat)}
theorem pm_ (O:GOk limit fails wait) (hn:now≤1099511627776) (hc:cs[c]?=some (fr_ limit fails wait kind now good)) (h0:pre.length=c) :
  ∃ p r,Mach.onF 12 (Mach.Bt cs c pre)=some (Mach.T cs c p r pre [])∧(kind=1→p=2∧r 0=0∧r 2=limit∧r 3=1)∧(kind=2→p=1∧r 0=0∧r 3=1)∧(kind=4∨kind=5→p=5∧BK now fails wait r)∧(kind≠1→kind≠2→kind≠4→kind≠5→p=0∧r=fun _=>0):=by
 obtain ⟨l1,l2,f1,f2,w1,w2⟩:=O
 rw [Mach.on_begin (f:=11) hc h0]
 unfold fr_ at hc
 by_cases k1:kind=1
 ·rw [if_pos k1] at hc
  subst k1
  exact ⟨_,_,Mach.genter_on hc h0 (by omega),fun _=>⟨rfl,rfl,rfl,rfl⟩,fun h=>by omega,fun h=>by omega,fun h=>by omega⟩
 rw [if_neg k1] at hc
 by_cases k2:kind=2
 ·rw [if_pos k2] at hc
  subst k2
  exact ⟨_,_,Mach.gleave_on hc h0,fun h=>by omega,fun _=>⟨rfl,rfl,rfl⟩,fun h=>by omega,fun _ h=>by omega⟩
 rw [if_neg k2] at hc
 by_cases k4:kind=4
 ·rw [if_pos k4] at hc
  subst k4
  exact ⟨_,_,Mach.gask_on hc h0 (by omega) (by omega) (by omega),fun h=>by omega,fun h=>by omega,fun _=>⟨rfl,rfl,rfl,rfl,rfl,rfl,rfl⟩,fun _ _ h=>by omega⟩
 rw [if_neg k4] at hc
 by_cases k5:kind=5
 ·rw [if_pos k5] at hc
  subst k5
  cases good
  ·rw [if_neg (by decide)] at hc
   exact ⟨_,_,Mach.gtellb_on hc h0 (by omega) (by omega) (by omega),fun h=>by omega,fun h=>by omega,fun _=>⟨rfl,rfl,rfl,rfl,rfl,rfl,rfl⟩,fun _ _ _ h=>by omega⟩
  ·rw [if_pos rfl] at hc
   exact ⟨_,_,Mach.gtellg_on hc h0 (by omega) (by omega) (by omega),fun h=>by omega,fun h=>by omega,fun _=>⟨rfl,rfl,rfl,rfl,rfl,rfl,rfl⟩,fun _ _ _ h=>by omega⟩
 rw [if_neg k5] at hc
 by_cases k6:kind=6
 ·rw [if_pos k6] at hc
  exact ⟨_,_,Mach.gstate_on hc h0,fun h=>by omega,fun h=>by omega,fun h=>by omega,fun _ _ _ _=>⟨rfl,rfl⟩⟩
 ·rw [if_neg k6] at hc
  exact ⟨_,_,Mach.gget_on hc h0,fun h=>by omega,fun h=>by omega,fun h=>by omega,fun _ _ _ _=>⟨rfl,rfl⟩⟩
theorem bpc (O:GOk limit fails wait) (hcs:gz_ limit fails wait cs) (h0:pre.length=c):∃ t',Mach.onF 12 (Mach.Bt cs c pre)=some t':=by
 by_cases hlt:c<cs.length
 ·have h:cs[c]?=some cs[c]:=List.getElem?_eq_getElem hlt
  obtain ⟨kd,now,good,hn,e⟩:=hcs c _ h
  rw [e] at h
  obtain ⟨p,r,h1,_⟩:=pm_ O hn h h0
  exact ⟨_,h1⟩
 ·exact ⟨_,Mach.on_over (f:=11) (List.getElem?_eq_none_iff.2 (by omega))⟩
end
section
variable {limit fails wait now:Nat} {kind:Int} {good:Bool} {addr:Nat→Nat × Nat} {K:List (Nat × Nat × Value)} {A:Apart addr 3 K} {Z:HProp} {Pv:Nat × Mach.Th→HProp} {hPv:∀ q h,Star [Pv q] h→Pv q h} {sb says turn fin wg k:Nat} {Pm:HProp}
variable {cs:List Mach.Cl} {c:Nat} {pre:List (Bool × List Nat)}
theorem bpn (O:GOk limit fails wait) (hn:now≤1099511627776) (hcs:gz_ limit fails wait cs) (hc:cs[c]?=some (fr_ limit fails wait kind now good)) (h0:pre.length=c) (hP:∀ p r said h,Pm h→Pv (k,Mach.T cs c p r pre said) h)
  {s:PlS} (ht:Mach.onF 12 (Mach.Bt cs c pre)=some s.t) (hfg:∀ i,i<3→s.f i=s.g i) (hok:gD.ok s.f) :
  ze_ (hv_ gD addr 3 K A Z Pv hPv sb says turn fin wg k Pm) (fun _=>2) limit fails wait kind now good s fun told s'=>Mach.onF 12 (Mach.Bt cs (c+1) (pre++[(true,told)]))=some s'.t∧(∀ i,i<3→s'.f i=s'.g i)∧gD.ok s'.f:=by
 have nxt:∀ told,∃ t',Mach.onF 12 (Mach.Bt cs (c+1) (pre++[(true,told)]))=some t':=fun told=>bpc O hcs (by simp [h0])
 obtain ⟨p,r,h1,g1,g2,g4,g0⟩:=pm_ O hn hc h0
 rw [h1] at ht
 have ht':=(Option.some.inj ht).symm
 unfold fr_ at hc
 unfold ze_
 by_cases k1:kind=1
 ·rw [if_pos k1] at hc ⊢
  obtain ⟨rfl,a,b,d⟩:=g1 k1
  exact bjw O.l2 hc h0 hP nxt a b d ht' hfg fun q s' a b d=>⟨a,b,d⟩
 rw [if_neg k1] at hc ⊢
 by_cases k2:kind=2
 ·rw [if_pos k2] at hc ⊢
  obtain ⟨rfl,a,b⟩:=g2 k2
  exact bjd hc h0 hP nxt a b ht' hfg fun q s' e a b d=>⟨e,a,b,d⟩
 rw [if_neg k2] at hc ⊢
 by_cases k4:kind=4
 ·rw [if_pos k4] at hc ⊢
  obtain ⟨rfl,a⟩:=g4 (.inl k4)
  unfold AskT
  exact qu_ (G:=askG wait now) (bkn hn O.f2 O.w2) (fun _ _ _ _ h=>cdz h) hc h0 hP nxt a ht' hfg fun y q s' a b d=>⟨a,b,d⟩
 rw [if_neg k4] at hc ⊢
 by_cases k5:kind=5
 ·rw [if_pos k5] at hc ⊢
  obtain ⟨rfl,a⟩:=g4 (.inr k5)
  cases good
  ·rw [if_neg (by decide)] at hc
   unfold TellT
   exact qu_ (G:=tellG fails now false) (xh_ hn O.f2 O.w2) (fun _ _ _ _ h=>wn_ h) hc h0 hP nxt a ht' hfg fun y q s' a b d=>⟨a,b,d⟩
  ·rw [if_pos rfl] at hc
   unfold TellT
   exact qu_ (G:=tellG fails now true) (xg_ hn O.f2 O.w2) (fun _ _ _ _ h=>wn_ h) hc h0 hP nxt a ht' hfg fun y q s' a b d=>⟨a,b,d⟩
 rw [if_neg k5] at hc ⊢
 obtain ⟨rfl,rfl⟩:=g0 k1 k2 k4 k5
 by_cases k6:kind=6
 ·rw [if_pos k6] at hc ⊢
  exact bpv hc h0 hP nxt ht' hfg fun o s' a b d=>⟨a,b,d⟩
 ·rw [if_neg k6] at hc ⊢
  exact bwb hc h0 hP nxt ht' hfg fun a b s' x y z=>⟨x,y,z⟩
end
section
variable {limit fails wait now:Nat} {kind:Int} {good:Bool} {cs:List Mach.Cl} {cl:Mach.Cl} {c:Nat} {pre:List (Bool × List Nat)}
theorem bjx (hl:limit≤1048576) (hc:cs[c]?=some (Mach.genterCl limit)) (h0:pre.length=c) (nxt:∀ told,∃ t',Mach.onF 12 (Mach.Bt cs (c+1) (pre++[(true,told)]))=some t'∧GoodT gD t'):∀ (N:Nat),
  (∀ r:Nat→Nat,r 0=0→r 2=limit→r 3=1→GoodN gD N (Mach.T cs c 2 r pre []))∧(∀ (r:Nat→Nat) (n:Nat),r 0=0→r 2=limit→r 3=1→n<limit→GoodN gD N (Mach.T cs c 7 (upd (upd r 1 n) 4 (n+1)) pre [])) ∧
  (∀ (r:Nat→Nat) (n:Nat),r 0=0→r 3=1→r 4=n+1→n<limit→GoodN gD N (Mach.T cs c 9 r pre []))∧(∀ (r:Nat→Nat) (n p:Nat),r 0=0→r 3=1→r 4=n+1→n<limit→GoodN gD N (Mach.T cs c 13 (upd r 6 p) pre [])):=by
 obtain ⟨tf,htf,gf⟩:=nxt [0]
 obtain ⟨tt,htt,gt⟩:=nxt [1]
 intro N
 induction N with
 | zero=>exact ⟨fun _ _ _ _=>trivial,fun _ _ _ _ _ _=>trivial,fun _ _ _ _ _ _=>trivial,fun _ _ _ _ _ _ _=>trivial⟩
 | succ N ih =>
  obtain ⟨i2,i7,i9,i13⟩:=ih
  refine ⟨fun r k0 k2 k3=>?_,fun r n k0 k2 k3 hn=>?_,fun r n k0 k3 k4 hn=>?_,fun r n p k0 k3 k4 hn=>?_⟩
  ·refine jm_ (m:=(1,0)) fq_ fun f1 ok1=>?_
   by_cases c1:limit≤f1 0
   ·exact ⟨f1,tf,(Mach.genter_2F (w:=gD.W f1) hc h0 k0 k2 rfl rfl (by omega) htf).up (by decide),ok1,gf N⟩
   ·exact ⟨f1,_,(Mach.genter_2T (w:=gD.W f1) (m:=f1 0+1) hc h0 k0 k2 k3 rfl rfl (by omega) (by omega)).up (by decide),ok1,i7 _ _ k0 k2 k3 (by omega)⟩
  ·refine jm_ (m:=(5,0)) fq_ fun f2 ok2=>?_
   by_cases c3:f2 0=n
   ·exact ⟨upd f2 0 (n+1),_,(Mach.genter_7T (m:=n+1) (w:=gD.W f2) (ws:=(gD.W (upd f2 0 (n+1))).words) hc h0 k0 rfl (by rw [← c3];rfl) rfl).up (by decide),sd_ ok2 (by omega) (by omega),i9 (upd (upd (upd r 1 n) 4 (n+1)) 5 1) n k0 k3 rfl hn⟩
   ·exact ⟨f2,_,(Mach.genter_7F (w:=gD.W f2) hc h0 k0 rfl rfl c3).up (by decide),ok2,i2 (upd (upd (upd r 1 n) 4 (n+1)) 5 0) k0 k2 k3⟩
  ·refine jm_ (m:=(1,1)) fq_ fun f1 ok1=>?_
   by_cases c1:n<f1 1
   ·exact ⟨f1,tt,(Mach.genter_9F (w:=gD.W f1) hc h0 k0 k3 k4 rfl rfl (by omega) htt).up (by decide),ok1,gt N⟩
   ·exact ⟨f1,_,(Mach.genter_9T (w:=gD.W f1) hc h0 k0 k4 rfl rfl (by omega)).up (by decide),ok1,i13 _ n _ k0 k3 k4 hn⟩
  ·refine jm_ (m:=(5,1)) fq_ fun f2 ok2=>?_
   by_cases c3:f2 1=p
   ·exact ⟨upd f2 1 (n+1),tt,(Mach.genter_13T (w:=gD.W f2) (ws:=(gD.W (upd f2 1 (n+1))).words) hc h0 k0 k3 k4 rfl (by rw [← c3];rfl) rfl htt).up (by decide),sd_ ok2 (by omega) (by omega),gt N⟩
   ·exact ⟨f2,_,(Mach.genter_13F (w:=gD.W f2) hc h0 k0 rfl rfl c3).up (by decide),ok2,i9 (upd (upd r 6 p) 5 0) n k0 k3 k4 hn⟩
theorem bjf (hc:cs[c]?=some Mach.gleaveCl) (h0:pre.length=c) (nxt:∀ told,∃ t',Mach.onF 12 (Mach.Bt cs (c+1) (pre++[(true,told)]))=some t'∧GoodT gD t'):∀ (N:Nat) (r:Nat→Nat),r 0=0→r 3=1→GoodN gD N (Mach.T cs c 1 r pre []):=by
 obtain ⟨tf,htf,gf⟩:=nxt [0]
 obtain ⟨tt,htt,gt⟩:=nxt [3]
 intro N
 induction N with
 | zero=>exact fun _ _ _=>trivial
 | succ N ih =>
  intro r k0 k3
  refine jm_ (m:=(1,0)) fq_ fun f1 ok1=>?_
  by_cases c1:f1 0=0
  ·exact ⟨f1,tt,(Mach.gleave_1T (w:=gD.W f1) hc h0 k0 rfl rfl c1 htt).up (by decide),ok1,gt N⟩
  ·obtain ⟨v,hv⟩:∃ v,(f1 0+18446744073709551616-1)%18446744073709551616=v:=⟨_,rfl⟩
   have hvl:v<18446744073709551616:=by rw [← hv];exact Nat.mod_lt _ (by decide)
   refine ⟨f1,_,(Mach.gleave_1F (w:=gD.W f1) hc h0 k0 k3 rfl rfl c1 hv).up (by decide),ok1,?_⟩
   refine yn_ (jm_ (m:=(5,0)) fq_ fun f2 ok2=>?_)
   by_cases c3:f2 0=f1 0
   ·exact ⟨upd f2 0 v,tf,(Mach.gleave_4T (m:=v) (w:=gD.W f2) (ws:=(gD.W (upd f2 0 v)).words) hc h0 k0 rfl (by rw [← c3];rfl) rfl htf).up (by decide),sd_ ok2 hvl (by omega),gf N⟩
   ·exact ⟨f2,_,(Mach.gleave_4F (w:=gD.W f2) hc h0 k0 rfl rfl c3).up (by decide),ok2,ih (upd (upd (upd r 1 (f1 0)) 4 v) 5 0) k0 k3⟩
theorem qv_ {KR:(Nat→Nat)→Prop} {G:Nat→Nat→Nat→Option (Nat × Nat × Nat)} {told:Nat × Nat × Nat→Bool→List Nat} (H0:zc_ cl KR G told) (hG:∀ a b c y,G a b c=some y→y.1<3)
  (hc:cs[c]?=some cl) (h0:pre.length=c) (nxt:∀ told,∃ t',Mach.onF 12 (Mach.Bt cs (c+1) (pre++[(true,told)]))=some t'∧GoodT gD t'):∀ (N:Nat) (r:Nat→Nat),KR r→GoodN gD N (Mach.T cs c 5 r pre []):=by
 obtain ⟨_,H1⟩:=H0 _ _ _ hc h0
 intro N
 induction N with
 | zero=>exact fun _ _=>trivial
 | succ N ih =>
  intro r kr
  refine jm_ (m:=(1,0)) fq_ fun f1 ok1=>?_
  have h:=H1 r kr (f1 2) (ok1.1 2 (by omega)) ok1.2 (gD.W f1) [f1 2] rfl rfl
  cases hg:G (f1 2%4) (f1 2/4%2097152) (f1 2/8388608) with
  | none =>
   rw [hg] at h
   obtain ⟨tt,htt,gt⟩:=nxt (told (f1 2%4,f1 2/4%2097152,f1 2/8388608) false)
   exact ⟨f1,tt,(h tt htt).up (by decide),ok1,gt N⟩
  | some y =>
   rw [hg] at h
   obtain ⟨pc,R,o1,h2⟩:=h
   refine ⟨f1,_,o1.up (by decide),ok1,yn_ (jm_ (m:=(5,0)) fq_ fun f2 ok2=>?_)⟩
   obtain ⟨h3,h4⟩:=h2 (gD.W f2) [f2 2] rfl
   obtain ⟨v,hv⟩:∃ v,packN y.1 y.2.1 y.2.2=v:=⟨_,rfl⟩
   have hvl:v<18446744073709551616:=hv▸xx_
   have hv4:v%4≠3:=by have:=hG _ _ _ _ hg;rw [← hv,bbh (by omega)];omega
   rw [hv] at h3
   by_cases c3:f2 2=f1 2
   ·obtain ⟨tt,htt,gt⟩:=nxt (told y true)
    exact ⟨upd f2 2 v,tt,(h3 (by rw [← c3];rfl) tt htt).up (by decide),sd_ ok2 hvl fun _=>hv4,gt N⟩
   ·obtain ⟨R',kr',o2⟩:=h4 (f2 2) rfl c3
    exact ⟨f2,_,o2.up (by decide),ok2,ih _ kr'⟩
theorem bpd (O:GOk limit fails wait) (hcs:gz_ limit fails wait cs):∀ (m c:Nat) (pre:List (Bool × List Nat)),cs.length-c=m→pre.length=c→∃ t',Mach.onF 12 (Mach.Bt cs c pre)=some t'∧GoodT gD t':=by
 intro m
 induction m with
 | zero =>
  intro c pre hm h0
  exact ⟨_,Mach.on_over (f:=11) (List.getElem?_eq_none_iff.2 (by omega)),.over rfl⟩
 | succ m ih =>
  intro c pre hm h0
  have hlt:c<cs.length:=by omega
  have hc:cs[c]?=some cs[c]:=List.getElem?_eq_getElem hlt
  obtain ⟨kind,now,good,hn,e⟩:=hcs c _ hc
  rw [e] at hc
  have nxt:∀ told,∃ t',Mach.onF 12 (Mach.Bt cs (c+1) (pre++[(true,told)]))=some t'∧GoodT gD t':=fun told=>ih (c+1) _ (by omega) (by simp [h0])
  obtain ⟨p,r,h1,g1,g2,g4,g0⟩:=pm_ O hn hc h0
  refine ⟨_,h1,?_⟩
  unfold fr_ at hc
  by_cases k1:kind=1
  ·rw [if_pos k1] at hc
   obtain ⟨rfl,a,b,d⟩:=g1 k1
   exact fun N=>(bjx O.l2 hc h0 nxt N).1 r a b d
  rw [if_neg k1] at hc
  by_cases k2:kind=2
  ·rw [if_pos k2] at hc
   obtain ⟨rfl,a,b⟩:=g2 k2
   exact fun N=>bjf hc h0 nxt N r a b
  rw [if_neg k2] at hc
  by_cases k4:kind=4
  ·rw [if_pos k4] at hc
   obtain ⟨rfl,a⟩:=g4 (.inl k4)
   exact fun N=>qv_ (G:=askG wait now) (bkn hn O.f2 O.w2) (fun _ _ _ _ h=>cdz h) hc h0 nxt N r a
  rw [if_neg k4] at hc
  by_cases k5:kind=5
  ·rw [if_pos k5] at hc
   obtain ⟨rfl,a⟩:=g4 (.inr k5)
   cases good
   ·rw [if_neg (by decide)] at hc
    exact fun N=>qv_ (G:=tellG fails now false) (xh_ hn O.f2 O.w2) (fun _ _ _ _ h=>wn_ h) hc h0 nxt N r a
   ·rw [if_pos rfl] at hc
    exact fun N=>qv_ (G:=tellG fails now true) (xg_ hn O.f2 O.w2) (fun _ _ _ _ h=>wn_ h) hc h0 nxt N r a
  rw [if_neg k5] at hc
  obtain ⟨rfl,rfl⟩:=g0 k1 k2 k4 k5
  by_cases k6:kind=6
  ·rw [if_pos k6] at hc
   refine bdq (m:=(1,0)) fq_ fun f1 ok1=>?_
   have ho:=ok1.1 2 (by omega)
   obtain ⟨o,hoo⟩:∃ o,f1 2=o:=⟨_,rfl⟩
   rw [hoo] at ho
   obtain ⟨a,ha⟩:∃ a,o%4=a:=⟨_,rfl⟩
   obtain ⟨b,hb⟩:∃ b,o/4%2097152=b:=⟨_,rfl⟩
   obtain ⟨d,hd⟩:∃ d,o/8388608=d:=⟨_,rfl⟩
   obtain ⟨x1,hx1⟩:∃ x1,(o*2^62)%18446744073709551616=x1:=⟨_,rfl⟩
   obtain ⟨x2,hx2⟩:∃ x2,(o*2^41)%18446744073709551616=x2:=⟨_,rfl⟩
   obtain ⟨tt,htt,gt⟩:=nxt [a,b,d]
   exact ⟨f1,tt,(Mach.gstate_0 (w:=gD.W f1) hc h0 rfl rfl (congrArg some hoo) hx1 (by rw [← hx1];exact (vm_ ho).trans ha) hx2 (by rw [← hx2];exact (vk_ ho).trans hb) ((vj_ ho).trans hd) htt).up (by decide),ok1,gt⟩
  ·rw [if_neg k6] at hc
   refine bdq (m:=(1,0)) fq_ fun f1 ok1=>⟨f1,_,(Mach.gget_0 (w:=gD.W f1) hc h0 rfl rfl rfl).up (by decide),ok1,?_⟩
   refine bdq (m:=(1,1)) fq_ fun f2 ok2=>?_
   obtain ⟨tt,htt,gt⟩:=nxt [f1 0,f2 1]
   exact ⟨f2,tt,(Mach.gget_1 (w:=gD.W f2) hc h0 rfl rfl rfl htt).up (by decide),ok2,gt⟩
theorem we_ (O:GOk limit fails wait) (hcs:gz_ limit fails wait cs):∃ t',Mach.onF 12 (Mach.Bt cs 0 [])=some t'∧Mach.onF gD.fu { calls:=cs }=some t'∧GoodT gD t':=by
 obtain ⟨t',h1,h2⟩:=bpd O hcs cs.length 0 [] (by omega) rfl
 exact ⟨t',h1,Mach.onF_more (k:=48) h1,h2⟩
end
end
end Go.Proofs.Ytnnpdmhmpgmpnaa
namespace Go.Proofs.Ytnnpdmhmpgmpnaa
open Go Go.PB
section
structure DoAt (L:List HProp) (a:Option Addr) (l:List (Int × Nat × Bool)):Prop where
 rng:∀ y∈l,(-9223372036854775808≤y.1∧y.1≤9223372036854775807)∧y.2.1<18446744073709551616
 at_:∀ i y,l[i]?=some y→∃ b o,a=some ⟨b,o,none⟩∧Rd L b (o+3*i) (.int .i64 y.1)∧Rd L b (o+3*i+1) (.int .u64 y.2.1)∧Rd L b (o+3*i+2) (.bool y.2.2)
end
end Go.Proofs.Ytnnpdmhmpgmpnaa
