/-
  Part 5 of 7.
-/
import Derived.Test.YtnnpdmhmpgmpnaaNv4
import Derived.Test.YtnnpdmhmpgmpnaaNv2
import Derived.Test.YtnnpdmhmpgmpnaaNv3
import Derived.Conc.WgGenN2
set_option linter.unusedVariables false
set_option linter.unusedSimpArgs false
namespace Go.Proofs.Ytnnpdmhmpgmpnaa
open Go Go.PB
attribute [local irreducible] Mo Bin Eql Tr Wo Ap
section
structure Good (cs:List Mach.Cl) (t:Mach.Th) (k:Nat):Prop where
 calls:t.calls=cs
 ok:(cs.all Mach.Cl.ok)=true
 len:cs.length<1000000
 pc:t.pc<1000000
 call:t.call≤cs.length
 ans1:t.call≤t.ans.length
 ans2:t.ans.length≤t.call+1
 room:∀ y∈t.ans,y.2.length+k<1000000000
theorem Good.begun {cs:List Mach.Cl} {t:Mach.Th} {k:Nat} (g:Good cs t k) (hk:k<1000000000):Good cs t.begun k:=by
 unfold Mach.Th.begun
 split
 ·refine ⟨g.calls,g.ok,g.len,g.pc,g.call,by simp;omega,by simp;omega,fun y hy=>?_⟩
  rcases List.mem_append.1 hy with hy | hy
  ·exact g.room y hy
  ·cases List.mem_singleton.1 hy;simpa using hk
 ·exact g
theorem begun_ans {cs:List Mach.Cl} {t:Mach.Th} {k:Nat} (g:Good cs t k):t.begun.call=t.call∧t.call<t.begun.ans.length:=by
 unfold Mach.Th.begun
 split
 ·exact ⟨rfl,by simp;omega⟩
 ·exact ⟨rfl,by have:=g.ans1;omega⟩
theorem mem_modify {α:Type} {f:α→α}:∀ {l:List α} {i:Nat} {y:α},y∈l.modify i f→y∈l∨∃ z∈l,y=f z:=by
 intro l
 induction l with
 | nil=>intro i y h;simp at h
 | cons a l ih =>
  intro i y h
  cases i with
  | zero =>
   simp only [List.modify_zero_cons,List.mem_cons] at h
   rcases h with h | h
   ·exact .inr ⟨a,by simp,h⟩
   ·exact .inl (by simp [h])
  | succ i =>
   simp only [List.modify_succ_cons,List.mem_cons] at h
   rcases h with h | h
   ·exact .inl (by simp [h])
   ·rcases ih h with h | ⟨z,h1,h2⟩
    ·exact .inl (by simp [h])
    ·exact .inr ⟨z,by simp [h1],h2⟩
theorem Good.done {cs:List Mach.Cl} {t:Mach.Th} {k:Nat} (g:Good cs t k) (h:t.call<t.ans.length) (hl:t.call<cs.length):Good cs t.done k:=by
 refine ⟨g.calls,g.ok,g.len,by show 0<1000000;omega,by show t.call+1≤_;omega,?_,?_,fun y hy=>?_⟩
 ·show t.call+1≤(t.ans.modify _ _).length;rw [List.length_modify];omega
 ·show (t.ans.modify _ _).length≤t.call+1+1;rw [List.length_modify];have:=g.ans2;omega
 ·rcases mem_modify hy with h | ⟨z,h1,rfl⟩
  ·exact g.room y h
  ·exact g.room z h1
theorem own_pc {t:Mach.Th} {i:Mach.In}:(Mach.own t i).pc=t.pc+1∨(Mach.own t i).pc=i.n∧18≤i.op∧i.op≤21:=by
 obtain ⟨op,on,a,b,c,d,n⟩:=i
 unfold Mach.own Mach.Th.put Mach.Th.tell
 dsimp only
 split <;> (try split) <;> first | exact .inl rfl | exact .inr ⟨rfl,by omega,by omega⟩
theorem own_told {t:Mach.Th} {i:Mach.In} {k:Nat} (h:∀ y∈t.ans,y.2.length+(k+1)<1000000000):∀ y∈(Mach.own t i).ans,y.2.length+k<1000000000:=by
 intro y hy
 by_cases e:i.op=22
 ·have e2:(Mach.own t i).ans=(t.tell (t.r i.a)).ans:=by
   obtain ⟨op,on,a,b,c,dd,n⟩:=i
   simp only at e
   subst e
   rfl
  rw [e2] at hy
  rcases mem_modify hy with h1 | ⟨z,h1,rfl⟩
  ·have:=h y h1;omega
  ·have:=h z h1
   simp only [List.length_append,List.length_cons,List.length_nil];omega
 ·rw [own_ans e] at hy
  have:=h y hy;omega
theorem own_len {t:Mach.Th} {i:Mach.In}:(Mach.own t i).ans.length=t.ans.length:=by
 by_cases e:i.op=22
 ·have e2:(Mach.own t i).ans=(t.tell (t.r i.a)).ans:=by
   obtain ⟨op,on,a,b,c,dd,n⟩:=i
   simp only at e
   subst e
   rfl
  rw [e2]
  show (t.ans.modify _ _).length=_
  rw [List.length_modify]
 ·rw [own_ans e]
theorem Good.next {cs:List Mach.Cl} {t:Mach.Th} {k:Nat} (g:Good cs t k) (hl:t.call<cs.length):t.next=Mach.fin∨t.next.ok=true∧t.pc+1<1000000:=by
 unfold Mach.Th.next Mach.Th.cl
 obtain ⟨cl,hcl⟩:∃ cl,t.calls[t.call]?=some cl:=⟨t.calls[t.call]'(by rw [g.calls];omega),by simp⟩
 rw [List.getD_eq_getElem?_getD,List.getD_eq_getElem?_getD,hcl,Option.getD_some]
 have hok:=List.all_eq_true.1 g.ok cl (by rw [← g.calls];exact List.mem_of_getElem? hcl)
 simp only [Mach.Cl.ok,Bool.and_eq_true,decide_eq_true_eq] at hok
 cases hp:cl.code[t.pc]? with
 | none=>exact .inl rfl
 | some y =>
  have:=(List.getElem?_eq_some_iff.1 hp).1
  exact .inr ⟨List.all_eq_true.1 hok.1.1.1 y (List.mem_of_getElem? hp),by omega⟩
theorem Good.own {cs:List Mach.Cl} {t:Mach.Th} {k:Nat} (g:Good cs t (k+1)) (hl:t.call<cs.length) (hn:t.next.op≠23):Good cs (Mach.own t t.next) k:=by
 obtain ⟨o1,o2,o3⟩:=own_calls (t:=t) (i:=t.next)
 rcases g.next hl with hf | ⟨hok,hpc⟩
 ·rw [hf] at hn;exact absurd rfl hn
 refine ⟨o1.trans g.calls,g.ok,g.len,?_,by rw [o2];exact g.call,by rw [o2,own_len];exact g.ans1,by rw [o2,own_len];exact g.ans2,own_told g.room⟩
 rcases own_pc (t:=t) (i:=t.next) with h | ⟨h,h2,h3⟩
 ·rw [h];exact hpc
 ·rw [h]
  simp only [Mach.In.ok,Bool.and_eq_true,decide_eq_true_eq,Bool.or_eq_true,Bool.not_eq_true',decide_eq_false_iff_not] at hok
  obtain ⟨⟨⟨_,hj⟩,_⟩,_⟩:=hok
  rcases hj with hj | hj
  ·simp at hj;omega
  ·exact hj
theorem Good.onF {cs:List Mach.Cl}:∀ {f:Nat} {t t':Mach.Th} {k:Nat},Good cs t (k+f)→k+f<1000000000→Mach.onF f t=some t'→Good cs t' k:=by
 intro f
 induction f with
 | zero=>intro t t' k g hk h;cases h
 | succ f ih =>
  intro t t' k g hk h
  have weak:∀ {t:Mach.Th} {m:Nat},Good cs t m→k≤m→Good cs t k:=fun g hm=>⟨g.calls,g.ok,g.len,g.pc,g.call,g.ans1,g.ans2,fun y hy=>by have:=g.room y hy;omega⟩
  unfold Mach.onF at h
  split at h
  ·cases h;exact weak g (by omega)
  split at h
  ·cases h;exact ⟨g.calls,g.ok,g.len,g.pc,g.call,g.ans1,g.ans2,fun y hy=>by have:=g.room y hy;omega⟩
  rename_i h1 h2
  have hl:t.call<cs.length:=by rw [← g.calls];omega
  have gb:=g.begun hk
  obtain ⟨b1,b2⟩:=begun_ans g
  split at h
  ·cases h;exact weak gb (by omega)
  split at h
  ·exact ih (k:=k) ⟨(gb.done (by rw [b1];exact b2) (by rw [b1];exact hl)).calls,g.ok,g.len,by show 0<1000000;omega,(gb.done (by rw [b1];exact b2) (by rw [b1];exact hl)).call,(gb.done (by rw [b1];exact b2) (by rw [b1];exact hl)).ans1,(gb.done (by rw [b1];exact b2) (by rw [b1];exact hl)).ans2,fun y hy=>by have:=(gb.done (by rw [b1];exact b2) (by rw [b1];exact hl)).room y hy;omega⟩ (by omega) h
  ·rename_i h3
   exact ih (k:=k) (Good.own (k:=k+f) gb (by rw [b1];exact hl) h3) (by omega) h
variable {B:Hand} [Lets B] {L F G:List HProp} {x:B.X}
end
section
structure PT where
 tb:Nat
 cw:CW
 cs:List Mach.Cl
def PT.cv (p:PT):Value:=p.cw.v p.cs.length
abbrev Calls:=List (CW × List Mach.Cl)
structure CallsOk (F:List HProp) (cc:Calls):Prop where
 n:cc.length<1000
 obs:∀ y∈cc,Obs F (codeC y.1 y.2)
 ok:∀ y∈cc,(y.2.all Mach.Cl.ok)=true
 len:∀ y∈cc,y.2.length<1000000
theorem CallsOk.there {F:List HProp} {cc:Calls} {d:HProp} (c:CallsOk F cc):CallsOk (d::F) cc:=⟨c.n,fun y hy=>(c.obs y hy).there,c.ok,c.len⟩
variable {B:Hand} [Lets B] {L F G:List HProp} {x:B.X}
end
section
def Stands (t:Mach.Th):Prop:=t.over=true∨Mach.told t.next.op=true∧t.call<t.calls.length
structure PlayOk (f:Nat) (s:Mach.St) (q:List (PT × Mach.Th)):Prop where
 l:q.map (·.2)=s.l
 tr:s.tr.length≤16384
 good:∀ y∈q,Good y.1.cs y.2 ((16384-s.tr.length)*(f+1))
 st:∀ y∈q,Stands y.2
variable {B:Hand} [Lets B] {L F G:List HProp} {x:B.X}
end
end Go.Proofs.Ytnnpdmhmpgmpnaa
namespace Go.PB.Mach
def St.cut (s:St):List Nat:=(List.range s.l.length).filter fun k=>match s.l[k]? with | some t=>!t.over | none=>false
end Go.PB.Mach
namespace Go.Proofs.Ytnnpdmhmpgmpnaa
open Go Go.PB
attribute [local irreducible] Mo Bin Eql Tr Wo Ap
variable {B:Hand} [Lets B] {L F G:List HProp} {x:B.X}
end Go.Proofs.Ytnnpdmhmpgmpnaa
namespace Go.Proofs.Ytnnpdmhmpgmpnaa
open Go Go.PB
attribute [local irreducible] Mo Bin Eql Tr Wo Ap
section
section
variable {B:Hand} [Lets B] {L F G:List HProp} {x:B.X} {n k v:Nat}
def yes (q:Bool):Nat:=if q then 1 else 0
end
end
section
def RdTr (L:List HProp) (a:Option Addr) (l:List (Nat × (Int × Int))):Prop:=∀ (i:Nat) t,l[i]?=some t→∃ b o,a=some ⟨b,o,none⟩∧Rds L b (o+3*i) [.int .i64 (t.1:Nat),.int .u8 t.2.1,.int .i64 t.2.2]
def RdI (L:List HProp) (a:Option Addr) (l:List Nat):Prop:=∀ (i:Nat) k,l[i]?=some k→∃ b o,a=some ⟨b,o,none⟩∧Rd L b (o+i) (.int .i64 (k:Nat))
theorem RdTr.there {L:List HProp} {a:Option Addr} {l:List (Nat × (Int × Int))} {d:HProp} (h:RdTr L a l):RdTr (d::L) a l:=fun i t hi=>by
 obtain ⟨b,o,e,r⟩:=h i t hi
 exact ⟨b,o,e,fun j v hj=>.there (r j v hj)⟩
theorem RdI.there {L:List HProp} {a:Option Addr} {l:List Nat} {d:HProp} (h:RdI L a l):RdI (d::L) a l:=fun i t hi=>by
 obtain ⟨b,o,e,r⟩:=h i t hi
 exact ⟨b,o,e,.there r⟩
section
variable {B:Hand} [Lets B] {L F:List HProp} {x:B.X}
end
end
end Go.Proofs.Ytnnpdmhmpgmpnaa
namespace Go.PB
open Go
section
def Dup (c:HProp):Prop:=∀ (L:List HProp) (h:Hp),Star (c::L) h→Star (c::c::L) h
theorem dup_fro {b o:Nat} {vs:List Value}:Dup (fro b o vs):=fun L h s=>fro_two s
theorem dup_base {W:World}:Dup (base W):=fun L h s=>by
 obtain ⟨h1,h2,s1,ha,hL⟩:=s
 exact ⟨⟨fun _ _=>none,h1.ro,fun _=>none,fun _=>none⟩,h,⟨fun _ _ _ e=>s1.r1 _ _ _ e,fun _ _ _ e=>e,fun _ _ _ e=>by simp at e,fun _ _ _ e=>e,fun _ _=>.inl rfl,fun _ _ e=>by simp at e,fun _ _ e=>e,fun _=>.inl rfl,fun _ _ e=>by simp at e,fun _ _ e=>e⟩,ha,h1,h2,s1,ha,hL⟩
theorem all_cons {c:HProp} {M L:List HProp} {h:Hp} (s:Star (all (c::M)::L) h):Star (c::all M::L) h :=
 star_map (star_open (M:=c::M) s) (fun _ z=>z) fun _ z=>star_shut z
theorem cons_all {c:HProp} {M L:List HProp} {h:Hp} (s:Star (c::all M::L) h):Star (all (c::M)::L) h :=
 star_shut (M:=c::M) (star_map s (fun _ z=>z) fun _ z=>star_open z)
theorem dup_all:∀ {M:List HProp},(∀ c∈M,Dup c)→Dup (all M)
 | [],_=>fun L h s=>star_shut (M:=[]) s
 | c::M,hM=>fun L h s=>by
  have s1:=hM c (by simp) _ _ (all_cons s)
  have s2:Star (all M::c::c::L) h:=Ent.star (.take (.there (.there .here)) (.take .here (.take .here .refl))) s1
  have s3:=dup_all (fun d hd=>hM d (by simp [hd])) _ _ s2
  have s4:Star (c::all M::c::all M::L) h:=Ent.star (.take (.there (.there .here)) (.take .here (.take (.there .here) (.take .here .refl)))) s3
  exact cons_all (star_map s4 (fun _ z=>z) fun _ z=>star_map z (fun _ z=>z) fun _ z=>cons_all z)
theorem dup_many {c:HProp} (hc:Dup c) {L:List HProp} {h:Hp} (s:Star (c::L) h):∀ n,Star (all (List.replicate n c)::c::L) h
 | 0=>star_shut (M:=[]) s
 | n+1=>by
  have s1:=dup_many hc s n
  have s2:=hc _ _ (star_swap s1)
  have s3:Star (c::all (List.replicate n c)::c::L) h:=Ent.star (.take .here (.take (.there .here) (.take .here .refl))) s2
  rw [List.replicate_succ]
  exact cons_all s3
theorem star_zip:∀ {As Bs L:List HProp} {h:Hp},As.length=Bs.length→Star (all As::all Bs::L) h→Star (all (List.zipWith (fun a b=>all [a,b]) As Bs)::L) h
 | [],[],L,h,_,s=>star_shut (M:=[]) (star_drop (star_drop s))
 | [],b::Bs,L,h,e,s=>by simp at e
 | a::As,[],L,h,e,s=>by simp at e
 | a::As,b::Bs,L,h,e,s=>by
  have s1:=all_cons s
  have s2:Star (all (b::Bs)::a::all As::L) h:=Ent.star (.take (.there (.there .here)) (.take .here (.take .here .refl))) s1
  have s3:=all_cons s2
  have s4:Star (all As::all Bs::a::b::L) h:=Ent.star (.take (.there (.there (.there .here))) (.take (.there .here) (.take (.there .here) (.take .here .refl)))) s3
  have s5:=star_zip (by simpa using e) s4
  have s6:Star (a::b::all (List.zipWith (fun a b=>all [a,b]) As Bs)::L) h:=Ent.star (.take (.there .here) (.take (.there .here) (.take .here .refl))) s5
  exact cons_all (star_shut (M:=[_,_]) s6)
theorem star_tail:∀ {M L:List HProp} {h:Hp},Star (M++L) h→Star (all L::M) h
 | [],L,h,s=>star_shut (L:=[]) (by rw [List.append_nil];exact s)
 | c::M,L,h,s=>star_swap (star_map (L:=M++L) s (fun _ z=>z) fun _ z=>star_tail z)
theorem zeros_rep {n:Nat} {v:Value}:zeros n [v]=List.replicate n v:=by
 unfold zeros
 induction n with
 | zero=>rfl
 | succ n ih=>rw [List.replicate_succ,List.flatten_cons,ih,List.replicate_succ];rfl
end
end Go.PB
namespace Go.Proofs.Ytnnpdmhmpgmpnaa
open Go Go.PB
attribute [local irreducible] Mo Bin Eql Tr Wo Ap Wle
section
theorem rd_all {M L:List HProp} {b o:Nat} {v:Value} (r:Rd M b o v):Rd (all M::L) b o v:=fun h s =>
 r h (star_drop (star_tail (star_open s)))
theorem rdso_vec {L F:List HProp} {a:Option Addr} {n c:Nat} {cs:List Value} (hh:Has L (vec 1 (.slice a n c) cs) F) (hn:cs.length=n*1) (hz:a=none→n=0) (hy:∀ y,a=some y→y=⟨y.block,y.off,none⟩):RdsO L a n cs:=by
 refine ⟨by omega,?_⟩
 cases a with
 | none=>exact .inl (hz rfl)
 | some y =>
  obtain ⟨b,o,sp⟩:=y
  cases hy _ rfl
  exact .inr ⟨b,o,rfl,fun i v hi=>rd_vec hh hi⟩
end
section
def nvOk (s:NvS):Prop:=s.w≤5∧s.pk≤5∧0≤s.now∧s.now≤5∧0≤s.most∧s.most≤5
def bkC (bk bin:Nat) (bad:Bool):HProp:=all [arr bk 0 [.int .i64 (bin:Nat),.bool bad]]
def nvW (cb limit:Nat):WGm where
 σ:=NvS
 θ:=NvQ
 ζ:=Int × Int
 wf:=fun s i=>if i=0 then s.w else s.pk
 zf:=fun s=>(s.now,s.most)
 Z:=fun c=>arr cb 0 [.int .i64 c.1,.int .i64 c.2]
 plan:=nvPlan limit
 ok:=nvOk
 Pv:=fun q=>bkC q.bk q.bin q.bad
 up:=fun q h st=>star_open (M:=[_]) st
section
variable {cb r limit sb says turn fin wg:Nat} {Pm:HProp}
abbrev nvAcc (cb r limit sb says turn fin wg:Nat) (Pm:HProp):Acc tH (gateV sb):=gamAcc (nvW cb limit) (gAddr r) 2 (gK r limit) (g_apart r limit) sb says turn fin wg Pm
theorem nv_at (h1:1≤limit) (h2:limit≤1048576):GaugeAt (nvAcc cb r limit sb says turn fin wg Pm) r limit:=⟨h1,h2,fun s=>rd_all (Rd.of .here gC_rd),fun w _=>rfl⟩
structure NvAt (s:GaS (nvW cb limit)) (q:NvQ) (c:Int × Int):Prop where
 q:s.q=q
 f:∀ i,i<2→s.f i=(nvW cb limit).wf s.s i
 c:c=(nvW cb limit).zf s.s
def nvB (c:Int × Int):Prop:=0≤c.1∧c.1≤5∧0≤c.2∧c.2≤5
theorem nv_ok0 {s:NvS} (h:nvOk s):nvB (s.now,s.most):=⟨h.2.2.1,h.2.2.2.1,h.2.2.2.2.1,h.2.2.2.2.2⟩
variable {a:Bool} {rest:List Bool} {bin bk:Nat} {bad:Bool}
theorem nv_enter (hl:limit≤5) {s:GaS (nvW cb limit)} (hs:NvAt s ⟨a::rest,bin,bad,.eL,bk⟩ s.c) :
  EnterT (nvAcc cb r limit sb says turn fin wg (bkC bk bin bad)) limit s fun ok s'=>nvB s'.c∧NvAt s' ⟨a::rest,if ok=true then bin+1 else bin,bad,.g0,bk⟩ (if ok=true then ((show Int × Int from s'.c).1+1,max (show Int × Int from s'.c).2 ((show Int × Int from s'.c).1+1)) else s'.c):=by
 -- the second loop
 have H2:∀ n,n<limit→∀ X:GaS (nvW cb limit)→Prop,(∀ s,Enter2F (nvAcc cb r limit sb says turn fin wg (bkC bk bin bad)) n (fun ok s'=>nvB s'.c∧NvAt s' ⟨a::rest,if ok=true then bin+1 else bin,bad,.g0,bk⟩ (if ok=true then ((show Int × Int from s'.c).1+1,max (show Int × Int from s'.c).2 ((show Int × Int from s'.c).1+1)) else s'.c)) X s→X s)→∀ (N:Nat) (s:GaS (nvW cb limit)),s.n<N→NvAt s ⟨a::rest,bin,bad,.pL (n+1),bk⟩ s.c→X s:=by
  intro n hn X hX N
  induction N with
  | zero=>intro s hN;omega
  | succ N ih =>
   intro s hN hs
   refine hX _ ?_
   unfold Enter2F
   refine ga_go (op:=1) (F:=fun s=>if n+1≤s.pk then (nvIn s (n+1),⟨a::rest,bin+1,bad,.g0,bk⟩) else (s,⟨a::rest,bin,bad,.pC (n+1) s.pk,bk⟩)) rfl (by rw [hs.q];rfl) hs.f hs.c (by rw [hs.q];exact fun h z=>z) fun s' m hm hok=>⟨by omega,?_⟩
   replace hok:nvOk s':=hok
   show if n<s'.pk then _ else _
   by_cases c1:n<s'.pk
   ·have c1':n+1≤s'.pk:=c1
    rw [if_pos c1]
    simp only [if_pos c1']
    exact ⟨nv_ok0 hok,⟨rfl,fun i _=>rfl,rfl⟩⟩
   ·have c1':¬ n+1≤s'.pk:=c1
    rw [if_neg c1]
    simp only [if_neg c1']
    refine ga_go (op:=5) (F:=fun s=>if s.pk=s'.pk then (nvIn { s with pk:=n+1 } (n+1),⟨a::rest,bin+1,bad,.g0,bk⟩) else (s,⟨a::rest,bin,bad,.pL (n+1),bk⟩)) rfl rfl (fun i _=>rfl) rfl (fun h z=>z) fun s2 m2 hm2 hok2=>⟨by omega,?_⟩
    replace hok2:nvOk s2:=hok2
    show if s2.pk=s'.pk then _ else _
    by_cases c3:s2.pk=s'.pk
    ·rw [if_pos c3]
     show ite (true=true) _ _
     rw [if_pos rfl]
     simp only [if_pos c3]
     refine ⟨nv_ok0 hok2,⟨rfl,fun i hi=>?_,rfl⟩⟩
     obtain rfl | rfl:i=0∨i=1:=by omega
     ·rfl
     ·show upd ((nvW cb limit).wf s2) 1 ((n+1)%18446744073709551616) 1=n+1
      rw [upd_same,Nat.mod_eq_of_lt (by omega)]
    ·rw [if_neg c3]
     simp only [if_neg c3]
     show ite (false=true) _ _
     rw [if_neg (by decide)]
     exact ih _ (by dsimp only at hm hm2 ⊢;omega) ⟨rfl,fun i _=>rfl,rfl⟩
 unfold EnterT
 refine ga_go (op:=1) (F:=fun s=>if limit≤s.w then (s,⟨a::rest,bin,bad,.g0,bk⟩) else (s,⟨a::rest,bin,bad,.eC s.w,bk⟩)) rfl (by rw [hs.q];rfl) hs.f hs.c (by rw [hs.q];exact fun h z=>z) fun s1 m1 hm1 hok1=>⟨by omega,fun hn X hX=>?_⟩
 suffices H:∀ (N:Nat) (s':NvS) (m:Nat),m<N→nvOk s'→X (s'.w,⟨(nvW cb limit).wf s',(nvW cb limit).zf s',(if limit≤s'.w then (s',(⟨a::rest,bin,bad,.g0,bk⟩:NvQ)) else (s',⟨a::rest,bin,bad,.eC s'.w,bk⟩)).1,(if limit≤s'.w then (s',(⟨a::rest,bin,bad,.g0,bk⟩:NvQ)) else (s',⟨a::rest,bin,bad,.eC s'.w,bk⟩)).2,m⟩) from H (m1+1) s1 m1 (Nat.lt_succ_self _) hok1
 intro N
 induction N with
 | zero=>intro s' m hN;omega
 | succ N ih =>
  intro s' m hN hok
  refine hX _ ?_
  unfold Enter1F
  refine ⟨by have:=hok.1;show s'.w<_;omega,?_⟩
  dsimp only
  by_cases c1:limit≤s'.w
  ·simp only [if_pos c1]
   exact ⟨nv_ok0 hok,⟨rfl,fun i _=>rfl,rfl⟩⟩
  ·simp only [if_neg c1]
   have hlim:=hok.1
   refine ga_go (op:=5) (F:=fun s=>if s.w=s'.w then ({ s with w:=s'.w+1 },⟨a::rest,bin,bad,.pL (s'.w+1),bk⟩) else (s,⟨a::rest,bin,bad,.eL,bk⟩)) rfl rfl (fun i _=>rfl) rfl (fun h z=>z) fun s2 m2 hm2 hok2=>⟨by omega,?_⟩
   replace hok2:nvOk s2:=hok2
   show if s2.w=s'.w then _ else _
   by_cases c3:s2.w=s'.w
   ·rw [if_pos c3]
    show ite (true=true) _ _
    rw [if_pos rfl]
    simp only [if_pos c3]
    intro X2 hX2
    refine H2 s'.w (by omega) X2 hX2 _ _ (Nat.lt_succ_self _) ⟨rfl,fun i hi=>?_,rfl⟩
    obtain rfl | rfl:i=0∨i=1:=by omega
    ·show upd ((nvW cb limit).wf s2) 0 ((s'.w+1)%18446744073709551616) 0=s'.w+1
     rw [upd_same,Nat.mod_eq_of_lt (by omega)]
    ·rfl
   ·rw [if_neg c3]
    simp only [if_neg c3]
    show ite (false=true) _ _
    rw [if_neg (by decide)]
    refine ga_go (op:=1) (F:=fun s=>if limit≤s.w then (s,⟨a::rest,bin,bad,.g0,bk⟩) else (s,⟨a::rest,bin,bad,.eC s.w,bk⟩)) rfl rfl (fun i _=>rfl) rfl (fun h z=>z) fun s3 m3 hm3 hok3=>⟨by omega,fun hn'=>?_⟩
    exact ih s3 m3 (by dsimp only at hm2 hm3 ⊢;omega) hok3
theorem nv_leave {s:GaS (nvW cb limit)} (hs:NvAt s ⟨a::rest,bin,false,.lL,bk⟩ s.c) :
  LeaveT (nvAcc cb r limit sb says turn fin wg (bkC bk bin false)) s fun e s'=>(e=0∨e=3)∧nvB s'.c∧NvAt s' ⟨a::rest,bin,decide (e≠0),.g0,bk⟩ s'.c:=by
 intro X hX
 suffices H:∀ (N:Nat) (s:GaS (nvW cb limit)),s.n<N→NvAt s ⟨a::rest,bin,false,.lL,bk⟩ s.c→X s from H (s.n+1) s (Nat.lt_succ_self _) hs
 intro N
 induction N with
 | zero=>intro s hN;omega
 | succ N ih =>
  intro s hN hs
  refine hX _ ?_
  unfold LeaveF
  refine ga_go (op:=1) (F:=fun s=>if s.w=0 then (s,⟨a::rest,bin,true,.g0,bk⟩) else (s,⟨a::rest,bin,false,.lC s.w,bk⟩)) rfl (by rw [hs.q];rfl) hs.f hs.c (by rw [hs.q];exact fun h z=>z) fun s' m hm hok=>⟨by omega,?_⟩
  replace hok:nvOk s':=hok
  show if s'.w=0 then _ else _
  by_cases c1:s'.w=0
  ·rw [if_pos c1]
   simp only [if_pos c1]
   exact ⟨.inr (by decide),nv_ok0 hok,⟨rfl,fun i _=>rfl,rfl⟩⟩
  ·rw [if_neg c1]
   simp only [if_neg c1]
   have hw5:=hok.1
   obtain ⟨v,hv⟩:∃ v,(s'.w+18446744073709551616-1)%18446744073709551616=v:=⟨_,rfl⟩
   have hv':v=s'.w-1:=by omega
   show (nvAcc cb r limit sb says turn fin wg (bkC bk bin false)).step 5 0 _ fun s=>(nvAcc cb r limit sb says turn fin wg (bkC bk bin false)).cas 0 s'.w ((s'.w+18446744073709551616-1)%18446744073709551616) s _
   rw [hv]
   refine ga_go (op:=5) (F:=fun s=>if s.w=s'.w then ({ s with w:=s'.w-1 },⟨a::rest,bin,false,.g0,bk⟩) else (s,⟨a::rest,bin,false,.lL,bk⟩)) rfl rfl (fun i _=>rfl) rfl (fun h z=>z) fun s2 m2 hm2 hok2=>⟨by omega,?_⟩
   replace hok2:nvOk s2:=hok2
   show if s2.w=s'.w then _ else _
   by_cases c3:s2.w=s'.w
   ·rw [if_pos c3]
    show ite (true=true) _ _
    rw [if_pos rfl]
    simp only [if_pos c3]
    refine ⟨.inl (by decide),nv_ok0 hok2,⟨rfl,fun i hi=>?_,rfl⟩⟩
    obtain rfl | rfl:i=0∨i=1:=by omega
    ·show upd ((nvW cb limit).wf s2) 0 v 0=s'.w-1
     rw [upd_same,hv']
    ·rfl
   ·rw [if_neg c3]
    simp only [if_neg c3]
    show ite (false=true) _ _
    rw [if_neg (by decide)]
    exact ih _ (by dsimp only at hm hm2 ⊢;omega) ⟨rfl,fun i _=>rfl,rfl⟩
def NvH (rl:List Bool) (bin:Nat) (bad:Bool) (bk:Nat) (s:GaS (nvW cb limit)):Prop :=
 ∃ S:NvS,nvB (S.now,S.most)∧s.c=(S.now,S.most)∧(∀ i,i<2→s.f i=(nvW cb limit).wf S i)∧s.s=(nvNext S rl bin bad bk).1∧s.q=(nvNext S rl bin bad bk).2
theorem nv_get {s:GaS (nvW cb limit)} (hs:NvAt s ⟨a::rest,bin,bad,.g0,bk⟩ s.c) :
  GetT (nvAcc cb r limit sb says turn fin wg (bkC bk bin bad)) s fun x y s'=>NvH rest bin (bad||decide (limit<x)||decide (limit<y)) bk s':=by
 unfold GetT
 refine ga_go (op:=1) (F:=fun s=>(s,⟨a::rest,bin,bad,.g1 s.w,bk⟩)) rfl (by rw [hs.q];rfl) hs.f hs.c (by rw [hs.q];exact fun h z=>z) fun s' m hm hok=>⟨by omega,?_⟩
 refine ga_go (op:=1) (F:=fun s=>nvNext s rest bin (bad||decide (limit<s'.w)||decide (limit<s.pk)) bk) rfl rfl (fun i _=>rfl) rfl (fun h z=>z) fun s2 m2 hm2 hok2=>⟨by omega,?_⟩
 exact ⟨s2,nv_ok0 hok2,rfl,fun i _=>rfl,rfl,rfl⟩
end
end
section
section
variable {cb bk r limit sb says turn fin wg bin:Nat} {bad:Bool} {f:Nat→Nat} {F:List HProp} {h:Hp} {now most:Int}
theorem nv_open {c:Int × Int} (hc:(now,most)=c) (st:Star (gaC (nvW cb limit) (gAddr r) 2 (gK r limit) sb says turn fin (bkC bk bin bad) f c::F) h) :
  Star (arr bk 0 [.int .i64 (bin:Nat),.bool bad]::arr cb 0 [.int .i64 now,.int .i64 most]::wds (gAddr r) 2 (gK r limit) f::seatR sb says turn fin::F) h:=by
 subst hc
 have s1:Star (wds (gAddr r) 2 (gK r limit) f::arr cb 0 [.int .i64 now,.int .i64 most]::seatR sb says turn fin::all [arr bk 0 [.int .i64 (bin:Nat),.bool bad]]::F) h:=star_open (M:=[_,_,_,_]) st
 have s2:Star (all [arr bk 0 [.int .i64 (bin:Nat),.bool bad]]::arr cb 0 [.int .i64 now,.int .i64 most]::wds (gAddr r) 2 (gK r limit) f::seatR sb says turn fin::F) h:=Ent.star (.take (.there (.there (.there .here))) (.take (.there .here) (.take .here (.take .here .refl)))) s1
 exact star_open (M:=[_]) s2
theorem nv_shut (st:Star (arr bk 0 [.int .i64 (bin:Nat),.bool bad]::arr cb 0 [.int .i64 now,.int .i64 most]::wds (gAddr r) 2 (gK r limit) f::seatR sb says turn fin::F) h) :
  Star (gaC (nvW cb limit) (gAddr r) 2 (gK r limit) sb says turn fin (bkC bk bin bad) f (now,most)::F) h:=by
 have s1:Star (bkC bk bin bad::arr cb 0 [.int .i64 now,.int .i64 most]::wds (gAddr r) 2 (gK r limit) f::seatR sb says turn fin::F) h:=star_shut (M:=[_]) st
 exact star_shut (M:=[_,_,_,_]) (Ent.star (.take (.there (.there .here)) (.take (.there .here) (.take (.there .here) (.take .here .refl)))) s1)
end
instance {ι:Type} {I:PB.Inv ι TX} {n:Nat} {z z':Z} {K:Post tH} [p:Pass K z']:Pass (B:=tH) (midK (B:=tH) I n z K) z':=⟨fun ch t h x q=>p.ok ch t h x q⟩
def nvInv (cb bk r limit sb says turn fin wg:Nat) (wa:Option Addr) (wc:Nat) (what:List Bool) (F:List HProp):PB.Inv (Nat × Nat × Bool × GaS (nvW cb limit)) TX where
 e:=fun i=>[(0,.pointer (some ⟨cb,0,none⟩)),(1,.pointer (some ⟨bk,0,none⟩)),(2,.pointer (some ⟨r,0,none⟩)),(3,gateV sb),(4,.slice wa what.length wc),(5,.int .u64 (limit:Nat)),(12,.int .i64 (i.1:Nat))]
 L:=fun i=>gaC (nvW cb limit) (gAddr r) 2 (gK r limit) sb says turn fin (bkC bk i.2.1 i.2.2.1) i.2.2.2.f i.2.2.2.c::F
 x:=fun i=>tx ((nvW cb limit).g (gAddr r) 2 (gK r limit)) says turn fin wg (.busy i.2.2.2.s i.2.2.2.q i.2.2.2.n)
 ok:=fun i=>i.1≤what.length∧i.2.1≤i.1∧NvH (what.drop i.1) i.2.1 i.2.2.1 bk i.2.2.2
def nvMid (cb bk r limit sb says turn fin wg:Nat) (wa:Option Addr) (wc:Nat) (what:List Bool) (F:List HProp) (i:Nat) (a:Bool) (rest:List Bool):PB.Inv (Nat × Bool × GaS (nvW cb limit)) TX where
 e:=fun _=>[(0,.pointer (some ⟨cb,0,none⟩)),(1,.pointer (some ⟨bk,0,none⟩)),(2,.pointer (some ⟨r,0,none⟩)),(3,gateV sb),(4,.slice wa what.length wc),(5,.int .u64 (limit:Nat)),(12,.int .i64 (i:Nat))]
 L:=fun j=>gaC (nvW cb limit) (gAddr r) 2 (gK r limit) sb says turn fin (bkC bk j.1 j.2.1) j.2.2.f j.2.2.c::F
 x:=fun j=>tx ((nvW cb limit).g (gAddr r) 2 (gK r limit)) says turn fin wg (.busy j.2.2.s j.2.2.q j.2.2.n)
 ok:=fun j=>j.1≤i+1∧NvAt j.2.2 ⟨a::rest,j.1,j.2.1,.g0,bk⟩ j.2.2.c
section
variable {cb bk r limit sb says turn fin wg:Nat}
set_option maxHeartbeats 4000000 in
theorem walks_tr {wa:Option Addr} {wc:Nat} {what:List Bool} {F:List HProp} {s:GaS (nvW cb limit)} (h1:1≤limit) (h5:limit≤5) (hlen:what.length≤10) (hw:RdsO F wa what.length (what.map .bool)) (hs:NvH what 0 false bk s) :
  Tr Try.prog tH 43 [.pointer (some ⟨cb,0,none⟩),.pointer (some ⟨bk,0,none⟩),.pointer (some ⟨r,0,none⟩),gateV sb,.slice wa what.length wc,.int .u64 (limit:Nat)] (gaC (nvW cb limit) (gAddr r) 2 (gK r limit) sb says turn fin (bkC bk 0 false) s.f s.c::F) (tx ((nvW cb limit).g (gAddr r) 2 (gK r limit)) says turn fin wg (.busy s.s s.q s.n)) fun v L' x' =>
   ∃ bin bad s',NvH [] bin bad bk s'∧v=.tuple #[]∧L'=gaC (nvW cb limit) (gAddr r) 2 (gK r limit) sb says turn fin (bkC bk bin bad) s'.f s'.c::F∧x'=tx ((nvW cb limit).g (gAddr r) 2 (gK r limit)) says turn fin wg (.busy s'.s s'.q s'.n):=by
 have A1:∀ {Pm:HProp},GaugeAt (nvAcc cb r limit sb says turn fin wg Pm) r limit:=fun {Pm}=>nv_at h1 (by omega)
 refine tr_of_body Try.func43 rfl Try.ntmps43 (by simp) fun um Q _ hQ=>?_
 simp only [argE,Nat.zero_add,Nat.reduceAdd]
 repeat (first | refine we_seq ?_ | (refine wR ?_;try simp only [oS]) | refine wo_nil ?_ | refine wA ?_ | refine we_block ?_)
 refine we_loopN (nvInv cb bk r limit sb says turn fin wg wa wc what F) (fun i=>what.length-i.1) (0,0,false,s) ⟨Nat.zero_le _,Nat.zero_le _,hs⟩ ⟨rfl,rfl,rfl,rfl,rfl,rfl,rfl,trivial⟩ .refl rfl ?_
 clear hs s
 rintro ⟨i,bin,bad,s⟩ ⟨hi,hbi,S,hB,hc,hf,hs,hq⟩
 dsimp only at hi hbi hB hc hf hs hq
 simp only [nvInv]
 by_cases hlt:i<what.length
 ·obtain ⟨a,ha⟩:∃ a,what[i]?=some a:=⟨what[i],List.getElem?_eq_getElem hlt⟩
  obtain ⟨wb,wo,rfl,hrd⟩:=hw.rds (by omega)
  have hra:∀ {c:HProp},Rd (c::F) wb (wo+i) (.bool a):=fun {c}=>.there (hrd i _ (by rw [List.getElem?_map,ha];rfl))
  obtain ⟨rest,hrest⟩:∃ rest,what.drop (i+1)=rest:=⟨_,rfl⟩
  have hdr:what.drop i=a::rest:=by
   rw [List.drop_eq_getElem_cons hlt,(List.getElem?_eq_some_iff.1 ha).2,hrest]
  rw [hdr] at hs hq
  repeat (first | (apply wo_po;apply mo_index1;exact rfl;exact rfl;omega;exact trivial) | (apply wo_po;apply mo_load;exact rfl;exact hra;exact trivial) | refine wlssT ?_ | refine we_seq ?_ | (refine wR ?_;try simp only [oS]) | refine wo_nil ?_ | refine wM ?_ | refine wE ?_ | refine wT ?_ | refine we_skip ?_ | refine we_block ?_)
  refine we_join (nvMid cb bk r limit sb says turn fin wg (some ⟨wb,wo,none⟩) wc what F i a rest) ?_ ?_
  ·cases a with
   | true =>
    have hA:NvAt s ⟨true::rest,bin,bad,.eL,bk⟩ s.c:=⟨by rw [hq];rfl,fun i h=>by rw [hf i h,hs];rfl,by rw [hc,hs];rfl⟩
    repeat (first | refine we_seq ?_ | (refine wR ?_;try simp only [oS]) | refine wM ?_ | refine wT ?_)
    refine wo_call (.cons rfl (.cons rfl .nil)) trivial (enter_tr (A:=nvAcc cb r limit sb says turn fin wg (bkC bk bin bad)) A1 (nv_enter h5 hA) .here) ?_
    rintro v L' x' ⟨ok,s',⟨hB',hA'⟩,rfl,rfl,rfl⟩
    obtain ⟨c0,hc0⟩:∃ c0:Int × Int,c0=(show Int × Int from s'.c):=⟨_,rfl⟩
    have hB2:nvB c0:=by rw [hc0];exact hB'
    have hA2:NvAt s' ⟨true::rest,if ok=true then bin+1 else bin,bad,.g0,bk⟩ (if ok=true then (c0.1+1,max c0.2 (c0.1+1)) else c0):=by rw [hc0];exact hA'
    obtain ⟨now,most⟩:=c0
    obtain ⟨b1,b2,b3,b4⟩:=hB2
    dsimp only at b1 b2 b3 b4 hA2
    have hadd:IntKind.i64.wrap ((bin:Int)+1)=((bin+1:Nat):Int):=(wrap_i64 (by omega) (by omega)).trans (by omega)
    refine wo_star (arr bk 0 [.int .i64 (bin:Nat),.bool bad]::arr cb 0 [.int .i64 now,.int .i64 most]::wds (gAddr r) 2 (gK r limit) s'.f::seatR sb says turn fin::F) (fun hp st=>nv_open hc0 st) ?_
    cases ok
    ·obtain ⟨hq',hf',hs'⟩:=hA2
     simp only [Bool.false_eq_true,if_false] at hq' hs'
     cases bad
     all_goals
      repeat (first | refine wS ?_ | refine wneqF ?_ | refine we_seq ?_ | (refine wR ?_;try simp only [oS]) | refine wo_nil ?_ | refine wM ?_ | refine wA ?_ | (apply wo_no;exact rfl) | refine wK ?_ | refine wJ ?_ | refine wN ?_ | refine wD ?_ | (apply wo_po;apply mo_extract;exact rfl;exact rfl;exact gY) | refine wL ?_ | refine wF ?_ | refine we_skip ?_)
      refine at_midS (B:=tH) (I:=nvMid cb bk r limit sb says turn fin wg (some ⟨wb,wo,none⟩) wc what F i true rest) (bin,_,{ s' with c:=(now,most) }) ⟨by show bin≤i+1;omega,hq',hf',hs'⟩ ⟨rfl,rfl,rfl,rfl,rfl,rfl,rfl,trivial⟩ (fun hp st=>nv_shut st) rfl
    ·obtain ⟨hq',hf',hs'⟩:=hA2
     simp only [if_true] at hq' hs'
     cases bad
     all_goals
      repeat (first | (apply wo_po;apply mo_bin;exact rfl;exact rfl;apply bin_add;exact hadd;exact trivial) | refine wS ?_ | refine wneqF ?_ | refine we_seq ?_ | (refine wR ?_;try simp only [oS]) | refine wo_nil ?_ | refine wM ?_ | refine wA ?_ | (apply wo_no;exact rfl) | refine wK ?_ | refine wJ ?_ | refine wN ?_ | refine wD ?_ | (apply wo_po;apply mo_extract;exact rfl;exact rfl;exact gY) | refine wL ?_ | refine wadd ?_ | refine wT ?_)
      refine we_draw (List.range' 0 13) (by kernel_rfl) ?_
      repeat (first | (apply ap_pure;exact rfl;exact rfl;exact trivial;intro L;apply mo_max;exact rfl;exact rfl) | refine aM ?_ | refine aN ?_ | refine aD ?_ | refine aL ?_)
      refine ap_loud rfl rfl rfl rfl rfl trivial (mo_store rfl rfl rfl (Wt.row0 (k:=1) (vs:=[.int .i64 (now+1),.int .i64 most]) (.there .here) (Nat.lt_succ_self 1))) ?_
      rintro v' L' ⟨rfl,rfl⟩
      repeat (first | refine ap_end ?_)
      skip
      refine at_midS (B:=tH) (I:=nvMid cb bk r limit sb says turn fin wg (some ⟨wb,wo,none⟩) wc what F i true rest) (bin+1,_,{ s' with c:=(now+1,max most (now+1)) }) ⟨by show bin+1≤i+1;omega,hq',hf',hs'⟩ ⟨rfl,rfl,rfl,rfl,rfl,rfl,rfl,trivial⟩ (fun hp st=>nv_shut st) rfl
   | false =>
    obtain ⟨c0,hc0⟩:∃ c0:Int × Int,c0=(show Int × Int from s.c):=⟨_,rfl⟩
    have hc1:c0=(S.now,S.most):=hc0.trans hc
    obtain ⟨now,most⟩:=c0
    obtain ⟨rfl,rfl⟩:=Prod.mk.inj hc1
    obtain ⟨b1,b2,b3,b4⟩:=hB
    dsimp only at b1 b2 b3 b4
    refine we_star (arr bk 0 [.int .i64 (bin:Nat),.bool bad]::arr cb 0 [.int .i64 S.now,.int .i64 S.most]::wds (gAddr r) 2 (gK r limit) s.f::seatR sb says turn fin::F) (fun hp st=>nv_open hc0 st) ?_
    by_cases hb0:0<bin
    ·simp only [nvNext,if_pos hb0] at hs hq
     have hsub:IntKind.i64.wrap ((bin:Int)-1)=((bin-1:Nat):Int):=(wrap_i64 (by omega) (by omega)).trans (by omega)
     cases bad
     ·simp only [Bool.false_eq_true,if_false] at hq
      repeat (first | (apply wo_po;apply mo_bin;exact rfl;exact rfl;apply bin_sub;exact hsub;exact trivial) | refine wS ?_ | refine wgtrT ?_ | refine we_seq ?_ | (refine wR ?_;try simp only [oS]) | refine wo_nil ?_ | refine wM ?_ | refine wN ?_ | refine wD ?_ | refine wL ?_ | refine wsub ?_ | refine wT ?_ | refine wF ?_)
      refine wo_star (gaC (nvW cb limit) (gAddr r) 2 (gK r limit) sb says turn fin (bkC bk (bin-1) false) s.f (S.now-1,S.most)::F) (fun hp st=>nv_shut st) ?_
      refine wo_call (.cons rfl (.cons rfl .nil)) rfl (leave_tr (A:=nvAcc cb r limit sb says turn fin wg (bkC bk (bin-1) false)) (s:={ s with c:=(S.now-1,S.most) }) A1 (nv_leave ⟨hq,fun i h=>by rw [hs];exact hf i h,by rw [hs];rfl⟩) .here) ?_
      rintro v L' x' ⟨e,s',⟨he,hB',hA'⟩,rfl,rfl,rfl⟩
      obtain ⟨c0,hc0⟩:∃ c0:Int × Int,c0=(show Int × Int from s'.c):=⟨_,rfl⟩
      obtain ⟨now,most⟩:=c0
      refine wo_star (arr bk 0 [.int .i64 (bin-1:Nat),.bool false]::arr cb 0 [.int .i64 now,.int .i64 most]::wds (gAddr r) 2 (gK r limit) s'.f::seatR sb says turn fin::F) (fun hp st=>nv_open hc0 st) ?_
      obtain ⟨hq',hf',hs'⟩:=hA'
      rcases he with rfl | rfl
      all_goals
       repeat (first | refine wS ?_ | refine wneqT ?_ | refine wneqF ?_ | refine wo_nil ?_ | refine wJ ?_ | refine wN ?_ | refine wD ?_)
       refine at_midS (B:=tH) (I:=nvMid cb bk r limit sb says turn fin wg (some ⟨wb,wo,none⟩) wc what F i false rest) (bin-1,_,{ s' with c:=(now,most) }) ⟨by show bin-1≤i+1;omega,hq',hf',hc0.trans hs'⟩ ⟨rfl,rfl,rfl,rfl,rfl,rfl,rfl,trivial⟩ (fun hp st=>nv_shut st) rfl
     ·simp only [if_true] at hq
      repeat (first | (apply wo_po;apply mo_bin;exact rfl;exact rfl;apply bin_sub;exact hsub;exact trivial) | refine wS ?_ | refine wgtrT ?_ | refine we_seq ?_ | (refine wR ?_;try simp only [oS]) | refine wo_nil ?_ | refine wM ?_ | (apply wo_no;exact rfl) | refine wK ?_ | refine wN ?_ | refine wD ?_ | refine wL ?_ | refine wsub ?_ | refine wT ?_ | refine wF ?_)
      refine at_midS (B:=tH) (I:=nvMid cb bk r limit sb says turn fin wg (some ⟨wb,wo,none⟩) wc what F i false rest) (bin-1,true,{ s with c:=(S.now-1,S.most) }) ⟨by show bin-1≤i+1;omega,hq,fun i h=>by rw [hs];exact hf i h,by rw [hs];rfl⟩ ⟨rfl,rfl,rfl,rfl,rfl,rfl,rfl,trivial⟩ (fun hp st=>nv_shut st) rfl
    ·simp only [nvNext,if_neg hb0] at hs hq
     repeat (first | refine wgtrF ?_ | refine we_seq ?_ | (refine wR ?_;try simp only [oS]) | refine wo_nil ?_ | refine wM ?_ | refine wN ?_ | refine wD ?_ | refine wL ?_ | refine wF ?_ | refine we_skip ?_)
     refine at_midS (B:=tH) (I:=nvMid cb bk r limit sb says turn fin wg (some ⟨wb,wo,none⟩) wc what F i false rest) (bin,bad,{ s with c:=(S.now,S.most) }) ⟨by show bin≤i+1;omega,hq,fun i h=>by rw [hs];exact hf i h,by rw [hs];rfl⟩ ⟨rfl,rfl,rfl,rfl,rfl,rfl,rfl,trivial⟩ (fun hp st=>nv_shut st) rfl
  ·clear hs hq hf hc hB S hbi s
   rintro ⟨bin2,bad2,s⟩ ⟨hb2,hA⟩
   dsimp only at hb2 hA
   simp only [nvMid]
   repeat (first | refine we_seq ?_ | (refine wR ?_;try simp only [oS]) | refine wM ?_)
   refine wo_call (.cons rfl (.cons rfl .nil)) trivial (get_tr (A:=nvAcc cb r limit sb says turn fin wg (bkC bk bin2 bad2)) A1 (nv_get hA) .here) ?_
   rintro v L' x' ⟨x0,y0,s',hN,hx0,hy0,rfl,rfl,rfl⟩
   obtain ⟨c0,hc0⟩:∃ c0:Int × Int,c0=(show Int × Int from s'.c):=⟨_,rfl⟩
   obtain ⟨now,most⟩:=c0
   obtain ⟨bad3,hbad3⟩:∃ b,(bad2||decide (limit<x0)||decide (limit<y0))=b:=⟨_,rfl⟩
   rw [hbad3] at hN
   have hN2:NvH (what.drop (i+1)) bin2 bad3 bk { s' with c:=(now,most) }:=by
    rw [hrest]
    obtain ⟨S,n1,n2,n3,n4,n5⟩:=hN
    exact ⟨S,n1,hc0.trans n2,n3,n4,n5⟩
   refine wo_star (arr bk 0 [.int .i64 (bin2:Nat),.bool bad2]::arr cb 0 [.int .i64 now,.int .i64 most]::wds (gAddr r) 2 (gK r limit) s'.f::seatR sb says turn fin::F) (fun hp st=>nv_open hc0 st) ?_
   cases bad2
   ·by_cases hx:limit<x0
    ·obtain rfl:bad3=true:=by rw [← hbad3];simp [hx]
     repeat (first | refine wS ?_ | refine wgtrT ?_ | refine wneqF ?_ | (refine wR ?_;try simp only [oS]) | refine wo_nil ?_ | refine wM ?_ | refine wA ?_ | (apply wo_no;exact rfl) | refine wK ?_ | refine wJ ?_ | refine wN ?_ | refine wD ?_ | (apply wo_po;apply mo_extract;exact rfl;exact rfl;exact gY) | refine wL ?_ | refine wadd ?_)
     refine at_roundS (B:=tH) (I:=nvInv cb bk r limit sb says turn fin wg (some ⟨wb,wo,none⟩) wc what F) (R:=fun j=>what.length-j.1<what.length-i) (i+1,bin2,true,{ s' with c:=(now,most) }) (by show what.length-(i+1)<what.length-i;omega) ⟨by show i+1≤what.length;omega,hb2,hN2⟩ ⟨rfl,rfl,rfl,rfl,rfl,rfl,rfl,trivial⟩ (fun hp st=>nv_shut st) rfl
    ·by_cases hy:limit<y0
     ·obtain rfl:bad3=true:=by rw [← hbad3];simp [hy]
      repeat (first | refine wS ?_ | refine wgtrT ?_ | refine wgtrF ?_ | refine wneqF ?_ | (refine wR ?_;try simp only [oS]) | refine wo_nil ?_ | refine wM ?_ | refine wA ?_ | refine wJ ?_ | refine wN ?_ | refine wD ?_ | (apply wo_po;apply mo_extract;exact rfl;exact rfl;exact gY) | refine wL ?_ | refine wadd ?_)
      refine at_roundS (B:=tH) (I:=nvInv cb bk r limit sb says turn fin wg (some ⟨wb,wo,none⟩) wc what F) (R:=fun j=>what.length-j.1<what.length-i) (i+1,bin2,true,{ s' with c:=(now,most) }) (by show what.length-(i+1)<what.length-i;omega) ⟨by show i+1≤what.length;omega,hb2,hN2⟩ ⟨rfl,rfl,rfl,rfl,rfl,rfl,rfl,trivial⟩ (fun hp st=>nv_shut st) rfl
     ·obtain rfl:bad3=false:=by rw [← hbad3];simp;omega
      repeat (first | refine wS ?_ | refine wgtrF ?_ | refine wneqF ?_ | (refine wR ?_;try simp only [oS]) | refine wo_nil ?_ | refine wM ?_ | refine wA ?_ | refine wJ ?_ | refine wN ?_ | refine wD ?_ | (apply wo_po;apply mo_extract;exact rfl;exact rfl;exact gY) | refine wL ?_ | refine wadd ?_)
      refine at_roundS (B:=tH) (I:=nvInv cb bk r limit sb says turn fin wg (some ⟨wb,wo,none⟩) wc what F) (R:=fun j=>what.length-j.1<what.length-i) (i+1,bin2,false,{ s' with c:=(now,most) }) (by show what.length-(i+1)<what.length-i;omega) ⟨by show i+1≤what.length;omega,hb2,hN2⟩ ⟨rfl,rfl,rfl,rfl,rfl,rfl,rfl,trivial⟩ (fun hp st=>nv_shut st) rfl
   ·obtain rfl:bad3=true:=by rw [← hbad3];simp
    repeat (first | refine wS ?_ | (refine wR ?_;try simp only [oS]) | refine wo_nil ?_ | refine wM ?_ | refine wA ?_ | (apply wo_no;exact rfl) | refine wK ?_ | refine wN ?_ | refine wD ?_ | (apply wo_po;apply mo_extract;exact rfl;exact rfl;exact gY) | refine wL ?_ | refine wadd ?_)
    refine at_roundS (B:=tH) (I:=nvInv cb bk r limit sb says turn fin wg (some ⟨wb,wo,none⟩) wc what F) (R:=fun j=>what.length-j.1<what.length-i) (i+1,bin2,true,{ s' with c:=(now,most) }) (by show what.length-(i+1)<what.length-i;omega) ⟨by show i+1≤what.length;omega,hb2,hN2⟩ ⟨rfl,rfl,rfl,rfl,rfl,rfl,rfl,trivial⟩ (fun hp st=>nv_shut st) rfl
 ·obtain rfl:i=what.length:=by omega
  repeat (first | refine wlssF ?_ | refine we_seq ?_ | (refine wR ?_;try simp only [oS]) | refine wo_nil ?_ | refine wM ?_ | refine wE ?_ | refine wF ?_ | refine we_exit ?_)
  (first | refine or0 Try.func43 Try.results43 hQ ?_ | refine on0 Try.func43 Try.results43 hQ ?_)
  refine ⟨bin,bad,s,⟨S,hB,hc,hf,?_,?_⟩,rfl,rfl,rfl⟩
  ·rw [hs,List.drop_length]
  ·rw [hq,List.drop_length]
structure NvRo (Ro:HProp) (c8 b8 ib p8 l8 cb bk pp r limit:Nat) (bb bo nt bc qb qo qc k:Nat) (wa:Option Addr) (wc:Nat) (what:List Bool):Prop where
 h1:Rd [Ro] c8 0 (.pointer (some ⟨cb,0,none⟩))
 h2:Rd [Ro] b8 0 (.slice (some ⟨bb,bo,none⟩) nt bc)
 h3:Rd [Ro] bb (bo+k) (.pointer (some ⟨bk,0,none⟩))
 h4:Rd [Ro] ib 0 (.int .i64 (k:Nat))
 h5:Rd [Ro] p8 0 (.pointer (some ⟨pp,0,none⟩))
 h6:Rd [Ro] pp (0+0) (.pointer (some ⟨r,0,none⟩))
 h7:Rd [Ro] pp (0+2) (.int .u64 (limit:Nat))
 h8:Rd [Ro] l8 0 (.slice (some ⟨qb,qo,none⟩) nt qc)
 h9:Rd [Ro] qb (qo+k) (.slice wa what.length wc)
 h10:RdsO [Ro] wa what.length (what.map .bool)
 hk:k<nt
 hl:what.length≤10
abbrev nvF (c8 b8 ib p8 l8:Nat):Value:=.func (.func 42) #[] #[.pointer (some ⟨c8,0,none⟩),.pointer (some ⟨b8,0,none⟩),.pointer (some ⟨ib,0,none⟩),.pointer (some ⟨p8,0,none⟩),.pointer (some ⟨l8,0,none⟩)]
theorem nv_next0 {s:NvS} {rl:List Bool} {bad:Bool} {bk:Nat}:(nvNext s rl 0 bad bk).1=s:=by
 unfold nvNext
 split
 ·rfl
 ·rfl
 ·rw [if_neg (by omega)]
set_option maxHeartbeats 2000000 in
theorem nv_ok {c8 b8 ib p8 l8 pp bb bo nt bc qb qo qc k wc:Nat} {wa:Option Addr} {what:List Bool} {Ro:HProp} (h1:1≤limit) (h5:limit≤5) (O:NvRo Ro c8 b8 ib p8 l8 cb bk pp r limit bb bo nt bc qb qo qc k wa wc what) :
  ThrOk ((nvW cb limit).g (gAddr r) 2 (gK r limit)) (fun s=>nvNext s what 0 false bk) (nvF c8 b8 ib p8 l8) (all [Ro,bkC bk 0 false]) where
 run:=by
  refine ⟨_,_,_,rfl,inferInstance,fun sb says turn fin wg (s:NvS) m F hok=>?_⟩
  replace hok:nvOk s:=hok
  show Tr Try.prog tH _ [gateV sb,.pointer (some ⟨c8,0,none⟩),.pointer (some ⟨b8,0,none⟩),.pointer (some ⟨ib,0,none⟩),.pointer (some ⟨p8,0,none⟩),.pointer (some ⟨l8,0,none⟩)] _ (tx ((nvW cb limit).g (gAddr r) 2 (gK r limit)) says turn fin wg (.busy (nvNext s what 0 false bk).1 (nvNext s what 0 false bk).2 m)) _
  refine tr_star (gaC (nvW cb limit) (gAddr r) 2 (gK r limit) sb says turn fin (bkC bk 0 false) ((nvW cb limit).wf s) (s.now,s.most)::Ro::F) (fun hp st=>?_) ?_
  ·have s1:Star (wds (gAddr r) 2 (gK r limit) ((nvW cb limit).wf s)::(nvW cb limit).Z (s.now,s.most)::seatR sb says turn fin::all [Ro,bkC bk 0 false]::F) hp:=star_open (M:=[_,_]) st
   have s2:Star (all [Ro,bkC bk 0 false]::wds (gAddr r) 2 (gK r limit) ((nvW cb limit).wf s)::(nvW cb limit).Z (s.now,s.most)::seatR sb says turn fin::F) hp:=Ent.star (.take (.there (.there (.there .here))) .refl) s1
   have s3:Star (Ro::bkC bk 0 false::wds (gAddr r) 2 (gK r limit) ((nvW cb limit).wf s)::(nvW cb limit).Z (s.now,s.most)::seatR sb says turn fin::F) hp:=star_open (M:=[_,_]) s2
   exact star_shut (M:=[_,_,_,_]) (Ent.star (.take (.there (.there .here)) (.take (.there (.there .here)) (.take (.there (.there .here)) (.take (.there .here) (.take .here .refl))))) s3)
  refine tr_of_body Try.func42 rfl Try.ntmps42 (by simp) fun um Q _ hQ=>?_
  simp only [argE,Nat.zero_add,Nat.reduceAdd]
  have hkn:=O.hk
  have q:∀ {c:HProp} {b o:Nat} {v:Value},Rd [Ro] b o v→Rd (c::Ro::F) b o v:=fun {c b o v} hr=>.there (Rd.of .here hr)
  skip
  refine we_draw (List.range' 0 19) (by kernel_rfl) ?_
  repeat (first | (apply ap_pure;exact rfl;exact rfl;exact trivial;intro L;apply mo_index1;exact rfl;exact rfl;omega) | (apply ap_read;exact rfl;exact rfl;exact trivial;apply mo_load;exact rfl;(first | exact q O.h1 | exact q O.h2 | exact q O.h3 | exact q O.h4 | exact q O.h5 | exact q O.h6 | exact q O.h7 | exact q O.h8 | exact q O.h9)) | refine aM ?_ | refine aN ?_ | refine aD ?_)
  refine ap_callv rfl rfl rfl rfl trivial rfl rfl (.cons rfl (.cons rfl (.cons rfl (.cons rfl (.cons rfl (.cons rfl .nil)))))) (walks_tr (s:=⟨(nvW cb limit).wf s,(s.now,s.most),(nvNext s what 0 false bk).1,(nvNext s what 0 false bk).2,m⟩) h1 h5 O.hl ⟨O.h10.1,O.h10.2.imp id fun ⟨b,o,e,hr⟩=>⟨b,o,e,fun i v hi=>Rd.of .here (hr i v hi)⟩⟩ ⟨s,nv_ok0 hok,rfl,fun _ _=>rfl,rfl,rfl⟩) ?_
  rintro v L' x' ⟨bin,bad,s',⟨S,hB,hc,hf,hs,hq⟩,rfl,rfl,rfl⟩
  repeat (first | refine ap_end ?_)
  skip
  (first | refine or0 Try.func42 Try.results42 hQ ?_ | refine on0 Try.func42 Try.results42 hQ ?_)
  simp only [nvNext] at hs hq
  refine ⟨s'.s,s'.q,s'.n,rfl,?_,fun hp st=>?_⟩
  ·show nvPlan limit s'.q=none
   rw [hq];rfl
  ·have s1:Star (wds (gAddr r) 2 (gK r limit) s'.f::(nvW cb limit).Z s'.c::seatR sb says turn fin::bkC bk bin bad::Ro::F) hp:=star_open (M:=[_,_,_,_]) st
   have s2:Star (wds (gAddr r) 2 (gK r limit) ((nvW cb limit).wf s'.s)::(nvW cb limit).Z s'.c::seatR sb says turn fin::bkC bk bin bad::Ro::F) hp:=star_map s1 (wds_congr fun j hj=>by rw [hf j hj,hs]) fun _ z=>z
   have e1:s'.c=(nvW cb limit).zf s'.s:=by rw [hc,hs];rfl
   rw [e1] at s2
   have s3:Star (((nvW cb limit).g (gAddr r) 2 (gK r limit)).U s'.s::seatR sb says turn fin::bkC bk bin bad::F) hp:=star_shut (M:=[_,_]) (Ent.star (.take .here (.take .here (.take .here (.take .here (.drop .refl))))) s2)
   show Star (_::_::bkC (show NvQ from s'.q).bk (show NvQ from s'.q).bin (show NvQ from s'.q).bad::F) hp
   rw [hq]
   exact s3
end
end
section
section
variable {B:Hand} [Lets B] {x:B.X} {r limit fails wait n p:Nat} {L F:List HProp} {s:Nat→Nat}
theorem enter_yes (h1:1≤limit) (h2:limit≤1048576) (e0:s 0=n) (e1:s 1=p) (hlt:n<limit) (hh:Has L (gC r limit s) F) :
  Tr Try.prog B 19 [.pointer (some ⟨r,0,none⟩),.nilIface] L x fun v L' x'=>∃ s',v=.tuple #[.bool true,.int .i64 0]∧s' 0=n+1∧s' 1=max p (n+1)∧L'=gC r limit s'::F∧x'=x:=by
 refine (enter_lone h1 h2 hh).mono ?_
 rintro v L' x' ⟨rfl,rfl,rfl⟩
 rw [if_pos (by omega),decide_eq_true (show s 0<limit by omega)]
 refine ⟨_,rfl,?_,?_,rfl,rfl⟩
 ·unfold enterS
  split
  ·rw [upd_same];omega
  ·rw [upd_other (by omega),upd_same];omega
 ·unfold enterS
  split
  ·rw [upd_other (by omega)];omega
  ·rw [upd_same];omega
theorem enter_no (h1:1≤limit) (h2:limit≤1048576) (e0:s 0=n) (hge:limit≤n) (hh:Has L (gC r limit s) F) :
  Tr Try.prog B 19 [.pointer (some ⟨r,0,none⟩),.nilIface] L x fun v L' x'=>v=.tuple #[.bool false,.int .i64 0]∧L'=gC r limit s::F∧x'=x:=by
 refine (enter_lone h1 h2 hh).mono ?_
 rintro v L' x' ⟨rfl,rfl,rfl⟩
 rw [if_neg (by omega),decide_eq_false (show ¬ s 0<limit by omega)]
 exact ⟨rfl,rfl,rfl⟩
def pairC (p g b limit fails wait:Nat):HProp:=arr p 0 [.pointer (some ⟨g,0,none⟩),.pointer (some ⟨b,0,none⟩),.int .u64 (limit:Nat),.int .u64 (fails:Nat),.int .u64 (wait:Nat)]
theorem made_tr {l0 f0 w0:Nat} (hl:1+l0%1048576=limit) (hf:1+f0%1048576=fails) (hw:1+w0%1099511627776=wait) :
  Tr Try.prog B 10 [.int .u64 (l0:Nat),.int .u64 (f0:Nat),.int .u64 (w0:Nat)] L x fun v L' x'=>∃ p g b,v=.pointer (some ⟨p,0,none⟩)∧L'=pairC p g b limit fails wait::gC g limit (fun _=>0)::bC b fails wait (fun _=>0)::L∧x'=x:=by
 refine Tr.post (R:=fun v L' x'=>∃ p g b,v=.pointer (some ⟨p,0,none⟩)∧x'=x∧∀ h,Star L' h→Star (pairC p g b limit fails wait::gC g limit (fun _=>0)::bC b fails wait (fun _=>0)::L) h) ?_ (by rintro v L' x' ⟨p,g,b,rfl,rfl,hs⟩;exact ⟨_,⟨p,g,b,rfl,rfl,rfl⟩,hs⟩)
 have r1:(l0:Int).tmod 1048576=((l0%1048576:Nat):Int):=by rw [Int.tmod_eq_emod_of_nonneg (by omega)];omega
 have r2:(f0:Int).tmod 1048576=((f0%1048576:Nat):Int):=by rw [Int.tmod_eq_emod_of_nonneg (by omega)];omega
 have r3:(w0:Int).tmod 1099511627776=((w0%1099511627776:Nat):Int):=by rw [Int.tmod_eq_emod_of_nonneg (by omega)];omega
 have a1:IntKind.u64.wrap ((1:Int)+((l0%1048576:Nat):Int))=((limit:Nat):Int):=(wrap_u64 (by omega) (by omega)).trans (by omega)
 have a2:IntKind.u64.wrap ((1:Int)+((f0%1048576:Nat):Int))=((fails:Nat):Int):=(wrap_u64 (by omega) (by omega)).trans (by omega)
 have a3:IntKind.u64.wrap ((1:Int)+((w0%1099511627776:Nat):Int))=((wait:Nat):Int):=(wrap_u64 (by omega) (by omega)).trans (by omega)
 refine tr_of_body Try.func10 rfl Try.ntmps10 (by simp) fun um Q _ hQ=>?_
 simp only [argE,Nat.zero_add,Nat.reduceAdd]
 repeat (first | (apply wo_po;apply mo_bin;exact rfl;exact rfl;apply bin_rem;omega;(first | exact r1 | exact r2 | exact r3);exact trivial) | (apply wo_po;apply mo_bin;exact rfl;exact rfl;apply bin_add;(first | exact a1 | exact a2 | exact a3);exact trivial) | (apply wo_po;apply mo_buildV;(repeat (first | exact EvL.nil | apply EvL.cons rfl));exact rfl;exact trivial) | (apply wo_mo;apply mo_box;exact rfl;exact trivial) | refine we_seq ?_ | (refine wR ?_;try simp only [oS]) | refine wo_nil ?_ | refine wM ?_ | refine wA ?_)
 rintro v' L' ⟨p,rfl,rfl⟩
 refine wo_ent (arr p 0 [.pointer none,.pointer none,.int .u64 (limit:Nat),.int .u64 (fails:Nat),.int .u64 (wait:Nat)]::L) .refl ?_
 repeat (first | refine we_seq ?_ | (refine wR ?_;try simp only [oS]) | refine wo_nil ?_ | refine wM ?_ | refine wA ?_ | refine wN ?_ | refine wD ?_ | refine wL ?_)
 refine wo_call (.cons rfl .nil) trivial (new_tr (by omega) (by omega)) ?_
 rintro v' L' x' ⟨g,rfl,rfl,rfl⟩
 repeat (first | refine we_seq ?_ | refine wo_nil ?_ | refine wM ?_ | refine wA ?_ | (apply wo_po;apply mo_extract;exact rfl;exact rfl;exact gY))
 refine we_draw (List.range' 0 14) (by kernel_rfl) ?_
 repeat (first | refine aM ?_ | refine aN ?_ | refine aD ?_ | refine aL ?_)
 refine ap_callv rfl rfl rfl rfl trivial rfl rfl (.cons rfl (.cons rfl .nil)) (newb_tr (by omega) (by omega) (by omega) (by omega)) ?_
 rintro v' L' x' ⟨b,rfl,rfl,rfl⟩
 repeat (first | refine aM ?_ | refine aA ?_ | (apply ap_pure;exact rfl;exact rfl;exact gY;intro L;apply mo_extract;exact rfl;exact rfl) | refine ap_end ?_)
 repeat (first | refine wS ?_ | refine wneqF ?_ | refine we_seq ?_ | (refine wR ?_;try simp only [oS]) | refine wo_nil ?_ | refine wM ?_ | refine wA ?_ | refine wJ ?_ | refine wN ?_ | refine wD ?_ | (apply wo_po;apply mo_bin;exact rfl;exact rfl;apply bin_eq;apply eql_ptr_nil;exact gY) | refine wF ?_ | refine we_ret ?_ | refine we_skip ?_)
 (first | refine or1 Try.func10 Try.results10 hQ rfl ?_ | refine on1 Try.func10 Try.results10 hQ rfl ?_)
 refine ⟨p,g,b,rfl,rfl,fun h st=>?_⟩
 have s1:Star (arr g 0 [.int .u64 (limit:Nat),.int .u64 0,.int .u64 0]::arr b 0 [.int .u64 (fails:Nat),.int .u64 (wait:Nat),.int .u64 0]::pairC p g b limit fails wait::L) h:=Ent.star (.take (.there .here) (.take .here .refl)) st
 exact Ent.star (.take (.there (.there .here)) (.take .here .refl)) (star_map (g_wds s1) (fun _ y=>y) (fun _ y=>b_wds y))
theorem awake_tr:Tr Try.prog B 11 [] L x fun v L' x'=>v=.bool true∧L'=L∧x'=x:=by
 refine Tr.post (R:=fun v L' x'=>v=.bool true∧x'=x∧∀ h,Star L' h→Star L h) ?_ (by rintro v L' x' ⟨rfl,rfl,hs⟩;exact ⟨L,⟨rfl,rfl,rfl⟩,hs⟩)
 refine tr_of_body Try.func11 rfl Try.ntmps11 (by simp) fun um Q _ hQ=>?_
 simp only [argE,Nat.zero_add,Nat.reduceAdd]
 repeat (first | refine we_seq ?_ | (refine wR ?_;try simp only [oS]) | refine wo_nil ?_ | refine wA ?_)
 refine wo_call (.cons rfl (.cons rfl (.cons rfl .nil))) trivial (made_tr (l0:=1) (f0:=1) (w0:=9) (limit:=2) (fails:=2) (wait:=10) rfl rfl rfl) ?_
 rintro v' L' x' ⟨p,g,b,rfl,rfl,rfl⟩
 refine wo_star (arr p 0 [.pointer (some ⟨g,0,none⟩),.pointer (some ⟨b,0,none⟩),.int .u64 (2:Nat),.int .u64 (2:Nat),.int .u64 (10:Nat)]::gC g 2 (fun _=>0)::bC b 2 10 (fun _=>0)::L) (fun h st=>st) ?_
 repeat (first | refine wneqF ?_ | refine we_seq ?_ | (refine wR ?_;try simp only [oS]) | refine wo_nil ?_ | refine wM ?_ | refine wA ?_ | refine wJ ?_ | refine wN ?_ | refine wD ?_ | refine wL ?_ | (apply wo_po;apply mo_bin;exact rfl;exact rfl;apply bin_eq;apply eql_ptr_nil;exact gY) | refine wF ?_ | refine we_skip ?_)
 refine wo_call (.cons rfl (.cons rfl .nil)) trivial (enter_yes (n:=0) (p:=0) (by omega) (by omega) rfl rfl (by omega) (.there .here)) ?_
 rintro v' L' x' ⟨s1,rfl,f1,f2,rfl,rfl⟩
 refine wo_star (arr p 0 [.pointer (some ⟨g,0,none⟩),.pointer (some ⟨b,0,none⟩),.int .u64 (2:Nat),.int .u64 (2:Nat),.int .u64 (10:Nat)]::gC g 2 s1::bC b 2 10 (fun _=>0)::L) (fun h st=>Ent.star (.take (.there .here) (.take .here .refl)) st) ?_
 repeat (first | refine we_seq ?_ | (refine wR ?_;try simp only [oS]) | refine wo_nil ?_ | refine wM ?_ | refine wA ?_ | refine wN ?_ | refine wD ?_ | (apply wo_po;apply mo_extract;exact rfl;exact rfl;exact gY) | refine wL ?_)
 refine wo_call (.cons rfl (.cons rfl .nil)) trivial (enter_yes (by omega) (by omega) f1 f2 (by omega) (.there .here)) ?_
 rintro v' L' x' ⟨s2,rfl,g1,g2,rfl,rfl⟩
 refine wo_star (arr p 0 [.pointer (some ⟨g,0,none⟩),.pointer (some ⟨b,0,none⟩),.int .u64 (2:Nat),.int .u64 (2:Nat),.int .u64 (10:Nat)]::gC g 2 s2::bC b 2 10 (fun _=>0)::L) (fun h st=>Ent.star (.take (.there .here) (.take .here .refl)) st) ?_
 repeat (first | refine we_seq ?_ | (refine wR ?_;try simp only [oS]) | refine wo_nil ?_ | refine wM ?_ | refine wA ?_ | refine wN ?_ | refine wD ?_ | (apply wo_po;apply mo_extract;exact rfl;exact rfl;exact gY) | refine wL ?_)
 refine wo_call (.cons rfl (.cons rfl .nil)) trivial (enter_no (by omega) (by omega) g1 (by omega) (.there .here)) ?_
 rintro v' L' x' ⟨rfl,rfl,rfl⟩
 refine wo_star (arr p 0 [.pointer (some ⟨g,0,none⟩),.pointer (some ⟨b,0,none⟩),.int .u64 (2:Nat),.int .u64 (2:Nat),.int .u64 (10:Nat)]::gC g 2 s2::bC b 2 10 (fun _=>0)::L) (fun h st=>Ent.star (.take (.there .here) (.take .here .refl)) st) ?_
 repeat (first | refine we_seq ?_ | (refine wR ?_;try simp only [oS]) | refine wo_nil ?_ | refine wM ?_ | refine wA ?_ | refine wN ?_ | refine wD ?_ | (apply wo_po;apply mo_extract;exact rfl;exact rfl;exact gY) | refine wL ?_)
 refine wo_call (.cons rfl (.cons rfl .nil)) trivial (get_lone (by omega) (by omega) (.there .here)) ?_
 rintro v' L' x' ⟨rfl,rfl,rfl⟩
 rw [g1,g2]
 refine wo_star (arr p 0 [.pointer (some ⟨g,0,none⟩),.pointer (some ⟨b,0,none⟩),.int .u64 (2:Nat),.int .u64 (2:Nat),.int .u64 (10:Nat)]::gC g 2 s2::bC b 2 10 (fun _=>0)::L) (fun h st=>Ent.star (.take (.there .here) (.take .here .refl)) st) ?_
 repeat (first | refine we_seq ?_ | (refine wR ?_;try simp only [oS]) | refine wo_nil ?_ | refine wM ?_ | refine wA ?_ | refine wN ?_ | refine wD ?_ | (apply wo_po;apply mo_extract;exact rfl;exact rfl;exact gY) | refine wL ?_)
 refine wo_call (.cons rfl (.cons rfl (.cons rfl (.cons rfl .nil)))) trivial (tell_lone (fails:=2) (wait:=10) (by omega) (by omega) (by omega) (now:=5) (by omega) (s:=fun _=>0) (a:=0) (b:=0) (c:=0) ⟨by omega,by omega,by omega,rfl⟩ (by omega) (.there (.there .here))) ?_
 rintro v' L' x' ⟨t1,rfl,t1S,rfl,rfl⟩
 replace t1S:BS t1 0 1 0:=t1S
 refine wo_star (arr p 0 [.pointer (some ⟨g,0,none⟩),.pointer (some ⟨b,0,none⟩),.int .u64 (2:Nat),.int .u64 (2:Nat),.int .u64 (10:Nat)]::gC g 2 s2::bC b 2 10 t1::L) (fun h st=>Ent.star (.take (.there .here) (.take (.there .here) .refl)) st) ?_
 repeat (first | refine we_seq ?_ | (refine wR ?_;try simp only [oS]) | refine wo_nil ?_ | refine wM ?_ | refine wN ?_ | refine wD ?_ | refine wL ?_)
 refine wo_call (.cons rfl (.cons rfl (.cons rfl (.cons rfl .nil)))) trivial (tell_lone (fails:=2) (wait:=10) (by omega) (by omega) (by omega) (now:=6) (by omega) t1S (by omega) (.there (.there .here))) ?_
 rintro v' L' x' ⟨t2,rfl,t2S,rfl,rfl⟩
 replace t2S:BS t2 1 2 6:=t2S
 refine wo_star (arr p 0 [.pointer (some ⟨g,0,none⟩),.pointer (some ⟨b,0,none⟩),.int .u64 (2:Nat),.int .u64 (2:Nat),.int .u64 (10:Nat)]::gC g 2 s2::bC b 2 10 t2::L) (fun h st=>Ent.star (.take (.there .here) (.take (.there .here) .refl)) st) ?_
 repeat (first | refine we_seq ?_ | (refine wR ?_;try simp only [oS]) | refine wo_nil ?_ | refine wM ?_ | refine wN ?_ | refine wD ?_ | refine wL ?_)
 refine wo_call (.cons rfl (.cons rfl (.cons rfl .nil))) trivial (ask_lone (fails:=2) (wait:=10) (by omega) (by omega) (by omega) (now:=15) (by omega) t2S (.there (.there .here))) ?_
 rintro v' L' x' ⟨t3,rfl,t3S,rfl,rfl⟩
 replace t3S:BS t3 1 2 6:=t3S
 refine wo_star (arr p 0 [.pointer (some ⟨g,0,none⟩),.pointer (some ⟨b,0,none⟩),.int .u64 (2:Nat),.int .u64 (2:Nat),.int .u64 (10:Nat)]::gC g 2 s2::bC b 2 10 t3::L) (fun h st=>Ent.star (.take (.there .here) (.take (.there .here) .refl)) st) ?_
 repeat (first | refine we_seq ?_ | (refine wR ?_;try simp only [oS]) | refine wo_nil ?_ | refine wM ?_ | refine wA ?_ | refine wN ?_ | refine wD ?_ | (apply wo_po;apply mo_extract;exact rfl;exact rfl;exact gY) | refine wL ?_)
 refine wo_call (.cons rfl (.cons rfl (.cons rfl .nil))) trivial (ask_lone (fails:=2) (wait:=10) (by omega) (by omega) (by omega) (now:=16) (by omega) t3S (.there (.there .here))) ?_
 rintro v' L' x' ⟨t4,rfl,t4S,rfl,rfl⟩
 replace t4S:BS t4 2 2 16:=t4S
 refine wo_star (arr p 0 [.pointer (some ⟨g,0,none⟩),.pointer (some ⟨b,0,none⟩),.int .u64 (2:Nat),.int .u64 (2:Nat),.int .u64 (10:Nat)]::gC g 2 s2::bC b 2 10 t4::L) (fun h st=>Ent.star (.take (.there .here) (.take (.there .here) .refl)) st) ?_
 repeat (first | refine we_seq ?_ | (refine wR ?_;try simp only [oS]) | refine wo_nil ?_ | refine wM ?_ | refine wA ?_ | refine wN ?_ | refine wD ?_ | (apply wo_po;apply mo_extract;exact rfl;exact rfl;exact gY) | refine wL ?_)
 refine wo_call (.cons rfl (.cons rfl (.cons rfl .nil))) trivial (ask_lone (fails:=2) (wait:=10) (by omega) (by omega) (by omega) (now:=17) (by omega) t4S (.there (.there .here))) ?_
 rintro v' L' x' ⟨t5,rfl,t5S,rfl,rfl⟩
 replace t5S:BS t5 2 2 16:=t5S
 refine wo_star (arr p 0 [.pointer (some ⟨g,0,none⟩),.pointer (some ⟨b,0,none⟩),.int .u64 (2:Nat),.int .u64 (2:Nat),.int .u64 (10:Nat)]::gC g 2 s2::bC b 2 10 t5::L) (fun h st=>Ent.star (.take (.there .here) (.take (.there .here) .refl)) st) ?_
 repeat (first | refine we_seq ?_ | (refine wR ?_;try simp only [oS]) | refine wo_nil ?_ | refine wM ?_ | refine wA ?_ | refine wN ?_ | refine wD ?_ | (apply wo_po;apply mo_extract;exact rfl;exact rfl;exact gY) | refine wL ?_)
 refine wo_call (.cons rfl (.cons rfl .nil)) trivial (bget_lone (fails:=2) (wait:=10) (by omega) (by omega) (by omega) t5S (.there (.there .here))) ?_
 rintro v' L' x' ⟨rfl,rfl,rfl⟩
 repeat (first | refine weqlT ?_ | refine we_seq ?_ | (refine wR ?_;try simp only [oS]) | refine wo_nil ?_ | refine wM ?_ | refine wA ?_ | refine wK ?_ | (apply wo_po;apply mo_extract;exact rfl;exact rfl;exact gY) | (apply wo_po;apply mo_not;exact rfl;exact gY) | refine we_ret ?_)
 (first | refine or1 Try.func11 Try.results11 hQ rfl ?_ | refine on1 Try.func11 Try.results11 hQ rfl ?_)
 exact ⟨rfl,rfl,fun h st=>Ent.star (.drop (.drop (.drop .refl))) st⟩
end
end
end Go.Proofs.Ytnnpdmhmpgmpnaa
namespace Go.Proofs.Ytnnpdmhmpgmpnaa
open Go Go.PB
attribute [local irreducible] Mo Bin Eql Tr Wo Ap
section
def intC (l:List Int):List Value:=l.map fun k=>.int .i64 k
def orderF (m:Nat) (l:List Int):List Int:=(l.take 2000).map fun k=>k%((m:Int)+1)
section
variable {B:Hand} [Lets B] {L F:List HProp} {x:B.X}
def orderInv (x:B.X) (u:Value) (m:Nat) (l:List Int) (L:List HProp):Inv (Nat × Value) B.X where
 e:=fun i=>[(0,u),(1,.int .i64 (m:Nat)),(5,i.2),(6,.int .i64 (i.1:Nat))]
 L:=fun i=>vec 1 i.2 (intC ((l.take i.1).map fun k=>k%((m:Int)+1)))::L
 x:=fun _=>x
 ok:=fun i=>i.1≤l.length∧i.1≤2000
theorem order_tr {a:Option Addr} {c m:Nat} {l:List Int} (hr:RdsO L a l.length (intC l)) (hm:m<1000000) (hi:∀ k∈l,-9223372036854775808≤k∧k≤9223372036854775807) :
  Tr Try.prog B 31 [.slice a l.length c,.int .i64 (m:Nat)] L x fun v L' x'=>L'=vec 1 v (intC (orderF m l))::L∧x'=x:=by
 refine tr_of_body Try.func31 rfl Try.ntmps31 (by simp) fun um Q _ hQ=>?_
 simp only [argE,Nat.zero_add,Nat.reduceAdd]
 repeat (first | refine we_seq ?_ | (refine wR ?_;try simp only [oS]) | refine wo_nil ?_ | refine wA ?_ | refine we_block ?_)
 refine we_star (vec 1 (.slice none 0 0) (intC ((l.take 0).map fun k=>k%((m:Int)+1)))::L) (fun h st=>vec_nil st) ?_
 refine we_loopN (orderInv x (.slice a l.length c) m l L) (fun i=>l.length-i.1) (0,.slice none 0 0) ⟨Nat.zero_le _,Nat.zero_le _⟩ ⟨rfl,rfl,rfl,rfl,trivial⟩ .refl rfl ?_
 rintro ⟨i,v⟩ ⟨hil,hi2⟩
 simp only at hil hi2
 simp only [orderInv]
 refine we_pure (of_has .here (vec_shape (by omega))) ?_
 rintro ⟨va,vn,vc,rfl,hvn,_⟩
 have hvn:vn=i:=by simp [intC] at hvn;omega
 subst hvn
 by_cases hlt:vn<l.length
 ·by_cases h2:vn<2000
  ·obtain ⟨b,o,rfl,hrd⟩:=hr.rds (by omega)
   obtain ⟨k,hk⟩:∃ k,l[vn]?=some k:=⟨l[vn],List.getElem?_eq_getElem hlt⟩
   have hrk:∀ {d:HProp},Rd (d::L) b (o+vn) (.int .i64 k):=fun {d}=>.there (hrd vn _ (by simp [intC,hk]))
   repeat (first | (apply wo_po;apply mo_index1;exact rfl;exact rfl;omega;exact trivial) | (apply wo_po;apply mo_load;exact rfl;exact hrk;exact trivial) | refine wlssT ?_ | refine we_seq ?_ | (refine wR ?_;try simp only [oS]) | refine wo_nil ?_ | refine wM ?_ | refine wK ?_ | refine wadd ?_ | refine wE ?_ | refine wT ?_ | refine we_skip ?_ | refine we_block ?_)
   refine wo_call (.cons rfl (.cons rfl .nil)) trivial (within_tr (hi k (List.mem_of_getElem? hk)) (by omega)) ?_
   rintro v1 L1 x1 ⟨rfl,rfl,rfl⟩
   repeat (first | (apply wo_mo;apply mo_buildSlice (sz:=1) (vs:=[.int .i64 (k%((m:Int)+1))]);exact rfl;exact .cons rfl .nil;exact rfl;(intro v hv;cases (List.mem_singleton.1 hv);exact rfl);omega;exact trivial))
   rintro v' L' ⟨nb,rfl,rfl⟩
   repeat (first | (apply wo_mo;apply mo_append (sz:=1) (new:=[.int .i64 (k%((m:Int)+1))]);exact rfl;exact rfl;exact rfl;exact rfl;exact (.there .here);exact rfl;exact .inr ⟨_,_,rfl,Rds.all .here⟩;(intro v hv;cases (List.mem_singleton.1 hv);exact rfl);(simp only [sliceLen];omega);exact trivial))
   rintro v' L' rfl
   repeat (first | (refine wR ?_;try simp only [oS]) | refine wo_nil ?_ | refine wM ?_ | refine wA ?_ | refine wadd ?_)
   refine at_round (I:=orderInv x1 (.slice (some ⟨b,o,none⟩) l.length c) m l L) (R:=fun j=>l.length-j.1<l.length-vn) (vn+1,v') (by show l.length-(vn+1)<l.length-vn;omega) ⟨by omega,by omega⟩ ?_ ?_ rfl
   exact ⟨rfl,rfl,rfl,rfl,trivial⟩
   show Ent _ (vec 1 v' (intC ((l.take (vn+1)).map fun k=>k%((m:Int)+1)))::_)
   rw [show intC ((l.take (vn+1)).map fun k=>k%((m:Int)+1))=intC ((l.take vn).map fun k=>k%((m:Int)+1))++[.int .i64 (k%((m:Int)+1))] by rw [List.take_add_one,hk];simp [intC]]
   exact (.take .here (.drop .refl))
  ·obtain rfl:vn=2000:=by omega
   repeat (first | refine wlssT ?_ | refine wlssF ?_ | refine we_seq ?_ | (refine wR ?_;try simp only [oS]) | refine wo_nil ?_ | refine wM ?_ | refine wA ?_ | refine wK ?_ | refine wE ?_ | refine wF ?_ | refine we_ret ?_ | refine we_exit ?_)
   (first | refine or1 Try.func31 Try.results31 hQ rfl ?_ | refine on1 Try.func31 Try.results31 hQ rfl ?_)
   exact ⟨rfl,rfl⟩
 ·obtain rfl:vn=l.length:=by omega
  repeat (first | refine wlssF ?_ | refine we_seq ?_ | (refine wR ?_;try simp only [oS]) | refine wo_nil ?_ | refine wM ?_ | refine wA ?_ | (apply wo_no;exact rfl) | refine wJ ?_ | refine wE ?_ | refine wF ?_ | refine we_ret ?_ | refine we_exit ?_)
  (first | refine or1 Try.func31 Try.results31 hQ rfl ?_ | refine on1 Try.func31 Try.results31 hQ rfl ?_)
  refine ⟨?_,rfl⟩
  unfold orderF
  rw [List.take_of_length_le (by omega),List.take_of_length_le (by omega)]
end
end
end Go.Proofs.Ytnnpdmhmpgmpnaa
namespace Go.Proofs.Ytnnpdmhmpgmpnaa
open Go Go.PB
attribute [local irreducible] Mo Bin Eql Tr Wo Ap Wle
attribute [local instance] Pass.of_no
section
theorem mo_sliceHdB {P:Program} {e:Env} {ty:TypeId} {L:List HProp} {t el sz n c u:Nat} {a:Option Addr} {k:IntKind} {j:Int} {o hi:Operand} [p:SlT P t el] [s:Siz P el sz] (hx:ev e o=some (.slice a n c)) (hh:ev e hi=some (.int k j)) (hj:j=(u:Nat)) (hu:u≤c) :
  Mo P e (.slice t o none (some hi) none) ty L fun v' L'=>v'=.slice a u c∧L'=L:=by
 have h:=mo_slice (P:=P) (e:=e) (ty:=ty) (L:=L) (t:=t) (l:=0) (u:=u) hx .no (.yes hh hj) (Nat.zero_le _) hu
 have e1:(if c=0 then a else a.map (·.add (0*sz)))=a:=by
  split
  ·rfl
  ·cases a with
   | none=>rfl
   | some y=>simp [Addr.add]
 rw [e1] at h
 exact h
theorem rd_liftB {L:List HProp}:∀ (M:List HProp) {b o:Nat} {v:Value},Rd L b o v→Rd (M++L) b o v
 | [],b,o,v,h=>h
 | c::M,b,o,v,h=>.there (rd_liftB M h)
theorem rdso_liftB {L:List HProp} (M:List HProp) {a:Option Addr} {n:Nat} {vs:List Value} (h:RdsO L a n vs):RdsO (M++L) a n vs :=
 ⟨h.1,h.2.imp id fun ⟨b,o,e,r⟩=>⟨b,o,e,fun i v hi=>rd_liftB M (r i v hi)⟩⟩
abbrev RWB:=Option Addr × Nat × List Bool
def rvB (y:RWB):Value:=.slice y.1 y.2.2.length y.2.1
def ThsB (L:List HProp) (a:Option Addr) (rs:List RWB):Prop:=∀ (i:Nat) y,rs[i]?=some y→∃ b o,a=some ⟨b,o,none⟩∧Rd L b (o+i) (rvB y)∧RdsO L y.1 y.2.2.length (y.2.2.map .bool)∧y.2.2.length≤y.2.1
theorem thsb_lift {L:List HProp} (M:List HProp) {a:Option Addr} {rs:List RWB} (h:ThsB L a rs):ThsB (M++L) a rs:=fun i y hy=>by
 obtain ⟨b,o,e,h1,h2,h3⟩:=h i y hy
 exact ⟨b,o,e,rd_liftB M h1,rdso_liftB M h2,h3⟩
def cutB (y:RWB):RWB:=(y.1,y.2.1,y.2.2.take 10)
theorem rdso_take {L:List HProp} {a:Option Addr} {l:List Bool} {n:Nat} (h:RdsO L a l.length (l.map .bool)):RdsO L a (l.take n).length ((l.take n).map .bool):=by
 refine ⟨by simp,?_⟩
 rcases h.2 with h0 | ⟨b,o,e,r⟩
 ·left;rw [List.length_take];omega
 ·right
  refine ⟨b,o,e,fun i v hi=>r i v ?_⟩
  rw [List.getElem?_map,List.getElem?_take] at hi
  split at hi
  ·rw [List.getElem?_map];exact hi
  ·cases hi
def wtInv (a:Option Addr) (c:Nat) (rs:List RWB) (L:List HProp):PB.Inv (Nat × Value) MX where
 e:=fun i=>[(0,.slice a rs.length c),(1,.int .i64 10),(5,i.2),(6,.int .i64 (i.1:Nat))]
 L:=fun i=>vec 1 i.2 (((rs.take i.1).map cutB).map rvB)::L
 x:=fun _=>.idle
 ok:=fun i=>i.1≤rs.length∧i.1≤4
theorem whats_tr {L:List HProp} (M:List HProp) {a:Option Addr} {c:Nat} {rs:List RWB} (hr0:ThsB L a rs) :
  Tr Try.prog mT 23 [.slice a rs.length c,.int .i64 10] (M++L) .idle fun v L' x'=>∃ (rs':List RWB) (D:HProp),Dup D∧0<rs'.length∧rs'.length≤4∧(∀ y∈rs',RdsO (D::L) y.1 y.2.2.length (y.2.2.map .bool)∧y.2.2.length≤10)∧L'=vec 1 v (rs'.map rvB)::D::(M++L)∧x'=.idle:=by
 refine Tr.post (R:=fun v L' x'=>∃ (rs':List RWB) (D:HProp),Dup D∧0<rs'.length∧rs'.length≤4∧(∀ y∈rs',RdsO (D::L) y.1 y.2.2.length (y.2.2.map .bool)∧y.2.2.length≤10)∧x'=MX.idle∧∀ h,Star L' h→Star (vec 1 v (rs'.map rvB)::D::(M++L)) h) ?_
  (by rintro v L' x' ⟨rs',D,h1,h2,h3,h4,rfl,h5⟩;exact ⟨_,⟨rs',D,h1,h2,h3,h4,rfl,rfl⟩,h5⟩)
 have hr:=thsb_lift M hr0
 generalize hN:M++L=N at hr ⊢
 refine tr_of_body Try.func23 rfl Try.ntmps23 (by simp) fun um Q _ hQ=>?_
 simp only [argE,Nat.zero_add,Nat.reduceAdd]
 repeat (first | refine we_seq ?_ | (refine wR ?_;try simp only [oS]) | refine wo_nil ?_ | refine wA ?_ | refine we_block ?_)
 refine we_star (vec 1 (.slice none 0 0) (((rs.take 0).map cutB).map rvB)::N) (fun h st=>vec_nil st) ?_
 refine we_loopN (wtInv a c rs N) (fun i=>rs.length-i.1) (0,.slice none 0 0) ⟨Nat.zero_le _,Nat.zero_le _⟩ ⟨rfl,rfl,rfl,rfl,trivial⟩ .refl rfl ?_
 rintro ⟨i,v⟩ ⟨hil,hi4⟩
 simp only at hil hi4
 simp only [wtInv]
 refine we_pure (of_has .here (vec_shape (by omega))) ?_
 rintro ⟨va,vn,vc,rfl,hvn,_⟩
 have hvn:vn=i:=by simp at hvn;omega
 subst hvn
 by_cases hgo:vn<rs.length∧vn<4
 ·obtain ⟨hlt,h4⟩:=hgo
  obtain ⟨y,hy⟩:∃ k,rs[vn]?=some k:=⟨rs[vn],List.getElem?_eq_getElem hlt⟩
  obtain ⟨b,o,rfl,hrd,hdo,hcap⟩:=hr vn y hy
  obtain ⟨ya,yc,yl⟩:=y
  simp only [rvB] at hrd hdo hcap
  have hrk:∀ {d:HProp},Rd (d::N) b (o+vn) (.slice ya yl.length yc):=fun {d}=>.there hrd
  have hcr:cutB (ya,yc,yl)=(ya,yc,yl.take 10):=rfl
  obtain ⟨m,hm⟩:∃ m,(yl.take 10).length=m:=⟨_,rfl⟩
  have hm':=hm
  rw [List.length_take] at hm'
  have hgoal:rvB (cutB (ya,yc,yl))=.slice ya m yc:=by rw [hcr];show Value.slice ya (yl.take 10).length yc=_;rw [hm]
  by_cases h8:10<yl.length
  ·have e8:m=10:=by omega
   subst e8
   repeat (first | (apply wo_po;apply mo_index1;exact rfl;exact rfl;omega;exact trivial) | (apply wo_po;apply mo_load;exact rfl;exact hrk;exact trivial) | (apply wo_po;apply mo_sliceHdB (u:=10);exact rfl;exact rfl;exact rfl;omega;exact trivial) | refine wlssT ?_ | refine wgtrT ?_ | refine we_seq ?_ | (refine wR ?_;try simp only [oS]) | refine wo_nil ?_ | refine wM ?_ | refine wA ?_ | refine wK ?_ | refine wE ?_ | refine wT ?_ | refine we_skip ?_ | refine we_block ?_)
   repeat (first | (apply wo_mo;apply mo_buildSlice (sz:=1) (vs:=[.slice ya 10 yc]);exact rfl;exact .cons rfl .nil;exact rfl;(intro v hv;cases (List.mem_singleton.1 hv);exact rfl);omega;exact trivial))
   rintro v' L' ⟨sb2,rfl,rfl⟩
   repeat (first | (apply wo_mo;apply mo_append (sz:=1) (new:=[.slice ya 10 yc]);exact rfl;exact rfl;exact rfl;exact rfl;exact (.there .here);exact rfl;exact .inr ⟨_,_,rfl,Rds.all .here⟩;(intro v hv;cases (List.mem_singleton.1 hv);exact rfl);(simp only [sliceLen];omega);exact trivial))
   rintro v' L' rfl
   repeat (first | (refine wR ?_;try simp only [oS]) | refine wo_nil ?_ | refine wM ?_ | refine wA ?_ | refine wadd ?_)
   refine at_round (B:=mT) (I:=wtInv (some ⟨b,o,none⟩) c rs N) (R:=fun j=>rs.length-j.1<rs.length-vn) (vn+1,v') (by show rs.length-(vn+1)<rs.length-vn;omega) ⟨by show vn+1≤rs.length;omega,by show vn+1≤4;omega⟩ ?_ ?_ rfl
   exact ⟨rfl,rfl,rfl,rfl,trivial⟩
   show Ent _ (vec 1 v' (((rs.take (vn+1)).map cutB).map rvB)::_)
   rw [show ((rs.take (vn+1)).map cutB).map rvB=((rs.take vn).map cutB).map rvB++[.slice ya 10 yc] by rw [List.take_add_one,hy];simp only [Option.toList_some,List.map_append,List.map_cons,List.map_nil,hgoal]]
   exact (.take .here (.drop .refl))
  ·have e8:m=yl.length:=by omega
   subst e8
   repeat (first | (apply wo_po;apply mo_index1;exact rfl;exact rfl;omega;exact trivial) | (apply wo_po;apply mo_load;exact rfl;exact hrk;exact trivial) | refine wlssT ?_ | refine wgtrF ?_ | refine we_seq ?_ | (refine wR ?_;try simp only [oS]) | refine wo_nil ?_ | refine wM ?_ | refine wA ?_ | refine wK ?_ | refine wE ?_ | refine wT ?_ | refine wF ?_ | refine we_skip ?_ | refine we_block ?_)
   repeat (first | (apply wo_mo;apply mo_buildSlice (sz:=1) (vs:=[.slice ya yl.length yc]);exact rfl;exact .cons rfl .nil;exact rfl;(intro v hv;cases (List.mem_singleton.1 hv);exact rfl);omega;exact trivial))
   rintro v' L' ⟨sb2,rfl,rfl⟩
   repeat (first | (apply wo_mo;apply mo_append (sz:=1) (new:=[.slice ya yl.length yc]);exact rfl;exact rfl;exact rfl;exact rfl;exact (.there .here);exact rfl;exact .inr ⟨_,_,rfl,Rds.all .here⟩;(intro v hv;cases (List.mem_singleton.1 hv);exact rfl);(simp only [sliceLen];omega);exact trivial))
   rintro v' L' rfl
   repeat (first | (refine wR ?_;try simp only [oS]) | refine wo_nil ?_ | refine wM ?_ | refine wA ?_ | refine wadd ?_)
   refine at_round (B:=mT) (I:=wtInv (some ⟨b,o,none⟩) c rs N) (R:=fun j=>rs.length-j.1<rs.length-vn) (vn+1,v') (by show rs.length-(vn+1)<rs.length-vn;omega) ⟨by show vn+1≤rs.length;omega,by show vn+1≤4;omega⟩ ?_ ?_ rfl
   exact ⟨rfl,rfl,rfl,rfl,trivial⟩
   show Ent _ (vec 1 v' (((rs.take (vn+1)).map cutB).map rvB)::_)
   rw [show ((rs.take (vn+1)).map cutB).map rvB=((rs.take vn).map cutB).map rvB++[.slice ya yl.length yc] by rw [List.take_add_one,hy];simp only [Option.toList_some,List.map_append,List.map_cons,List.map_nil,hgoal]]
   exact (.take .here (.drop .refl))
 ·have hend:rs.take vn=rs.take 4:=by
   by_cases h4:vn=4
   ·rw [h4]
   ·have:vn=rs.length:=by omega
    rw [this,List.take_length,List.take_of_length_le (by omega)]
  rw [hend]
  by_cases h0:rs=[]
  ·subst h0
   obtain rfl:vn=0:=by simp at hil;omega
   repeat (first | (apply wo_mo;apply mo_buildSlice (sz:=1) (vs:=[.bool true]);exact rfl;exact .cons rfl .nil;exact rfl;(intro v hv;cases (List.mem_singleton.1 hv);exact rfl);omega;exact trivial) | refine wlssF ?_ | refine weqlT ?_ | refine we_seq ?_ | (refine wR ?_;try simp only [oS]) | refine wo_nil ?_ | refine wM ?_ | (apply wo_no;exact rfl) | refine wJ ?_ | refine wE ?_ | refine wT ?_ | refine wF ?_ | refine we_exit ?_)
   rintro v' L' ⟨db,rfl,rfl⟩
   refine wo_frz (b:=db) (o:=0) .here ?_
   repeat (first | (apply wo_mo;apply mo_buildSlice (sz:=1) (vs:=[.slice (some ⟨db,0,none⟩) 1 1]);exact rfl;exact .cons rfl .nil;exact rfl;(intro v hv;cases (List.mem_singleton.1 hv);exact rfl);omega;exact trivial))
   rintro v' L' ⟨nb,rfl,rfl⟩
   repeat (first | (apply wo_mo;apply mo_append (sz:=1) (new:=[.slice (some ⟨db,0,none⟩) 1 1]);exact rfl;exact rfl;exact rfl;exact rfl;exact (.there (.there .here));exact rfl;exact .inr ⟨_,_,rfl,Rds.all .here⟩;(intro v hv;cases (List.mem_singleton.1 hv);exact rfl);(simp only [sliceLen];omega);exact trivial))
   rintro v' L' rfl
   repeat (first | refine we_seq ?_ | (refine wR ?_;try simp only [oS]) | refine wo_nil ?_ | refine wM ?_ | refine wA ?_ | refine we_ret ?_)
   (first | refine or1 Try.func23 Try.results23 hQ rfl ?_ | refine on1 Try.func23 Try.results23 hQ rfl ?_)
   refine ⟨[(some ⟨db,0,none⟩,1,[true])],fro db 0 [.bool true],dup_fro,by simp,by simp,fun y hy=>?_,rfl,fun h st=>Ent.star (.take .here (.drop (.take .here .refl))) st⟩
   cases List.mem_singleton.1 hy
   refine ⟨⟨rfl,.inr ⟨db,0,rfl,fun i v hi=>?_⟩⟩,by simp⟩
   match i,hi with
   | 0,hi=>cases hi;exact Rd.fro (k:=0) rfl rfl
  ·have hpos:0<rs.length:=List.length_pos_iff.2 h0
   have hvp:0<vn:=by omega
   have key:0<((rs.take 4).map cutB).length∧((rs.take 4).map cutB).length≤4∧∀ y∈(rs.take 4).map cutB,RdsO (all []::L) y.1 y.2.2.length (y.2.2.map .bool)∧y.2.2.length≤10:=by
    refine ⟨by simp;omega,by simp;omega,fun y hy=>?_⟩
    obtain ⟨z,hz,rfl⟩:=List.mem_map.1 hy
    obtain ⟨i,hi⟩:=List.mem_iff_getElem?.1 (List.mem_of_mem_take hz)
    obtain ⟨b,o,_,_,hd,_⟩:=hr0 i z hi
    exact ⟨(rdso_take hd).there,by simp only [cutB,List.length_take];omega⟩
   by_cases hv:vn<rs.length
   ·obtain rfl:vn=4:=by omega
    repeat (first | refine wlssT ?_ | refine wlssF ?_ | refine weqlF ?_ | refine we_seq ?_ | (refine wR ?_;try simp only [oS]) | refine wo_nil ?_ | refine wM ?_ | refine wA ?_ | refine wK ?_ | refine wE ?_ | refine wF ?_ | refine we_ret ?_ | refine we_skip ?_ | refine we_exit ?_)
    (first | refine or1 Try.func23 Try.results23 hQ rfl ?_ | refine on1 Try.func23 Try.results23 hQ rfl ?_)
    exact ⟨_,all [],dup_all (by simp),key.1,key.2.1,key.2.2,rfl,fun h st=>Ent.star (.take (.there .here) (.take .here .refl)) (star_shut (M:=[]) st)⟩
   ·obtain rfl:vn=rs.length:=by omega
    repeat (first | refine wlssF ?_ | refine weqlF ?_ | refine we_seq ?_ | (refine wR ?_;try simp only [oS]) | refine wo_nil ?_ | refine wM ?_ | refine wA ?_ | (apply wo_no;exact rfl) | refine wJ ?_ | refine wE ?_ | refine wF ?_ | refine we_ret ?_ | refine we_skip ?_ | refine we_exit ?_)
    (first | refine or1 Try.func23 Try.results23 hQ rfl ?_ | refine on1 Try.func23 Try.results23 hQ rfl ?_)
    exact ⟨_,all [],dup_all (by simp),key.1,key.2.1,key.2.2,rfl,fun h st=>Ent.star (.take (.there .here) (.take .here .refl)) (star_shut (M:=[]) st)⟩
theorem sumN_take {α:Type} {φ:α→Nat} {l:List α} {i:Nat} {q:α} (h:l[i]?=some q):sumN ((l.take (i+1)).map φ)=sumN ((l.take i).map φ)+φ q:=by
 rw [List.take_add_one,h]
 simp only [Option.toList_some,List.map_append,List.map_cons,List.map_nil]
 generalize (l.take i).map φ=m
 induction m with
 | nil=>simp [sumN]
 | cons a m ih=>simp only [sumN,List.cons_append,List.foldr_cons] at ih ⊢;omega
theorem sumN_take_le {α:Type} {φ:α→Nat}:∀ {l:List α} {i:Nat},sumN ((l.take i).map φ)≤sumN (l.map φ)
 | [],_=>by simp [sumN]
 | _::_,0=>by simp [sumN]
 | a::l,i+1=>by
  have:=sumN_take_le (φ:=φ) (l:=l) (i:=i)
  simp only [List.take_succ_cons,List.map_cons,sumN,List.foldr_cons] at this ⊢;omega
section
variable {B:Hand} [Lets B] {x:B.X} {L:List HProp}
def stInv (x:B.X) (a:Option Addr) (c w limit:Nat) (qs:List (Nat × Nat)) (L:List HProp):PB.Inv Nat B.X where
 e:=fun i=>[(0,.slice a qs.length c),(1,.int .u64 (w:Nat)),(2,.int .u64 (limit:Nat)),(7,.int .i64 (sumN ((qs.take i).map (·.2)):Nat)),(8,.int .i64 (i:Nat))]
 L:=fun _=>L
 x:=fun _=>x
 ok:=fun i=>i≤qs.length
theorem settled_tr {a:Option Addr} {c w limit n:Nat} {qs:List (Nat × Nat)} (hn:qs.length=n) (h4:n≤16) (hb:∀ k q,qs[k]?=some q→∃ b o,a=some ⟨b,o,none⟩∧Rd L b (o+k) (.pointer (some ⟨q.1,0,none⟩))∧Rd L q.1 0 (.int .i64 (q.2:Nat))∧Rd L q.1 (0+1) (.bool false)) (hs:sumN (qs.map (·.2))=w) (hw:w≤limit) (hl:limit≤100) :
  Tr Try.prog B 27 [.slice a n c,.int .u64 (w:Nat),.int .u64 (limit:Nat)] L x fun v L' x'=>v=.bool true∧L'=L∧x'=x:=by
 subst hn
 refine tr_of_body Try.func27 rfl Try.ntmps27 (by simp) fun um Q _ hQ=>?_
 simp only [argE,Nat.zero_add,Nat.reduceAdd]
 repeat (first | refine we_seq ?_ | (refine wR ?_;try simp only [oS]) | refine wo_nil ?_ | refine wA ?_ | refine we_block ?_)
 refine we_loopN (stInv x a c w limit qs L) (fun i=>qs.length-i) 0 (Nat.zero_le _) ⟨rfl,rfl,rfl,rfl,rfl,trivial⟩ .refl rfl ?_
 intro i hi
 replace hi:i≤qs.length:=hi
 simp only [stInv]
 by_cases hlt:i<qs.length
 ·obtain ⟨q,hq⟩:∃ q,qs[i]?=some q:=⟨qs[i],List.getElem?_eq_getElem hlt⟩
  obtain ⟨b,o,rfl,r1,r2,r3⟩:=hb i q hq
  have e1:=sumN_take (φ:=fun q:Nat × Nat=>q.2) hq
  have e2:=sumN_take_le (φ:=fun q:Nat × Nat=>q.2) (l:=qs) (i:=i+1)
  obtain ⟨n0,hn0⟩:∃ n,sumN ((qs.take i).map (·.2))=n:=⟨_,rfl⟩
  obtain ⟨n1,hn1⟩:∃ n,sumN ((qs.take (i+1)).map (·.2))=n:=⟨_,rfl⟩
  rw [hn0,hn1] at e1
  rw [hn1,hs] at e2
  obtain ⟨qb,qn⟩:=q
  simp only at e1 r1 r2 r3
  rw [hn0]
  have hadd:IntKind.i64.wrap ((n0:Int)+(qn:Nat))=((n1:Nat):Int):=(wrap_i64 (by omega) (by omega)).trans (by omega)
  repeat (first | (apply wo_po;apply mo_index1;exact rfl;exact rfl;omega;exact trivial) | (apply wo_po;apply mo_load;exact rfl;(first | exact r1 | exact r2 | exact r3);exact trivial) | (apply wo_po;apply mo_bin;exact rfl;exact rfl;apply bin_add;exact hadd;exact trivial) | refine wlssT ?_ | refine we_seq ?_ | (refine wR ?_;try simp only [oS]) | refine wo_nil ?_ | refine wM ?_ | refine wA ?_ | refine wN ?_ | refine wD ?_ | refine wadd ?_ | refine wE ?_ | refine wT ?_ | refine wF ?_ | refine we_skip ?_ | refine we_block ?_)
  refine at_round (B:=B) (I:=stInv x (some ⟨b,o,none⟩) c w limit qs L) (R:=fun j=>qs.length-j<qs.length-i) (i+1) (by show qs.length-(i+1)<qs.length-i;omega) (by show i+1≤qs.length;omega) ?_ .refl rfl
  refine ⟨rfl,rfl,rfl,?_,rfl,trivial⟩
  show _=some (Value.int .i64 ((sumN ((qs.take (i+1)).map (·.2)):Nat):Int))
  rw [hn1];rfl
 ·obtain rfl:i=qs.length:=by omega
  rw [List.take_length,hs]
  repeat (first | refine wlssF ?_ | refine wleqT ?_ | refine weqlT ?_ | refine we_seq ?_ | (refine wR ?_;try simp only [oS]) | refine wo_nil ?_ | refine wM ?_ | refine wA ?_ | refine wK ?_ | refine wE ?_ | (apply wo_po;apply mo_conv;exact rfl;(first | exact wrap_i64 (by omega) (by omega) | exact wrap_u64 (by omega) (by omega));exact gY) | refine wF ?_ | refine we_ret ?_ | refine we_exit ?_)
  (first | refine or1 Try.func27 Try.results27 hQ rfl ?_ | refine on1 Try.func27 Try.results27 hQ rfl ?_)
  exact ⟨rfl,rfl,rfl⟩
end
def boxesN (ts:List Nat):List HProp:=ts.mapIdx fun i b=>arr b 0 [.int .i64 (i:Nat)]
theorem boxesN_snoc {ts:List Nat} {t:Nat}:boxesN (ts++[t])=boxesN ts++[arr t 0 [.int .i64 (ts.length:Nat)]]:=by
 unfold boxesN
 rw [List.mapIdx_append]
 simp
def mthB (RoS:HProp) (i:Nat) (t:Nat × Nat):HProp:=all [all [RoS,arr t.1 0 [.int .i64 (i:Nat)]],bkC t.2 0 false]
def bksC (ts:List (Nat × Nat)):List HProp:=ts.map fun t=>bkC t.2 0 false
theorem dealB {RoS:HProp} (hd:Dup RoS) {ts:List (Nat × Nat)} {L:List HProp} {h:Hp} (s:Star (RoS::all (boxesN (ts.map (·.1)))::all (bksC ts)::L) h):Star (all (ts.mapIdx (mthB RoS))::RoS::L) h:=by
 have s1:=dup_many hd s ts.length
 have s2:Star (all (List.replicate ts.length RoS)::all (boxesN (ts.map (·.1)))::all (bksC ts)::RoS::L) h:=Ent.star (.take .here (.take (.there .here) (.take (.there .here) (.take .here .refl)))) s1
 have s3:=star_zip (by simp [boxesN]) s2
 have s4:=star_zip (by simp [boxesN,bksC]) s3
 have e:List.zipWith (fun a b=>all [a,b]) (List.zipWith (fun a b=>all [a,b]) (List.replicate ts.length RoS) (boxesN (ts.map (·.1)))) (bksC ts)=ts.mapIdx (mthB RoS):=by
  apply List.ext_getElem?
  intro i
  by_cases hi:i<ts.length
  ·simp [boxesN,bksC,mthB,hi,List.getElem?_zipWith]
  ·have h1:(ts.mapIdx (mthB RoS))[i]?=none:=List.getElem?_eq_none_iff.2 (by simp;omega)
   rw [h1]
   apply List.getElem?_eq_none_iff.2
   simp [boxesN,bksC];omega
 rw [e] at s4
 exact s4
def bkRow (ts:List (Nat × Nat)) (n:Nat):List Value:=(ts.map fun t=>Value.pointer (some ⟨t.2,0,none⟩))++List.replicate (n-ts.length) (.pointer none)
theorem bkRow_len {ts:List (Nat × Nat)} {n:Nat} (h:ts.length≤n):(bkRow ts n).length=n:=by simp [bkRow];omega
theorem bkRow_set {ts:List (Nat × Nat)} {n:Nat} {t:Nat × Nat} (h:ts.length<n):(bkRow ts n).set ts.length (.pointer (some ⟨t.2,0,none⟩))=bkRow (ts++[t]) n:=by
 unfold bkRow
 rw [List.set_append_right _ _ (by simp)]
 obtain ⟨m,hm⟩:∃ m,n-ts.length=m+1:=⟨n-ts.length-1,by omega⟩
 rw [hm,List.replicate_succ]
 simp only [List.length_map,Nat.sub_self,List.set_cons_zero,List.map_append,List.map_cons,List.map_nil,List.append_assoc,List.singleton_append,List.length_append,List.length_cons,List.length_nil]
 rw [show n-(ts.length+(0+1))=m by omega]
theorem bkRow_full {ts:List (Nat × Nat)} {n:Nat} (h:ts.length=n):bkRow ts n=ts.map fun t=>Value.pointer (some ⟨t.2,0,none⟩):=by
 unfold bkRow;rw [h,Nat.sub_self];simp
theorem dup_cons {c:HProp} {M:List HProp} (hc:Dup c) (hM:Dup (all M)):Dup (all (c::M)):=fun L h s=>by
 have s1:=hc _ _ (all_cons s)
 have s2:Star (all M::c::c::L) h:=Ent.star (.take (.there (.there .here)) (.take .here (.take .here .refl))) s1
 have s3:=hM _ _ s2
 have s4:Star (c::all M::c::all M::L) h:=Ent.star (.take (.there (.there .here)) (.take .here (.take (.there .here) (.take .here .refl)))) s3
 exact cons_all (star_map s4 (fun _ z=>z) fun _ z=>star_map z (fun _ z=>z) fun _ z=>cons_all z)
theorem bksC_snoc {ts:List (Nat × Nat)} {t:Nat × Nat}:bksC (ts++[t])=bksC ts++[bkC t.2 0 false]:=by simp [bksC]
theorem vec_rowB {b o n c:Nat} {cs:List Value}:∀ h,vec 1 (.slice (some ⟨b,o,none⟩) n c) cs h→∃ sp,arr b o (cs++sp) h:=fun h z=>by
 rcases z with ⟨e,_⟩ | ⟨b',o',n',c',sp,e,h1,h2,h3,h4⟩
 ·cases e
 ·cases e;exact ⟨sp,h4⟩
abbrev nroS (c8 b8 p8 l8 cb bb pp r b limit qb qo nt qc:Nat) (ts:List (Nat × Nat)) (rs:List RWB) (sp:List Value) (D:HProp) (L:List HProp):HProp :=
 all [fro c8 0 [.pointer (some ⟨cb,0,none⟩)],fro b8 0 [.slice (some ⟨bb,0,none⟩) nt nt],fro bb 0 (ts.map fun t=>Value.pointer (some ⟨t.2,0,none⟩)),fro p8 0 [.pointer (some ⟨pp,0,none⟩)],fro pp 0 [.pointer (some ⟨r,0,none⟩),.pointer (some ⟨b,0,none⟩),.int .u64 (limit:Nat),.int .u64 (2:Nat),.int .u64 (2:Nat)],fro l8 0 [.slice (some ⟨qb,qo,none⟩) nt qc],fro qb qo (rs.map rvB++sp),all (D::L)]
def rowB (rs:List RWB) (i:Nat):List Bool:=match rs[i]? with | some y=>y.2.2 | none=>[]
def nthrs (cb limit r c8 b8 p8 l8:Nat) (RoS:HProp) (rs:List RWB) (ts:List (Nat × Nat)):List (Thr ((nvW cb limit).g (gAddr r) 2 (gK r limit))):=ts.mapIdx fun i t=>{ fv:=nvF c8 b8 t.1 p8 l8,ini:=fun s=>nvNext s (rowB rs i) 0 false t.2,M:=mthB RoS i t }
section
variable {cb limit r c8 b8 p8 l8 bb pp b qb qo qc:Nat} {rs:List RWB} {sp:List Value} {D:HProp} {L:List HProp} {ts:List (Nat × Nat)}
theorem nthrs_ok (h1:1≤limit) (h5:limit≤5) (hrow:∀ y∈rs,RdsO (D::L) y.1 y.2.2.length (y.2.2.map .bool)∧y.2.2.length≤10) (hts:ts.length=rs.length) :
  ∀ t∈nthrs cb limit r c8 b8 p8 l8 (nroS c8 b8 p8 l8 cb bb pp r b limit qb qo rs.length qc ts rs sp D L) rs ts,ThrOk ((nvW cb limit).g (gAddr r) 2 (gK r limit)) t.ini t.fv t.M:=by
 intro t ht
 obtain ⟨i,hi⟩:=List.mem_iff_getElem?.1 ht
 simp only [nthrs,List.getElem?_mapIdx,Option.map_eq_some_iff] at hi
 obtain ⟨y,hy,rfl⟩:=hi
 have hil:=(List.getElem?_eq_some_iff.1 hy).1
 obtain ⟨z,hz⟩:∃ z,rs[i]?=some z:=⟨rs[i]'(by omega),List.getElem?_eq_getElem (by omega)⟩
 obtain ⟨hdo,h12⟩:=hrow z (List.mem_of_getElem? hz)
 have er:rowB rs i=z.2.2:=by unfold rowB;rw [hz]
 have lift:∀ {b1 o v},Rd [fro c8 0 [.pointer (some ⟨cb,0,none⟩)],fro b8 0 [.slice (some ⟨bb,0,none⟩) rs.length rs.length],fro bb 0 (ts.map fun t=>Value.pointer (some ⟨t.2,0,none⟩)),fro p8 0 [.pointer (some ⟨pp,0,none⟩)],fro pp 0 [.pointer (some ⟨r,0,none⟩),.pointer (some ⟨b,0,none⟩),.int .u64 (limit:Nat),.int .u64 (2:Nat),.int .u64 (2:Nat)],fro l8 0 [.slice (some ⟨qb,qo,none⟩) rs.length qc],fro qb qo (rs.map rvB++sp),all (D::L)] b1 o v→Rd [all [nroS c8 b8 p8 l8 cb bb pp r b limit qb qo rs.length qc ts rs sp D L,arr y.1 0 [.int .i64 (i:Nat)]]] b1 o v:=fun h=>rd_all (rd_all h)
 have O:NvRo (all [nroS c8 b8 p8 l8 cb bb pp r b limit qb qo rs.length qc ts rs sp D L,arr y.1 0 [.int .i64 (i:Nat)]]) c8 b8 y.1 p8 l8 cb y.2 pp r limit bb 0 rs.length rs.length qb qo qc i z.1 z.2.1 z.2.2 :=
  {
   h1:=lift (Rd.fro (k:=0) rfl rfl)
   h2:=lift (.there (Rd.fro (k:=0) rfl rfl))
   h3:=lift (.there (.there (Rd.fro (k:=i) (by rw [List.getElem?_map,hy];rfl) rfl)))
   h4:=rd_all (.there (.row0 rfl))
   h5:=lift (.there (.there (.there (Rd.fro (k:=0) rfl rfl))))
   h6:=lift (.there (.there (.there (.there (Rd.fro (k:=0) rfl rfl)))))
   h7:=lift (.there (.there (.there (.there (Rd.fro (k:=2) rfl rfl)))))
   h8:=lift (.there (.there (.there (.there (.there (Rd.fro (k:=0) rfl rfl))))))
   h9:=lift (.there (.there (.there (.there (.there (.there (Rd.fro (k:=i) (by rw [List.getElem?_append_left (by rw [List.length_map];omega),List.getElem?_map,hz];rfl) rfl)))))))
   h10:=⟨hdo.1,hdo.2.imp id fun ⟨b',o',e,hr⟩=>⟨b',o',e,fun j v hj=>lift (.there (.there (.there (.there (.there (.there (.there (rd_all (hr j v hj)))))))))⟩⟩
   hk:=by omega
   hl:=h12 }
 show ThrOk ((nvW cb limit).g (gAddr r) 2 (gK r limit)) (fun s=>nvNext s (rowB rs i) 0 false y.2) (nvF c8 b8 y.1 p8 l8) (mthB _ i y)
 rw [er]
 exact nv_ok h1 h5 O
theorem nthrs_M {RoS:HProp}:(nthrs cb limit r c8 b8 p8 l8 RoS rs ts).map Thr.M=ts.mapIdx (mthB RoS):=by
 apply List.ext_getElem?
 intro k
 simp only [nthrs,List.getElem?_map,List.getElem?_mapIdx]
 cases ts[k]? <;> rfl
theorem nthrs_fv {RoS:HProp}:(nthrs cb limit r c8 b8 p8 l8 RoS rs ts).map Thr.fv=ts.map fun t=>nvF c8 b8 t.1 p8 l8:=by
 apply List.ext_getElem?
 intro k
 simp only [nthrs,List.getElem?_map,List.getElem?_mapIdx]
 cases ts[k]? <;> rfl
theorem nthrs_ini {RoS:HProp}:∀ t∈nthrs cb limit r c8 b8 p8 l8 RoS rs ts,∀ s,(t.ini s).1=s:=fun t ht s=>by
 obtain ⟨i,hi⟩:=List.mem_iff_getElem?.1 ht
 simp only [nthrs,List.getElem?_mapIdx,Option.map_eq_some_iff] at hi
 obtain ⟨y,hy,rfl⟩:=hi
 exact nv_next0
theorem startF_qsB {g:Game}:∀ {ts:List (Thr g)} {s:g.σ},(∀ t∈ts,∀ s,(t.ini s).1=s)→startF ts s=(s,ts.map fun t=>(t.ini s).2)
 | [],s,_=>rfl
 | t::ts,s,h=>by
  have h1:=h t (by simp) s
  have h2:=startF_qsB (ts:=ts) (s:=s) fun u hu=>h u (by simp [hu])
  show ((startF ts (t.ini s).1).1,(t.ini s).2::(startF ts (t.ini s).1).2)=_
  rw [h1,h2];rfl
theorem sumN_leB {l:List Nat} {c:Nat} (h:∀ a∈l,a≤c):sumN l≤c*l.length:=by
 induction l with
 | nil=>simp [sumN]
 | cons a l ih =>
  have h1:=ih fun b hb=>h b (by simp [hb])
  have h2:=h a (by simp)
  simp only [sumN,List.foldr_cons,List.length_cons,Nat.mul_add] at h1 ⊢;omega
def nvS0:NvS:=⟨0,0,0,0,[]⟩
def nvQs (rs:List RWB) (ts:List (Nat × Nat)):List NvQ:=ts.mapIdx fun i t=>(nvNext nvS0 (rowB rs i) 0 false t.2).2
theorem nthrs_start {RoS:HProp}:startF (nthrs cb limit r c8 b8 p8 l8 RoS rs ts) (show ((nvW cb limit).g (gAddr r) 2 (gK r limit)).σ from nvS0)=(nvS0,nvQs rs ts):=by
 rw [startF_qsB nthrs_ini]
 congr 1
 apply List.ext_getElem?
 intro k
 show ((nthrs cb limit r c8 b8 p8 l8 RoS rs ts).map fun t=>(t.ini nvS0).2)[k]?=(nvQs rs ts)[k]?
 rw [List.getElem?_map]
 unfold nthrs nvQs
 rw [List.getElem?_mapIdx,List.getElem?_mapIdx]
 cases ts[k]? <;> rfl
theorem nv_q0 {rl:List Bool} {bk:Nat} (hl:rl.length≤10):nvPn (nvNext nvS0 rl 0 false bk).2=0∧nvLv (nvNext nvS0 rl 0 false bk).2=0∧(∀ v,nvCn v (nvNext nvS0 rl 0 false bk).2=0)∧(nvNext nvS0 rl 0 false bk).2.bin=0∧(nvNext nvS0 rl 0 false bk).2.bk=bk∧NvT limit (nvNext nvS0 rl 0 false bk).2∧nvφ nvS0 (nvNext nvS0 rl 0 false bk).2≤238:=by
 cases rl with
 | nil=>exact ⟨rfl,rfl,fun _=>rfl,rfl,rfl,⟨rfl,fun n h=>(by cases h),fun n p h=>(by cases h),fun m h=>(by cases h),fun a h=>(by cases h),fun h=>rfl⟩,by simp [nvNext,nvφ]⟩
 | cons a rest =>
  simp only [List.length_cons] at hl
  cases a with
  | true=>exact ⟨rfl,rfl,fun _=>rfl,rfl,rfl,⟨rfl,fun n h=>(by cases h),fun n p h=>(by cases h),fun m h=>(by cases h),fun a h=>(by cases h),fun h=>(by cases h)⟩,by simp [nvNext,nvφ];omega⟩
  | false=>exact ⟨rfl,rfl,fun _=>rfl,rfl,rfl,⟨rfl,fun n h=>(by cases h),fun n p h=>(by cases h),fun m h=>(by cases h),fun a h=>(by cases h),fun h=>(by cases h)⟩,by simp [nvNext,nvφ];omega⟩
theorem nv_bk {limit:Nat} {q:NvQ} {m:Int × Int} {f:NvS→NvS × NvQ} (hp:nvPlan limit q=some (m,f)) (s:NvS):(f s).2.bk=q.bk:=by
 obtain ⟨rl,bin,bad,st,bk⟩:=q
 cases rl with
 | nil=>cases hp
 | cons a rest =>
  simp only [nvPlan,Option.some.injEq,Prod.mk.injEq] at hp
  cases st <;> obtain ⟨_,rfl⟩:=hp <;> dsimp only <;> (try split) <;> (try rfl)
  unfold nvNext
  split <;> (try split) <;> rfl
theorem bk_set {qs:List NvQ} {m:Nat} {q q':NvQ} (hq:qs[m]?=some q) (h:q'.bk=q.bk):(qs.set m q').map NvQ.bk=qs.map NvQ.bk:=by
 have hlt:m<qs.length:=(List.getElem?_eq_some_iff.1 hq).1
 rw [List.map_set,h]
 apply List.ext_getElem?
 intro j
 rw [List.getElem?_set]
 split
 ·rename_i hj
  subst hj
  rw [if_pos (by rw [List.length_map];exact hlt),List.getElem?_map,hq];rfl
 ·rfl
theorem sumN_zero {α:Type} {φ:α→Nat} {l:List α} (h:∀ a∈l,φ a=0):sumN (l.map φ)=0:=by
 have:=sumN_leB (c:=0) (l:=l.map φ) fun a ha=>by
  obtain ⟨x,hx,rfl⟩:=List.mem_map.1 ha
  rw [h x hx];exact Nat.le_refl _
 omega
theorem rowB_le (hrow:∀ y∈rs,y.2.2.length≤10) (i:Nat):(rowB rs i).length≤10:=by
 unfold rowB
 cases h:rs[i]? with
 | none=>simp
 | some y=>exact hrow y (List.mem_of_getElem? h)
theorem nv_I0 (hrow:∀ y∈rs,y.2.2.length≤10) (h4:ts.length≤4):NvI limit nvS0 (nvQs rs ts)∧(nvQs rs ts).map NvQ.bk=ts.map (·.2)∧sumN ((nvQs rs ts).map (nvφ nvS0))≤952:=by
 have hmem:∀ (k:Nat) q,(nvQs rs ts)[k]?=some q→∃ i t,q=(nvNext nvS0 (rowB rs i) 0 false t).2:=fun k q hq=>by
  simp only [nvQs,List.getElem?_mapIdx,Option.map_eq_some_iff] at hq
  obtain ⟨y,_,rfl⟩:=hq
  exact ⟨k,y.2,rfl⟩
 have hm2:∀ q∈nvQs rs ts,∃ i t,q=(nvNext nvS0 (rowB rs i) 0 false t).2:=fun q hq=>by
  obtain ⟨k,hk⟩:=List.mem_iff_getElem?.1 hq
  exact hmem k q hk
 have hQ:∀ q∈nvQs rs ts,nvPn q=0∧nvLv q=0∧(∀ v,nvCn v q=0)∧q.bin=0∧NvT limit q∧nvφ nvS0 q≤238:=fun q hq=>by
  obtain ⟨i,t,rfl⟩:=hm2 q hq
  obtain ⟨a1,a2,a3,a4,_,a6,a7⟩:=nv_q0 (limit:=limit) (bk:=t) (rowB_le hrow i)
  exact ⟨a1,a2,a3,a4,a6,a7⟩
 have hlen:(nvQs rs ts).length=ts.length:=by simp [nvQs]
 refine ⟨⟨by omega,rfl,?_,fun v=>?_,fun e he=>by simp [nvS0] at he,⟨Int.le_refl 0,Int.le_refl 0⟩,Nat.zero_le _,Nat.zero_le _,?_,fun k q hq=>(hQ q (List.mem_of_getElem? hq)).2.2.2.2.1⟩,?_,?_⟩
 ·rw [sumN_zero fun q hq=>(hQ q hq).1,sumN_zero fun q hq=>(hQ q hq).2.1];rfl
 ·rw [sumN_zero fun q hq=>(hQ q hq).2.2.1 v];exact Nat.zero_le _
 ·rw [sumN_zero fun q hq=>(hQ q hq).2.2.2.1];rfl
 ·apply List.ext_getElem?
  intro k
  simp only [nvQs,List.getElem?_map,List.getElem?_mapIdx]
  cases ts[k]? with
  | none=>rfl
  | some t=>exact congrArg some (nv_q0 (limit:=0) (bk:=t.2) (rowB_le hrow k)).2.2.2.2.1
 ·have:=sumN_leB (c:=238) (l:=(nvQs rs ts).map (nvφ nvS0)) fun a ha=>by
   obtain ⟨q,hq,rfl⟩:=List.mem_map.1 ha
   exact (hQ q hq).2.2.2.2.2
  rw [List.length_map] at this
  omega
def nvPI (ts:List (Nat × Nat)) (p:PS ((nvW cb limit).g (gAddr r) 2 (gK r limit))):Prop:=NvI limit p.s p.qs∧(show List NvQ from p.qs).map NvQ.bk=ts.map (·.2)
theorem nv_iok (h5:limit≤5) {s:NvS} {qs:List NvQ} (I:NvI limit s qs):nvOk s:=by
 have h1:=I.w
 have h2:=I.pk
 have h3:=I.now
 have h4:=I.ws
 have h6:=I.most
 exact ⟨by omega,by omega,by omega,by omega,by omega,by omega⟩
theorem nv_plays {RoS:HProp} (hrow:∀ y∈rs,y.2.2.length≤10) (h4:ts.length≤4) (o:List Int) :
  (∀ (p:PS ((nvW cb limit).g (gAddr r) 2 (gK r limit))) k,nvPI ts p→nvPI ts (takeF p k).1)∧nvPI (cb:=cb) (r:=r) (limit:=limit) ts ⟨(startF (nthrs cb limit r c8 b8 p8 l8 RoS rs ts) (show ((nvW cb limit).g (gAddr r) 2 (gK r limit)).σ from nvS0)).1,(startF (nthrs cb limit r c8 b8 p8 l8 RoS rs ts) (show ((nvW cb limit).g (gAddr r) 2 (gK r limit)).σ from nvS0)).2,[]⟩ ∧
  nvPI ts (playF (nthrs cb limit r c8 b8 p8 l8 RoS rs ts) (show ((nvW cb limit).g (gAddr r) 2 (gK r limit)).σ from nvS0) o)∧(∀ q∈(show List NvQ from (playF (nthrs cb limit r c8 b8 p8 l8 RoS rs ts) (show ((nvW cb limit).g (gAddr r) 2 (gK r limit)).σ from nvS0) o).qs),q.rl=[]) ∧
  cutN ((nvW cb limit).g (gAddr r) 2 (gK r limit)) (playF (nthrs cb limit r c8 b8 p8 l8 RoS rs ts) (show ((nvW cb limit).g (gAddr r) 2 (gK r limit)).σ from nvS0) o).qs (nthrs cb limit r c8 b8 p8 l8 RoS rs ts).length=[]:=by
 have hs:∀ (p:PS ((nvW cb limit).g (gAddr r) 2 (gK r limit))) k,nvPI ts p→nvPI ts (takeF p k).1∧((takeF p k).2=true→sumN ((show List NvQ from (takeF p k).1.qs).map (nvφ (show NvS from (takeF p k).1.s)))+1≤sumN ((show List NvQ from p.qs).map (nvφ (show NvS from p.s)))):=fun p k h=>by
  rcases takeF_cases p k with e | ⟨m,q,mk,f,_,hq,hp,_,e⟩
  ·rw [e];exact ⟨h,fun h=>by cases h⟩
  ·rw [e]
   obtain ⟨a,b⟩:=nv_step h.1 hq hp
   refine ⟨⟨a,?_⟩,fun _=>b⟩
   have hb:=nv_bk hp p.s
   rw [← h.2]
   exact bk_set hq hb
 obtain ⟨i0,ib,f0⟩:=nv_I0 (limit:=limit) hrow h4
 have hI0:nvPI (cb:=cb) (r:=r) (limit:=limit) ts ⟨(startF (nthrs cb limit r c8 b8 p8 l8 RoS rs ts) (show ((nvW cb limit).g (gAddr r) 2 (gK r limit)).σ from nvS0)).1,(startF (nthrs cb limit r c8 b8 p8 l8 RoS rs ts) (show ((nvW cb limit).g (gAddr r) 2 (gK r limit)).σ from nvS0)).2,[]⟩:=by
  rw [nthrs_start];exact ⟨i0,ib⟩
 obtain ⟨hI,htr,hdone⟩:=play_ends (I:=nvPI ts) (Φ:=fun p=>sumN ((show List NvQ from p.qs).map (nvφ (show NvS from p.s)))) (ts:=nthrs cb limit r c8 b8 p8 l8 RoS rs ts) (s:=(show ((nvW cb limit).g (gAddr r) 2 (gK r limit)).σ from nvS0)) (o:=o) (n:=952) (fun p k h=>(hs p k h).1) (fun p k h=>(hs p k h).2) hI0 (by rw [nthrs_start];exact f0) (by omega)
 refine ⟨fun p k h=>(hs p k h).1,hI0,hI,fun q hq=>?_,cutN_nil hdone⟩
 obtain ⟨k,hk⟩:=List.mem_iff_getElem?.1 hq
 have hd:nvPlan limit q=none:=hdone k q hk
 revert hd
 unfold nvPlan
 cases q.rl with
 | nil=>exact fun _=>rfl
 | cons a l=>intro h;cases h
theorem nv_still {s:NvS} {qs:List NvQ} (I:NvI limit s qs) (h:∀ q∈qs,q.rl=[]):sumN (qs.map NvQ.bin)=s.w∧∀ q∈qs,q.bad=false:=by
 have hT:∀ q∈qs,NvT limit q:=fun q hq=>by
  obtain ⟨k,hk⟩:=List.mem_iff_getElem?.1 hq
  exact I.th k q hk
 have e1:sumN (qs.map nvPn)=0:=sumN_zero fun q hq=>by unfold nvPn;rw [(hT q hq).ov (h q hq)]
 have e2:sumN (qs.map nvLv)=0:=sumN_zero fun q hq=>by unfold nvLv;rw [(hT q hq).ov (h q hq)]
 have:=I.ws
 have:=I.bins
 exact ⟨by omega,fun q hq=>(hT q hq).bad⟩
end
end
section
def nvOut (c8 b8 p8 l8 cb bb pp r b limit:Nat) (qv ov:Value) (rs:List RWB) (D:HProp) (L:List HProp):PB.Inv (Nat × Nat × Value × List (Nat × Nat)) MX where
 e:=fun i=>[(0,ov),(7,.pointer (some ⟨p8,0,none⟩)),(8,.pointer (some ⟨l8,0,none⟩)),(9,.pointer (some ⟨b8,0,none⟩)),(10,.pointer (some ⟨c8,0,none⟩)),(11,i.2.2.1),(12,.pointer (some ⟨i.2.1,0,none⟩))]
 L:=fun i=>arr i.2.1 0 [.int .i64 (i.1:Nat)]::vec 1 i.2.2.1 (i.2.2.2.map fun t=>nvF c8 b8 t.1 p8 l8)::arr bb 0 (bkRow i.2.2.2 rs.length)::all (boxesN (i.2.2.2.map (·.1)))::all (bksC i.2.2.2)::arr c8 0 [.pointer (some ⟨cb,0,none⟩)]::arr cb 0 [.int .i64 0,.int .i64 0]::arr b8 0 [.slice (some ⟨bb,0,none⟩) rs.length rs.length]::arr l8 0 [qv]::vec 1 qv (rs.map rvB)::D::arr p8 0 [.pointer (some ⟨pp,0,none⟩)]::arr pp 0 [.pointer (some ⟨r,0,none⟩),.pointer (some ⟨b,0,none⟩),.int .u64 (limit:Nat),.int .u64 (2:Nat),.int .u64 (2:Nat)]::gC r limit (fun _=>0)::bC b 2 2 (fun _=>0)::L
 x:=fun _=>.idle
 ok:=fun i=>i.1≤rs.length∧i.2.2.2.length=i.1
set_option maxHeartbeats 4000000 in
theorem never_tr {L:List HProp} {na:Nat} {ta oa:Option Addr} {tc oc:Nat} {rs0:List RWB} {order:List Int} (hL:Dup (all L)) (hna:na<18446744073709551616) (hr0:ThsB L ta rs0) (hro:RdsO L oa order.length (intC order)) (hoi:∀ k∈order,-9223372036854775808≤k∧k≤9223372036854775807) :
  Tr Try.prog mT 9 [.slice oa order.length oc,.slice ta rs0.length tc,.int .u64 (na:Nat)] L .idle fun v L' x'=>v=.bool true∧x'=.idle:=by
 refine tr_of_body Try.func9 rfl Try.ntmps9 (by simp) fun um Q _ hQ=>?_
 simp only [argE,Nat.zero_add,Nat.reduceAdd]
 obtain ⟨limit,hlim⟩:∃ n,1+(na%5)%1048576=n:=⟨_,rfl⟩
 have hl1:1≤limit:=by omega
 have hl5:limit≤5:=by omega
 have m0:(na:Int).tmod 5=((na%5:Nat):Int):=by rw [Int.tmod_eq_emod_of_nonneg (by omega)];omega
 repeat (first | (apply wo_po;apply mo_bin;exact rfl;exact rfl;apply bin_rem;omega;exact m0;exact trivial) | refine we_seq ?_ | (refine wR ?_;try simp only [oS]) | refine wo_nil ?_ | refine wM ?_ | refine wA ?_)
 refine wo_call (.cons rfl (.cons rfl (.cons rfl .nil))) trivial (made_tr (l0:=na%5) (f0:=1) (w0:=1) (limit:=limit) (fails:=2) (wait:=2) hlim rfl rfl) ?_
 rintro v1 L1 x1 ⟨pp,r,b,rfl,rfl,rfl⟩
 repeat (first | (apply wo_mo;apply mo_alloc;exact trivial))
 rintro v' L' ⟨p8,rfl,rfl⟩
 repeat (first | refine wS ?_ | refine we_seq ?_ | (refine wR ?_;try simp only [oS]) | refine wo_nil ?_ | refine wM ?_ | refine wL ?_ | (apply wo_po;apply mo_bin;exact rfl;exact rfl;apply bin_eq;apply eql_ptr_nil;exact gY))
 refine wo_call .nil rfl awake_tr ?_
 rintro v1 L1 x1 ⟨rfl,rfl,rfl⟩
 repeat (first | refine we_seq ?_ | (refine wR ?_;try simp only [oS]) | refine wo_nil ?_ | refine wM ?_ | refine wJ ?_ | (apply wo_po;apply mo_not;exact rfl;exact gY) | refine wF ?_ | refine we_skip ?_)
 refine wo_call (.cons rfl (.cons rfl .nil)) trivial (whats_tr [_,_,_,_] hr0) ?_
 rintro qv L2 x1 ⟨rs,D,hD,hpos,h4,hrow,rfl,rfl⟩
 refine wo_star (vec 1 qv (rs.map rvB)::D::arr p8 0 [.pointer (some ⟨pp,0,none⟩)]::arr pp 0 [.pointer (some ⟨r,0,none⟩),.pointer (some ⟨b,0,none⟩),.int .u64 (limit:Nat),.int .u64 (2:Nat),.int .u64 (2:Nat)]::gC r limit (fun _=>0)::bC b 2 2 (fun _=>0)::L) (fun h st=>st) ?_
 refine wo_pure (of_has .here (vec_shape (by omega))) ?_
 rintro ⟨qa,qn,qc,rfl,hqn,_,hqz,hqy⟩
 have hqn:qn=rs.length:=by simp at hqn;omega
 subst hqn
 cases qa with
 | none=>have:=hqz rfl;omega
 | some ad =>
 obtain ⟨qb,qo,sp⟩:=ad
 have:=hqy _ rfl
 simp only [Addr.mk.injEq,true_and] at this
 subst this
 repeat (first | (apply wo_mo;apply mo_alloc;exact trivial))
 rintro v' L' ⟨l8,rfl,rfl⟩
 repeat (first | refine wS ?_ | (apply wo_mo;apply mo_make (n:=rs.length);exact rfl;exact rfl;exact rfl;omega;omega;exact trivial) | refine we_seq ?_ | (refine wR ?_;try simp only [oS]) | refine wo_nil ?_ | refine wL ?_ | refine wE ?_)
 rintro v' L' ⟨bb,rfl,rfl⟩
 repeat (first | (apply wo_mo;apply mo_alloc;exact trivial))
 rintro v' L' ⟨b8,rfl,rfl⟩
 repeat (first | refine wS ?_ | (apply wo_po;apply mo_build (pv:=[]);exact rfl;exact .nil;exact rfl;exact trivial) | (apply wo_mo;apply mo_box;exact rfl;exact trivial) | refine we_seq ?_ | (refine wR ?_;try simp only [oS]) | refine wo_nil ?_)
 rintro v' L' ⟨cb,rfl,rfl⟩
 repeat (first | (apply wo_mo;apply mo_alloc;exact trivial))
 rintro v' L' ⟨c8,rfl,rfl⟩
 repeat (first | refine wS ?_ | (apply wo_mo;apply mo_alloc;exact trivial) | refine we_seq ?_ | (refine wR ?_;try simp only [oS]) | refine wo_nil ?_ | refine wA ?_)
 rintro v' L' ⟨ib,rfl,rfl⟩
 repeat (first | refine wS ?_ | refine wo_nil ?_ | refine we_block ?_)
 refine we_star ((nvOut c8 b8 p8 l8 cb bb pp r b limit (.slice (some ⟨qb,qo,none⟩) rs.length qc) (.slice oa order.length oc) rs D L).L (0,ib,.slice none 0 0,[])) (fun h st=>?_) ?_
 ·have s1:Star (arr ib 0 [.int .i64 (0:Nat)]::arr c8 0 [.pointer (some ⟨cb,0,none⟩)]::arr cb 0 [.int .i64 0,.int .i64 0]::arr b8 0 [.slice (some ⟨bb,0,none⟩) rs.length rs.length]::arr bb 0 (zeros rs.length [.pointer none])::arr l8 0 [.slice (some ⟨qb,qo,none⟩) rs.length qc]::_) h:=st
  rw [zeros_rep] at s1
  have s3:Star (all []::all []::vec 1 (.slice none 0 0) []::_) h:=star_shut (M:=[]) (star_shut (M:=[]) (vec_nil s1))
  exact Ent.star (.take (.there (.there (.there .here))) (.take (.there (.there .here)) (.take (.there (.there (.there (.there (.there .here))))) (.take .here (.take .here (.take .here (.take .here (.take .here .refl)))))))) s3
 refine we_loopN (nvOut c8 b8 p8 l8 cb bb pp r b limit (.slice (some ⟨qb,qo,none⟩) rs.length qc) (.slice oa order.length oc) rs D L) (fun i=>rs.length-i.1) (0,ib,.slice none 0 0,[]) ⟨Nat.zero_le _,rfl⟩ ⟨rfl,rfl,rfl,rfl,rfl,rfl,rfl,trivial⟩ .refl rfl ?_
 rintro ⟨i,ib,tv,ts⟩ ⟨hi,hts⟩
 dsimp only at hi hts
 simp only [nvOut]
 refine we_pure (of_has (.there .here) (vec_shape (by omega))) ?_
 rintro ⟨tva,tvn,tvc,rfl,htvn,_,htz,hty⟩
 have htvn:tvn=i:=by simp at htvn;omega
 subst htvn
 by_cases hlt:tvn<rs.length
 ·repeat (first | (apply wo_po;apply mo_build (pv:=[]);exact rfl;exact .nil;exact rfl;exact trivial) | (apply wo_mo;apply mo_box;exact rfl;exact trivial) | refine wlssT ?_ | refine we_seq ?_ | (refine wR ?_;try simp only [oS]) | refine wo_nil ?_ | refine wL ?_ | refine wE ?_ | refine wT ?_ | refine we_skip ?_ | refine we_block ?_)
  rintro v' L' ⟨bk,rfl,rfl⟩
  repeat (first | (apply wo_po;apply mo_index1;exact rfl;exact rfl;omega;exact trivial) | (apply wo_pm;apply mo_store;exact rfl;exact rfl;exact rfl;apply Wt.row (k:=tvn) (vs:=bkRow ts rs.length);(rw [bkRow_len (by omega)];exact hlt);exact rfl;exact (.there (.there (.there .here)));exact trivial) | (apply wo_po;apply mo_makeFunc (first:=[]) (cap:=[_,_,_,_,_]) (vf:=[]);exact .nil;exact .cons rfl (.cons rfl (.cons rfl (.cons rfl (.cons rfl .nil))));exact trivial) | (apply wo_mo;apply mo_buildSlice (sz:=1) (vs:=[nvF c8 b8 ib p8 l8]);exact rfl;exact .cons rfl .nil;exact rfl;(intro v hv;cases (List.mem_singleton.1 hv);exact rfl);omega;exact trivial) | (refine wR ?_;try simp only [oS]) | refine wo_nil ?_ | refine wM ?_)
  rintro v' L' ⟨nb2,rfl,rfl⟩
  repeat (first | (apply wo_mo;apply mo_append (sz:=1) (new:=[nvF c8 b8 ib p8 l8]);exact rfl;exact rfl;exact rfl;exact rfl;exact (.there (.there (.there .here)));exact rfl;exact .inr ⟨_,_,rfl,Rds.all .here⟩;(intro v hv;cases (List.mem_singleton.1 hv);exact rfl);(simp only [sliceLen];omega);exact trivial))
  rintro tv' L' rfl
  repeat (first | (apply wo_mo;apply mo_alloc;exact trivial) | refine we_seq ?_ | (refine wR ?_;try simp only [oS]) | refine wo_nil ?_ | refine wA ?_ | refine wL ?_)
  rintro v' L' ⟨ib2,rfl,rfl⟩
  repeat (first | refine wS ?_ | (refine wR ?_;try simp only [oS]) | refine wo_nil ?_ | refine wL ?_ | refine wadd ?_)
  refine at_roundS (B:=mT) (I:=nvOut c8 b8 p8 l8 cb bb pp r b limit (.slice (some ⟨qb,qo,none⟩) rs.length qc) (.slice oa order.length oc) rs D L) (R:=fun q=>rs.length-q.1<rs.length-tvn) (tvn+1,ib2,tv',ts++[(ib,bk)]) (by show rs.length-(tvn+1)<rs.length-tvn;omega) ⟨by show tvn+1≤rs.length;omega,by simp [hts]⟩ ?_ (fun hp st=>?_) rfl
  ·exact ⟨rfl,rfl,rfl,rfl,rfl,rfl,rfl,trivial⟩
  ·have s1:=star_open (Ent.star (.take (.there (.there (.there (.there (.there (.there .here)))))) (.take (.there (.there (.there (.there .here)))) (.take .here (.take .here (.drop .refl))))) st)
   have s2:Star (all (boxesN ((ts++[(ib,bk)]).map (·.1)))::_) hp:=star_shut (by
    rw [List.map_append,List.map_cons,List.map_nil,boxesN_snoc,List.append_assoc,List.length_map,hts]
    exact s1)
   have s3:Star (bkC bk 0 false::_) hp:=star_shut (M:=[_]) (Ent.star (.take (.there (.there (.there .here))) .refl) s2)
   have s4:=star_open (Ent.star (.take (.there (.there (.there (.there (.there .here))))) (.take .here .refl)) s3)
   have s5:Star (all (bksC (ts++[(ib,bk)]))::_) hp:=star_shut (by
    rw [bksC_snoc,List.append_assoc]
    exact s4)
   have e1:(ts++[(ib,bk)]).map (fun t=>nvF c8 b8 t.1 p8 l8)=ts.map (fun t=>nvF c8 b8 t.1 p8 l8)++[nvF c8 b8 ib p8 l8]:=by rw [List.map_append];rfl
   show Star (_::vec 1 tv' ((ts++[(ib,bk)]).map fun t=>nvF c8 b8 t.1 p8 l8)::arr bb 0 (bkRow (ts++[(ib,bk)]) rs.length)::_) hp
   rw [e1,← bkRow_set (by omega),hts]
   exact Ent.star (.take (.there (.there .here)) (.take (.there (.there .here)) (.take (.there (.there .here)) (.take (.there .here) (.take .here .refl))))) s5
 obtain rfl:tvn=rs.length:=by omega
 rw [bkRow_full hts]
 repeat (first | refine wlssF ?_ | refine we_seq ?_ | (refine wR ?_;try simp only [oS]) | refine wo_nil ?_ | refine wM ?_ | refine wL ?_ | refine wE ?_ | refine wF ?_ | refine we_exit ?_)
 refine wo_call (.cons rfl (.cons rfl .nil)) trivial (order_tr (m:=rs.length) (rdso_liftB [_,_,_,_,_,_,_,_,_,_,_,_,_,_,_] hro) (by omega) hoi) ?_
 rintro odv L1 x1 ⟨rfl,rfl⟩
 refine wo_pure (of_has .here (vec_shape (by omega))) ?_
 rintro ⟨oda,odn,odc,rfl,hodn,_,hodz,hody⟩
 have hol:(orderF rs.length order).length≤4096:=by simp only [orderF,List.length_map,List.length_take];omega
 obtain rfl:odn=(orderF rs.length order).length:=by simp [intC] at hodn;omega
 repeat (first | refine wM ?_)
 refine wo_frz (b:=c8) (o:=0) (.there (.there (.there (.there (.there (.there .here)))))) ?_
 refine wo_frz (b:=b8) (o:=0) (.there (.there (.there (.there (.there (.there (.there (.there .here)))))))) ?_
 refine wo_frz (b:=bb) (o:=0) (.there (.there (.there (.there (.there .here))))) ?_
 refine wo_frz (b:=p8) (o:=0) (.there (.there (.there (.there (.there (.there (.there (.there (.there (.there (.there (.there .here)))))))))))) ?_
 refine wo_frz (b:=pp) (o:=0) (.there (.there (.there (.there (.there (.there (.there (.there (.there (.there (.there (.there (.there .here))))))))))))) ?_
 refine wo_frz (b:=l8) (o:=0) (.there (.there (.there (.there (.there (.there (.there (.there (.there (.there (.there .here))))))))))) ?_
 refine wo_star ((fun h=>∃ sp,arr qb qo (rs.map rvB++sp) h)::_) (fun h st=>star_map (Ent.star (.take (.there (.there (.there (.there (.there (.there (.there (.there (.there (.there (.there (.there .here)))))))))))) .refl) st) vec_rowB fun _ z=>z) ?_
 refine wo_ex .here fun sp=>?_
 refine wo_frz (b:=qb) (o:=qo) .here ?_
 let RoS:HProp:=nroS c8 b8 p8 l8 cb bb pp r b limit qb qo rs.length qc ts rs sp D L
 have hDL:Dup (all (D::L)):=dup_cons hD hL
 have hRoS:Dup RoS:=dup_all (by
  intro c hc
  simp only [List.mem_cons,List.not_mem_nil,or_false] at hc
  rcases hc with rfl | rfl | rfl | rfl | rfl | rfl | rfl | rfl
  all_goals first | exact dup_fro | exact hDL)
 obtain ⟨hIs,hI0,hI,hover,hcut⟩:=nv_plays (cb:=cb) (limit:=limit) (r:=r) (c8:=c8) (b8:=b8) (p8:=p8) (l8:=l8) (ts:=ts) (RoS:=RoS) (fun y hy=>(hrow y hy).2) (by omega) (orderF rs.length order)
 have hlen:(nthrs cb limit r c8 b8 p8 l8 RoS rs ts).length=rs.length:=by rw [← hts];simp [nthrs]
 refine wo_star (all [wds (gAddr r) 2 (gK r limit) ((nvW cb limit).wf nvS0),(nvW cb limit).Z ((nvW cb limit).zf nvS0)]::all ((nthrs cb limit r c8 b8 p8 l8 RoS rs ts).map Thr.M)::RoS::vec 1 (.slice oda (orderF rs.length order).length odc) (intC (orderF rs.length order))::vec 1 (.slice tva rs.length tvc) (ts.map fun t=>nvF c8 b8 t.1 p8 l8)::[]) (fun h st=>?_) ?_
 ·have s1:=star_tail (M:=[_,_,_,_,_,_,_,_,_,_,_,_,_,_,_]) (Ent.star (.take .here (.take .here (.take .here (.take .here (.take .here (.take .here (.take .here (.take .here (.take .here (.take .here (.take .here (.take .here (.take .here (.take (.there .here) (.take (.there .here) .refl))))))))))))))) st)
  have s2:Star (RoS::_) h:=star_shut (M:=[_,_,_,_,_,_,_,_]) (Ent.star (.take (.there (.there (.there (.there (.there (.there (.there .here))))))) (.take (.there (.there (.there (.there (.there (.there .here)))))) (.take (.there (.there (.there (.there (.there .here))))) (.take (.there (.there (.there (.there .here)))) (.take (.there (.there (.there .here))) (.take (.there (.there .here)) (.take (.there .here) (.take .here .refl)))))))) s1)
  have s4:=dealB hRoS (Ent.star (.take .here (.take (.there (.there (.there .here))) (.take (.there (.there (.there .here))) (.take .here (.drop (.take .here (.take .here (.take .here (.drop .refl))))))))) s2)
  rw [nthrs_M]
  have s5:Star (wds (gAddr r) 2 (gK r limit) ((nvW cb limit).wf nvS0)::(nvW cb limit).Z ((nvW cb limit).zf nvS0)::_) h:=star_map (Ent.star (.take (.there (.there (.there (.there (.there .here))))) (.take (.there (.there (.there (.there .here)))) (.take .here (.take .here (.take .here (.take .here .refl)))))) s4) (wds_congr fun j hj=>by show 0=(if j=0 then 0 else 0);split <;> rfl) fun _ z=>z
  exact star_shut (M:=[_,_]) s5
 skip
 refine wo_call (.cons rfl (.cons rfl .nil)) trivial (plays_tr (g:=(nvW cb limit).g (gAddr r) 2 (gK r limit)) (ts:=nthrs cb limit r c8 b8 p8 l8 RoS rs ts) (s0:=nvS0) (order:=orderF rs.length order) (nvPI ts) (fun j hj=>by
   have e:(startF ((nthrs cb limit r c8 b8 p8 l8 RoS rs ts).take j) (show ((nvW cb limit).g (gAddr r) 2 (gK r limit)).σ from nvS0)).1=nvS0:=by rw [startF_qsB fun t ht=>nthrs_ini t (List.mem_of_mem_take ht)]
   rw [e];exact ⟨Nat.zero_le _,Nat.zero_le _,Int.le_refl 0,by show (0:Int)≤5;decide,Int.le_refl 0,by show (0:Int)≤5;decide⟩) hI0 hIs (fun p h _=>nv_iok hl5 h.1) (fun _ _ z=>z) (nthrs_ok hl1 hl5 hrow hts) (by omega) (by omega) (by omega)
   (by rw [nthrs_fv];exact rdso_vec (.there (.there .here)) (by simp [hts]) htz hty) (rdso_vec (.there .here) (by simp [intC]) hodz hody)) ?_
 rintro v1 L1 x1 ⟨tv2,cv2,rfl,rfl,rfl⟩
 rw [hcut]
 generalize playF (nthrs cb limit r c8 b8 p8 l8 RoS rs ts) (show ((nvW cb limit).g (gAddr r) 2 (gK r limit)).σ from nvS0) (orderF rs.length order)=p at hI hover hcut ⊢
 obtain ⟨S,hS⟩:∃ S:NvS,S=(show NvS from p.s):=⟨_,rfl⟩
 obtain ⟨qs,hqs⟩:∃ qs:List NvQ,qs=(show List NvQ from p.qs):=⟨_,rfl⟩
 have hI1:NvI limit S qs:=by rw [hS,hqs];exact hI.1
 have hI2:qs.map NvQ.bk=ts.map (·.2):=by rw [hqs];exact hI.2
 have hov:∀ q∈qs,q.rl=[]:=by rw [hqs];exact hover
 refine wo_pure (of_has (.there .here) (vec_shape (by omega))) ?_
 rintro ⟨a2,n2,c2,rfl,hn2,_,_⟩
 obtain rfl:n2=0:=by simp [cutC] at hn2;omega
 refine wo_pure (of_has .here (vec_shape (by omega))) ?_
 rintro ⟨a1,n1,c1,rfl,_⟩
 have hmost:=hI1.most
 have hpk:=hI1.pk
 have hwl:=hI1.w
 obtain ⟨hsum,hbad⟩:=nv_still hI1 hov
 obtain ⟨mo,hmo⟩:∃ mo:Nat,S.most=mo:=⟨S.most.toNat,by omega⟩
 refine wo_star (gC r limit ((nvW cb limit).wf S)::arr cb 0 [.int .i64 S.now,.int .i64 (mo:Nat)]::all (qs.map fun q=>bkC q.bk q.bin q.bad)::RoS::[]) (fun h st=>?_) ?_
 ·have s4:Star (wds (gAddr r) 2 (gK r limit) ((nvW cb limit).wf p.s)::(nvW cb limit).Z ((nvW cb limit).zf p.s)::_) h:=star_open (M:=[_,_]) (Ent.star (.take (.there (.there .here)) .refl) st)
  rw [← hmo,hS,hqs]
  exact Ent.star (.take .here (.take .here (.take (.there (.there .here)) (.take (.there (.there .here)) (.drop (.drop (.drop (.drop .refl)))))))) s4
 repeat (first | (apply wo_mo;apply mo_alloc;exact trivial) | refine wM ?_ | (apply wo_po;apply mo_extract;exact rfl;exact rfl;exact gY))
 rintro v' L' ⟨pb3,rfl,rfl⟩
 have up:∀ {c d e f:HProp} {b1 o:Nat} {v:Value},Rd [fro c8 0 [.pointer (some ⟨cb,0,none⟩)],fro b8 0 [.slice (some ⟨bb,0,none⟩) rs.length rs.length],fro bb 0 (ts.map fun t=>Value.pointer (some ⟨t.2,0,none⟩)),fro p8 0 [.pointer (some ⟨pp,0,none⟩)],fro pp 0 [.pointer (some ⟨r,0,none⟩),.pointer (some ⟨b,0,none⟩),.int .u64 (limit:Nat),.int .u64 (2:Nat),.int .u64 (2:Nat)],fro l8 0 [.slice (some ⟨qb,qo,none⟩) rs.length qc],fro qb qo (rs.map rvB++sp),all (D::L)] b1 o v→Rd (c::d::e::f::RoS::[]) b1 o v:=fun hr=>rd_liftB [_,_,_,_] (rd_all hr)
 have rc8:∀ {c d e f:HProp},Rd (c::d::e::f::RoS::[]) c8 0 (.pointer (some ⟨cb,0,none⟩)):=up (Rd.fro (k:=0) rfl rfl)
 have rb8:∀ {c d e f:HProp},Rd (c::d::e::f::RoS::[]) b8 0 (.slice (some ⟨bb,0,none⟩) rs.length rs.length):=up (.there (Rd.fro (k:=0) rfl rfl))
 have rp8:∀ {c d e f:HProp},Rd (c::d::e::f::RoS::[]) p8 0 (.pointer (some ⟨pp,0,none⟩)):=up (.there (.there (.there (Rd.fro (k:=0) rfl rfl))))
 have rpp0:∀ {c d e f:HProp},Rd (c::d::e::f::RoS::[]) pp (0+0) (.pointer (some ⟨r,0,none⟩)):=up (.there (.there (.there (.there (Rd.fro (k:=0) rfl rfl)))))
 have rpp2:∀ {c d e f:HProp},Rd (c::d::e::f::RoS::[]) pp (0+2) (.int .u64 (limit:Nat)):=up (.there (.there (.there (.there (Rd.fro (k:=2) rfl rfl)))))
 repeat (first | (apply wo_pm;apply mo_storeA (c:=0) (k:=0) (a:=0) (vs:=[.slice none 0 0,.slice none 0 0]);exact rfl;exact rfl;exact rfl;(intro w hw;simp [Value.cells] at hw;rcases hw with rfl | rfl <;> rfl);exact rfl;exact Nat.le_refl 2;exact .here;exact trivial) | (apply wo_po;apply mo_load;exact rfl;(first | exact rp8 | exact rpp0);exact trivial) | refine we_seq ?_ | (refine wR ?_;try simp only [oS]) | refine wo_nil ?_ | refine wA ?_ | refine wN ?_ | refine wD ?_)
 refine wo_call (.cons rfl (.cons rfl .nil)) trivial (get_lone hl1 (by omega) (.there .here)) ?_
 rintro v1 L1 x1 ⟨rfl,rfl,rfl⟩
 rw [show (nvW cb limit).wf S 0=S.w from rfl,show (nvW cb limit).wf S 1=S.pk from rfl]
 repeat (first | refine we_seq ?_ | refine wo_nil ?_ | refine wM ?_ | refine wA ?_ | (apply wo_po;apply mo_extract;exact rfl;exact rfl;exact gY))
 refine we_draw (List.range' 0 51) (by kernel_rfl) ?_
 have hql:qs.length=ts.length:=by have:=congrArg List.length hI2;simpa using this
 repeat (first | (apply ap_read;exact rfl;exact rfl;exact gY;apply mo_load;exact rfl;(first | exact rb8 | exact rp8 | exact rpp2 | exact rc8)) | (apply ap_pure;exact rfl;exact rfl;exact gY;intro L;apply mo_bin;exact rfl;exact rfl;apply bin_eqlT;omega) | refine aM ?_ | refine aN ?_ | refine aD ?_ | (apply ap_pure;exact rfl;exact rfl;exact gY;intro L;apply mo_pickT;exact rfl;exact rfl;exact rfl) | (apply ap_pure;exact rfl;exact rfl;exact gY;intro L;apply mo_len;exact rfl) | refine aL ?_)
 refine ap_callv rfl rfl rfl rfl rfl rfl rfl (.cons rfl (.cons rfl (.cons rfl .nil))) (settled_tr (qs:=qs.map fun q=>(q.bk,q.bin)) (by rw [List.length_map,hql,hts]) (by omega) (fun k q hq=>?_) (by rw [List.map_map];exact hsum) hwl (by omega)) ?_
 ·rw [List.getElem?_map,Option.map_eq_some_iff] at hq
  obtain ⟨q,hq,rfl⟩:=hq
  have hb1:(ts.map fun t=>Value.pointer (some ⟨t.2,0,none⟩))[k]?=some (.pointer (some ⟨q.bk,0,none⟩)):=by
   have:(qs.map NvQ.bk)[k]?=some q.bk:=by rw [List.getElem?_map,hq];rfl
   rw [hI2,List.getElem?_map,Option.map_eq_some_iff] at this
   obtain ⟨t,ht,e⟩:=this
   rw [List.getElem?_map,ht,← e];rfl
  have hc:∀ {b1 o:Nat} {v:Value},Rd [arr q.bk 0 [.int .i64 (q.bin:Nat),.bool q.bad]] b1 o v→Rd (gC r limit ((nvW cb limit).wf S)::arr pb3 0 [.slice a1 n1 c1,.slice a2 0 c2]::arr cb 0 [.int .i64 S.now,.int .i64 (mo:Nat)]::all (qs.map fun q=>bkC q.bk q.bin q.bad)::RoS::[]) b1 o v:=fun hr=>rd_liftB [_,_,_] (rd_all (Rd.of (has_get (i:=k) (by rw [List.getElem?_map,hq];rfl)) (rd_all hr)))
  refine ⟨bb,0,rfl,up (.there (.there (Rd.fro (k:=k) hb1 rfl))),hc (.row0 rfl),?_⟩
  have:=hc (b1:=q.bk) (o:=1) (v:=.bool q.bad) (.row0 rfl)
  rwa [hbad q (List.mem_of_getElem? hq)] at this
 rintro v L' x' ⟨rfl,rfl,rfl⟩
 repeat (first | (apply ap_read;exact rfl;exact rfl;exact gY;apply mo_load;exact rfl;(first | exact rb8 | exact rp8 | exact rpp2 | exact rc8)) | (apply ap_pure;exact rfl;exact rfl;exact gY;intro L;apply mo_bin;exact rfl;exact rfl;apply bin_leqT;omega) | (apply ap_pure;exact rfl;exact rfl;exact gY;intro L;apply mo_bin;exact rfl;exact rfl;apply bin_geqT;omega) | (apply ap_pure;exact rfl;exact rfl;exact gY;intro L;apply mo_conv;exact rfl;(first | exact wrap_i64 (by omega) (by omega) | exact wrap_u64 (by omega) (by omega))) | refine aM ?_ | refine aA ?_ | refine aN ?_ | refine aD ?_ | (apply ap_pure;exact rfl;exact rfl;exact gY;intro L;apply mo_pickT;exact rfl;exact rfl;exact rfl) | refine aL ?_ | refine ap_end ?_)
 repeat (first | refine we_ret ?_)
 (first | refine or1 Try.func9 Try.results9 hQ rfl ?_ | refine on1 Try.func9 Try.results9 hQ rfl ?_)
 exact ⟨rfl,rfl⟩
end
end Go.Proofs.Ytnnpdmhmpgmpnaa
namespace Go.PB
open Go.Conc Go.Conc.Lib Go.ConcR.Gen
open Go.ConcR (KK stA smA rd wr mk DC0)
def WgAt (ty:TypeId) (wg:Nat) (w:World) (st sm:Int):Prop:=∃ f:Nat × Nat,w.heap[wg]?=some (.cells #[.int .u64 st,.int .u32 sm] ty f)∧w.frozen? ⟨wg,0,none⟩=false∧w.frozen? ⟨wg,1,none⟩=false
section
variable {ty:TypeId} {wg:Nat} {w w':World} {st sm:Int}
theorem WgAt.cellSt (h:WgAt ty wg w st sm):w.cell? (stA wg)=some (.int .u64 st):=by obtain ⟨f,h,_⟩:=h;simp [World.cell?,stA,h]
theorem WgAt.cellSm (h:WgAt ty wg w st sm):w.cell? (smA wg)=some (.int .u32 sm):=by obtain ⟨f,h,_⟩:=h;simp [World.cell?,smA,h]
theorem WgAt.thaw (h:WgAt ty wg w st sm) (n:Nat) (hn:n<2:=by decide):w.frozen? ⟨wg,n,none⟩=false:=by
 obtain ⟨f,_,h0,h1⟩:=h
 rcases n with _ | _ | n
 ·exact h0
 ·exact h1
 ·omega
theorem WgAt.unique {st' sm':Int} (h:WgAt ty wg w st sm) (h':WgAt ty wg w st' sm'):st=st'∧sm=sm':=by
 obtain ⟨f,h,_⟩:=h
 obtain ⟨f',h',_⟩:=h'
 rw [h] at h'
 simp at h'
 exact ⟨h'.1.1,h'.1.2⟩
theorem WgAt.setSt (h:WgAt ty wg w st sm) (v:Int):WgAt ty wg (w.setCell (stA wg) (.int .u64 v)) v sm:=by
 obtain ⟨f,h,h0,h1⟩:=h
 refine ⟨f,?_,by rw [frozen_setCell];exact h0,by rw [frozen_setCell];exact h1⟩
 simp [World.setCell,stA,Array.getElem?_modify,h]
theorem WgAt.setSm (h:WgAt ty wg w st sm) (v:Int):WgAt ty wg (w.setCell (smA wg) (.int .u32 v)) st v:=by
 obtain ⟨f,h,h0,h1⟩:=h
 refine ⟨f,?_,by rw [frozen_setCell];exact h0,by rw [frozen_setCell];exact h1⟩
 simp [World.setCell,smA,Array.getElem?_modify,h]
theorem WgAt.of_heap (h:WgAt ty wg w st sm) (e:w'.heap[wg]?=w.heap[wg]?):WgAt ty wg w' st sm:=by
 obtain ⟨f,h,h0,h1⟩:=h
 have hf:∀ o,w'.frozen? ⟨wg,o,none⟩=w.frozen? ⟨wg,o,none⟩:=fun o=>by unfold World.frozen?;rw [e]
 exact ⟨f,e.trans h,(hf 0).trans h0,(hf 1).trans h1⟩
def WgLive (ty:TypeId) (Wg:Nat) (w:World):Prop:=∃ st sm,WgAt ty Wg w st sm
end
def RL (ty:TypeId) (Wg:Nat) (w w₁:World):Prop:=WgLive ty Wg w→WgLive ty Wg w₁
theorem live_cell {ty:TypeId} {Wg:Nat} {w:World} (h:WgLive ty Wg w):∃ v,w.cell? ⟨Wg,0,none⟩=some v:=let ⟨_,_,x⟩:=h;⟨_,WgAt.cellSt x⟩
section
variable (P:Program) (ty:TypeId) (Wg:Nat)
def Zg (Stop:Goroutine→World→Prop) (m:Nat) (g:Goroutine) (w:World):Prop:=Goes P false (RL ty Wg) DC0 Stop m g w
def Z4 (g:Goroutine) (w:World):Prop :=
 g.status=.running∧mayWake P g=true∧(WgAt ty Wg w 0 0→∃ g' q,stepG P false g w=.go g' (w.setCell (smA Wg) (.int .u32 1)) (semEvents (smA Wg))∧QuitsD P q 1 g')
def Z3 (g:Goroutine) (w:World):Prop :=
 g.status=.running∧(WgAt ty Wg w 1 0→∃ g' m,stepG P false g w=.go g' (w.setCell (stA Wg) (.int .u64 0)) #[wr (stA Wg)]∧Zg P ty Wg (Z4 P ty Wg) m g' (w.setCell (stA Wg) (.int .u64 0)))
def Z2 (g:Goroutine) (w:World):Prop :=
 g.status=.running∧(WgAt ty Wg w 1 0→∃ g' m,stepG P false g w=.go g' w #[rd (stA Wg)]∧Zg P ty Wg (Z3 P ty Wg) m g' w)
def Z1 (g:Goroutine) (w:World):Prop :=
 g.status=.running∧∀ v wt:Nat,wt≤1→v<2147483647→WgAt ty Wg w ((v+1)*KK+wt) 0 →
  ∃ g',stepG P false g w=.go g' (w.setCell (stA Wg) (.int .u64 (v*KK+wt))) #[rd (stA Wg),wr (stA Wg)] ∧
   ((v=0∧wt=1)→∃ m,Zg P ty Wg (Z2 P ty Wg) m g' (w.setCell (stA Wg) (.int .u64 (v*KK+wt))))∧(¬ (v=0∧wt=1)→∃ q,QuitsD P q 1 g')
def ZK (g:Goroutine) (w:World):Prop :=
 g.status=.running∧∃ g' m,stepG P false g w=.go g' w #[mk .disable]∧Zg P ty Wg (Z1 P ty Wg) m g' w
def ZR (g:Goroutine) (w:World):Prop :=
 g.status=.running∧∃ g' m,stepG P false g w=.go g' w #[mk (.releaseMerge (stA Wg))]∧Zg P ty Wg (ZK P ty Wg) m g' w
end
end Go.PB
namespace Go.PB
open Go.Conc Go.Conc.Lib Go.ConcR.Gen
open Go.ConcR (KK stA smA rd wr mk DC0)
theorem quits_more {P:Program}:∀ {n d:Nat} {g:Goroutine},QuitsD P n d g→QuitsD P (n+1) d g
 | 0,_,_,h=>.inl h
 | _+1,_,_,h=>h.imp id fun ⟨hs,g',es,hm,hst,hq⟩=>⟨hs,g',es,hm,hst,quits_more hq⟩
theorem quits_mono {P:Program} {n n' d:Nat} {g:Goroutine} (h:QuitsD P n d g) (hn:n≤n'):QuitsD P n' d g:=by
 induction hn with
 | refl=>exact h
 | step _ ih=>exact quits_more ih
set_option maxRecDepth 100000 in
set_option maxHeartbeats 8000000 in
theorem add_goes [Go.ConcR.Payload] {P:Program} {L:WgLink} (H:WgLib P L) {Wg:Nat} {b₀:Frame} {a₀:Act} {ops₀:Array Oper} {i₀:Nat} {rest₀:List Nat} {k₀:List Item} {cs:List Frame} {qt:Nat}
  (hT:QuitsD P qt 0 (G (b₀.at (a₀.put ((ops₀[i₀]?).bind (·.dst)) (.tuple #[])) (.inRegion ops₀ rest₀::k₀)) cs)) (w:World) (hK:WgLive L.tWg Wg w) :
  Zg P L.tWg Wg (ZR P L.tWg Wg) 20 (G ((Go.Conc.base L.add).at ⟨#[.pointer (some ⟨Wg,0,none⟩),.int .i64 (-1)]++Array.replicate 115 undef,[]⟩ [.code (body_add L)]) (b₀.at a₀ (.inRegion ops₀ (i₀::rest₀)::k₀)::cs)) w:=by
 lib_facts
 simp only [body_add,addFn,Option.getD_some,Array.replicate_succ,Array.replicate_zero]
 unfold Zg
 have key:∀ {w w₁:World},WgLive L.tWg Wg w→RL L.tWg Wg w w₁→WgLive L.tWg Wg w₁:=fun h r=>r h
 walk_nrm
 repeat (first | u_c stepG_seq key hK | u_c stepG_region_end key hK | u_c stepG_skip key hK | u_reg key hK | u_skip key hK | u_op key hK | u_cond true key hK | u_cond false key hK | u_c stepG_ret' key hK | u_c stepG_block key hK | u_c stepG_loop key hK | u_c stepG_end key hK | u_defer key hK | u_leave1 H.f_uAdd key hK | u_leave1 H.f_uLoad key hK | u_leave0 H.f_uStore key hK | u_call H.f_uAdd (nm_uAdd L) uAddFn key hK | u_call H.f_uLoad (nm_uLoad L) uLoadFn key hK | u_call H.f_uStore (nm_uStore L) uStoreFn key hK | u_bub key hK)
 u_conv H.underlying_tWgP H.room_tWg (live_cell hK).choose_spec key hK
 refine Goes.stop (fun w₁ h₁=>?_)
 replace hK:=key hK h₁
 clear h₁
 refine ⟨rfl,_,30,stepG_markAt .releaseMerge (by simp) rfl rfl (by k_ne) rfl H.f_relMerge (x_relMerge_n L) (x_relMerge_b L) (x_relMerge_x L) (x_relMerge_f L) (by simp [Act.eval,stA]),?_⟩
 unfold Zg
 walk_nrm
 repeat (first | u_c stepG_seq key hK | u_c stepG_region_end key hK | u_c stepG_skip key hK | u_reg key hK | u_skip key hK | u_op key hK | u_cond true key hK | u_cond false key hK | u_c stepG_ret' key hK | u_c stepG_block key hK | u_c stepG_loop key hK | u_c stepG_end key hK | u_defer key hK | u_leave1 H.f_uAdd key hK | u_leave1 H.f_uLoad key hK | u_leave0 H.f_uStore key hK | u_call H.f_uAdd (nm_uAdd L) uAddFn key hK | u_call H.f_uLoad (nm_uLoad L) uLoadFn key hK | u_call H.f_uStore (nm_uStore L) uStoreFn key hK | u_bub key hK)
 refine Goes.stop (fun w₁ h₁=>?_)
 replace hK:=key hK h₁
 clear h₁
 refine ⟨rfl,_,80,stepG_mark0 .disable (by simp) rfl rfl (by k_ne) rfl H.f_disable (x_disable_n L) (x_disable_b L) (x_disable_x L) (x_disable_f L),?_⟩
 unfold Zg
 walk_nrm
 repeat (first | u_c stepG_seq key hK | u_c stepG_region_end key hK | u_c stepG_skip key hK | u_reg key hK | u_skip key hK | u_op key hK | u_cond true key hK | u_cond false key hK | u_c stepG_ret' key hK | u_c stepG_block key hK | u_c stepG_loop key hK | u_c stepG_end key hK | u_defer key hK | u_leave1 H.f_uAdd key hK | u_leave1 H.f_uLoad key hK | u_leave0 H.f_uStore key hK | u_call H.f_uAdd (nm_uAdd L) uAddFn key hK | u_call H.f_uLoad (nm_uLoad L) uLoadFn key hK | u_call H.f_uStore (nm_uStore L) uStoreFn key hK | u_bub key hK)
 refine Goes.stop (fun w₁ h₁=>?_)
 clear h₁ hK
 refine ⟨rfl,fun v wt hwt hv hw=>?_⟩
 have e0:IntKind.u64.wrap (KK+18446744069414584320)=0:=by decide
 have e1:IntKind.u64.wrap (KK+1+18446744069414584320)=1:=by decide
 rcases Nat.eq_zero_or_pos v with rfl | hvp <;> (obtain rfl | rfl:wt=0∨wt=1:=by omega)
 ·-- nobody is left,nobody waits
  replace hw:WgAt L.tWg Wg w₁ KK 0:=by simpa using hw
  have z:((0:Nat):Int)*KK+((0:Nat):Int)=0:=by simp
  rw [z]
  refine ⟨_,(stepG_add_atomic rfl rfl (by k_ne) rfl H.f_addU64 (x_addU64_n L) (x_addU64_b L) (x_addU64_x L) .u64 (x_addU64_f L) rfl rfl (WgAt.cellSt hw) (WgAt.thaw hw 0)).trans (by rw [e0];rfl),fun hl=>absurd hl.2 (by decide),fun _=>⟨qt+200,?_⟩⟩
  clear hw
  walk_nrm
  q_val (.int .u64 0)
  q_c stepG_region_end
  q_c stepG_ret'
  q_leave1 H.f_uAdd
  q_val (.int .u64 0)
  q_c stepG_region_end
  q_c stepG_seq
  q_c stepG_seq
  q_reg
  q_val (.int .u64 0)
  q_val (.int .u64 0)
  q_val (.bool false)
  q_val (.bool false)
  q_skip
  q_skip
  q_val (.bool false)
  q_c stepG_region_end
  q_cond false
  q_c stepG_skip
  q_c stepG_seq
  q_reg
  q_val (.int .u64 0)
  q_val (.int .u64 0)
  q_val (.int .i32 0)
  q_val (.int .i32 0)
  q_c stepG_region_end
  q_c stepG_seq
  q_reg
  q_val (.int .u64 0)
  q_val (.int .u64 0)
  q_val (.int .u32 0)
  q_val (.int .u32 0)
  q_c stepG_region_end
  q_c stepG_seq
  q_c stepG_seq
  q_reg
  q_val (.bool true)
  q_val (.int .i64 (-1))
  q_val (.bool false)
  q_val (.bool false)
  q_val (.bool false)
  q_skip
  q_skip
  q_skip
  q_skip
  q_val (.bool false)
  q_c stepG_region_end
  q_cond false
  q_c stepG_skip
  q_c stepG_seq
  q_c stepG_seq
  q_reg
  q_val (.int .i32 0)
  q_val (.bool false)
  q_c stepG_region_end
  q_cond false
  q_c stepG_skip
  q_c stepG_seq
  q_c stepG_seq
  q_reg
  q_val (.int .u32 0)
  q_val (.bool false)
  q_val (.bool false)
  q_skip
  q_skip
  q_val (.bool false)
  q_val (.bool false)
  q_skip
  q_skip
  q_skip
  q_skip
  q_val (.bool false)
  q_c stepG_region_end
  q_cond false
  q_c stepG_skip
  q_c stepG_seq
  q_c stepG_seq
  q_reg
  q_val (.int .i32 0)
  q_val (.bool false)
  q_val (.bool false)
  q_val (.int .u32 0)
  q_val (.bool true)
  q_val (.bool true)
  q_c stepG_region_end
  q_cond true
  q_c stepG_ret'
  q_enable
  q_leave0 H.f_add
  exact quits_mono hT (by omega)
 ·-- nobody is left,the starter waits: the last one
  replace hw:WgAt L.tWg Wg w₁ (KK+1) 0:=by simpa using hw
  have z:((0:Nat):Int)*KK+((1:Nat):Int)=1:=by simp
  rw [z]
  refine ⟨_,(stepG_add_atomic rfl rfl (by k_ne) rfl H.f_addU64 (x_addU64_n L) (x_addU64_b L) (x_addU64_x L) .u64 (x_addU64_f L) rfl rfl (WgAt.cellSt hw) (WgAt.thaw hw 0)).trans (by rw [e1];rfl),fun _=>⟨150,?_⟩,fun hl=>absurd ⟨rfl,rfl⟩ hl⟩
  have hK:WgLive L.tWg Wg (w₁.setCell (stA Wg) (.int .u64 1)):=⟨_,_,WgAt.setSt hw 1⟩
  clear hw
  unfold Zg
  walk_nrm
  u_op key hK
  u_c stepG_region_end key hK
  u_c stepG_ret' key hK
  u_leave1 H.f_uAdd key hK
  u_op key hK
  u_c stepG_region_end key hK
  u_c stepG_seq key hK
  u_c stepG_seq key hK
  u_reg key hK
  u_op key hK
  u_op key hK
  u_op key hK
  u_op key hK
  u_skip key hK
  u_skip key hK
  u_op key hK
  u_c stepG_region_end key hK
  u_cond false key hK
  u_c stepG_skip key hK
  u_c stepG_seq key hK
  u_reg key hK
  u_op key hK
  u_op key hK
  u_op key hK
  u_op key hK
  u_c stepG_region_end key hK
  u_c stepG_seq key hK
  u_reg key hK
  u_op key hK
  u_op key hK
  u_op key hK
  u_op key hK
  u_c stepG_region_end key hK
  u_c stepG_seq key hK
  u_c stepG_seq key hK
  u_reg key hK
  u_op key hK
  u_op key hK
  u_op key hK
  u_op key hK
  u_op key hK
  u_skip key hK
  u_skip key hK
  u_skip key hK
  u_skip key hK
  u_op key hK
  u_c stepG_region_end key hK
  u_cond false key hK
  u_c stepG_skip key hK
  u_c stepG_seq key hK
  u_c stepG_seq key hK
  u_reg key hK
  u_op key hK
  u_op key hK
  u_c stepG_region_end key hK
  u_cond false key hK
  u_c stepG_skip key hK
  u_c stepG_seq key hK
  u_c stepG_seq key hK
  u_reg key hK
  u_op key hK
  u_op key hK
  u_op key hK
  u_op key hK
  u_op key hK
  u_op key hK
  u_op key hK
  u_skip key hK
  u_skip key hK
  u_skip key hK
  u_skip key hK
  u_op key hK
  u_c stepG_region_end key hK
  u_cond false key hK
  u_c stepG_skip key hK
  u_c stepG_seq key hK
  u_c stepG_seq key hK
  u_reg key hK
  u_op key hK
  u_op key hK
  u_op key hK
  u_op key hK
  u_op key hK
  u_op key hK
  u_c stepG_region_end key hK
  u_cond false key hK
  u_c stepG_skip key hK
  u_c stepG_seq key hK
  u_c stepG_seq key hK
  u_reg key hK
  u_op key hK
  u_op key hK
  u_op key hK
  u_call H.f_uLoad (nm_uLoad L) uLoadFn key hK
  u_c stepG_seq key hK
  u_reg key hK
  u_op key hK
  u_c stepG_region_end key hK
  u_c stepG_seq key hK
  u_reg key hK
  u_op key hK
  u_op key hK
  u_op key hK
  refine Goes.stop (fun w₂ h₂=>?_)
  clear h₂ hK
  refine ⟨rfl,fun hw=>⟨_,60,stepG_load_atomic rfl rfl (by k_ne) rfl H.f_loadU64 (x_loadU64_n L) (x_loadU64_b L) (x_loadU64_x L) .u64 (x_loadU64_f L) rfl (WgAt.cellSt hw),?_⟩⟩
  have hK:WgLive L.tWg Wg w₂:=⟨_,_,hw⟩
  clear hw
  unfold Zg
  walk_nrm
  u_op key hK
  u_c stepG_region_end key hK
  u_c stepG_ret' key hK
  u_leave1 H.f_uLoad key hK
  u_op key hK
  u_op key hK
  u_c stepG_region_end key hK
  u_cond false key hK
  u_c stepG_skip key hK
  u_c stepG_seq key hK
  u_reg key hK
  u_op key hK
  u_op key hK
  u_op key hK
  u_call H.f_uStore (nm_uStore L) uStoreFn key hK
  u_reg key hK
  u_op key hK
  u_op key hK
  u_op key hK
  u_op key hK
  refine Goes.stop (fun w₃ h₃=>?_)
  clear h₃ hK
  refine ⟨rfl,fun hw=>⟨_,60,stepG_store_atomic rfl rfl (by k_ne) rfl H.f_storeU64 (x_storeU64_n L) (x_storeU64_b L) (x_storeU64_x L) (x_storeU64_f L) rfl rfl (WgAt.cellSt hw) (WgAt.thaw hw 0),?_⟩⟩
  have hK:WgLive L.tWg Wg (w₃.setCell (stA Wg) (.int .u64 0)):=⟨_,_,WgAt.setSt hw 0⟩
  clear hw
  unfold Zg
  walk_nrm
  u_c stepG_region_end key hK
  u_c stepG_end key hK
  u_leave0 H.f_uStore key hK
  u_c stepG_region_end key hK
  u_c stepG_seq key hK
  u_c stepG_seq key hK
  u_reg key hK
  u_op key hK
  u_c stepG_region_end key hK
  u_cond false key hK
  u_c stepG_skip key hK
  u_c stepG_block key hK
  u_c stepG_loop key hK
  u_c stepG_seq key hK
  u_c stepG_seq key hK
  u_reg key hK
  u_op key hK
  u_op key hK
  u_c stepG_region_end key hK
  u_cond true key hK
  u_c stepG_skip key hK
  u_c stepG_seq key hK
  u_c stepG_block key hK
  u_reg key hK
  u_op key hK
  u_op key hK
  u_op key hK
  refine Goes.stop (fun w₄ h₄=>?_)
  clear h₄ hK
  refine ⟨rfl,mayWake_entry rfl rfl H.f_semrelease (x_semrelease_b L),fun hw=>⟨_,qt+40,(stepG_semrelease rfl rfl (by k_ne) rfl H.f_semrelease (x_semrelease_n L) (x_semrelease_b L) (x_semrelease_x L) (x_semrelease_f L) (by simp [Act.eval,smA]) (WgAt.cellSm hw) (WgAt.thaw hw 1)).trans (by rfl),?_⟩⟩
  clear hw
  walk_nrm
  q_c stepG_region_end
  q_c stepG_inBlock
  q_reg
  q_val (.int .u32 1)
  q_val (.int .u32 0)
  q_val (.int .u32 0)
  q_c stepG_region_end
  q_c stepG_inLoop
  q_c stepG_seq
  q_c stepG_seq
  q_reg
  q_val (.int .u32 0)
  q_val (.bool false)
  q_c stepG_region_end
  q_cond false
  q_exit
  q_c stepG_end
  q_enable
  q_leave0 H.f_add
  exact quits_mono hT (by omega)
 ·-- some are left,nobody waits
  replace hw:WgAt L.tWg Wg w₁ (((v:Nat)+1)*KK+0) 0:=by simpa using hw
  have z:((v:Nat):Int)*KK+((0:Nat):Int)=(v:Int)*KK+0:=by simp
  rw [z]
  have eS:IntKind.u64.wrap (((v:Nat)+1)*KK+0+18446744069414584320)=(v:Int)*KK+0:=by rw [IntKind.wrap_u64];simp only [KK];omega
  obtain ⟨S,hS⟩:∃ S:Int,S=(v:Int)*KK+0:=⟨_,rfl⟩
  rw [← hS] at eS ⊢
  have a1:S/4294967296=(v:Int):=by rw [hS];simp only [KK];omega
  have a2:0≤S∧S<9223372036854775808:=by rw [hS];simp only [KK];omega
  have b1:bits .and .u64 S 2147483648=0:=by rw [hS];have:=Go.ConcN.st_flag v 0 (by omega) (by omega);simpa [KK] using this
  have b2:bits .and .u64 S 2147483647=0:=by rw [hS];have:=Go.ConcN.st_waiters v 0 (by omega) (by omega);simpa [KK] using this
  clear hS z
  refine ⟨_,(stepG_add_atomic rfl rfl (by k_ne) rfl H.f_addU64 (x_addU64_n L) (x_addU64_b L) (x_addU64_x L) .u64 (x_addU64_f L) rfl rfl (WgAt.cellSt hw) (WgAt.thaw hw 0)).trans (by rw [eS];rfl),fun hl=>absurd hl.1 (by omega),fun _=>⟨qt+150,?_⟩⟩
  clear hw
  walk_nrm
  q_vn (.int .u64 S)
  q_c stepG_region_end
  q_c stepG_ret'
  q_leave1 H.f_uAdd
  q_vn (.int .u64 S)
  q_c stepG_region_end
  q_c stepG_seq
  q_c stepG_seq
  q_reg
  q_vn (.int .u64 S)
  q_vn (.int .u64 0)
  q_vn (.bool false)
  q_vn (.bool false)
  q_skip
  q_skip
  q_vn (.bool false)
  q_c stepG_region_end
  q_cond false
  q_c stepG_skip
  q_c stepG_seq
  q_reg
  q_vn (.int .u64 S)
  q_vn (.int .u64 (v:Int))
  q_vn (.int .i32 (v:Int))
  q_vn (.int .i32 (v:Int))
  q_c stepG_region_end
  q_c stepG_seq
  q_reg
  q_vn (.int .u64 S)
  q_vn (.int .u64 0)
  q_vn (.int .u32 0)
  q_vn (.int .u32 0)
  q_c stepG_region_end
  q_c stepG_seq
  q_c stepG_seq
  q_reg
  q_vn (.bool true)
  q_vn (.int .i64 (-1))
  q_vn (.bool false)
  q_vn (.bool false)
  q_vn (.bool false)
  q_skip
  q_skip
  q_skip
  q_skip
  q_vn (.bool false)
  q_c stepG_region_end
  q_cond false
  q_c stepG_skip
  q_c stepG_seq
  q_c stepG_seq
  q_reg
  q_vn (.int .i32 (v:Int))
  q_vn (.bool false)
  q_c stepG_region_end
  q_cond false
  q_c stepG_skip
  q_c stepG_seq
  q_c stepG_seq
  q_reg
  q_vn (.int .u32 0)
  q_vn (.bool false)
  q_vn (.bool false)
  q_skip
  q_skip
  q_vn (.bool false)
  q_vn (.bool false)
  q_skip
  q_skip
  q_skip
  q_skip
  q_vn (.bool false)
  q_c stepG_region_end
  q_cond false
  q_c stepG_skip
  q_c stepG_seq
  q_c stepG_seq
  q_reg
  q_vn (.int .i32 (v:Int))
  q_vn (.bool true)
  q_vn (.bool true)
  q_skip
  q_skip
  q_vn (.bool true)
  q_c stepG_region_end
  q_cond true
  q_c stepG_ret'
  q_enable
  q_leave0 H.f_add
  exact quits_mono hT (by omega)
 ·-- some are left,the starter waits
  replace hw:WgAt L.tWg Wg w₁ (((v:Nat)+1)*KK+1) 0:=by simpa using hw
  have z:((v:Nat):Int)*KK+((1:Nat):Int)=(v:Int)*KK+1:=by simp
  rw [z]
  have eS:IntKind.u64.wrap (((v:Nat)+1)*KK+1+18446744069414584320)=(v:Int)*KK+1:=by rw [IntKind.wrap_u64];simp only [KK];omega
  obtain ⟨S,hS⟩:∃ S:Int,S=(v:Int)*KK+1:=⟨_,rfl⟩
  rw [← hS] at eS ⊢
  have a1:S/4294967296=(v:Int):=by rw [hS];simp only [KK];omega
  have a2:0≤S∧S<9223372036854775808:=by rw [hS];simp only [KK];omega
  have b1:bits .and .u64 S 2147483648=0:=by rw [hS];have:=Go.ConcN.st_flag v 1 (by omega) (by omega);simpa [KK] using this
  have b2:bits .and .u64 S 2147483647=1:=by rw [hS];have:=Go.ConcN.st_waiters v 1 (by omega) (by omega);simpa [KK] using this
  clear hS z
  refine ⟨_,(stepG_add_atomic rfl rfl (by k_ne) rfl H.f_addU64 (x_addU64_n L) (x_addU64_b L) (x_addU64_x L) .u64 (x_addU64_f L) rfl rfl (WgAt.cellSt hw) (WgAt.thaw hw 0)).trans (by rw [eS];rfl),fun hl=>absurd hl.1 (by omega),fun _=>⟨qt+150,?_⟩⟩
  clear hw
  walk_nrm
  q_vn (.int .u64 S)
  q_c stepG_region_end
  q_c stepG_ret'
  q_leave1 H.f_uAdd
  q_vn (.int .u64 S)
  q_c stepG_region_end
  q_c stepG_seq
  q_c stepG_seq
  q_reg
  q_vn (.int .u64 S)
  q_vn (.int .u64 0)
  q_vn (.bool false)
  q_vn (.bool false)
  q_skip
  q_skip
  q_vn (.bool false)
  q_c stepG_region_end
  q_cond false
  q_c stepG_skip
  q_c stepG_seq
  q_reg
  q_vn (.int .u64 S)
  q_vn (.int .u64 (v:Int))
  q_vn (.int .i32 (v:Int))
  q_vn (.int .i32 (v:Int))
  q_c stepG_region_end
  q_c stepG_seq
  q_reg
  q_vn (.int .u64 S)
  q_vn (.int .u64 1)
  q_vn (.int .u32 1)
  q_vn (.int .u32 1)
  q_c stepG_region_end
  q_c stepG_seq
  q_c stepG_seq
  q_reg
  q_vn (.bool true)
  q_vn (.int .i64 (-1))
  q_vn (.bool false)
  q_vn (.bool false)
  q_vn (.bool false)
  q_skip
  q_skip
  q_skip
  q_skip
  q_vn (.bool false)
  q_c stepG_region_end
  q_cond false
  q_c stepG_skip
  q_c stepG_seq
  q_c stepG_seq
  q_reg
  q_vn (.int .i32 (v:Int))
  q_vn (.bool false)
  q_c stepG_region_end
  q_cond false
  q_c stepG_skip
  q_c stepG_seq
  q_c stepG_seq
  q_reg
  q_vn (.int .u32 1)
  q_vn (.bool true)
  q_vn (.bool true)
  q_vn (.int .i64 (-1))
  q_vn (.bool false)
  q_vn (.bool false)
  q_vn (.bool false)
  q_skip
  q_skip
  q_skip
  q_skip
  q_vn (.bool false)
  q_c stepG_region_end
  q_cond false
  q_c stepG_skip
  q_c stepG_seq
  q_c stepG_seq
  q_reg
  q_vn (.int .i32 (v:Int))
  q_vn (.bool true)
  q_vn (.bool true)
  q_skip
  q_skip
  q_vn (.bool true)
  q_c stepG_region_end
  q_cond true
  q_c stepG_ret'
  q_enable
  q_leave0 H.f_add
  exact quits_mono hT (by omega)
end Go.PB
namespace Go.PB
open Go.Conc Go.Conc.Lib Go.ConcR.Gen
open Go.ConcR (KK stA smA rd wr mk DC0)
set_option maxRecDepth 100000 in
theorem add_goes2 [Go.ConcR.Payload] {P:Program} {L:WgLink} (H:WgLib P L) {Wg:Nat} {b₀:Frame} {a₀:Act} {ops₀:Array Oper} {i₀:Nat} {rest₀:List Nat} {k₀:List Item} {cs:List Frame} {qt:Nat}
  (hT:QuitsD P qt 0 (G (b₀.at (a₀.put ((ops₀[i₀]?).bind (·.dst)) (.tuple #[])) (.inRegion ops₀ rest₀::k₀)) cs)) (w:World) (hK:WgLive L.tWg Wg w) :
  Zg P L.tWg Wg (ZR P L.tWg Wg) 20 (G ((Go.Conc.base L.add).at ⟨#[.pointer (some ⟨Wg,0,none⟩),.int .i64 (-1),undef,undef,undef,undef,undef,undef,undef,undef,undef,undef,undef,undef,undef,undef,undef,undef,undef,undef,undef,undef,undef,undef,undef,undef,undef,undef,undef,undef,undef,undef,undef,undef,undef,undef,undef,undef,undef,undef,undef,undef,undef,undef,undef,undef,undef,undef,undef,undef,undef,undef,undef,undef,undef,undef,undef,undef,undef,undef,undef,undef,undef,undef,undef,undef,undef,undef,undef,undef,undef,undef,undef,undef,undef,undef,undef,undef,undef,undef,undef,undef,undef,undef,undef,undef,undef,undef,undef,undef,undef,undef,undef,undef,undef,undef,undef,undef,undef,undef,undef,undef,undef,undef,undef,undef,undef,undef,undef,undef,undef,undef,undef,undef,undef,undef,undef],[]⟩ [.code (body_add L)]) (b₀.at a₀ (.inRegion ops₀ (i₀::rest₀)::k₀)::cs)) w:=by
 have e:(#[.pointer (some ⟨Wg,0,none⟩),.int .i64 (-1),undef,undef,undef,undef,undef,undef,undef,undef,undef,undef,undef,undef,undef,undef,undef,undef,undef,undef,undef,undef,undef,undef,undef,undef,undef,undef,undef,undef,undef,undef,undef,undef,undef,undef,undef,undef,undef,undef,undef,undef,undef,undef,undef,undef,undef,undef,undef,undef,undef,undef,undef,undef,undef,undef,undef,undef,undef,undef,undef,undef,undef,undef,undef,undef,undef,undef,undef,undef,undef,undef,undef,undef,undef,undef,undef,undef,undef,undef,undef,undef,undef,undef,undef,undef,undef,undef,undef,undef,undef,undef,undef,undef,undef,undef,undef,undef,undef,undef,undef,undef,undef,undef,undef,undef,undef,undef,undef,undef,undef,undef,undef,undef,undef,undef,undef]:Array Value)=#[.pointer (some ⟨Wg,0,none⟩),.int .i64 (-1)]++Array.replicate 115 undef:=by kernel_rfl
 rw [e]
 exact add_goes H hT w hK
set_option maxHeartbeats 8000000 in
set_option maxRecDepth 100000 in
theorem done_goes [Go.ConcR.Payload] {P:Program} {L:WgLink} (H:WgLib P L) {Wg:Nat} {c:Frame} {cs:List Frame} {qt:Nat} (hcm:c.mode=.returning) (hT:QuitsD P qt 0 (G c cs)) (w:World) (hK:WgLive L.tWg Wg w) :
  Zg P L.tWg Wg (ZR P L.tWg Wg) 23 (G ((baseD L.done).at ⟨#[.pointer (some ⟨Wg,0,none⟩),undef,undef,undef],[]⟩ [.code (body_done L)]) (c::cs)) w:=by
 lib_facts
 have hA:=@add_goes2 _ P L H Wg
 unfold Zg at hA ⊢
 have key:∀ {w w₁:World},WgLive L.tWg Wg w→RL L.tWg Wg w w₁→WgLive L.tWg Wg w₁:=fun h r=>r h
 simp only [body_done,body_add,doneFn,addFn,Option.getD_some] at hA ⊢
 u_reg key hK
 u_op key hK
 u_in key hK
 refine goes_call rfl rfl (by k_ne) rfl H.f_add (nm_add L) rfl ⟨by u_nil,?_⟩
 walk_nrmf addFn
 refine hA (qt:=qt+3) ?_ _ hK
 q_c stepG_region_end
 q_c stepG_end
 exact QuitsD.leaveD rfl rfl H.f_done rfl hcm hT
theorem done_enter {P:Program} {L:WgLink} (H:WgLib P L) {v:Value}:Frame.enter P L.done #[v] .deferred=(baseD L.done).at ⟨#[v,undef,undef,undef],[]⟩ [.code (body_done L)]:=by
 simp [Frame.enter,H.f_done,body_done,doneFn]
 rfl
end Go.PB
