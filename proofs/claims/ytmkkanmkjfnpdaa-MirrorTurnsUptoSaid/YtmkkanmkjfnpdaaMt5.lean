/-
  Part 5 of 8.
-/
import Derived.Test.YtmkkanmkjfnpdaaMt4
import Derived.Test.YtmkkanmkjfnpdaaMt2
import Derived.Test.YtmkkanmkjfnpdaaMt3
set_option linter.unusedVariables false
set_option linter.unusedSimpArgs false
namespace Go.Proofs.Ytmkkanmkjfnpdaa
open Go Go.PB
section
def qAct (q:QT):Nat:=if q.cs=[] then 0 else 1
def qtPsi (M:Nat) (s:QS) (q:QT):Nat:=(match q.cs with | []=>0 | _::rest=>5*rest.length+qwt s q)+3*(M-1)*qrem q
section
variable {n Bd M:Nat} {s s':QS} {qs:List QT} {j:Nat} {q q' a:QT} {t v u:Nat} {rest:List (Option Nat)}
theorem qt_eq (h0:s'.f 0=s.f 0) (h1:s'.f 1=s.f 1):qtPsi M s' a=qtPsi M s a:=by
 have hw:∀ c,s'.f (qw c)=s.f (qw c):=fun c=>by cases c <;> assumption
 unfold qtPsi qwt
 simp only [hw]
theorem qt_phi (hq:qs[j]?=some q) (h0:s'.f 0=s.f 0) (h1:s'.f 1=s.f 1) (hd:qtPsi M s q'+1≤qtPsi M s q):sumN ((qs.set j q').map (qtPsi M s'))+1≤sumN (qs.map (qtPsi M s)) :=
 sum_step (fun a=>Nat.le_of_eq (qt_eq h0 h1)) hq (by rw [qt_eq h0 h1];exact hd)
theorem qt_act (hq:qs[j]?=some q) (h:qAct q'≤qAct q):sumN ((qs.set j q').map qAct)≤sumN (qs.map qAct):=by
 have:=sum_set (φ:=qAct) (q':=q') hq;omega
theorem sum_le3 (h:∀ a,qtPsi M s' a≤qtPsi M s a+3*qAct a):∀ qs:List QT,sumN (qs.map (qtPsi M s'))≤sumN (qs.map (qtPsi M s))+3*sumN (qs.map qAct)
 | []=>by simp [sumN]
 | a::qs=>by
  have h1:=sum_le3 h qs
  have h2:=h a
  simp only [List.map_cons,sumN,List.foldr_cons,Nat.mul_add] at h1 ⊢;omega
theorem qt_cas {c:Option Nat} (hM:sumN (qs.map qAct)≤M) (hM1:1≤M) (hq:qs[j]?=some q) (hcs:q.cs=c::rest) (hst:q.st=.cas t) (hst':q'.st=.val t) (hcs':q'.cs=q.cs) (hw:s'.f (qw c)≠t):sumN ((qs.set j q').map (qtPsi M s'))+1≤sumN (qs.map (qtPsi M s)):=by
 have h1:=sum_set (φ:=qtPsi M s') (q':=q') hq
 have h2:=sum_le3 (M:=M) (s:=s) (s':=s') (fun a=>by
  have:qwt s' a≤qwt s a+3:=by
   unfold qwt
   cases a.cs with
   | nil=>simp
   | cons c r =>
    cases a.st <;> simp only
    ·omega
    ·split <;> split <;> omega
    ·split <;> split <;> omega
    ·omega
    ·omega
  unfold qtPsi qAct
  cases h:a.cs with
  | nil=>simp
  | cons c r=>simp only [if_neg (List.cons_ne_nil _ _)];omega) qs
 have e1:qrem q=rest.length+1:=by unfold qrem;simp [hst,QSt.holds,hcs]
 have e2:qrem q'=rest.length:=by unfold qrem;simp [hst',QSt.holds,hcs,hcs']
 have e3:qwt s' q=6:=by unfold qwt;simp only [hcs,hst];rw [if_neg fun e=>hw e.symm]
 have e4:qwt s' q'=2:=by unfold qwt;simp only [hcs',hcs,hst']
 have e5:qtPsi M s' q=5*rest.length+6+3*(M-1)*(rest.length+1):=by
  unfold qtPsi;rw [e1,e3,hcs]
 have e6:qtPsi M s' q'=5*rest.length+2+3*(M-1)*rest.length:=by
  unfold qtPsi;rw [e2,e4,hcs',hcs]
 have e7:3*(M-1)*(rest.length+1)=3*(M-1)*rest.length+3*(M-1):=by rw [Nat.mul_add,Nat.mul_one]
 omega
theorem act_one (hq:qs[j]?=some q) (h:q.cs≠[]):1≤sumN (qs.map qAct):=by
 induction qs generalizing j with
 | nil=>simp at hq
 | cons a l ih =>
  cases j with
  | zero=>simp at hq;subst hq;simp only [List.map_cons,sumN,List.foldr_cons,qAct,if_neg h];omega
  | succ j =>
   have:=ih (j:=j) (by simpa using hq)
   simp only [List.map_cons,sumN,List.foldr_cons] at this ⊢;omega
theorem qt_step (h:QI n Bd s qs) (hA:sumN (qs.map qAct)≤M) (hn:2≤n) (hn2:n≤1024) (hB:Bd<4611686018427387904) (hq:qs[j]?=some q) {mk:Int × Int} {F:QS→QS × QT} (hpl:qPlan n q=some (mk,F)) :
  sumN ((qs.set j (F s).2).map qAct)≤M∧sumN ((qs.set j (F s).2).map (qtPsi M (F s).1))+1≤sumN (qs.map (qtPsi M s)):=by
 obtain ⟨hme,hok⟩:=h.thr j q hq
 obtain ⟨me,cs,pa,ta,st⟩:=q
 cases cs with
 | nil=>simp [qPlan] at hpl
 | cons c rest =>
  have hwb:=h.wb c
  have hM1:=act_one hq (List.cons_ne_nil _ _)
  have act:∀ {q':QT},sumN ((qs.set j q').map qAct)≤M:=fun {q'}=>Nat.le_trans (qt_act hq (by unfold qAct;rw [if_neg (List.cons_ne_nil _ _)];split <;> omega)) hA
  refine ⟨act,?_⟩
  have hdrop:∀ {x:Nat} {pa' ta':List Nat} {st':QSt},(∀ s,1≤qwt s ⟨me,c::rest,pa,ta,st'⟩)→qtPsi M s ⟨me,rest,pa',ta',.load⟩+1≤5*rest.length+qwt s ⟨me,c::rest,pa,ta,st'⟩+3*(M-1)*rest.length:=fun {x pa' ta' st'} hw=>by
   have e1:=hw s
   unfold qtPsi
   have e2:qrem ⟨me,rest,pa',ta',.load⟩=rest.length:=by simp [qrem,QSt.holds]
   rw [e2]
   cases rest with
   | nil=>simp only [List.length_nil];omega
   | cons d r=>simp only [qwt,List.length_cons] at e1 ⊢;omega
  cases st with
  | load =>
   simp only [qPlan,Option.some.injEq,Prod.mk.injEq] at hpl
   obtain ⟨_,rfl⟩:=hpl
   exact qt_phi hq rfl rfl (by simp [qtPsi,qwt,qrem,QSt.holds] <;> omega)
  | seq t =>
   simp only [qPlan,Option.some.injEq,Prod.mk.injEq] at hpl
   obtain ⟨_,rfl⟩:=hpl
   replace hok:t≤s.f (qw c):=hok
   have hxb:=h.xb (i:=t%n) (QI.pos hn)
   have hwc:qw c≤1:=by cases c <;> simp [qw]
   simp only
   by_cases h1:9223372036854775808≤qd n s t (qw c)
   ·rw [if_pos h1]
    refine qt_phi hq rfl rfl ?_
    have e2:4≤qwt s ⟨me,c::rest,pa,ta,.seq t⟩:=by simp only [qwt];split <;> omega
    have e3:qtPsi M s ⟨me,c::rest,pa,ta,.seq t⟩=5*rest.length+qwt s ⟨me,c::rest,pa,ta,.seq t⟩+3*(M-1)*(rest.length+1):=by simp [qtPsi,qrem,QSt.holds]
    have e4:qtPsi M s ⟨me,rest,pa,ta,.load⟩≤5*rest.length+3*(M-1)*rest.length:=by
     unfold qtPsi
     have e2:qrem ⟨me,rest,pa,ta,.load⟩=rest.length:=by simp [qrem,QSt.holds]
     rw [e2]
     cases rest with
     | nil=>simp
     | cons d r=>simp only [qwt,List.length_cons];omega
    have e7:3*(M-1)*(rest.length+1)=3*(M-1)*rest.length+3*(M-1):=by rw [Nat.mul_add,Nat.mul_one]
    omega
   ·rw [if_neg h1]
    have hd:qd n s t (qw c)=s.f (2+2*(t%n))-t-qw c∧t+qw c≤s.f (2+2*(t%n)):=by
     unfold qd at h1 ⊢
     generalize s.f (2+2*(t%n))=x at *
     omega
    by_cases h2:0<qd n s t (qw c)
    ·rw [if_pos h2]
     have hne:t≠s.f (qw c):=fun e=>by
      cases c with
      | some v=>have:=(h.put_slot hn e.symm (by omega)).2.1;simp only [qw] at hd h2;omega
      | none=>have:=(h.take_slot hn e.symm (by simp only [qw] at hd;omega)).2.1;simp only [qw] at hd h2;omega
     exact qt_phi hq rfl rfl (by simp only [qtPsi,qwt,qrem,QSt.holds,Bool.false_eq_true,if_false];rw [if_neg hne];omega)
    ·rw [if_neg h2]
     refine qt_phi hq rfl rfl ?_
     simp only [qtPsi,qwt,qrem,QSt.holds,Bool.false_eq_true,if_false]
     split <;> omega
  | cas t =>
   simp only [qPlan,Option.some.injEq,Prod.mk.injEq] at hpl
   obtain ⟨_,rfl⟩:=hpl
   simp only
   by_cases hc:s.f (qw c)=t
   ·rw [if_pos hc]
    refine qt_cas (c:=c) hA (by omega) hq rfl rfl rfl rfl ?_
    simp only
    rw [upd_same,Nat.mod_eq_of_lt (by omega)]
    omega
   ·rw [if_neg hc]
    exact qt_phi hq rfl rfl (by simp only [qtPsi,qwt,qrem,QSt.holds,Bool.false_eq_true,if_false];rw [if_neg fun e=>hc e.symm];omega)
  | val t =>
   cases c with
   | some v =>
    simp only [qPlan,Option.some.injEq,Prod.mk.injEq] at hpl
    obtain ⟨_,rfl⟩:=hpl
    exact qt_phi hq (upd_other (by omega)) (upd_other (by omega)) (by simp [qtPsi,qwt,qrem,QSt.holds] <;> omega)
   | none =>
    simp only [qPlan,Option.some.injEq,Prod.mk.injEq] at hpl
    obtain ⟨_,rfl⟩:=hpl
    exact qt_phi hq rfl rfl (by simp [qtPsi,qwt,qrem,QSt.holds] <;> omega)
  | rel t u =>
   have e5:∀ {pa' ta':List Nat},qtPsi M s ⟨me,rest,pa',ta',.load⟩+1≤qtPsi M s ⟨me,c::rest,pa,ta,.rel t u⟩:=fun {pa' ta'}=>by
    have:=hdrop (x:=0) (pa':=pa') (ta':=ta') (st':=.rel t u) fun _=>by simp [qwt]
    have e3:qtPsi M s ⟨me,c::rest,pa,ta,.rel t u⟩=5*rest.length+qwt s ⟨me,c::rest,pa,ta,.rel t u⟩+3*(M-1)*rest.length:=by simp [qtPsi,qrem,QSt.holds]
    omega
   cases c with
   | some v =>
    simp only [qPlan,Option.some.injEq,Prod.mk.injEq] at hpl
    obtain ⟨_,rfl⟩:=hpl
    exact qt_phi hq (upd_other (by omega)) (upd_other (by omega)) e5
   | none =>
    simp only [qPlan,Option.some.injEq,Prod.mk.injEq] at hpl
    obtain ⟨_,rfl⟩:=hpl
    exact qt_phi hq (upd_other (by omega)) (upd_other (by omega)) e5
end
end
section
inductive MrSt where
 | c0
 | qu
 | c1
 | nw
 | c2
structure MrT where
 q:QT
 m:MrSt
def mrNext (fr:Bool) (a b:QT):MrSt:=match a.cs with
 | some _::_=>if b.pa.length=a.pa.length then .c1 else if fr=true then .nw else .c0
 | _=>if b.ta.length=a.ta.length then .c0 else .c2
def mrLift (n:Nat) (fr:Bool) (q:MrT):Option ((Int × Int) × (QS→QS × MrT)) :=
 (qPlan n q.q).map fun p=>(p.1,fun s=>((p.2 s).1,⟨(p.2 s).2,if (p.2 s).2.cs.length=q.q.cs.length then q.m else mrNext fr q.q (p.2 s).2⟩))
def mrUp (s:QS) (w:Nat):QS:={ s with f:=upd s.f w ((s.f w+1)%18446744073709551616) }
def mrPlan (n:Nat) (fr:Bool) (q:MrT):Option ((Int × Int) × (QS→QS × MrT)):=match q.m with
 | .c0=>(match q.q.cs with
  | some _::_=>some ((3,0),fun s=>(mrUp s (2*n+2),{ q with m:=.qu }))
  | _=>mrLift n fr q)
 | .qu=>mrLift n fr q
 | .c1=>some ((3,1),fun s=>(mrUp s (2*n+3),{ q with m:=.c0 }))
 | .nw=>some ((0,0),fun s=>(s,{ q with m:=.c0 }))
 | .c2=>some ((3,2),fun s=>(mrUp s (2*n+4),{ q with m:=.c0 }))
inductive Qk (c:Option Nat) (rest:List (Option Nat)) (q q':QT) (s s':QS):Prop
 | keep (vs:s'.vs=s.vs) (tk:s'.tk=s.tk) (cs:q'.cs=q.cs) (hold:q'.st.holds=q.st.holds)
 | drawP (v:Nat) (hc:c=some v) (vs:s'.vs=s.vs++[(q.me,v)]) (tk:s'.tk=s.tk) (cs:q'.cs=q.cs) (h0:q.st.holds=false) (h1:q'.st.holds=true)
 | drawT (hc:c=none) (vs:s'.vs=s.vs) (tk:s'.tk=s.tk++[q.me]) (cs:q'.cs=q.cs) (h0:q.st.holds=false) (h1:q'.st.holds=true)
 | refuse (vs:s'.vs=s.vs) (tk:s'.tk=s.tk) (cs:q'.cs=rest) (st:q'.st=.load) (pa:q'.pa=q.pa) (ta:q'.ta=q.ta) (h0:q.st.holds=false)
 | doneP (v:Nat) (hc:c=some v) (vs:s'.vs=s.vs) (tk:s'.tk=s.tk) (cs:q'.cs=rest) (st:q'.st=.load) (u:Nat) (pa:q'.pa=q.pa++[u]) (h0:q.st.holds=true)
 | doneT (hc:c=none) (vs:s'.vs=s.vs) (tk:s'.tk=s.tk) (cs:q'.cs=rest) (st:q'.st=.load) (u:Nat) (ta:q'.ta=q.ta++[u]) (h0:q.st.holds=true)
theorem qk_of {n:Nat} {s:QS} {q:QT} {c:Option Nat} {rest:List (Option Nat)} (hcs:q.cs=c::rest) {mk:Int × Int} {F:QS→QS × QT} (hpl:qPlan n q=some (mk,F)):Qk c rest q (F s).2 s (F s).1∧∀ w,2*n+2≤w→0<n→(F s).1.f w=s.f w:=by
 obtain ⟨me,cs,pa,ta,st⟩:=q
 simp only at hcs
 subst hcs
 have hm:∀ t w,2*n+2≤w→0<n→w≠2+2*(t%n)∧w≠3+2*(t%n):=fun t w h1 h2=>by have:=Nat.mod_lt t h2;omega
 cases st with
 | load =>
  simp only [qPlan,Option.some.injEq,Prod.mk.injEq] at hpl
  obtain ⟨_,rfl⟩:=hpl
  exact ⟨.keep rfl rfl rfl rfl,fun w _ _=>rfl⟩
 | seq t =>
  simp only [qPlan,Option.some.injEq,Prod.mk.injEq] at hpl
  obtain ⟨_,rfl⟩:=hpl
  refine ⟨?_,fun w _ _=>rfl⟩
  simp only
  split
  ·exact .refuse rfl rfl rfl rfl rfl rfl rfl
  ·split
   ·exact .keep rfl rfl rfl rfl
   ·exact .keep rfl rfl rfl rfl
 | cas t =>
  simp only [qPlan,Option.some.injEq,Prod.mk.injEq] at hpl
  obtain ⟨_,rfl⟩:=hpl
  refine ⟨?_,fun w h1 h2=>?_⟩
  ·simp only
   split
   ·cases c with
    | some v=>exact .drawP v rfl rfl rfl rfl rfl rfl
    | none=>exact .drawT rfl rfl rfl rfl rfl rfl
   ·exact .keep rfl rfl rfl rfl
  ·simp only
   split
   ·exact upd_other (by cases c <;> simp [qw] <;> omega)
   ·rfl
 | val t =>
  cases c with
  | some v =>
   simp only [qPlan,Option.some.injEq,Prod.mk.injEq] at hpl
   obtain ⟨_,rfl⟩:=hpl
   exact ⟨.keep rfl rfl rfl rfl,fun w h1 h2=>upd_other (hm t w h1 h2).2⟩
  | none =>
   simp only [qPlan,Option.some.injEq,Prod.mk.injEq] at hpl
   obtain ⟨_,rfl⟩:=hpl
   exact ⟨.keep rfl rfl rfl rfl,fun w _ _=>rfl⟩
 | rel t u =>
  cases c with
  | some v =>
   simp only [qPlan,Option.some.injEq,Prod.mk.injEq] at hpl
   obtain ⟨_,rfl⟩:=hpl
   exact ⟨.doneP v rfl rfl rfl rfl rfl u rfl rfl,fun w h1 h2=>upd_other (hm t w h1 h2).1⟩
  | none =>
   simp only [qPlan,Option.some.injEq,Prod.mk.injEq] at hpl
   obtain ⟨_,rfl⟩:=hpl
   exact ⟨.doneT rfl rfl rfl rfl rfl u rfl rfl,fun w h1 h2=>upd_other (hm t w h1 h2).1⟩
section
variable {n Bd:Nat} {s:QS} {qs:List QT} {f':Nat→Nat}
theorem QTok.words {a:QT} (h:QTok n s a) (hn:0<n) (hf:∀ i,i<2*n+2→f' i=s.f i):QTok n ⟨f',s.vs,s.tk⟩ a:=by
 obtain ⟨me,cs,pa,ta,st⟩:=a
 have hw:∀ c,f' (qw c)=s.f (qw c):=fun c=>hf _ (by cases c <;> simp [qw])
 have h2:∀ t,f' (2+2*(t%n))=s.f (2+2*(t%n)):=fun t=>hf _ (by have:=Nat.mod_lt t hn;omega)
 have h3:∀ t,f' (3+2*(t%n))=s.f (3+2*(t%n)):=fun t=>hf _ (by have:=Nat.mod_lt t hn;omega)
 cases cs with
 | nil=>exact h
 | cons c r =>
  cases st with
  | load=>trivial
  | seq t=>show t≤f' (qw c);rw [hw];exact h
  | cas t=>exact ⟨by show t≤f' (qw c);rw [hw];exact h.1,by show t+qw c≤f' _;rw [h2];exact h.2⟩
  | val t =>
   cases c with
   | some v=>exact ⟨h.1,(h2 t).trans h.2⟩
   | none=>exact ⟨h.1,(h2 t).trans h.2⟩
  | rel t u =>
   cases c with
   | some v=>exact ⟨h.1,h.2.1,(h2 t).trans h.2.2.1,(h3 t).trans h.2.2.2⟩
   | none=>exact ⟨h.1,(h2 t).trans h.2.1,h.2.2⟩
theorem QI.words (h:QI n Bd s qs) (hn:0<n) (hf:∀ i,i<2*n+2→f' i=s.f i):QI n Bd ⟨f',s.vs,s.tk⟩ qs where
 p0:=(hf 0 (by omega)).trans h.p0
 t0:=(hf 1 (by omega)).trans h.t0
 le:=h.le
 bd:=h.bd
 slot:=fun i hi=>by
  obtain ⟨t,h1,h2,h3,h4⟩:=h.slot i hi
  refine ⟨t,h1,h2,h3,h4.imp (fun ⟨a,b,c⟩=>⟨(hf _ (by omega)).trans a,b,c⟩) fun ⟨a,b,c,d⟩=>⟨(hf _ (by omega)).trans a,b,?_,d⟩⟩
  show _=some (f' (3+2*i))
  rw [hf _ (by omega)];exact c
 thr:=fun j q hq=>⟨(h.thr j q hq).1,(h.thr j q hq).2.words hn hf⟩
 uniq:=h.uniq
 pas:=h.pas
 tas:=h.tas
theorem QE.words {m:Nat} {o:Nat→List Nat} {T:Nat→Prop} (h:QE m o T s qs):QE m o T ⟨f',s.vs,s.tk⟩ qs:=⟨h.len,h.own,h.tak,h.sub⟩
end
def np (cs:List (Option Nat)):Nat:=(cs.filterMap id).length
def hP (q:QT):Nat:=match q.cs with
 | some _::_=>if q.st.holds=true then 1 else 0
 | _=>0
def hT (q:QT):Nat:=match q.cs with
 | none::_=>if q.st.holds=true then 1 else 0
 | _=>0
def uO (q:MrT):Nat:=match q.m with
 | .qu=>np q.q.cs-1
 | _=>np q.q.cs
def uL (q:MrT):Nat:=np q.q.cs-hP q.q+(match q.m with | .c1=>1 | _=>0)
def uT (q:MrT):Nat:=hT q.q+(match q.m with | .c2=>1 | _=>0)
def MrOk (q:MrT):Prop:=match q.m with
 | .c0=>(match q.q.cs with | some _::_=>q.q.st=.load | _=>True)
 | .qu=>∃ v r,q.q.cs=some v::r
 | _=>q.q.st=.load
def uE (q:MrT):Nat:=match q.m with
 | .c0=>2*q.q.cs.length
 | .qu=>2*q.q.cs.length-1
 | _=>2*q.q.cs.length+1
structure MrI (n Bd T:Nat) (s:QS) (qs:List MrT):Prop where
 q:QI n Bd s (qs.map MrT.q)
 ok:∀ (j:Nat) (q:MrT),qs[j]?=some q→MrOk q
 off:s.f (2*n+2)+sumN (qs.map uO)=T
 los:s.f (2*n+3)+s.vs.length+sumN (qs.map uL)=T
 tak:s.f (2*n+4)+sumN (qs.map uT)=s.tk.length
section
variable {n Bd T:Nat} {fr:Bool} {s:QS} {qs:List MrT} {j:Nat} {q:MrT}
theorem mr_get (hq:qs[j]?=some q):(qs.map MrT.q)[j]?=some q.q:=by rw [List.getElem?_map,hq];rfl
theorem mr_set {q':MrT}:(qs.set j q').map MrT.q=(qs.map MrT.q).set j q'.q:=List.map_set ..
theorem mr_ok {q':MrT} (h:MrI n Bd T s qs) (hlt:j<qs.length) (hok:MrOk q'):∀ (k:Nat) (a:MrT),(qs.set j q')[k]?=some a→MrOk a:=fun k a hk=>by
 rcases set_cases hk hlt with ⟨e1,e2⟩ | ⟨_,hk⟩
 ·subst e2;exact hok
 ·exact h.ok k a hk
theorem set_self {α:Type}:∀ {l:List α} {i:Nat} {a:α},l[i]?=some a→l.set i a=l
 | [],_,_,h=>by simp at h
 | b::l,0,a,h=>by simp at h;subst h;rfl
 | b::l,i+1,a,h=>by simp at h;simp [set_self h]
theorem mr_lift {c:Option Nat} {rest:List (Option Nat)} {s':QS} {b:QT} (h:MrI n Bd T s qs) (hq:qs[j]?=some q) (hcs:q.q.cs=c::rest) (hm:(q.m=.qu∧∃ v,c=some v)∨(q.m=.c0∧c=none))
  (k:Qk c rest q.q b s s') (hf:∀ w,2*n+2≤w→s'.f w=s.f w) (hI:QI n Bd s' ((qs.map MrT.q).set j b)) :
  MrI n Bd T s' (qs.set j ⟨b,if b.cs.length=q.q.cs.length then q.m else mrNext fr q.q b⟩)∧uE ⟨b,if b.cs.length=q.q.cs.length then q.m else mrNext fr q.q b⟩≤uE q:=by
 have hlt:=(List.getElem?_eq_some_iff.1 hq).1
 obtain ⟨q',hq'⟩:∃ q':MrT,q'=⟨b,if b.cs.length=q.q.cs.length then q.m else mrNext fr q.q b⟩:=⟨_,rfl⟩
 rw [← hq']
 have fin:MrOk q'→uO q'=uO q→s'.vs.length+uL q'=s.vs.length+uL q→s'.tk.length+uT q=s.tk.length+uT q'→uE q'≤uE q→MrI n Bd T s' (qs.set j q')∧uE q'≤uE q:=by
  intro h1 h2 h3 h4 h5
  have s1:=sum_set (φ:=uO) (q':=q') hq
  have s2:=sum_set (φ:=uL) (q':=q') hq
  have s3:=sum_set (φ:=uT) (q':=q') hq
  have e1:=h.off
  have e2:=h.los
  have e3:=h.tak
  refine ⟨⟨by rw [mr_set,hq'];exact hI,mr_ok h hlt h1,?_,?_,?_⟩,h5⟩
  ·rw [hf _ (by omega)];omega
  ·rw [hf _ (by omega)];omega
  ·rw [hf _ (by omega)];omega
 obtain ⟨⟨me,cs,pa,ta,st⟩,m⟩:=q
 obtain ⟨me',cs',pa',ta',st'⟩:=b
 simp only at hcs
 subst hcs
 have npc:∀ v,np (some v::rest)=np rest+1:=fun v=>by simp [np]
 have npn:np (none::rest)=np rest:=by simp [np]
 have hPr:∀ x y z,hP ⟨x,rest,y,z,.load⟩=0:=fun x y z=>by unfold hP;simp only;split <;> first | rfl | (simp [QSt.holds])
 have hTr:∀ x y z,hT ⟨x,rest,y,z,.load⟩=0:=fun x y z=>by unfold hT;simp only;split <;> first | rfl | (simp [QSt.holds])
 have okr:∀ x y z,MrOk ⟨⟨x,rest,y,z,.load⟩,.c0⟩:=fun x y z=>by unfold MrOk;simp only;split <;> trivial
 cases k with
 | keep vs tk cs hold =>
  simp only at vs tk cs hold
  subst cs
  rw [if_pos rfl] at hq'
  rw [vs,tk] at fin
  subst hq'
  have e1:hP ⟨me',c::rest,pa',ta',st'⟩=hP ⟨me,c::rest,pa,ta,st⟩:=by unfold hP;simp only [hold]
  have e2:hT ⟨me',c::rest,pa',ta',st'⟩=hT ⟨me,c::rest,pa,ta,st⟩:=by unfold hT;simp only [hold]
  refine fin ?_ rfl ?_ ?_ (Nat.le_refl _)
  ·rcases hm with ⟨e,v,rfl⟩ | ⟨e,rfl⟩ <;> (simp only at e;subst e)
   ·exact ⟨v,rest,rfl⟩
   ·trivial
  ·unfold uL;simp only [e1]
  ·unfold uT;simp only [e2]
 | drawP v hc vs tk cs h0 h1 =>
  simp only at vs tk cs h0 h1
  subst cs;subst hc
  rw [if_pos rfl] at hq'
  rw [vs,tk] at fin
  subst hq'
  rcases hm with ⟨e,_⟩ | ⟨_,e⟩
  ·simp only at e;subst e
   refine fin ⟨v,rest,rfl⟩ rfl ?_ ?_ (Nat.le_refl _)
   ·simp [uL,hP,h0,h1,npc];omega
   ·simp [uT,hT]
  ·cases e
 | drawT hc vs tk cs h0 h1 =>
  simp only at vs tk cs h0 h1
  subst cs;subst hc
  rw [if_pos rfl] at hq'
  rw [vs,tk] at fin
  subst hq'
  rcases hm with ⟨_,v,e⟩ | ⟨e,_⟩
  ·cases e
  ·simp only at e;subst e
   refine fin trivial rfl ?_ ?_ (Nat.le_refl _)
   ·simp [uL,hP]
   ·simp [uT,hT,h0,h1]
 | refuse vs tk cs st1 pa1 ta1 h0 =>
  simp only at vs tk cs st1 pa1 ta1 h0
  subst cs;subst st1;subst pa1;subst ta1
  rw [if_neg (by simp)] at hq'
  rw [vs,tk] at fin
  rcases hm with ⟨e,v,rfl⟩ | ⟨e,rfl⟩ <;> (simp only at e;subst e)
  ·simp only [mrNext,if_true] at hq'
   subst hq'
   refine fin rfl ?_ ?_ ?_ ?_
   ·simp [uO,npc]
   ·simp only [uL,hPr,npc];simp [hP,h0]
   ·simp [uT,hTr];simp [hT]
   ·simp only [uE,List.length_cons];omega
  ·simp only [mrNext,if_true] at hq'
   subst hq'
   refine fin (okr _ _ _) ?_ ?_ ?_ ?_
   ·simp [uO,npn]
   ·simp only [uL,hPr,npn];simp [hP]
   ·simp [uT,hTr];simp [hT,h0]
   ·simp only [uE,List.length_cons];omega
 | doneP v hc vs tk cs st1 u pa1 h0 =>
  simp only at vs tk cs st1 pa1 h0
  subst cs;subst st1;subst pa1;subst hc
  rw [if_neg (by simp)] at hq'
  rw [vs,tk] at fin
  rcases hm with ⟨e,_⟩ | ⟨_,e⟩
  ·simp only at e;subst e
   simp only [mrNext,List.length_append,List.length_singleton,Nat.add_eq_left,Nat.one_ne_zero,if_false] at hq'
   cases fr with
   | true =>
    rw [if_pos rfl] at hq'
    subst hq'
    refine fin rfl ?_ ?_ ?_ ?_
    ·simp [uO,npc]
    ·simp only [uL,hPr,npc];simp [hP,h0]
    ·simp [uT,hTr];simp [hT]
    ·simp only [uE,List.length_cons];omega
   | false =>
    rw [if_neg (by decide)] at hq'
    subst hq'
    refine fin (okr _ _ _) ?_ ?_ ?_ ?_
    ·simp [uO,npc]
    ·simp only [uL,hPr,npc];simp [hP,h0]
    ·simp [uT,hTr];simp [hT]
    ·simp only [uE,List.length_cons];omega
  ·cases e
 | doneT hc vs tk cs st1 u ta1 h0 =>
  simp only at vs tk cs st1 ta1 h0
  subst cs;subst st1;subst ta1;subst hc
  rw [if_neg (by simp)] at hq'
  rw [vs,tk] at fin
  rcases hm with ⟨_,v,e⟩ | ⟨e,_⟩
  ·cases e
  ·simp only at e;subst e
   simp only [mrNext,List.length_append,List.length_singleton,Nat.add_eq_left,Nat.one_ne_zero,if_false] at hq'
   subst hq'
   refine fin rfl ?_ ?_ ?_ ?_
   ·simp [uO,npn]
   ·simp only [uL,hPr,npn];simp [hP]
   ·simp [uT,hTr];simp [hT,h0]
   ·simp only [uE,List.length_cons];omega
theorem mr_up {m':MrSt} (h:MrI n Bd T s qs) (hn:0<n) (hT:T<4611686018427387904) (hB:Bd<4611686018427387904) (hq:qs[j]?=some q) (d0 d1 d2:Nat) (w:Nat) (hw:(w=2*n+2∧d0=1∧d1=0∧d2=0)∨(w=2*n+3∧d0=0∧d1=1∧d2=0)∨(w=2*n+4∧d0=0∧d1=0∧d2=1))
  (hok:MrOk ⟨q.q,m'⟩) (e0:uO ⟨q.q,m'⟩+d0=uO q) (e1:uL ⟨q.q,m'⟩+d1=uL q) (e2:uT ⟨q.q,m'⟩+d2=uT q):MrI n Bd T (mrUp s w) (qs.set j ⟨q.q,m'⟩):=by
 have hlt:=(List.getElem?_eq_some_iff.1 hq).1
 have s1:=sum_set (φ:=uO) (q':=(⟨q.q,m'⟩:MrT)) hq
 have s2:=sum_set (φ:=uL) (q':=(⟨q.q,m'⟩:MrT)) hq
 have s3:=sum_set (φ:=uT) (q':=(⟨q.q,m'⟩:MrT)) hq
 have a1:=h.off
 have a2:=h.los
 have a3:=h.tak
 have hbd:=h.q.bd
 have hoth:∀ i,i≠w→(mrUp s w).f i=s.f i:=fun i hi=>upd_other hi
 have hself:(mrUp s w).f w=(s.f w+1)%18446744073709551616:=upd_same
 refine ⟨?_,mr_ok h hlt hok,?_,?_,?_⟩
 ·rw [mr_set,show (qs.map MrT.q).set j q.q=qs.map MrT.q from set_self (mr_get hq)]
  exact h.q.words hn fun i hi=>hoth i (by omega)
 ·rcases hw with ⟨rfl,rfl,rfl,rfl⟩ | ⟨rfl,rfl,rfl,rfl⟩ | ⟨rfl,rfl,rfl,rfl⟩
  ·rw [hself,Nat.mod_eq_of_lt (by omega)];omega
  ·rw [hoth _ (by omega)];omega
  ·rw [hoth _ (by omega)];omega
 ·show (mrUp s w).f (2*n+3)+s.vs.length+_=T
  rcases hw with ⟨rfl,rfl,rfl,rfl⟩ | ⟨rfl,rfl,rfl,rfl⟩ | ⟨rfl,rfl,rfl,rfl⟩
  ·rw [hoth _ (by omega)];omega
  ·rw [hself,Nat.mod_eq_of_lt (by omega)];omega
  ·rw [hoth _ (by omega)];omega
 ·show (mrUp s w).f (2*n+4)+_=s.tk.length
  rcases hw with ⟨rfl,rfl,rfl,rfl⟩ | ⟨rfl,rfl,rfl,rfl⟩ | ⟨rfl,rfl,rfl,rfl⟩
  ·rw [hoth _ (by omega)];omega
  ·rw [hoth _ (by omega)];omega
  ·rw [hself,Nat.mod_eq_of_lt (by omega)];omega
end
end
section
def mrPhi (s:QS) (qs:List MrT):Nat:=qphi s (qs.map MrT.q)+sumN (qs.map uE)
def mrPsi (M:Nat) (s:QS) (qs:List MrT):Nat:=sumN ((qs.map MrT.q).map (qtPsi M s))+sumN (qs.map uE)
def mrAct (qs:List MrT):Nat:=sumN ((qs.map MrT.q).map qAct)
theorem qPlan_some {n:Nat} {q:QT} {c:Option Nat} {rest:List (Option Nat)} (h:q.cs=c::rest):∃ p,qPlan n q=some p:=by
 obtain ⟨me,cs,pa,ta,st⟩:=q
 simp only at h;subst h
 cases st <;> cases c <;> exact ⟨_,rfl⟩
inductive MrK (n:Nat) (fr:Bool) (q:MrT) (mk:Int × Int) (F:QS→QS × MrT):Prop
 | lift (c:Option Nat) (rest:List (Option Nat)) (G:QS→QS × QT) (hcs:q.q.cs=c::rest) (hm:(q.m=.qu∧∃ v,c=some v)∨(q.m=.c0∧c=none)) (hG:qPlan n q.q=some (mk,G))
   (hF:F=fun s=>((G s).1,⟨(G s).2,if (G s).2.cs.length=q.q.cs.length then q.m else mrNext fr q.q (G s).2⟩))
 | offer (v:Nat) (rest:List (Option Nat)) (hcs:q.q.cs=some v::rest) (hm:q.m=.c0) (hF:F=fun s=>(mrUp s (2*n+2),⟨q.q,.qu⟩))
 | lost (hm:q.m=.c1) (hF:F=fun s=>(mrUp s (2*n+3),⟨q.q,.c0⟩))
 | news (hm:q.m=.nw) (hF:F=fun s=>(s,⟨q.q,.c0⟩))
 | took (hm:q.m=.c2) (hF:F=fun s=>(mrUp s (2*n+4),⟨q.q,.c0⟩))
theorem mrk_of {n:Nat} {fr:Bool} {q:MrT} {mk:Int × Int} {F:QS→QS × MrT} (hok:MrOk q) (h:mrPlan n fr q=some (mk,F)):MrK n fr q mk F:=by
 obtain ⟨q,m⟩:=q
 have lift:mrLift n fr ⟨q,m⟩=some (mk,F)→((m=.qu∧∃ v rest,q.cs=some v::rest)∨(m=.c0∧∃ rest,q.cs=none::rest))→MrK n fr ⟨q,m⟩ mk F:=by
  intro hl hm
  unfold mrLift at hl
  obtain ⟨⟨mk',G⟩,hG,e⟩:=Option.map_eq_some_iff.1 hl
  simp only [Prod.mk.injEq] at e
  obtain ⟨rfl,rfl⟩:=e
  rcases hm with ⟨e,v,rest,hc⟩ | ⟨e,rest,hc⟩
  ·exact .lift (some v) rest G hc (.inl ⟨e,v,rfl⟩) hG rfl
  ·exact .lift none rest G hc (.inr ⟨e,rfl⟩) hG rfl
 cases m with
 | c0 =>
  simp only [mrPlan] at h
  split at h
  ·rename_i v rest hc
   simp only [Option.some.injEq,Prod.mk.injEq] at h
   exact .offer v rest hc rfl h.2.symm
  ·rename_i hne
   cases hc:q.cs with
   | nil =>
    unfold mrLift at h
    have:qPlan n q=none:=by unfold qPlan;rw [hc]
    simp only [this,Option.map_none] at h;cases h
   | cons c rest =>
    cases c with
    | some v=>exact absurd hc (hne v rest)
    | none=>exact lift h (.inr ⟨rfl,rest,hc⟩)
 | qu =>
  obtain ⟨v,r,hc⟩:=hok
  exact lift h (.inl ⟨rfl,v,r,hc⟩)
 | c1 =>
  simp only [mrPlan,Option.some.injEq,Prod.mk.injEq] at h
  exact .lost rfl h.2.symm
 | nw =>
  simp only [mrPlan,Option.some.injEq,Prod.mk.injEq] at h
  exact .news rfl h.2.symm
 | c2 =>
  simp only [mrPlan,Option.some.injEq,Prod.mk.injEq] at h
  exact .took rfl h.2.symm
theorem mr_plan_none {n:Nat} {fr:Bool} {q:MrT} (hok:MrOk q) (h:mrPlan n fr q=none):q.q.cs=[]∧q.m=.c0:=by
 obtain ⟨q,m⟩:=q
 have no:∀ {c:Option Nat} {rest:List (Option Nat)},q.cs=c::rest→mrLift n fr ⟨q,m⟩≠none:=fun hc e=>by
  obtain ⟨p,hp⟩:=qPlan_some (n:=n) hc
  unfold mrLift at e;simp [hp] at e
 cases m with
 | c0 =>
  simp only [mrPlan] at h
  split at h
  ·cases h
  ·rename_i hne
   cases hc:q.cs with
   | nil=>exact ⟨rfl,rfl⟩
   | cons c rest=>exact absurd h (no hc)
 | qu =>
  obtain ⟨v,r,hc⟩:=hok
  exact absurd h (no hc)
 | c1=>simp [mrPlan] at h
 | nw=>simp [mrPlan] at h
 | c2=>simp [mrPlan] at h
section
variable {n Bd T:Nat} {fr:Bool} {s:QS} {qs:List MrT} {j:Nat} {q:MrT}
theorem mrUp_oth {s:QS} {w i:Nat} (h:i≠w):(mrUp s w).f i=s.f i:=upd_other h
theorem mr_step (h:MrI n Bd T s qs) (hn:2≤n) (hn2:n≤1024) (hB:Bd<4611686018427387904) (hT:T<4611686018427387904) (hq:qs[j]?=some q) {mk:Int × Int} {F:QS→QS × MrT} (hpl:mrPlan n fr q=some (mk,F)) :
  MrI n Bd T (F s).1 (qs.set j (F s).2)∧mrPhi (F s).1 (qs.set j (F s).2)<mrPhi s qs∧(∀ M,mrAct qs≤M→mrAct (qs.set j (F s).2)≤M∧mrPsi M (F s).1 (qs.set j (F s).2)+1≤mrPsi M s qs) ∧
   ∀ m o (Tk:Nat→Prop),QE m o Tk s (qs.map MrT.q)→QE m o Tk (F s).1 ((qs.set j (F s).2).map MrT.q):=by
 have hok:=h.ok j q hq
 have hgq:=mr_get hq
 -- a step beside the queue's
 have beside:∀ {s':QS} {m':MrSt},s'.f 0=s.f 0→s'.f 1=s.f 1→s'.vs=s.vs→s'.tk=s.tk→uE ⟨q.q,m'⟩+1≤uE q→MrI n Bd T s' (qs.set j ⟨q.q,m'⟩) →
   MrI n Bd T s' (qs.set j ⟨q.q,m'⟩)∧mrPhi s' (qs.set j ⟨q.q,m'⟩)<mrPhi s qs∧(∀ M,mrAct qs≤M→mrAct (qs.set j ⟨q.q,m'⟩)≤M∧mrPsi M s' (qs.set j ⟨q.q,m'⟩)+1≤mrPsi M s qs) ∧
   ∀ m o (Tk:Nat→Prop),QE m o Tk s (qs.map MrT.q)→QE m o Tk s' ((qs.set j ⟨q.q,m'⟩).map MrT.q):=by
  intro s' m' e0 e1 e2 e3 he hI
  have hs:(qs.set j ⟨q.q,m'⟩).map MrT.q=qs.map MrT.q:=by rw [mr_set];exact set_self hgq
  have s1:=sum_set (φ:=uE) (q':=(⟨q.q,m'⟩:MrT)) hq
  refine ⟨hI,?_,fun M hM=>⟨by unfold mrAct;rw [hs];exact hM,?_⟩,fun m o Tk hE=>?_⟩
  ·unfold mrPhi
   rw [hs]
   have:qphi s' (qs.map MrT.q)=qphi s (qs.map MrT.q):=by
    unfold qphi
    rw [show qpsi (qs.map MrT.q).length s'=qpsi (qs.map MrT.q).length s from funext fun a=>psi_eq e0 e1]
   omega
  ·unfold mrPsi
   rw [hs,show qtPsi M s'=qtPsi M s from funext fun a=>qt_eq e0 e1]
   omega
  ·rw [hs]
   obtain ⟨f',vs',tk'⟩:=s'
   simp only at e2 e3
   subst e2;subst e3
   exact hE.words
 cases mrk_of hok hpl with
 | lift c rest G hcs hm hG hF =>
  subst hF
  obtain ⟨k,hf⟩:=qk_of (s:=s) hcs hG
  obtain ⟨g1,g2⟩:=q_step h.q hn hn2 hB hgq hG
  obtain ⟨i1,i2⟩:=mr_lift (fr:=fr) h hq hcs hm k (fun w hw=>hf w hw (by omega)) g1
  have s1:=sum_set (φ:=uE) (q':=(⟨(G s).2,if (G s).2.cs.length=q.q.cs.length then q.m else mrNext fr q.q (G s).2⟩:MrT)) hq
  dsimp only
  obtain ⟨q',hq'⟩:∃ q':MrT,q'=⟨(G s).2,if (G s).2.cs.length=q.q.cs.length then q.m else mrNext fr q.q (G s).2⟩:=⟨_,rfl⟩
  have hqq:q'.q=(G s).2:=by rw [hq']
  rw [← hq'] at i1 i2 s1 ⊢
  refine ⟨i1,?_,fun M hM=>?_,fun m o Tk hE=>?_⟩
  ·unfold mrPhi
   rw [mr_set,hqq]
   omega
  ·obtain ⟨k1,k2⟩:=qt_step h.q hM hn hn2 hB hgq hG
   refine ⟨by unfold mrAct;rw [mr_set,hqq];exact k1,?_⟩
   unfold mrPsi
   rw [mr_set,hqq]
   omega
  ·rw [mr_set,hqq];exact qe_step hE h.q hgq hG
 | offer v rest hcs hm hF =>
  subst hF
  obtain ⟨q,m⟩:=q
  simp only at hm hcs;subst hm
  have hst:q.st=.load:=by unfold MrOk at hok;simp only [hcs] at hok;exact hok
  have hnp:np q.cs=np rest+1:=by rw [hcs];simp [np]
  refine beside (s':=mrUp s (2*n+2)) (mrUp_oth (by omega)) (mrUp_oth (by omega)) rfl rfl ?_ (mr_up h (by omega) hT hB hq 1 0 0 (2*n+2) (.inl ⟨rfl,rfl,rfl,rfl⟩) ⟨v,rest,hcs⟩ ?_ rfl rfl)
  ·simp only [uE,hcs,List.length_cons];omega
  ·simp only [uO];omega
 | lost hm hF =>
  subst hF
  obtain ⟨q,m⟩:=q
  simp only at hm;subst hm
  have hst:q.st=.load:=hok
  refine beside (s':=mrUp s (2*n+3)) (mrUp_oth (by omega)) (mrUp_oth (by omega)) rfl rfl ?_ (mr_up h (by omega) hT hB hq 0 1 0 (2*n+3) (.inr (.inl ⟨rfl,rfl,rfl,rfl⟩)) ?_ rfl ?_ rfl)
  ·simp only [uE];omega
  ·unfold MrOk;simp only;split <;> first | exact hst | trivial
  ·simp only [uL]
 | news hm hF =>
  subst hF
  obtain ⟨q,m⟩:=q
  simp only at hm;subst hm
  have hst:q.st=.load:=hok
  have hlt:=(List.getElem?_eq_some_iff.1 hq).1
  have s1:=sum_set (φ:=uO) (q':=(⟨q,.c0⟩:MrT)) hq
  have s2:=sum_set (φ:=uL) (q':=(⟨q,.c0⟩:MrT)) hq
  have s3:=sum_set (φ:=uT) (q':=(⟨q,.c0⟩:MrT)) hq
  have e1:uO (⟨q,.c0⟩:MrT)=uO ⟨q,.nw⟩:=rfl
  have e2:uL (⟨q,.c0⟩:MrT)=uL ⟨q,.nw⟩:=rfl
  have e3:uT (⟨q,.c0⟩:MrT)=uT ⟨q,.nw⟩:=rfl
  refine beside rfl rfl rfl rfl (by simp only [uE];omega) ⟨?_,mr_ok h hlt ?_,?_,?_,?_⟩
  ·rw [mr_set];rw [set_self hgq];exact h.q
  ·unfold MrOk;simp only;split <;> first | exact hst | trivial
  ·have:=h.off;show s.f (2*n+2)+sumN ((qs.set j ⟨q,.c0⟩).map uO)=T;omega
  ·have:=h.los;show s.f (2*n+3)+s.vs.length+sumN ((qs.set j ⟨q,.c0⟩).map uL)=T;omega
  ·have:=h.tak;show s.f (2*n+4)+sumN ((qs.set j ⟨q,.c0⟩).map uT)=s.tk.length;omega
 | took hm hF =>
  subst hF
  obtain ⟨q,m⟩:=q
  simp only at hm;subst hm
  have hst:q.st=.load:=hok
  refine beside (s':=mrUp s (2*n+4)) (mrUp_oth (by omega)) (mrUp_oth (by omega)) rfl rfl ?_ (mr_up h (by omega) hT hB hq 0 0 1 (2*n+4) (.inr (.inr ⟨rfl,rfl,rfl,rfl⟩)) ?_ rfl rfl ?_)
  ·simp only [uE];omega
  ·unfold MrOk;simp only;split <;> first | exact hst | trivial
  ·simp only [uT]
end
theorem sum_zero:∀ {l:List Nat},(∀ a∈l,a=0)→sumN l=0
 | [],_=>rfl
 | a::l,h=>by
  have h1:=h a (by simp)
  have h2:=sum_zero (l:=l) fun b hb=>h b (by simp [hb])
  simp only [sumN,List.foldr_cons] at h2 ⊢;omega
theorem mr_begin {n Bd T m:Nat} {o:Nat→List Nat} {Tk:Nat→Prop} {qs:List MrT} {f:Nat→Nat} (hn:2≤n) (hf0:f 0=0) (hf1:f 1=0) (hf:∀ i,i<n→f (2+2*i)=i) (h2:f (2*n+2)=0) (h3:f (2*n+3)=0) (h4:f (2*n+4)=0) (hm:qs.length=m)
  (hq:∀ (j:Nat) (q:MrT),qs[j]?=some q→q.m=.c0∧q.q.me=j∧q.q.pa=[]∧q.q.ta=[]∧q.q.st=.load∧(q.q.cs.filterMap id).Sublist (o j)∧(none∈q.q.cs→Tk j)) (hb:sumN (qs.map fun q=>q.q.cs.length)≤Bd) (hTT:sumN (qs.map fun q=>np q.q.cs)=T) :
  MrI n Bd T ⟨f,[],[]⟩ qs∧QE m o Tk ⟨f,[],[]⟩ (qs.map MrT.q):=by
 have hq':∀ (j:Nat) (a:QT),(qs.map MrT.q)[j]?=some a→∃ q,qs[j]?=some q∧a=q.q:=fun j a ha=>by
  rw [List.getElem?_map] at ha
  obtain ⟨q,h1,rfl⟩:=Option.map_eq_some_iff.1 ha
  exact ⟨q,h1,rfl⟩
 have hnh:∀ (j:Nat) (q:QT),(qs.map MrT.q)[j]?=some q→q.st.holds=false:=fun j a ha=>by
  obtain ⟨q,h1,rfl⟩:=hq' j a ha
  rw [(hq j q h1).2.2.2.2.1];rfl
 have hrem:∀ l:List MrT,(∀ q∈l,q.q.st=.load)→sumN ((l.map MrT.q).map qrem)=sumN (l.map fun q=>q.q.cs.length):=by
  intro l
  induction l with
  | nil=>intro _;rfl
  | cons a l ih =>
   intro hl
   have e1:=ih fun q hq=>hl q (by simp [hq])
   have e2:qrem a.q=a.q.cs.length:=by unfold qrem;rw [hl a (by simp)];rfl
   simp only [List.map_cons,sumN,List.foldr_cons] at e1 ⊢;omega
 have hld:∀ q∈qs,q.q.st=.load∧q.m=.c0:=fun q hq1=>by
  obtain ⟨j,hj⟩:=List.mem_iff_getElem?.1 hq1
  exact ⟨(hq j q hj).2.2.2.2.1,(hq j q hj).1⟩
 have hzero:∀ (φ:MrT→Nat) (ψ:MrT→Nat),(∀ q,q.q.st=.load→q.m=.c0→φ q=ψ q)→sumN (qs.map φ)=sumN (qs.map ψ):=fun φ ψ e=>by
  congr 1
  exact List.map_congr_left fun q hq1=>e q (hld q hq1).1 (hld q hq1).2
 refine ⟨⟨⟨hf0,hf1,Nat.le_refl _,by rw [hrem qs fun q hq=>(hld q hq).1];simpa using hb,fun i hi=>⟨i,Nat.mod_eq_of_lt hi,Nat.zero_le _,by show i<0+n;omega,.inl ⟨hf i hi,Nat.zero_le _,fun h=>absurd h (Nat.not_lt_zero i)⟩⟩,fun j a ha=>?_,fun j j' q q' t h1 h2 hh=>?_,fun j a ha=>?_,fun j a ha=>?_⟩,fun j q h=>?_,?_,?_,?_⟩,⟨by simpa using hm,fun x hx=>by simp at hx,fun x hx=>by simp at hx,fun j a ha=>?_⟩⟩
 ·obtain ⟨q,h1,rfl⟩:=hq' j a ha
  refine ⟨(hq j q h1).2.1,?_⟩
  obtain ⟨_,_,_,_,e,_⟩:=hq j q h1
  obtain ⟨⟨me,cs,pa,ta,st⟩,m⟩:=q
  replace e:st=.load:=e
  subst e
  cases cs <;> first | rfl | trivial
 ·rcases hh with ⟨h3,_⟩ | ⟨h3,_⟩
  ·exact (not_puts (hnh j q h1) h3).elim
  ·exact (not_takes (hnh j q h1) h3).elim
 ·obtain ⟨q,h1,rfl⟩:=hq' j a ha
  rw [(hq j q h1).2.2.1,pendP_none (hnh j q.q ha)];rfl
 ·obtain ⟨q,h1,rfl⟩:=hq' j a ha
  rw [(hq j q h1).2.2.2.1,pendT_none (hnh j q.q ha)];rfl
 ·obtain ⟨e1,_,_,_,e2,_⟩:=hq j q h
  unfold MrOk;rw [e1];simp only;split <;> first | exact e2 | trivial
 ·rw [show (⟨f,[],[]⟩:QS).f=f from rfl,h2,hzero uO (fun q=>np q.q.cs) fun q e1 e2=>by unfold uO;rw [e2]];omega
 ·rw [show (⟨f,[],[]⟩:QS).f=f from rfl,h3,hzero uL (fun q=>np q.q.cs) fun q e1 e2=>by
   have:hP q.q=0:=by unfold hP;rw [e1];split <;> simp [QSt.holds]
   unfold uL;rw [e2,this];rfl]
  simp only [List.length_nil];omega
 ·rw [show (⟨f,[],[]⟩:QS).f=f from rfl,h4,hzero uT (fun _=>0) fun q e1 e2=>by
   have:hT q.q=0:=by unfold hT;rw [e1];split <;> simp [QSt.holds]
   unfold uT;rw [e2,this,Nat.zero_add],sum_zero (fun a ha=>by simp at ha;exact ha.2.symm)]
  rfl
 ·obtain ⟨q,h1,rfl⟩:=hq' j a ha
  obtain ⟨_,e1,e2,_,_,e5,e6⟩:=hq j q h1
  exact ⟨e1,by rw [e2];exact e5,e6⟩
theorem len_split {α:Type} {off:Nat}:∀ {tn:Nat} {l:List (Nat × α)},(∀ x∈l,off≤x.1∧x.1<off+tn)→sumN ((List.range tn).map fun k=>(l.filter fun x=>decide (x.1=off+k)).length)=l.length:=by
 intro tn l
 induction l with
 | nil=>intro _;simp only [List.filter_nil,List.length_nil];exact sum_zero fun a ha=>by simp at ha;exact ha.2.symm
 | cons x l ih =>
  intro h
  have h1:=ih fun y hy=>h y (by simp [hy])
  have h2:=h x (by simp)
  have key:∀ tn,sumN ((List.range tn).map fun k=>((x::l).filter fun x=>decide (x.1=off+k)).length)=sumN ((List.range tn).map fun k=>(l.filter fun x=>decide (x.1=off+k)).length)+(if x.1<off+tn then 1 else 0):=by
   intro tn
   induction tn with
   | zero=>rw [if_neg (by omega)];rfl
   | succ tn ih2 =>
    have hs:∀ (l:List Nat) (a:Nat),sumN (l++[a])=sumN l+a:=fun l a=>by
     induction l with
     | nil=>simp [sumN]
     | cons b l ih=>simp only [sumN,List.cons_append,List.foldr_cons] at ih ⊢;omega
    rw [List.range_succ,List.map_append,List.map_append,List.map_singleton,List.map_singleton,hs,hs,ih2]
    have e:((x::l).filter fun x=>decide (x.1=off+tn)).length=(l.filter fun x=>decide (x.1=off+tn)).length+if x.1=off+tn then 1 else 0:=by
     rw [List.filter_cons]
     by_cases e:x.1=off+tn <;> simp [e]
    rw [e]
    by_cases c1:x.1<off+tn
    ·rw [if_pos c1,if_neg (by omega),if_pos (by omega)];omega
    ·by_cases c2:x.1=off+tn
     ·rw [if_neg c1,if_pos c2,if_pos (by omega)];omega
     ·rw [if_neg c1,if_neg c2,if_neg (by omega)];omega
  rw [key,h1,if_pos h2.2,List.length_cons]
theorem mr_end {n Bd T:Nat} {fr:Bool} {s:QS} {qs:List MrT} (h:MrI n Bd T s qs) (hd:∀ q∈qs,mrPlan n fr q=none):(∀ a∈qs.map MrT.q,a.cs=[])∧s.f (2*n+2)=T∧s.f (2*n+3)+s.vs.length=T∧s.f (2*n+4)=s.tk.length:=by
 have key:∀ q∈qs,q.q.cs=[]∧q.m=.c0:=fun q hq=>by
  obtain ⟨j,hj⟩:=List.mem_iff_getElem?.1 hq
  exact mr_plan_none (h.ok j q hj) (hd q hq)
 have zero:∀ φ:MrT→Nat,(∀ q,q.q.cs=[]→q.m=.c0→φ q=0)→sumN (qs.map φ)=0:=fun φ e=>sum_zero fun a ha=>by
  obtain ⟨q,hq,rfl⟩:=List.mem_map.1 ha
  exact e q (key q hq).1 (key q hq).2
 have z1:=zero uO fun q e1 e2=>by unfold uO;rw [e2,e1];rfl
 have z2:=zero uL fun q e1 e2=>by unfold uL hP;rw [e2,e1];rfl
 have z3:=zero uT fun q e1 e2=>by unfold uT hT;rw [e2,e1];rfl
 have a1:=h.off
 have a2:=h.los
 have a3:=h.tak
 refine ⟨fun a ha=>?_,by omega,by omega,by omega⟩
 obtain ⟨q,hq,rfl⟩:=List.mem_map.1 ha
 exact (key q hq).1
theorem mr_sums {n Bd m pn off tn:Nat} {qs:List QT} {s:QS} {o:Nat→List Nat} {Tk:Nat→Prop} (h:QI n Bd s qs) (e:QE m o Tk s qs) (hown:∀ x∈s.vs,x.1<pn) (hT:∀ j,j<m→Tk j→off≤j∧j<off+tn) :
  sumN ((qPs s pn).map List.length)=s.vs.length∧sumN ((qTs s off tn).map List.length)=s.tk.length∧(qLeft s).length=s.vs.length-s.tk.length:=by
 refine ⟨?_,?_,by simp [qLeft]⟩
 ·have:=len_split (off:=0) (tn:=pn) (l:=s.vs) fun x hx=>⟨Nat.zero_le _,by have:=hown x hx;omega⟩
  rw [← this]
  unfold qPs
  rw [List.map_map]
  congr 1
  exact List.map_congr_left fun k _=>by simp [putBy]
 ·have hz:(List.zip s.tk s.vs).length=s.tk.length:=by rw [List.length_zip];exact Nat.min_eq_left h.le
  have:=len_split (off:=off) (tn:=tn) (l:=List.zip s.tk s.vs) fun x hx=>by
   have h1:x.1∈s.tk:=(List.of_mem_zip hx).1
   exact hT _ (e.tak _ h1).1 (e.tak _ h1).2
  rw [hz] at this
  rw [← this]
  unfold qTs
  rw [List.map_map]
  congr 1
  exact List.map_congr_left fun k _=>by simp [takenBy]
end
end Go.Proofs.Ytmkkanmkjfnpdaa
namespace Go.Proofs.Ytmkkanmkjfnpdaa
open Go Go.PB
attribute [local irreducible] Mo Bin Eql Tr Wo Ap Wle
section
section
variable {B:Hand} [Lets B] {L F:List HProp} {x:B.X}
def seqs (j:Nat) (w:Nat):Nat:=if 2≤w∧w%2=0∧(w-2)/2<j then (w-2)/2 else 0
def newInv (x:B.X) (r b n:Nat) (L:List HProp):Inv (Nat × (Nat→Nat)) B.X where
 e:=fun i=>[(4,.pointer (some ⟨r,0,none⟩)),(27,.int .i64 n),(28,.int .i64 i.1),(3,.int .i64 0)]
 L:=fun i=>wds (twoAddr r b) (2*n+2) [(r,2,.slice (some ⟨b,0,none⟩) n n)] i.2::L
 x:=fun _=>x
 ok:=fun i=>i.1≤n∧i.2=seqs i.1
theorem new_tr {n k:Nat} (hn:n=2^k) (hk0:1≤k) (hk:k≤10) :
  Tr Try.prog B 35 [.int .i64 n] L x fun v L' x'=>∃ r b,v=.tuple #[.pointer (some ⟨r,0,none⟩),.int .i64 0]∧r≠b∧L'=wds (twoAddr r b) (2*n+2) [(r,2,.slice (some ⟨b,0,none⟩) n n)] (seqs n)::L∧x'=x:=by
 have hle:n≤1024:=by rw [hn];exact pow_le hk
 have hpos:2≤n:=by have:=Nat.pow_le_pow_right (n:=2) (by omega) hk0;omega
 have hand:IntKind.i64.wrap (BitVec.ofInt IntKind.i64.bits (n:Int) &&& BitVec.ofInt IntKind.i64.bits ((n:Int)-1)).toNat=0:=by
  have e1:((n:Int)-1)=((n-1:Nat):Int):=by omega
  have key:∀ k∈List.range 11,(2^k) &&& (2^k-1)=0:=by decide +kernel
  rw [e1,and_i64 (by omega) (by omega),hn,key k (by simp;omega)];rfl
 refine tr_of_body Try.func35 rfl Try.ntmps35 (by simp) fun um Q _ hQ=>?_
 simp only [argE,Nat.zero_add,Nat.reduceAdd]
 repeat (first | (apply wo_po;apply mo_bin;exact rfl;exact rfl;apply bin_and;exact hand;exact gY) | (apply wo_mo;apply mo_make;exact rfl;exact rfl;exact rfl;omega;omega;exact trivial) | refine wlssF ?_ | refine wgtrF ?_ | refine wneqF ?_ | refine we_seq ?_ | (refine wR ?_;try simp only [oS]) | refine wo_nil ?_ | refine wM ?_ | refine wA ?_ | refine wJ ?_ | refine wsub ?_ | refine wF ?_ | refine we_skip ?_)
 rintro v' L' ⟨b,rfl,rfl⟩
 repeat (first | (apply wo_po;apply mo_build (pv:=[(2,_)]);exact rfl;exact .cons rfl .nil;exact rfl;exact trivial) | (apply wo_mo;apply mo_box;exact rfl;exact trivial))
 rintro v' L' ⟨r,rfl,rfl⟩
 refine wo_ent (arr r 0 [.int .u64 0,.int .u64 0,.slice (some ⟨b,0,none⟩) n n]::arr b 0 (zeros n [.int .u64 0,.int .u64 0])::L) .refl ?_
 refine wo_pure (p:=r≠b) (fun h st=>?_) fun hne=>?_
 ·obtain ⟨n',rfl⟩:∃ n',n=n'+1:=⟨n-1,by omega⟩
  exact star_ne (ws:=.int .u64 0::zeros n' [.int .u64 0,.int .u64 0]) st
 refine wo_star (wds (twoAddr r b) (2*n+2) [(r,2,.slice (some ⟨b,0,none⟩) n n)] (fun _=>0)::L) (fun h st=>two_wds (fun i hi=>zeros_two hi) st) ?_
 have hhdr:∀ s:Nat→Nat,Rd (wds (twoAddr r b) (2*n+2) [(r,2,.slice (some ⟨b,0,none⟩) n n)] s::L) r 2 (.slice (some ⟨b,0,none⟩) n n):=fun s=>Rd.of .here fun h hs=>by
  obtain ⟨h1,h2,s1,hc,_⟩:=hs
  exact ⟨rfl,.inl (s1.o1 _ _ _ (hc.2 (r,2,.slice (some ⟨b,0,none⟩) n n) (List.mem_singleton.2 rfl)))⟩
 repeat (first | (apply wo_po;apply mo_load;exact rfl;exact hhdr _;exact trivial) | refine we_seq ?_ | (refine wR ?_;try simp only [oS]) | refine wo_nil ?_ | refine wM ?_ | refine wA ?_ | refine wN ?_ | refine wD ?_ | refine wE ?_ | refine we_block ?_)
 refine we_loopN (newInv x r b n L) (fun i=>n-i.1) (0,fun _=>0) ⟨by simp,by funext w;simp [seqs]⟩ ⟨rfl,rfl,rfl,rfl,trivial⟩ .refl rfl ?_
 rintro ⟨j,s⟩ ⟨hj,hs⟩
 dsimp only [newInv] at hj hs ⊢
 subst hs
 by_cases hc:j<n
 ·repeat (first | (apply wo_po;apply mo_load;exact rfl;exact hhdr _;exact trivial) | (apply wo_po;apply mo_indexAddr (r:=2*j);exact rfl;exact rfl;omega;omega;omega;exact trivial) | refine wlssT ?_ | refine we_seq ?_ | (refine wR ?_;try simp only [oS]) | refine wo_nil ?_ | refine wM ?_ | refine wA ?_ | refine wN ?_ | refine wD ?_ | (apply wo_po;apply mo_conv;exact rfl;(first | exact wrap_i64 (by omega) (by omega) | exact wrap_u64 (by omega) (by omega));exact gY) | refine wT ?_ | refine we_skip ?_ | refine we_block ?_)
  refine wo_call (.cons rfl (.cons rfl .nil)) trivial (store_lone (wt_wds (two_apart hne _) .here (w:=2+2*j) (by omega) (by rw [Nat.add_comm];rfl) (n:=j) (by omega))) ?_
  rintro v L' x' ⟨rfl,rfl,rfl⟩
  repeat (first | (refine wR ?_;try simp only [oS]) | refine wo_nil ?_ | refine wM ?_ | refine wadd ?_)
  refine at_round (I:=newInv x' r b n L) (R:=fun i'=>n-i'.1<n-j) (j+1,upd (seqs j) (2+2*j) j) (by simp;omega) ⟨by simp;omega,?_⟩ ⟨rfl,rfl,rfl,rfl,trivial⟩ .refl rfl
  funext w
  simp only [upd,seqs]
  split <;> split <;> (try split) <;> omega
 ·obtain rfl:j=n:=by omega
  repeat (first | refine wlssF ?_ | refine we_seq ?_ | (refine wR ?_;try simp only [oS]) | refine wo_nil ?_ | refine wM ?_ | refine wA ?_ | refine wF ?_ | refine we_ret ?_ | refine we_exit ?_)
  (first | refine or2 Try.func35 Try.results35 hQ rfl rfl ?_ | refine on2 Try.func35 Try.results35 hQ rfl rfl ?_)
  exact ⟨r,b,rfl,hne,rfl,rfl⟩
end
end
section
variable {B:Hand} [Lets B] {gv:Value}
def accWith (A:Acc B gv) (R:HProp):Acc B gv where
 S:=A.S
 C:=fun s=>all [A.C s,R]
 x:=A.x
 step:=A.step
 addr:=A.addr
 load:=A.load
 store:=A.store
 cas:=A.cas
 add:=A.add
 swap:=A.swap
 gate:=A.gate.imp id fun ⟨t,p,f,e,m,en,g⟩=>⟨t,p,f,e,m,en,fun op w s T L F hs hh =>
  tr_star _ (fun h st=>star_open (hh.star st)) ((g op w s T _ _ hs .here).post fun v L' x' ⟨s',h1,h2,h3,h4⟩=>⟨_,⟨s',h1,h2,rfl,h4⟩,fun h st=>star_shut (M:=[_,_]) (by rw [h3] at st;exact st)⟩)⟩
 load_ok:=fun w s T L F b o ha hl hh=>tr_star _ (fun h st=>star_open (hh.star st)) ((A.load_ok w s T _ _ b o ha hl .here).post fun v L' x' ⟨n,s',h1,h2,h3,hL,h5⟩=>⟨_,⟨n,s',h1,h2,h3,rfl,h5⟩,fun h st=>star_shut (M:=[_,_]) (by subst hL;exact st)⟩)
 store_ok:=fun w n s T L F b o ha hn hl hh=>tr_star _ (fun h st=>star_open (hh.star st)) ((A.store_ok w n s T _ _ b o ha hn hl .here).post fun v L' x' ⟨s',h1,h2,hL,h4⟩=>⟨_,⟨s',h1,h2,rfl,h4⟩,fun h st=>star_shut (M:=[_,_]) (by subst hL;exact st)⟩)
 cas_ok:=fun w m n s T L F b o ha hn hl hh=>tr_star _ (fun h st=>star_open (hh.star st)) ((A.cas_ok w m n s T _ _ b o ha hn hl .here).post fun v L' x' ⟨q,s',h1,h2,hL,h4⟩=>⟨_,⟨q,s',h1,h2,rfl,h4⟩,fun h st=>star_shut (M:=[_,_]) (by subst hL;exact st)⟩)
 add_ok:=fun w n s T L F b o ha hn hl hh=>tr_star _ (fun h st=>star_open (hh.star st)) ((A.add_ok w n s T _ _ b o ha hn hl .here).post fun v L' x' ⟨r,s',h0,h1,h2,hL,h4⟩=>⟨_,⟨r,s',h0,h1,h2,rfl,h4⟩,fun h st=>star_shut (M:=[_,_]) (by subst hL;exact st)⟩)
end
section
def newsC (nc:Nat):HProp:=fun h=>∃ y:Array Value × Nat × Nat,chC nc 1 y.1 y.2.1 y.2.2 h
structure MirAt {B:Hand} {gv:Value} (A:Acc B gv) (mr r b n k nc:Nat):Prop where
 q:QueueAt A r b n k
 hq:∀ s,Rd [A.C s] mr 3 (.pointer (some ⟨r,0,none⟩))
 hc:∀ s,Rd [A.C s] mr 4 (.chan (some nc))
 a:∀ j,j<3→A.addr (2*n+2+j)=(mr,j)
structure News {B:Hand} {gv:Value} (A:Acc B gv) (nc:Nat):Prop where
 news:∃ Rs:A.S→HProp,(∀ s h,A.C s h→Star [newsC nc,Rs s] h)∧∀ s h,Star [newsC nc,Rs s] h→A.C s h
section
variable {B:Hand} {gv:Value}
def OfferT (A:Acc B gv) (n v:Nat) (s:A.S) (Q:Bool→A.S→Prop):Prop :=
 A.step 3 0 s fun s=>A.add (2*n+2+0) 1 s fun _ s=>PutT A n v s fun q s=>if q=true then Q true s else A.step 3 1 s fun s=>A.add (2*n+2+1) 1 s fun _ s=>Q false s
def MTakeT (A:Acc B gv) (n:Nat) (s:A.S) (Q:Option Nat→A.S→Prop):Prop :=
 TakeT A n s fun o s=>match o with
  | some v=>A.step 3 2 s fun s=>A.add (2*n+2+2) 1 s fun _ s=>Q (some v) s
  | none=>Q none s
def Cnt2 (A:Acc B gv) (n:Nat) (Q:Nat→Nat→Nat→A.S→Prop) (a b:Nat) (s:A.S):Prop:=A.step 1 2 s fun s=>A.load (2*n+2+2) s fun c s=>Q a b c s
def Cnt1 (A:Acc B gv) (n:Nat) (Q:Nat→Nat→Nat→A.S→Prop) (a:Nat) (s:A.S):Prop:=A.step 1 1 s fun s=>A.load (2*n+2+1) s fun b s=>Cnt2 A n Q a b s
def CountsT (A:Acc B gv) (n:Nat) (s:A.S) (Q:Nat→Nat→Nat→A.S→Prop):Prop:=A.step 1 0 s fun s=>A.load (2*n+2+0) s fun a s=>Cnt1 A n Q a s
end
section
variable {B:Hand} [Lets B] {gv:Value} {A:Acc B gv} {mr r b n k nc:Nat} {L F:List HProp}
theorem mstep_tr {op:Int} {w:Nat} {s:A.S} {T:A.S→Prop} (hs:A.step op w s T) (hh:Has L (A.C s) F) :
  Tr Try.prog B 47 [gv,.int .u8 op,.int .i64 w] L (A.x s) fun v L' x'=>∃ s',T s'∧v=.tuple #[]∧L'=A.C s'::F∧x'=A.x s':=by
 rcases A.gate with ⟨rfl,hg⟩ | ⟨t,p,f,rfl,hm,he,hg⟩
 ·refine tr_of_body Try.func47 rfl Try.ntmps47 (by simp) fun um Q _ hQ=>?_
  simp only [argE,Nat.zero_add,Nat.reduceAdd]
  repeat (first | refine we_seq ?_ | (refine wR ?_;try simp only [oS]) | refine wo_nil ?_ | refine wM ?_ | (apply wo_po;apply mo_bin;exact rfl;exact rfl;apply bin_ne;apply eql_nil_nil;exact gY) | refine wF ?_ | refine we_skip ?_)
  refine at_ent _ (Ent.take hh .refl) ?_
  (first | refine or0 Try.func47 Try.results47 hQ ?_ | refine on0 Try.func47 Try.results47 hQ ?_)
  exact ⟨s,hg _ _ _ _ hs,rfl,rfl,rfl⟩
 ·refine tr_of_body Try.func47 rfl Try.ntmps47 (by simp) fun um Q _ hQ=>?_
  simp only [argE,Nat.zero_add,Nat.reduceAdd]
  repeat (first | (apply wo_po;apply mo_build (pv:=[(0,_),(1,_)]);exact rfl;exact .cons rfl (.cons rfl .nil);exact rfl;exact trivial) | refine we_seq ?_ | (refine wR ?_;try simp only [oS]) | refine wo_nil ?_ | refine wM ?_ | (apply wo_po;apply mo_bin;exact rfl;exact rfl;apply bin_ne;apply eql_iface_nil;exact gY) | refine wT ?_)
  refine wo_invoke (args:=[_]) rfl (.cons rfl .nil) trivial (hg op w s T L F hs hh) ?_
  rintro v L' x' ⟨s',h1,rfl,rfl,rfl⟩
  repeat (first | refine wo_nil ?_)
  (first | refine or0 Try.func47 Try.results47 hQ ?_ | refine on0 Try.func47 Try.results47 hQ ?_)
  exact ⟨s',h1,rfl,rfl,rfl⟩
theorem mthere_tr (R:MirAt A mr r b n k nc) {s:A.S} (hh:Has L (A.C s) F):Tr Try.prog B 43 [.pointer (some ⟨mr,0,none⟩)] L (A.x s) fun v L' x'=>v=.bool true∧L'=L∧x'=A.x s:=by
 have hr:=Rd.of hh (R.hq s)
 refine tr_of_body Try.func43 rfl Try.ntmps43 (by simp) fun um Q _ hQ=>?_
 simp only [argE,Nat.zero_add,Nat.reduceAdd]
 repeat (first | (apply wo_po;apply mo_load;exact rfl;exact hr;exact gY) | refine we_seq ?_ | (refine wR ?_;try simp only [oS]) | refine wo_nil ?_ | refine wM ?_ | refine wA ?_ | refine wK ?_ | refine wN ?_ | refine wD ?_ | (apply wo_po;apply mo_bin;exact rfl;exact rfl;apply bin_ne;apply eql_ptr_nil;exact gY) | refine we_ret ?_)
 (first | refine or1 Try.func43 Try.results43 hQ rfl ?_ | refine on1 Try.func43 Try.results43 hQ rfl ?_)
 exact ⟨rfl,rfl,rfl⟩
theorem mcount_tr (R:MirAt A mr r b n k nc) {j:Nat} (hj:j<3) {s:A.S} {T:A.S→Prop} (hs:A.step 3 j s fun s=>A.add (2*n+2+j) 1 s fun _ s=>T s) (hh:Has L (A.C s) F) :
  Tr Try.prog B 44 [.pointer (some ⟨mr,0,none⟩),gv,.int .i64 (j:Nat)] L (A.x s) fun v L' x'=>∃ s',T s'∧v=.tuple #[]∧L'=A.C s'::F∧x'=A.x s':=by
 refine tr_of_body Try.func44 rfl Try.ntmps44 (by simp) fun um Q _ hQ=>?_
 simp only [argE,Nat.zero_add,Nat.reduceAdd]
 repeat (first | refine we_seq ?_ | (refine wR ?_;try simp only [oS]) | refine wM ?_)
 refine wo_call (.cons rfl (.cons rfl (.cons rfl .nil))) trivial (mstep_tr hs hh) ?_
 rintro v1 L1 x1 ⟨s1,h1,rfl,rfl,rfl⟩
 repeat (first | (apply wo_po;apply mo_indexArr (r:=j);exact rfl;exact rfl;omega;omega;omega;exact trivial) | (refine wR ?_;try simp only [oS]) | refine wo_nil ?_ | refine wM ?_ | refine wN ?_ | refine wD ?_)
 refine wo_call (.cons rfl (.cons rfl .nil)) trivial (A.add_ok _ 1 _ _ _ _ _ _ (R.a j hj) (by omega) h1 .here) ?_
 rintro v1 L1 x1 ⟨m,s2,hm,h2,rfl,rfl,rfl⟩
 repeat (first | refine wo_nil ?_)
 (first | refine or0 Try.func44 Try.results44 hQ ?_ | refine on0 Try.func44 Try.results44 hQ ?_)
 exact ⟨s2,h2,rfl,rfl,rfl⟩
theorem moffer_tr [Chans B] (R:MirAt A mr r b n k nc) (Nw:News A nc) {v:Nat} (hv:v<18446744073709551616) {s:A.S} {Q:Bool→A.S→Prop} (hs:OfferT A n v s Q) (hh:Has L (A.C s) F) :
  Tr Try.prog B 19 [.pointer (some ⟨mr,0,none⟩),gv,.int .u64 (v:Nat)] L (A.x s) fun w L' x'=>∃ q s',Q q s'∧w=.tuple #[.bool q,.int .i64 0]∧L'=A.C s'::F∧x'=A.x s':=by
 refine Tr.post (R:=fun w L' x'=>∃ q s',Q q s'∧w=.tuple #[.bool q,.int .i64 0]∧x'=A.x s'∧∀ h,Star L' h→Star (A.C s'::F) h) ?_
  (by rintro w L' x' ⟨q,s',h1,rfl,rfl,h2⟩;exact ⟨_,⟨q,s',h1,rfl,rfl,rfl⟩,h2⟩)
 refine tr_of_body Try.func19 rfl Try.ntmps19 (by simp) fun um Q _ hQ=>?_
 simp only [argE,Nat.zero_add,Nat.reduceAdd]
 repeat (first | refine we_seq ?_ | (refine wR ?_;try simp only [oS]) | refine wo_nil ?_ | refine wM ?_ | refine wA ?_)
 refine wo_call (.cons rfl .nil) trivial (mthere_tr R hh) ?_
 rintro v1 L1 x1 ⟨rfl,rfl,rfl⟩
 repeat (first | refine we_seq ?_ | (refine wR ?_;try simp only [oS]) | refine wo_nil ?_ | refine wM ?_ | (apply wo_po;apply mo_not;exact rfl;exact gY) | refine wF ?_ | refine we_skip ?_)
 refine wo_call (.cons rfl (.cons rfl (.cons rfl .nil))) trivial (mcount_tr (j:=0) R (by omega) hs hh) ?_
 rintro v1 L1 x1 ⟨s1,h1,rfl,rfl,rfl⟩
 have hr:=Rd.of (L:=A.C s1::F) .here (R.hq s1)
 repeat (first | (apply wo_po;apply mo_load;exact rfl;exact hr;exact gY) | refine we_seq ?_ | (refine wR ?_;try simp only [oS]) | refine wo_nil ?_ | refine wM ?_ | refine wN ?_ | refine wD ?_)
 refine wo_call (.cons rfl (.cons rfl (.cons rfl .nil))) trivial (put_tr R.q hv h1 .here) ?_
 rintro v1 L1 x1 ⟨q,s2,h2,rfl,rfl,rfl⟩
 cases q with
 | false =>
  rw [if_neg (by decide)] at h2
  repeat (first | refine we_seq ?_ | (refine wR ?_;try simp only [oS]) | refine wo_nil ?_ | refine wM ?_ | refine wA ?_ | (apply wo_po;apply mo_extract;exact rfl;exact rfl;exact gY) | (apply wo_po;apply mo_not;exact rfl;exact gY) | refine wT ?_)
  refine wo_call (.cons rfl (.cons rfl (.cons rfl .nil))) trivial (mcount_tr (j:=1) R (by omega) h2 .here) ?_
  rintro v1 L1 x1 ⟨s3,h3,rfl,rfl,rfl⟩
  repeat (first | refine we_seq ?_ | (refine wR ?_;try simp only [oS]) | refine wo_nil ?_ | refine wM ?_ | refine wA ?_ | refine we_ret ?_)
  (first | refine or2 Try.func19 Try.results19 hQ rfl rfl ?_ | refine on2 Try.func19 Try.results19 hQ rfl rfl ?_)
  exact ⟨false,s3,h3,rfl,rfl,fun _ st=>st⟩
 | true =>
  rw [if_pos rfl] at h2
  have hr2:=Rd.of (L:=A.C s2::F) .here (R.hc s2)
  repeat (first | (apply wo_po;apply mo_load;exact rfl;exact hr2;exact gY) | (apply wo_po;apply mo_build (pv:=[]);exact rfl;exact .nil;exact rfl;exact trivial) | refine we_seq ?_ | (refine wR ?_;try simp only [oS]) | refine wo_nil ?_ | refine wM ?_ | refine wA ?_ | refine wN ?_ | refine wD ?_ | (apply wo_po;apply mo_extract;exact rfl;exact rfl;exact gY) | (apply wo_po;apply mo_not;exact rfl;exact gY) | refine wF ?_ | refine we_skip ?_)
  obtain ⟨Rs,hop,hsh⟩:=Nw.news
  refine wo_star (newsC nc::Rs s2::F) (fun h st=>star_open (M:=[newsC nc,Rs s2]) (star_map st (fun h a=>hop s2 h a) (fun _ y=>y))) ?_
  refine wo_ex .here fun y=>?_
  refine wo_try rfl rfl trivial .here (fun hlt=>?_) (fun hle=>?_)
  ·repeat (first | refine we_seq ?_ | (refine wR ?_;try simp only [oS]) | refine wo_nil ?_ | refine wA ?_ | (apply wo_po;apply mo_extract;exact rfl;exact rfl;exact gY) | (apply wo_po;apply mo_bin;exact rfl;exact rfl;exact bin_eql;exact gY) | refine wT ?_ | refine we_ret ?_ | refine we_skip ?_ | refine we_block ?_)
   (first | refine or2 Try.func19 Try.results19 hQ rfl rfl ?_ | refine on2 Try.func19 Try.results19 hQ rfl rfl ?_)
   exact ⟨true,s2,h2,rfl,rfl,fun h st=>star_map (star_shut (M:=[newsC nc,Rs s2]) (star_map st (fun h a=>⟨(_,_,_),a⟩) (fun _ y=>y))) (fun h a=>hsh s2 h a) (fun _ y=>y)⟩
  ·repeat (first | refine we_seq ?_ | (refine wR ?_;try simp only [oS]) | refine wo_nil ?_ | refine wA ?_ | (apply wo_po;apply mo_extract;exact rfl;exact rfl;exact gY) | (apply wo_po;apply mo_bin;exact rfl;exact rfl;exact bin_eql;exact gY) | refine wF ?_ | refine we_ret ?_ | refine we_skip ?_ | refine we_block ?_)
   (first | refine or2 Try.func19 Try.results19 hQ rfl rfl ?_ | refine on2 Try.func19 Try.results19 hQ rfl rfl ?_)
   exact ⟨true,s2,h2,rfl,rfl,fun h st=>star_map (star_shut (M:=[newsC nc,Rs s2]) (star_map st (fun h a=>⟨y,a⟩) (fun _ y=>y))) (fun h a=>hsh s2 h a) (fun _ y=>y)⟩
theorem mtake_tr (R:MirAt A mr r b n k nc) {s:A.S} {Q:Option Nat→A.S→Prop} (hs:MTakeT A n s Q) (hh:Has L (A.C s) F) :
  Tr Try.prog B 20 [.pointer (some ⟨mr,0,none⟩),gv] L (A.x s) fun w L' x'=>∃ q s',Q q s'∧q.getD 0<18446744073709551616∧w=.tuple #[.int .u64 (q.getD 0:Nat),.bool q.isSome,.int .i64 0]∧L'=A.C s'::F∧x'=A.x s':=by
 refine tr_of_body Try.func20 rfl Try.ntmps20 (by simp) fun um Q _ hQ=>?_
 simp only [argE,Nat.zero_add,Nat.reduceAdd]
 repeat (first | refine we_seq ?_ | (refine wR ?_;try simp only [oS]) | refine wo_nil ?_ | refine wM ?_ | refine wA ?_)
 refine wo_call (.cons rfl .nil) trivial (mthere_tr R hh) ?_
 rintro v1 L1 x1 ⟨rfl,rfl,rfl⟩
 have hr:=Rd.of hh (R.hq s)
 repeat (first | (apply wo_po;apply mo_load;exact rfl;exact hr;exact gY) | refine we_seq ?_ | (refine wR ?_;try simp only [oS]) | refine wo_nil ?_ | refine wM ?_ | refine wN ?_ | refine wD ?_ | (apply wo_po;apply mo_not;exact rfl;exact gY) | refine wF ?_ | refine we_skip ?_)
 refine wo_call (.cons rfl (.cons rfl .nil)) trivial (take_tr R.q hs hh) ?_
 rintro v1 L1 x1 ⟨q,s2,h2,hlt,rfl,rfl,rfl⟩
 cases q with
 | none =>
  repeat (first | refine we_seq ?_ | (refine wR ?_;try simp only [oS]) | refine wo_nil ?_ | refine wM ?_ | refine wA ?_ | (apply wo_po;apply mo_extract;exact rfl;exact rfl;exact gY) | refine wF ?_ | refine we_ret ?_ | refine we_skip ?_)
  (first | refine or3 Try.func20 Try.results20 hQ rfl rfl rfl ?_ | refine on3 Try.func20 Try.results20 hQ rfl rfl rfl ?_)
  exact ⟨none,s2,h2,hlt,rfl,rfl,rfl⟩
 | some y =>
  repeat (first | refine we_seq ?_ | (refine wR ?_;try simp only [oS]) | refine wo_nil ?_ | refine wM ?_ | refine wA ?_ | (apply wo_po;apply mo_extract;exact rfl;exact rfl;exact gY) | refine wT ?_)
  refine wo_call (.cons rfl (.cons rfl (.cons rfl .nil))) trivial (mcount_tr (j:=2) R (by omega) h2 .here) ?_
  rintro v1 L1 x1 ⟨s3,h3,rfl,rfl,rfl⟩
  repeat (first | refine we_seq ?_ | (refine wR ?_;try simp only [oS]) | refine wo_nil ?_ | refine wM ?_ | refine wA ?_ | refine we_ret ?_)
  (first | refine or3 Try.func20 Try.results20 hQ rfl rfl rfl ?_ | refine on3 Try.func20 Try.results20 hQ rfl rfl rfl ?_)
  exact ⟨some y,s3,h3,hlt,rfl,rfl,rfl⟩
def cntInv (A:Acc B gv) (mr n tb:Nat) (F:List HProp) (Q:Nat→Nat→Nat→A.S→Prop):Inv (Nat × Nat × Nat × Nat × A.S) B.X where
 e:=fun i=>[(0,.pointer (some ⟨mr,0,none⟩)),(1,gv),(8,.pointer (some ⟨tb,0,none⟩)),(13,.int .i64 (i.1:Nat))]
 L:=fun i=>[arr tb 0 [.int .u64 (i.2.1:Nat),.int .u64 (i.2.2.1:Nat),.int .u64 (i.2.2.2.1:Nat)],A.C i.2.2.2.2]++F
 x:=fun i=>A.x i.2.2.2.2
 ok:=fun i=>(i.1=0∧CountsT A n i.2.2.2.2 Q)∨(i.1=1∧Cnt1 A n Q i.2.1 i.2.2.2.2)∨(i.1=2∧Cnt2 A n Q i.2.1 i.2.2.1 i.2.2.2.2)∨(i.1=3∧Q i.2.1 i.2.2.1 i.2.2.2.1 i.2.2.2.2)
set_option maxHeartbeats 4000000 in
theorem mcounts_tr (R:MirAt A mr r b n k nc) {s:A.S} {G:Nat→Nat→Nat→A.S→Prop} (hs:CountsT A n s G) (hh:Has L (A.C s) F) :
  Tr Try.prog B 21 [.pointer (some ⟨mr,0,none⟩),gv] L (A.x s) fun w L' x'=>∃ a b c s',G a b c s'∧w=.tuple #[.int .u64 (a:Nat),.int .u64 (b:Nat),.int .u64 (c:Nat),.int .i64 0]∧L'=A.C s'::F∧x'=A.x s':=by
 refine Tr.post (R:=fun w L' x'=>∃ a b c s',G a b c s'∧w=.tuple #[.int .u64 (a:Nat),.int .u64 (b:Nat),.int .u64 (c:Nat),.int .i64 0]∧x'=A.x s'∧∀ h,Star L' h→Star (A.C s'::F) h) ?_
  (by rintro w L' x' ⟨a,b,c,s',h1,rfl,rfl,h2⟩;exact ⟨_,⟨a,b,c,s',h1,rfl,rfl,rfl⟩,h2⟩)
 refine tr_of_body Try.func21 rfl Try.ntmps21 (by simp) fun um Q _ hQ=>?_
 simp only [argE,Nat.zero_add,Nat.reduceAdd]
 repeat (first | refine we_seq ?_ | (refine wR ?_;try simp only [oS]) | refine wo_nil ?_ | refine wM ?_ | refine wA ?_)
 refine wo_call (.cons rfl .nil) trivial (mthere_tr R hh) ?_
 rintro v1 L1 x1 ⟨rfl,rfl,rfl⟩
 repeat (first | (apply wo_mo;apply mo_alloc;exact trivial) | refine we_seq ?_ | (refine wR ?_;try simp only [oS]) | refine wo_nil ?_ | (apply wo_po;apply mo_not;exact rfl;exact gY) | refine wF ?_ | refine we_skip ?_)
 rintro v' L' ⟨tb,rfl,rfl⟩
 repeat (first | refine we_seq ?_ | (refine wR ?_;try simp only [oS]) | refine wo_nil ?_ | refine wM ?_ | refine we_block ?_)
 refine we_star ((cntInv A mr n tb F G).L (0,0,0,0,s)) (fun h st=>star_map st (fun _ y=>y) (fun _ y=>hh.star y)) ?_
 refine we_loopN (cntInv A mr n tb F G) (fun i=>3-i.1) (0,0,0,0,s) (.inl ⟨rfl,hs⟩) ⟨rfl,rfl,rfl,rfl,trivial⟩ .refl rfl ?_
 rintro ⟨i,a,b',c,s1⟩ hok
 dsimp only [cntInv] at hok ⊢
 rcases hok with ⟨rfl,hs1⟩ | ⟨rfl,hs1⟩ | ⟨rfl,hs1⟩ | ⟨rfl,hs1⟩
 ·repeat (first | refine wlssT ?_ | refine we_seq ?_ | (refine wR ?_;try simp only [oS]) | refine wo_nil ?_ | refine wM ?_ | refine wA ?_ | refine wT ?_ | refine we_skip ?_ | refine we_block ?_)
  refine wo_call (.cons rfl (.cons rfl (.cons rfl .nil))) trivial (mstep_tr hs1 (.there .here)) ?_
  rintro v1 L1 x1 ⟨s2,h2,rfl,rfl,rfl⟩
  repeat (first | (apply wo_po;apply mo_indexArr (r:=0);exact rfl;exact rfl;omega;omega;omega;exact trivial) | (refine wR ?_;try simp only [oS]) | refine wo_nil ?_ | refine wM ?_ | refine wN ?_ | refine wD ?_)
  refine wo_call (.cons rfl .nil) trivial (A.load_ok _ _ _ _ _ _ _ (R.a 0 (by omega)) h2 .here) ?_
  rintro v1 L1 x1 ⟨m,s3,hm,h3,rfl,rfl,rfl⟩
  repeat (first | (apply wo_po;apply mo_indexArr (r:=0);exact rfl;exact rfl;omega;omega;omega;exact trivial) | refine wS ?_ | (refine wR ?_;try simp only [oS]) | refine wo_nil ?_ | refine wM ?_ | refine wadd ?_)
  refine at_roundS (I:=cntInv A mr n tb F G) (R:=fun i'=>3-i'.1<3-0) (1,m,b',c,s3) (by show 3-1<3-0;omega) (.inr (.inl ⟨rfl,h3⟩)) ⟨rfl,rfl,rfl,rfl,trivial⟩ (fun h st=>?_) rfl
  exact Ent.star (.take (.there .here) (.take .here .refl)) st
 ·repeat (first | refine wlssT ?_ | refine we_seq ?_ | (refine wR ?_;try simp only [oS]) | refine wo_nil ?_ | refine wM ?_ | refine wA ?_ | refine wT ?_ | refine we_skip ?_ | refine we_block ?_)
  refine wo_call (.cons rfl (.cons rfl (.cons rfl .nil))) trivial (mstep_tr hs1 (.there .here)) ?_
  rintro v1 L1 x1 ⟨s2,h2,rfl,rfl,rfl⟩
  repeat (first | (apply wo_po;apply mo_indexArr (r:=1);exact rfl;exact rfl;omega;omega;omega;exact trivial) | (refine wR ?_;try simp only [oS]) | refine wo_nil ?_ | refine wM ?_ | refine wN ?_ | refine wD ?_)
  refine wo_call (.cons rfl .nil) trivial (A.load_ok _ _ _ _ _ _ _ (R.a 1 (by omega)) h2 .here) ?_
  rintro v1 L1 x1 ⟨m,s3,hm,h3,rfl,rfl,rfl⟩
  repeat (first | (apply wo_po;apply mo_indexArr (r:=1);exact rfl;exact rfl;omega;omega;omega;exact trivial) | refine wS ?_ | (refine wR ?_;try simp only [oS]) | refine wo_nil ?_ | refine wM ?_ | refine wadd ?_)
  refine at_roundS (I:=cntInv A mr n tb F G) (R:=fun i'=>3-i'.1<3-1) (2,a,m,c,s3) (by show 3-2<3-1;omega) (.inr (.inr (.inl ⟨rfl,h3⟩))) ⟨rfl,rfl,rfl,rfl,trivial⟩ (fun h st=>?_) rfl
  exact Ent.star (.take (.there .here) (.take .here .refl)) st
 ·repeat (first | refine wlssT ?_ | refine we_seq ?_ | (refine wR ?_;try simp only [oS]) | refine wo_nil ?_ | refine wM ?_ | refine wA ?_ | refine wT ?_ | refine we_skip ?_ | refine we_block ?_)
  refine wo_call (.cons rfl (.cons rfl (.cons rfl .nil))) trivial (mstep_tr hs1 (.there .here)) ?_
  rintro v1 L1 x1 ⟨s2,h2,rfl,rfl,rfl⟩
  repeat (first | (apply wo_po;apply mo_indexArr (r:=2);exact rfl;exact rfl;omega;omega;omega;exact trivial) | (refine wR ?_;try simp only [oS]) | refine wo_nil ?_ | refine wM ?_ | refine wN ?_ | refine wD ?_)
  refine wo_call (.cons rfl .nil) trivial (A.load_ok _ _ _ _ _ _ _ (R.a 2 (by omega)) h2 .here) ?_
  rintro v1 L1 x1 ⟨m,s3,hm,h3,rfl,rfl,rfl⟩
  repeat (first | (apply wo_po;apply mo_indexArr (r:=2);exact rfl;exact rfl;omega;omega;omega;exact trivial) | refine wS ?_ | (refine wR ?_;try simp only [oS]) | refine wo_nil ?_ | refine wM ?_ | refine wadd ?_)
  refine at_roundS (I:=cntInv A mr n tb F G) (R:=fun i'=>3-i'.1<3-2) (3,a,b',m,s3) (by show 3-3<3-2;omega) (.inr (.inr (.inr ⟨rfl,h3⟩))) ⟨rfl,rfl,rfl,rfl,trivial⟩ (fun h st=>?_) rfl
  exact Ent.star (.take (.there .here) (.take .here .refl)) st
 ·repeat (first | refine wlssF ?_ | refine we_seq ?_ | (refine wR ?_;try simp only [oS]) | refine wo_nil ?_ | refine wF ?_ | refine we_exit ?_)
  refine we_draw (List.range' 0 10) (by kernel_rfl) ?_
  repeat (first | (apply ap_pure;exact rfl;exact rfl;exact gY;intro L;apply mo_indexArr (r:=0);exact rfl;exact rfl;omega;omega;omega) | (apply ap_pure;exact rfl;exact rfl;exact gY;intro L;apply mo_indexArr (r:=1);exact rfl;exact rfl;omega;omega;omega) | (apply ap_pure;exact rfl;exact rfl;exact gY;intro L;apply mo_indexArr (r:=2);exact rfl;exact rfl;omega;omega;omega) | refine aA ?_ | refine aL ?_ | refine ap_end ?_)
  repeat (first | refine we_ret ?_)
  (first | refine at_ret4 (ex:=.ret) Try.func21 Try.results21 hQ (.inl rfl) rfl rfl rfl rfl ?_ | refine at_ret4 (ex:=.normal) Try.func21 Try.results21 hQ (.inr rfl) rfl rfl rfl rfl ?_)
  exact ⟨a,b',c,s1,hs1,rfl,rfl,fun h st=>star_drop st⟩
end
section
variable {B:Hand} [Lets B] {L:List HProp}
end
end
end Go.Proofs.Ytmkkanmkjfnpdaa
namespace Go.PB.Mach
section
structure In where
 op:Nat
 on:Nat:=0
 a:Nat:=0
 b:Nat:=0
 c:Nat:=0
 d:Nat:=0
 n:Nat:=0
structure Cl where
 code:List In
 data:List Nat:=[]
structure Wd where
 words:List (List Nat)
 nl:Nat
structure Th where
 calls:List Cl
 call:Nat:=0
 pc:Nat:=0
 r:Nat→Nat:=fun _=>0
 ans:List (Bool × List Nat):=[]
 over:Bool:=false
def fin:In:={ op:=23 }
def Th.cl (t:Th):Cl:=t.calls.getD t.call { code:=[] }
def Th.next (t:Th):In:=t.cl.code.getD t.pc fin
def Th.put (t:Th) (i v:Nat):Th:={ t with r:=upd t.r i (v%18446744073709551616) }
def Th.tell (t:Th) (v:Nat):Th:={ t with ans:=t.ans.modify t.call fun y=>(y.1,y.2++[v]) }
structure Wd.ok (w:Wd):Prop where
 n:w.words.length<1000000
 nl:w.nl<1000000
 len:∀ l∈w.words,l.length<1000000
 lt:∀ l∈w.words,∀ v∈l,v<18446744073709551616
def own (t0:Th) (x:In):Th :=
 let t:={ t0 with pc:=t0.pc+1 }
 match x.op with
 | 6=>t.put x.a x.n
 | 7=>t.put x.a (t.r x.b)
 | 8=>t.put x.a (t.r x.b+t.r x.c+x.n)
 | 9=>t.put x.a (t.r x.b+18446744073709551616-t.r x.c)
 | 10=>t.put x.a (t.r x.b*t.r x.c)
 | 11=>t.put x.a (if t.r x.c=0 then 0 else t.r x.b/t.r x.c)
 | 12=>t.put x.a (t.r x.b &&& t.r x.c)
 | 13=>t.put x.a (t.r x.b ||| t.r x.c)
 | 14=>t.put x.a (t.r x.b*2^x.n)
 | 15=>t.put x.a (t.r x.b/2^x.n)
 | 16=>t.put x.a (max (t.r x.b) (t.r x.c))
 | 17=>t.put x.a (t.cl.data.getD ((t.r x.b+x.n)%18446744073709551616) 0)
 | 18=>{ t with pc:=x.n }
 | 19=>if t.r x.a=t.r x.b then { t with pc:=x.n } else t
 | 20=>if t.r x.a<t.r x.b then { t with pc:=x.n } else t
 | 21=>if 9223372036854775808≤t.r x.a then { t with pc:=x.n } else t
 | 22=>t.tell (t.r x.a)
 | _=>t
def told (op:Nat):Bool:=1≤op&&op≤5
def Th.begun (t:Th):Th:=if t.ans.length=t.call then { t with ans:=t.ans++[(false,[])] } else t
def Th.done (t:Th):Th:={ t with ans:=t.ans.modify t.call fun y=>(true,y.2),call:=t.call+1,pc:=0,r:=fun _=>0 }
def onF:Nat→Th→Option Th
 | 0,_=>none
 | f+1,t =>
  if t.over=true then some t
  else if t.calls.length≤t.call then some { t with over:=true }
  else if told t.begun.next.op=true then some t.begun
  else if t.begun.next.op=23 then onF f t.begun.done
  else onF f (own t.begun t.begun.next)
def Th.place (t:Th):Nat:=(t.r t.next.b+t.next.n)%18446744073709551616
def op1 (x:In) (l:List Nat) (p:Nat) (r:Nat→Nat):List Nat × (Nat→Nat) :=
 let v:=l.getD p 0
 match x.op with
 | 1=>(l,upd r x.a v)
 | 2=>(l.set p (r x.a),r)
 | 3=>(l.set p ((v+r x.c)%18446744073709551616),upd r x.a ((v+r x.c)%18446744073709551616))
 | 4=>(l.set p (r x.c),upd r x.a v)
 | _=>if v=r x.c then (l.set p (r x.d),upd r x.a 1) else (l,upd r x.a 0)
def Wd.row (w:Wd) (on:Nat):List Nat:=w.words.getD on []
def opF (f:Nat) (w:Wd) (t:Th):Option (Wd × Th) :=
 if t.place<(w.row t.next.on).length then
  let y:=op1 t.next (w.row t.next.on) t.place t.r
  (onF f { t with pc:=t.pc+1,r:=y.2 }).map fun t'=>({ w with words:=w.words.set t.next.on y.1 },t')
 else none
def Th.mark (t:Th):Nat × Nat:=(t.next.op,t.place)
structure St where
 w:Wd
 l:List Th
 tr:List (Nat × Nat × Nat):=[]
def turn (f:Nat) (s:St) (k:Nat):Option St :=
 match s.l[k]? with
 | some t=>(opF f s.w t).map fun y=>⟨y.1,s.l.set k y.2,s.tr++[(k,t.mark)]⟩
 | none=>some s
def may (s:St) (k:Nat):Bool:=s.tr.length<16384&&(match s.l[k]? with | some t=>!t.over | none=>false)
def byOrder (f:Nat):St→List (Option Nat)→Option St
 | s,[]=>some s
 | s,none::o=>byOrder f s o
 | s,some k::o=>if may s k=true then (turn f s k).bind fun s=>byOrder f s o else byOrder f s o
def round (f:Nat):Nat→Nat→St→Bool→Option (St × Bool)
 | 0,_,s,q=>some (s,q)
 | m+1,k,s,q=>if may s k=true then (turn f s k).bind fun s=>round f m (k+1) s true else round f m (k+1) s q
def rounds (f:Nat):Nat→St→Option St
 | 0,_=>none
 | g+1,s=>(round f s.l.length 0 s false).bind fun y=>if y.2=true then rounds f g y.1 else some y.1
def begin_ (f:Nat):List Th→Option (List Th)
 | []=>some []
 | t::l=>(onF f t).bind fun t=>(begin_ f l).map fun l=>t::l
def play (f g:Nat) (w:Wd) (o:List (Option Nat)) (l:List (List Cl)):Option St :=
 (begin_ f (l.map fun c=>{ calls:=c })).bind fun l=>(byOrder f ⟨w,l,[]⟩ o).bind fun s=>rounds f g s
def In.ok (x:In):Bool:=1≤x.op&&x.op≤23&&x.a<24&&x.b<24&&x.c<24&&x.d<24&&x.on<1000&&x.n<18446744073709551616&&(!(18≤x.op&&x.op≤21)||x.n<1000000)&&(!(x.op=17)||!(x.a=x.b))&&(!(x.op=14||x.op=15)||x.n<64)
def Cl.ok (c:Cl):Bool:=c.code.all In.ok&&c.data.all (fun v=>v<18446744073709551616)&&c.code.length<1000000&&c.data.length<1000000
end
section
def T (cs:List Cl) (c p:Nat) (r:Nat→Nat) (pre:List (Bool × List Nat)) (said:List Nat):Th:={ calls:=cs,call:=c,pc:=p,r:=r,ans:=pre++[(false,said)],over:=false }
def Goes (k:Nat) (t t':Th):Prop:=∀ f,onF (f+k) t=onF f t'
theorem Goes.trans {k k':Nat} {t t' t'':Th} (a:Goes k t t') (b:Goes k' t' t''):Goes (k'+k) t t'':=fun f=>by
 rw [← Nat.add_assoc,a,b]
theorem Goes.on {k f:Nat} {t t' t'':Th} (a:Goes k t t') (h:onF f t'=some t''):onF (f+k) t=some t'':=by rw [a,h]
theorem Goes.on1 {f:Nat} {t t' t'':Th} (a:Goes 1 t t') (h:onF f t'=some t''):onF (f+1) t=some t'':=a.on h
section
variable {cs:List Cl} {cl:Cl} {c p:Nat} {r:Nat→Nat} {pre:List (Bool × List Nat)} {said:List Nat} {x:In}
variable {on a b cc d n:Nat}
end
section
variable {cs:List Cl} {cl:Cl} {c p:Nat} {r:Nat→Nat} {pre:List (Bool × List Nat)} {said:List Nat} {x:In} {on a b cc d n vb vc v:Nat}
variable {f:Nat} {w:Wd} {l:List Nat} {q:Nat} {ws:List (List Nat)} {t':Th}
structure Op (f:Nat) (w:Wd) (t:Th) (m:Nat × Nat) (w':Wd) (t':Th):Prop where
 over:t.over=false
 on:opF f w t=some (w',t')
 mark:t.mark=m
end
inductive Runs (f:Nat):Wd→Th→List (Nat × Nat)→Wd→Th→Prop
 | nil {w:Wd} {t:Th}:Runs f w t [] w t
 | cons {w w1 w2:Wd} {t t1 t2:Th} {m:Nat × Nat} {ms:List (Nat × Nat)}:Op f w t m w1 t1→Runs f w1 t1 ms w2 t2→Runs f w t (m::ms) w2 t2
theorem Runs.trans {f:Nat} {w w1 w2:Wd} {t t1 t2:Th} {ms ms':List (Nat × Nat)} (a:Runs f w t ms w1 t1) (b:Runs f w1 t1 ms' w2 t2):Runs f w t (ms++ms') w2 t2:=by
 induction a with
 | nil=>exact b
 | cons h _ ih=>exact .cons h (ih b)
end
end Go.PB.Mach
namespace Go.Proofs.Ytmkkanmkjfnpdaa
open Go Go.PB
attribute [local irreducible] Mo Bin Eql Tr Wo Ap
section
variable {B:Hand} [Lets B] {L F:List HProp} {x:B.X}
def inC (x:Mach.In):List Value:=[.int .i64 (x.op:Nat),.int .i64 (x.on:Nat),.int .i64 (x.a:Nat),.int .i64 (x.b:Nat),.int .i64 (x.c:Nat),.int .i64 (x.d:Nat),.int .u64 (x.n:Nat)]
end
section
variable {B:Hand} [Lets B] {L F G:List HProp} {x:B.X}
structure CW where
 a:Option Addr
 c:Nat
 k:Nat→Option Addr × Nat
 d:Nat→Option Addr × Nat
def CW.v (w:CW) (n:Nat):Value:=.slice w.a n w.c
def codeC (w:CW) (cs:List Mach.Cl):HProp:=fun h=>∀ i cl,cs[i]?=some cl→∃ cb co,w.a=some ⟨cb,co,none⟩ ∧
 h.can ⟨cb,co+2*i,none⟩ (.slice (w.k i).1 cl.code.length (w.k i).2)∧h.can ⟨cb,co+2*i+1,none⟩ (.slice (w.d i).1 cl.data.length (w.d i).2) ∧
 (∀ j y,cl.code[j]?=some y→∃ kb ko,(w.k i).1=some ⟨kb,ko,none⟩∧∀ m v,(inC y)[m]?=some v→h.can ⟨kb,ko+7*j+m,none⟩ v) ∧
 (∀ j v,cl.data[j]?=some v→∃ db dq,(w.d i).1=some ⟨db,dq,none⟩∧h.can ⟨db,dq+j,none⟩ (num v))
section
variable {w:CW} {cs:List Mach.Cl} {cl:Mach.Cl} {i:Nat}
theorem can_mono {h h1 h2:Hp} (s:Split h h1 h2) {a:Addr} {v:Value} (c:h1.can a v):h.can a v:=⟨c.1,c.2.elim (fun e=>.inl (s.o1 _ _ _ e)) (fun e=>.inr (s.r1 _ _ _ e))⟩
def Obs (L:List HProp) (c:HProp):Prop:=∀ h,Star L h→c h
theorem code_mono {h h1 h2:Hp} (s:Split h h1 h2) (c:codeC w cs h1):codeC w cs h:=by
 intro i cl hi
 obtain ⟨cb,co,q1,q2,q3,q4,q5⟩:=c i cl hi
 refine ⟨cb,co,q1,can_mono s q2,can_mono s q3,fun j y hj=>?_,fun j v hj=>?_⟩
 ·obtain ⟨kb,ko,q6,q7⟩:=q4 j y hj
  exact ⟨kb,ko,q6,fun m v hm=>can_mono s (q7 m v hm)⟩
 ·obtain ⟨db,dq,q6,q7⟩:=q5 j v hj
  exact ⟨db,dq,q6,can_mono s q7⟩
theorem Obs.there {d:HProp} (o:Obs L (codeC w cs)):Obs (d::L) (codeC w cs):=fun h s=>by
 obtain ⟨h1,h2,s1,_,hL⟩:=s
 exact code_mono s1.swap (o h2 hL)
end
theorem own_calls {t:Mach.Th} {i:Mach.In}:(Mach.own t i).calls=t.calls∧(Mach.own t i).call=t.call∧(Mach.own t i).over=t.over:=by
 unfold Mach.own Mach.Th.put Mach.Th.tell
 dsimp only
 split <;> (try split) <;> exact ⟨rfl,rfl,rfl⟩
theorem own_ans {t:Mach.Th} {i:Mach.In} (h:i.op≠22):(Mach.own t i).ans=t.ans:=by
 unfold Mach.own Mach.Th.put Mach.Th.tell
 dsimp only
 split <;> (try split) <;> first | rfl | exact absurd (by assumption) h
end
section
structure Good (cs:List Mach.Cl) (t:Mach.Th) (k:Nat):Prop where
 calls:t.calls=cs
 ok:(cs.all Mach.Cl.ok)=true
 len:cs.length<1000000
 pc:t.pc<1000000
 call:t.call≤cs.length
 ans1:t.call≤t.ans.length
 ans2:t.ans.length≤t.call+1
 room:∀ y∈t.ans,y.2.length+k<1000000000
theorem Good.begun {cs:List Mach.Cl} {t:Mach.Th} {k:Nat} (g:Good cs t k) (hk:k<1000000000):Good cs t.begun k:=by
 unfold Mach.Th.begun
 split
 ·refine ⟨g.calls,g.ok,g.len,g.pc,g.call,by simp;omega,by simp;omega,fun y hy=>?_⟩
  rcases List.mem_append.1 hy with hy | hy
  ·exact g.room y hy
  ·cases List.mem_singleton.1 hy;simpa using hk
 ·exact g
theorem begun_ans {cs:List Mach.Cl} {t:Mach.Th} {k:Nat} (g:Good cs t k):t.begun.call=t.call∧t.call<t.begun.ans.length:=by
 unfold Mach.Th.begun
 split
 ·exact ⟨rfl,by simp;omega⟩
 ·exact ⟨rfl,by have:=g.ans1;omega⟩
theorem mem_modify {α:Type} {f:α→α}:∀ {l:List α} {i:Nat} {y:α},y∈l.modify i f→y∈l∨∃ z∈l,y=f z:=by
 intro l
 induction l with
 | nil=>intro i y h;simp at h
 | cons a l ih =>
  intro i y h
  cases i with
  | zero =>
   simp only [List.modify_zero_cons,List.mem_cons] at h
   rcases h with h | h
   ·exact .inr ⟨a,by simp,h⟩
   ·exact .inl (by simp [h])
  | succ i =>
   simp only [List.modify_succ_cons,List.mem_cons] at h
   rcases h with h | h
   ·exact .inl (by simp [h])
   ·rcases ih h with h | ⟨z,h1,h2⟩
    ·exact .inl (by simp [h])
    ·exact .inr ⟨z,by simp [h1],h2⟩
theorem Good.done {cs:List Mach.Cl} {t:Mach.Th} {k:Nat} (g:Good cs t k) (h:t.call<t.ans.length) (hl:t.call<cs.length):Good cs t.done k:=by
 refine ⟨g.calls,g.ok,g.len,by show 0<1000000;omega,by show t.call+1≤_;omega,?_,?_,fun y hy=>?_⟩
 ·show t.call+1≤(t.ans.modify _ _).length;rw [List.length_modify];omega
 ·show (t.ans.modify _ _).length≤t.call+1+1;rw [List.length_modify];have:=g.ans2;omega
 ·rcases mem_modify hy with h | ⟨z,h1,rfl⟩
  ·exact g.room y h
  ·exact g.room z h1
theorem own_pc {t:Mach.Th} {i:Mach.In}:(Mach.own t i).pc=t.pc+1∨(Mach.own t i).pc=i.n∧18≤i.op∧i.op≤21:=by
 obtain ⟨op,on,a,b,c,d,n⟩:=i
 unfold Mach.own Mach.Th.put Mach.Th.tell
 dsimp only
 split <;> (try split) <;> first | exact .inl rfl | exact .inr ⟨rfl,by omega,by omega⟩
theorem own_told {t:Mach.Th} {i:Mach.In} {k:Nat} (h:∀ y∈t.ans,y.2.length+(k+1)<1000000000):∀ y∈(Mach.own t i).ans,y.2.length+k<1000000000:=by
 intro y hy
 by_cases e:i.op=22
 ·have e2:(Mach.own t i).ans=(t.tell (t.r i.a)).ans:=by
   obtain ⟨op,on,a,b,c,dd,n⟩:=i
   simp only at e
   subst e
   rfl
  rw [e2] at hy
  rcases mem_modify hy with h1 | ⟨z,h1,rfl⟩
  ·have:=h y h1;omega
  ·have:=h z h1
   simp only [List.length_append,List.length_cons,List.length_nil];omega
 ·rw [own_ans e] at hy
  have:=h y hy;omega
theorem own_len {t:Mach.Th} {i:Mach.In}:(Mach.own t i).ans.length=t.ans.length:=by
 by_cases e:i.op=22
 ·have e2:(Mach.own t i).ans=(t.tell (t.r i.a)).ans:=by
   obtain ⟨op,on,a,b,c,dd,n⟩:=i
   simp only at e
   subst e
   rfl
  rw [e2]
  show (t.ans.modify _ _).length=_
  rw [List.length_modify]
 ·rw [own_ans e]
theorem Good.next {cs:List Mach.Cl} {t:Mach.Th} {k:Nat} (g:Good cs t k) (hl:t.call<cs.length):t.next=Mach.fin∨t.next.ok=true∧t.pc+1<1000000:=by
 unfold Mach.Th.next Mach.Th.cl
 obtain ⟨cl,hcl⟩:∃ cl,t.calls[t.call]?=some cl:=⟨t.calls[t.call]'(by rw [g.calls];omega),by simp⟩
 rw [List.getD_eq_getElem?_getD,List.getD_eq_getElem?_getD,hcl,Option.getD_some]
 have hok:=List.all_eq_true.1 g.ok cl (by rw [← g.calls];exact List.mem_of_getElem? hcl)
 simp only [Mach.Cl.ok,Bool.and_eq_true,decide_eq_true_eq] at hok
 cases hp:cl.code[t.pc]? with
 | none=>exact .inl rfl
 | some y =>
  have:=(List.getElem?_eq_some_iff.1 hp).1
  exact .inr ⟨List.all_eq_true.1 hok.1.1.1 y (List.mem_of_getElem? hp),by omega⟩
theorem Good.own {cs:List Mach.Cl} {t:Mach.Th} {k:Nat} (g:Good cs t (k+1)) (hl:t.call<cs.length) (hn:t.next.op≠23):Good cs (Mach.own t t.next) k:=by
 obtain ⟨o1,o2,o3⟩:=own_calls (t:=t) (i:=t.next)
 rcases g.next hl with hf | ⟨hok,hpc⟩
 ·rw [hf] at hn;exact absurd rfl hn
 refine ⟨o1.trans g.calls,g.ok,g.len,?_,by rw [o2];exact g.call,by rw [o2,own_len];exact g.ans1,by rw [o2,own_len];exact g.ans2,own_told g.room⟩
 rcases own_pc (t:=t) (i:=t.next) with h | ⟨h,h2,h3⟩
 ·rw [h];exact hpc
 ·rw [h]
  simp only [Mach.In.ok,Bool.and_eq_true,decide_eq_true_eq,Bool.or_eq_true,Bool.not_eq_true',decide_eq_false_iff_not] at hok
  obtain ⟨⟨⟨_,hj⟩,_⟩,_⟩:=hok
  rcases hj with hj | hj
  ·simp at hj;omega
  ·exact hj
theorem Good.onF {cs:List Mach.Cl}:∀ {f:Nat} {t t':Mach.Th} {k:Nat},Good cs t (k+f)→k+f<1000000000→Mach.onF f t=some t'→Good cs t' k:=by
 intro f
 induction f with
 | zero=>intro t t' k g hk h;cases h
 | succ f ih =>
  intro t t' k g hk h
  have weak:∀ {t:Mach.Th} {m:Nat},Good cs t m→k≤m→Good cs t k:=fun g hm=>⟨g.calls,g.ok,g.len,g.pc,g.call,g.ans1,g.ans2,fun y hy=>by have:=g.room y hy;omega⟩
  unfold Mach.onF at h
  split at h
  ·cases h;exact weak g (by omega)
  split at h
  ·cases h;exact ⟨g.calls,g.ok,g.len,g.pc,g.call,g.ans1,g.ans2,fun y hy=>by have:=g.room y hy;omega⟩
  rename_i h1 h2
  have hl:t.call<cs.length:=by rw [← g.calls];omega
  have gb:=g.begun hk
  obtain ⟨b1,b2⟩:=begun_ans g
  split at h
  ·cases h;exact weak gb (by omega)
  split at h
  ·exact ih (k:=k) ⟨(gb.done (by rw [b1];exact b2) (by rw [b1];exact hl)).calls,g.ok,g.len,by show 0<1000000;omega,(gb.done (by rw [b1];exact b2) (by rw [b1];exact hl)).call,(gb.done (by rw [b1];exact b2) (by rw [b1];exact hl)).ans1,(gb.done (by rw [b1];exact b2) (by rw [b1];exact hl)).ans2,fun y hy=>by have:=(gb.done (by rw [b1];exact b2) (by rw [b1];exact hl)).room y hy;omega⟩ (by omega) h
  ·rename_i h3
   exact ih (k:=k) (Good.own (k:=k+f) gb (by rw [b1];exact hl) h3) (by omega) h
variable {B:Hand} [Lets B] {L F G:List HProp} {x:B.X}
end
section
structure PT where
 tb:Nat
 cw:CW
 cs:List Mach.Cl
def PT.cv (p:PT):Value:=p.cw.v p.cs.length
abbrev Calls:=List (CW × List Mach.Cl)
structure CallsOk (F:List HProp) (cc:Calls):Prop where
 n:cc.length<1000
 obs:∀ y∈cc,Obs F (codeC y.1 y.2)
 ok:∀ y∈cc,(y.2.all Mach.Cl.ok)=true
 len:∀ y∈cc,y.2.length<1000000
theorem CallsOk.there {F:List HProp} {cc:Calls} {d:HProp} (c:CallsOk F cc):CallsOk (d::F) cc:=⟨c.n,fun y hy=>(c.obs y hy).there,c.ok,c.len⟩
variable {B:Hand} [Lets B] {L F G:List HProp} {x:B.X}
end
section
def Stands (t:Mach.Th):Prop:=t.over=true∨Mach.told t.next.op=true∧t.call<t.calls.length
structure PlayOk (f:Nat) (s:Mach.St) (q:List (PT × Mach.Th)):Prop where
 l:q.map (·.2)=s.l
 tr:s.tr.length≤16384
 good:∀ y∈q,Good y.1.cs y.2 ((16384-s.tr.length)*(f+1))
 st:∀ y∈q,Stands y.2
variable {B:Hand} [Lets B] {L F G:List HProp} {x:B.X}
end
end Go.Proofs.Ytmkkanmkjfnpdaa
namespace Go.PB.Mach
def St.cut (s:St):List Nat:=(List.range s.l.length).filter fun k=>match s.l[k]? with | some t=>!t.over | none=>false
end Go.PB.Mach
namespace Go.Proofs.Ytmkkanmkjfnpdaa
open Go Go.PB
attribute [local irreducible] Mo Bin Eql Tr Wo Ap
variable {B:Hand} [Lets B] {L F G:List HProp} {x:B.X}
end Go.Proofs.Ytmkkanmkjfnpdaa
namespace Go.Proofs.Ytmkkanmkjfnpdaa
open Go Go.PB
attribute [local irreducible] Mo Bin Eql Tr Wo Ap
section
section
variable {B:Hand} [Lets B] {L F G:List HProp} {x:B.X} {n k v:Nat}
def rowOf (N:Nat) (f:Nat→Nat):List Nat:=(List.range N).map f
def yes (q:Bool):Nat:=if q then 1 else 0
end
end
section
section
variable {n k:Nat}
theorem put_plain (hn:n=2^k) (hk0:1≤k) (hk:k≤10) {v:Nat} {s:Nat→Nat} {row:List Nat} (R:RowAt n s row) :
  if row.length<n then (s (2+2*(s 0%n))+18446744073709551616-s 0)%18446744073709551616=0∧RowAt n (upd (upd (upd s 0 ((s 0+1)%18446744073709551616)) (3+2*(s 0%n)) v) (2+2*(s 0%n)) ((s 0+1)%18446744073709551616)) (row++[v])
  else 9223372036854775808≤(s (2+2*(s 0%n))+18446744073709551616-s 0)%18446744073709551616:=by
 have hle:n≤1024:=by rw [hn];exact pow_le hk
 have hpos:2≤n:=by have:=Nat.pow_le_pow_right (n:=2) (by omega) hk0;omega
 obtain ⟨h1,h2,h3,h4,h5⟩:=R
 have hm:s 0%n=(s 1+row.length)%n:=by rw [h2,mod_pow hn hk]
 have hmod:s 0%n<n:=Nat.mod_lt _ (by omega)
 by_cases hf:row.length<n
 ·have hq:=h5 row.length (Nat.le_refl _) hf
  rw [← hm,← h2] at hq
  rw [hq,if_pos hf]
  refine ⟨by omega,?_⟩
  obtain ⟨m,hme⟩:∃ m,s 0%n=m:=⟨_,rfl⟩
  rw [hme] at hm hmod ⊢
  have e0:∀ y z,upd (upd (upd s 0 ((s 0+1)%18446744073709551616)) (3+2*m) y) (2+2*m) z 0=(s 0+1)%18446744073709551616:=fun y z=>by rw [upd_other (by omega),upd_other (by omega),upd_same]
  have e1:∀ y z,upd (upd (upd s 0 ((s 0+1)%18446744073709551616)) (3+2*m) y) (2+2*m) z 1=s 1:=fun y z=>by rw [upd_other (by omega),upd_other (by omega),upd_other (by omega)]
  refine ⟨by simp;omega,?_,?_,?_,?_⟩
  ·rw [e0,e1]
   simp only [List.length_append,List.length_cons,List.length_nil]
   omega
  ·rw [e1];exact h3
  ·intro i u hi
   rw [e1]
   by_cases e:i=row.length
   ·subst e
    rw [← hm]
    have hu:v=u:=by simpa using hi
    refine ⟨by rw [upd_same];omega,?_⟩
    rw [upd_other (by omega),upd_same,hu]
   ·have hi':i<row.length:=by
     have:=(List.getElem?_eq_some_iff.1 hi).1
     simp at this;omega
    rw [List.getElem?_append_left hi'] at hi
    have hne:(s 1+i)%n≠m:=fun hx=>by
     have:=mod_inj (by omega) hf (hx.trans hm)
     omega
    rw [upd_other (by omega),upd_other (by omega),upd_other (by omega),upd_other (by omega),upd_other (by omega),upd_other (by omega)]
    exact h4 i u hi
  ·intro i hi hin
   simp only [List.length_append,List.length_cons,List.length_nil] at hi
   rw [e1]
   have hne:(s 1+i)%n≠m:=fun hx=>by
    have:=mod_inj hin hf (hx.trans hm)
    omega
   rw [upd_other (by omega),upd_other (by omega),upd_other (by omega)]
   exact h5 i (by omega) hin
 ·rw [if_neg hf]
  have hlen:row.length=n:=by omega
  obtain ⟨v0,hv0⟩:∃ v,row[0]?=some v:=⟨row[0]'(by omega),by simp⟩
  have hq:=(h4 0 v0 hv0).1
  rw [Nat.add_zero] at hq
  have hm':s 0%n=s 1%n:=by rw [hm,hlen,Nat.add_mod_right]
  rw [hm',hq,h2,hlen]
  omega
theorem take_plain (hn:n=2^k) (hk0:1≤k) (hk:k≤10) {s:Nat→Nat} {row:List Nat} (R:RowAt n s row) :
  match row with
  | []=>9223372036854775808≤(s (2+2*(s 1%n))+18446744073709551616-(s 1+1)%18446744073709551616)%18446744073709551616
  | v::row=>(s (2+2*(s 1%n))+18446744073709551616-(s 1+1)%18446744073709551616)%18446744073709551616=0∧s (3+2*(s 1%n))=v∧RowAt n (upd (upd s 1 ((s 1+1)%18446744073709551616)) (2+2*(s 1%n)) ((s 1+n)%18446744073709551616)) row:=by
 have hle:n≤1024:=by rw [hn];exact pow_le hk
 have hpos:2≤n:=by have:=Nat.pow_le_pow_right (n:=2) (by omega) hk0;omega
 obtain ⟨h1,h2,h3,h4,h5⟩:=R
 have hmod:s 1%n<n:=Nat.mod_lt _ (by omega)
 cases row with
 | nil =>
  have hq:=h5 0 (by simp) (by omega)
  rw [Nat.add_zero] at hq
  show 9223372036854775808≤(s (2+2*(s 1%n))+18446744073709551616-(s 1+1)%18446744073709551616)%18446744073709551616
  rw [hq];omega
 | cons v row =>
  simp only [List.length_cons] at h1 h2
  have hq:=h4 0 v rfl
  rw [Nat.add_zero] at hq
  show (s (2+2*(s 1%n))+18446744073709551616-(s 1+1)%18446744073709551616)%18446744073709551616=0∧_
  rw [hq.1]
  refine ⟨by omega,hq.2,?_⟩
  obtain ⟨m,hme⟩:∃ m,s 1%n=m:=⟨_,rfl⟩
  rw [hme] at hq hmod ⊢
  have e0:∀ z,upd (upd s 1 ((s 1+1)%18446744073709551616)) (2+2*m) z 0=s 0:=fun z=>by rw [upd_other (by omega),upd_other (by omega)]
  have e1:∀ z,upd (upd s 1 ((s 1+1)%18446744073709551616)) (2+2*m) z 1=(s 1+1)%18446744073709551616:=fun z=>by rw [upd_other (by omega),upd_same]
  have em:∀ i,((s 1+1)%18446744073709551616+i)%n=(s 1+(i+1))%n:=fun i=>by
   rw [← mod_pow (a:=s 1+(i+1)) hn hk,← mod_pow (a:=(s 1+1)%18446744073709551616+i) hn hk]
   congr 1
   omega
  refine ⟨by omega,?_,?_,?_,?_⟩
  ·rw [e0,e1];omega
  ·rw [e1];exact Nat.mod_lt _ (by decide)
  ·intro i u hi
   rw [e1,em]
   have hi':=(List.getElem?_eq_some_iff.1 hi).1
   have hne:(s 1+(i+1))%n≠m:=fun hx=>by
    have:=mod_inj (i:=i+1) (j:=0) (by omega) (by omega) (hx.trans (by rw [Nat.add_zero];exact hme.symm))
    omega
   rw [upd_other (by omega),upd_other (by omega),upd_other (by omega),upd_other (by omega)]
   have:=h4 (i+1) u hi
   exact ⟨by rw [this.1];omega,this.2⟩
  ·intro i hi hin
   rw [e1,em]
   by_cases e:i+1=n
   ·rw [show (s 1+(i+1))%n=m by rw [e,Nat.add_mod_right,hme],upd_same]
    omega
   ·have hne:(s 1+(i+1))%n≠m:=fun hx=>by
     have:=mod_inj (i:=i+1) (j:=0) (by omega) (by omega) (hx.trans (by rw [Nat.add_zero];exact hme.symm))
     omega
    rw [upd_other (by omega),upd_other (by omega),h5 (i+1) (by simp;omega) (by omega)]
    omega
end
end
end Go.Proofs.Ytmkkanmkjfnpdaa
namespace Go.Proofs.Ytmkkanmkjfnpdaa
open Go Go.PB
attribute [local irreducible] Mo Bin Eql Tr Wo Ap Wle
section
section
variable {B:Hand} [Lets B] {L F G:List HProp} {x:B.X} {n k:Nat}
theorem RowAt.seqs (h2:2≤n) (hle:n≤1024):RowAt n (seqs n) []:=by
 refine ⟨by simp,rfl,by show 0<18446744073709551616;decide,fun i v hi=>by simp at hi,fun i _ hi=>?_⟩
 show Go.Proofs.Ytmkkanmkjfnpdaa.seqs n (2+2*((0+i)%n))=(0+i)%18446744073709551616
 rw [Nat.zero_add,Nat.mod_eq_of_lt hi,Nat.mod_eq_of_lt (by omega)]
 unfold Go.Proofs.Ytmkkanmkjfnpdaa.seqs
 rw [if_pos (by omega)]
 omega
end
end
section
section
variable {B:Hand} [Lets B] {x:B.X} {n k N:Nat} {addr:Nat→Nat × Nat} {K:List (Nat × Nat × Value)} {ap:Apart addr N K}
theorem draw_lone (hN:2*n+2≤N) {w whose:Nat} (hw:w<2) {s:Nat→Nat} {G:Option Nat→(Nat→Nat)→Prop} (hn:0<n)
  (g:if 9223372036854775808≤(s (2+2*(s w%n))+36893488147419103232-s w-whose)%18446744073709551616 then G none s
   else (s (2+2*(s w%n))+36893488147419103232-s w-whose)%18446744073709551616=0∧G (some (s w)) (upd s w ((s w+1)%18446744073709551616))) :
  DrawT (loneAcc x addr N K ap) n w whose s G:=by
 intro X hX
 have hmod:s w%n<n:=Nat.mod_lt _ hn
 refine hX _ ⟨by omega,by omega,?_⟩
 show if 9223372036854775808≤(s (2+2*(s w%n))+36893488147419103232-s w-whose)%18446744073709551616 then G none s else _
 split
 ·rename_i hc;rw [if_pos hc] at g;exact g
 ·rename_i hc
  rw [if_neg hc] at g
  rw [if_neg (by rw [g.1];omega)]
  refine ⟨by omega,?_⟩
  rw [if_pos rfl]
  simpa using g.2
theorem put_rowG (hN:2*n+2≤N) (hn:n=2^k) (hk0:1≤k) (hk:k≤10) {v:Nat} {s:Nat→Nat} {row:List Nat} (R:RowAt n s row) {G:Bool→(Nat→Nat)→Prop}
  (g:∀ s',RowAt n s' (if row.length<n then row++[v] else row)→(∀ j,2*n+2≤j→s' j=s j)→G (decide (row.length<n)) s'):PutT (loneAcc x addr N K ap) n v s G:=by
 have hle:n≤1024:=by rw [hn];exact pow_le hk
 have hpos:2≤n:=by have:=Nat.pow_le_pow_right (n:=2) (by omega) hk0;omega
 have hp:=put_plain (v:=v) hn hk0 hk R
 have ht:s 0<18446744073709551616:=by rw [R.put];exact Nat.mod_lt _ (by decide)
 have hm:s 0%n<n:=Nat.mod_lt _ (by omega)
 refine draw_lone hN (by omega) (by omega) ?_
 have e:(s (2+2*(s 0%n))+36893488147419103232-s 0-0)%18446744073709551616=(s (2+2*(s 0%n))+18446744073709551616-s 0)%18446744073709551616:=by omega
 rw [e]
 by_cases hf:row.length<n
 ·rw [if_pos hf] at hp g
  rw [decide_eq_true hf] at g
  rw [hp.1,if_neg (by omega)]
  refine ⟨rfl,?_⟩
  dsimp only
  refine ⟨by show 3+2*(s 0%n)<N;omega,by show 2+2*(s 0%n)<N;omega,?_⟩
  refine g _ hp.2 fun j hj=>?_
  rw [upd_other (by omega),upd_other (by omega),upd_other (by omega)]
 ·rw [if_neg hf] at hp g
  rw [decide_eq_false hf] at g
  rw [if_pos hp]
  exact g _ R fun _ _=>rfl
theorem take_rowG (hN:2*n+2≤N) (hn:n=2^k) (hk0:1≤k) (hk:k≤10) {s:Nat→Nat} {row:List Nat} (R:RowAt n s row) {G:Option Nat→(Nat→Nat)→Prop}
  (g:∀ s',RowAt n s' row.tail→(∀ j,2*n+2≤j→s' j=s j)→G row.head? s'):TakeT (loneAcc x addr N K ap) n s G:=by
 have hle:n≤1024:=by rw [hn];exact pow_le hk
 have hpos:2≤n:=by have:=Nat.pow_le_pow_right (n:=2) (by omega) hk0;omega
 have hp:=take_plain hn hk0 hk R
 have ht:=R.t
 have hm:s 1%n<n:=Nat.mod_lt _ (by omega)
 refine draw_lone hN (by omega) (by omega) ?_
 have e:(s (2+2*(s 1%n))+36893488147419103232-s 1-1)%18446744073709551616=(s (2+2*(s 1%n))+18446744073709551616-(s 1+1)%18446744073709551616)%18446744073709551616:=by omega
 rw [e]
 cases row with
 | nil =>
  dsimp only at hp
  rw [if_pos hp]
  exact g _ R fun _ _=>rfl
 | cons v row =>
  dsimp only at hp
  obtain ⟨h1,h2,h3⟩:=hp
  rw [h1,if_neg (by omega)]
  refine ⟨rfl,?_⟩
  dsimp only
  refine ⟨by show 3+2*(s 1%n)<N;omega,by show 2+2*(s 1%n)<N;omega,?_⟩
  have h2':upd s 1 ((s 1+1)%18446744073709551616) (3+2*(s 1%n))=v:=by rw [upd_other (by omega)];exact h2
  show G (some (upd s 1 ((s 1+1)%18446744073709551616) (3+2*(s 1%n)))) _
  rw [h2']
  refine g _ h3 fun j hj=>?_
  rw [upd_other (by omega),upd_other (by omega)]
end
end
section
structure WdAt (W:(Nat→Nat)→Mach.Wd) (on n:Nat):Prop where
 get:∀ f,(W f).words[on]?=some (rowOf (2*n+2) f)
 set:∀ f q v,q<2*n+2→(⟨(W f).words.set on ((rowOf (2*n+2) f).set q v),(W f).nl⟩:Mach.Wd)=W (upd f q v)
section
variable {B:Hand} [Lets B] {x:B.X} {n k nb N on:Nat} {addr:Nat→Nat × Nat} {K:List (Nat × Nat × Value)} {ap:Apart addr N K} {W:(Nat→Nat)→Mach.Wd}
variable {w whose:Nat} {f:Nat→Nat} {tr:List (Int × Nat)} {G:Option Nat→(Nat→Nat) × List (Int × Nat)→Prop} {t m q t1:Nat}
end
end
section
theorem rowAt_same {n q v:Nat} {f:Nat→Nat} {row:List Nat} (hpos:0<n) (h:2*n+2≤q) (R:RowAt n f row):RowAt n (upd f q v) row where
 len:=R.len
 put:=by rw [upd_other (by omega),upd_other (by omega)];exact R.put
 t:=by rw [upd_other (by omega)];exact R.t
 full:=fun i x hi=>by
  have hm:=Nat.mod_lt (f 1+i) hpos
  rw [upd_other (m:=f) (i:=1) (by omega),upd_other (by omega),upd_other (by omega)]
  exact R.full i x hi
 free:=fun i h1 h2=>by
  have hm:=Nat.mod_lt (f 1+i) hpos
  rw [upd_other (m:=f) (i:=1) (by omega),upd_other (by omega)]
  exact R.free i h1 h2
section
variable {B:Hand} {gv:Value}
end
section
variable {B:Hand} [Lets B] {x:B.X} {n k nb:Nat} {addr:Nat→Nat × Nat} {K:List (Nat × Nat × Value)} {ap:Apart addr (2*n+5) K} {f:Nat→Nat}
end
end
section
def maddr (mr r b n:Nat) (w:Nat):Nat × Nat:=if w<2*n+2 then twoAddr r b w else (mr,w-(2*n+2))
def mK (mr r b n nc:Nat):List (Nat × Nat × Value):=[(r,2,.slice (some ⟨b,0,none⟩) n n),(mr,3,.pointer (some ⟨r,0,none⟩)),(mr,4,.chan (some nc))]
theorem two_blk {r b:Nat}:∀ i,(twoAddr r b i).1=r∨(twoAddr r b i).1=b
 | 0=>.inl rfl
 | 1=>.inl rfl
 | _+2=>.inr rfl
theorem m_apart {mr r b n nc:Nat} (h1:r≠b) (h2:mr≠r) (h3:mr≠b):Apart (maddr mr r b n) (2*n+5) (mK mr r b n nc) where
 inj:=fun i j hi hj e=>by
  unfold maddr at e
  split at e <;> split at e
  ·exact (two_apart (N:=i+j+1) h1 .nilIface).inj i j (by omega) (by omega) e
  ·have:=congrArg Prod.fst e
   simp only at this
   rcases two_blk (r:=r) (b:=b) i with h | h <;> omega
  ·have:=congrArg Prod.fst e
   simp only at this
   rcases two_blk (r:=r) (b:=b) j with h | h <;> omega
  ·have:=congrArg Prod.snd e
   simp only at this
   omega
 fix:=fun i hi k hk=>by
  unfold maddr
  simp only [mK,List.mem_cons,List.not_mem_nil,or_false] at hk
  split
  ·rcases hk with rfl | rfl | rfl
   ·exact (two_apart (N:=i+1) h1 (.slice (some ⟨b,0,none⟩) n n)).fix i (by omega) _ (List.mem_singleton.2 rfl)
   ·intro e
    have:=congrArg Prod.fst e
    simp only at this
    rcases two_blk (r:=r) (b:=b) i with h | h <;> omega
   ·intro e
    have:=congrArg Prod.fst e
    simp only at this
    rcases two_blk (r:=r) (b:=b) i with h | h <;> omega
  ·rcases hk with rfl | rfl | rfl <;> (intro e;have e1:=congrArg Prod.fst e;have e2:=congrArg Prod.snd e;simp only at e1 e2;omega)
theorem rd_with {c R:HProp} {b o:Nat} {v:Value} (r:Rd [c] b o v):Rd [all [c,R]] b o v:=fun h st=>Rd.of (L:=[c,R]) .here r h (star_open (M:=[c,R]) (L:=[]) st)
section
variable {B:Hand} {gv:Value} {A:Acc B gv} {R:HProp} {n k v:Nat} {s:A.S}
theorem offer_with {G:Bool→A.S→Prop} (h:OfferT A n v s G):OfferT (accWith A R) n v s G:=h
theorem mtake_with {G:Option Nat→A.S→Prop} (h:MTakeT A n s G):MTakeT (accWith A R) n s G:=h
theorem counts_with {G:Nat→Nat→Nat→A.S→Prop} (h:CountsT A n s G):CountsT (accWith A R) n s G:=h
end
section
variable {B:Hand} [Lets B] {gv:Value} {x:B.X} {mr r b n k nc nb:Nat} {L F:List HProp}
omit [Lets B] in
theorem mir_at (A:Acc B gv) (ha:A.addr=maddr mr r b n) (hK:∀ s,∀ y∈mK mr r b n nc,Rd [A.C s] y.1 y.2.1 y.2.2) (hn:n=2^k) (hk:k≤10):MirAt (accWith A (newsC nc)) mr r b n k nc where
 q:={ hn:=hn,hk:=hk,hdr:=fun s=>rd_with (hK s (r,2,.slice (some ⟨b,0,none⟩) n n) (by simp [mK])),a0:=by show A.addr 0=_;rw [ha];unfold maddr;rw [if_pos (by omega)];rfl,a1:=by show A.addr 1=_;rw [ha];unfold maddr;rw [if_pos (by omega)];rfl,a2:=fun i hi=>by show A.addr (2+i)=_;rw [ha];unfold maddr;rw [if_pos (by omega),Nat.add_comm];rfl }
 hq:=fun s=>rd_with (hK s (mr,3,.pointer (some ⟨r,0,none⟩)) (by simp [mK]))
 hc:=fun s=>rd_with (hK s (mr,4,.chan (some nc)) (by simp [mK]))
 a:=fun j hj=>by show A.addr _=_;rw [ha];unfold maddr;rw [if_neg (by omega),Nat.add_sub_cancel_left]
omit [Lets B] in
theorem mir_news (A:Acc B gv):News (accWith A (newsC nc)) nc:=⟨fun s=>A.C s,fun s h st=>star_swap st,fun s h st=>star_swap st⟩
theorem rd_K {addr:Nat→Nat × Nat} {N:Nat} {K:List (Nat × Nat × Value)} {s:Nat→Nat}:∀ y∈K,Rd [wds addr N K s] y.1 y.2.1 y.2.2:=fun y hy h hs=>by
 obtain ⟨h1,h2,s1,hc,_⟩:=hs
 exact ⟨rfl,.inl (s1.o1 _ _ _ (hc.2 y hy))⟩
def mirLone (x:B.X) (mr r b n nc:Nat) (ap:Apart (maddr mr r b n) (2*n+5) (mK mr r b n nc)):Acc B .nilIface:=accWith (loneAcc x (maddr mr r b n) (2*n+5) (mK mr r b n nc) ap) (newsC nc)
theorem lone_at {ap:Apart (maddr mr r b n) (2*n+5) (mK mr r b n nc)} (hn:n=2^k) (hk:k≤10):MirAt (mirLone x mr r b n nc ap) mr r b n k nc:=mir_at _ rfl (fun s=>rd_K) hn hk
theorem lone_news {ap:Apart (maddr mr r b n) (2*n+5) (mK mr r b n nc)}:News (mirLone x mr r b n nc ap) nc:=mir_news _
theorem arr_ne_wds {v:Value} {vs:List Value} {c:HProp} {addr:Nat→Nat × Nat} {N w:Nat} {K:List (Nat × Nat × Value)} {s:Nat→Nat} {h:Hp} (st:Star (arr mr 0 (v::vs)::c::wds addr N K s::L) h) (hw:w<N):addr w≠(mr,0):=by
 obtain ⟨h1,h2,s1,ha,h3,h4,s2,_,h5,h6,s3,hb,_⟩:=st
 intro e
 have e1:=ha 0 v rfl
 have e2:=s2.o2 _ _ _ (s3.o1 _ _ _ (hb.1 w hw).2)
 rw [e] at e2
 rcases s1.od mr 0 with d | d
 ·rw [Nat.zero_add] at e1;rw [e1] at d;cases d
 ·simp only at e2;rw [e2] at d;cases d
theorem mir_wds {h:Hp} (st:Star (arr mr 0 [.int .u64 0,.int .u64 0,.int .u64 0,.pointer (some ⟨r,0,none⟩),.chan (some nc)]::chC nc 1 #[] 0 0::wds (twoAddr r b) (2*n+2) [(r,2,.slice (some ⟨b,0,none⟩) n n)] (seqs n)::L) h):Star (wds (maddr mr r b n) (2*n+5) (mK mr r b n nc) (seqs n)::newsC nc::L) h:=by
 have st1:Star (arr mr 0 [.int .u64 0,.int .u64 0,.int .u64 0,.pointer (some ⟨r,0,none⟩),.chan (some nc)]::wds (twoAddr r b) (2*n+2) [(r,2,.slice (some ⟨b,0,none⟩) n n)] (seqs n)::chC nc 1 #[] 0 0::L) h:=Ent.star (.take .here (.take (.there .here) (.take .here .refl))) st
 refine star_map (star_shut (M:=[_,_]) st1) (fun h a=>?_) (fun h y=>star_map y (fun _ z=>⟨(#[],0,0),z⟩) (fun _ z=>z))
 obtain ⟨h1,h2,s1,ha,h3,h4,s2,hb,_⟩:=a
 refine ⟨fun w hw=>?_,fun y hy=>?_⟩
 ·by_cases c:w<2*n+2
  ·have e:maddr mr r b n w=twoAddr r b w:=if_pos c
   rw [e]
   exact ⟨(hb.1 w c).1,s1.o2 _ _ _ (s2.o1 _ _ _ (hb.1 w c).2)⟩
  ·have e:maddr mr r b n w=(mr,w-(2*n+2)):=if_neg c
   have e0:seqs n w=0:=if_neg (by omega)
   rw [e,e0]
   refine ⟨by omega,s1.o1 _ _ _ ?_⟩
   have hc:w-(2*n+2)=0∨w-(2*n+2)=1∨w-(2*n+2)=2:=by omega
   rcases hc with e2 | e2 | e2 <;> (rw [e2];simpa using ha _ _ rfl)
 ·simp only [mK,List.mem_cons,List.not_mem_nil,or_false] at hy
  rcases hy with rfl | rfl | rfl
  ·exact s1.o2 _ _ _ (s2.o1 _ _ _ (hb.2 _ (List.mem_singleton.2 rfl)))
  ·exact s1.o1 _ _ _ (by simpa using ha 3 _ rfl)
  ·exact s1.o1 _ _ _ (by simpa using ha 4 _ rfl)
theorem mnew_tr (hn:n=2^k) (hk0:1≤k) (hk:k≤10):Tr Try.prog B 8 [.int .i64 n] L x fun v L' x'=>∃ mr r b nc,r≠b∧mr≠r∧mr≠b∧v=.tuple #[.pointer (some ⟨mr,0,none⟩),.int .i64 0]∧L'=wds (maddr mr r b n) (2*n+5) (mK mr r b n nc) (seqs n)::newsC nc::L∧x'=x:=by
 refine Tr.post (R:=fun v L' x'=>∃ mr r b nc,r≠b∧mr≠r∧mr≠b∧v=.tuple #[.pointer (some ⟨mr,0,none⟩),.int .i64 0]∧x'=x∧∀ h,Star L' h→Star (wds (maddr mr r b n) (2*n+5) (mK mr r b n nc) (seqs n)::newsC nc::L) h) ?_
  (by rintro v L' x' ⟨mr,r,b,nc,h1,h2,h3,rfl,rfl,h4⟩;exact ⟨_,⟨mr,r,b,nc,h1,h2,h3,rfl,rfl,rfl⟩,h4⟩)
 refine tr_of_body Try.func8 rfl Try.ntmps8 (by simp) fun um Q _ hQ=>?_
 simp only [argE,Nat.zero_add,Nat.reduceAdd]
 repeat (first | refine we_seq ?_ | (refine wR ?_;try simp only [oS]) | refine wo_nil ?_ | refine wM ?_ | refine wA ?_)
 refine wo_call (.cons rfl .nil) trivial (new_tr hn hk0 hk) ?_
 rintro v' L' x' ⟨r,b,rfl,hrb,rfl,rfl⟩
 repeat (first | (apply wo_mo;apply mo_makeChan (m:=1);exact rfl;omega;omega;exact trivial) | refine wneqF ?_ | refine we_seq ?_ | (refine wR ?_;try simp only [oS]) | refine wo_nil ?_ | refine wM ?_ | refine wA ?_ | (apply wo_po;apply mo_extract;exact rfl;exact rfl;exact gY) | refine wF ?_ | refine we_skip ?_)
 rintro v' L' ⟨nc,rfl,rfl⟩
 repeat (first | (apply wo_po;apply mo_build (pv:=[(1,_),(2,_)]);exact rfl;exact .cons rfl (.cons rfl .nil);exact rfl;exact trivial) | (apply wo_mo;apply mo_box;exact rfl;exact trivial))
 rintro v' L' ⟨mr,rfl,rfl⟩
 refine wo_ent (arr mr 0 [.int .u64 0,.int .u64 0,.int .u64 0,.pointer (some ⟨r,0,none⟩),.chan (some nc)]::chC nc 1 #[] 0 0::wds (twoAddr r b) (2*n+2) [(r,2,.slice (some ⟨b,0,none⟩) n n)] (seqs n)::L) .refl ?_
 refine wo_pure (p:=mr≠r∧mr≠b) (fun h st=>⟨fun e=>arr_ne_wds st (w:=0) (by omega) (by rw [e];rfl),fun e=>arr_ne_wds st (w:=2) (by rw [hn];have:=Nat.one_le_two_pow (n:=k);omega) (by rw [e];rfl)⟩) fun hne=>?_
 repeat (first | refine wo_nil ?_ | refine wA ?_ | refine we_ret ?_)
 (first | refine or2 Try.func8 Try.results8 hQ rfl rfl ?_ | refine on2 Try.func8 Try.results8 hQ rfl rfl ?_)
 exact ⟨mr,r,b,nc,hrb,hne.1,hne.2,rfl,rfl,fun h st=>mir_wds st⟩
variable {f:Nat→Nat} {row:List Nat} {ap:Apart (maddr mr r b n) (2*n+5) (mK mr r b n nc)}
theorem offer_lone {v:Nat} (hn:n=2^k) (hk0:1≤k) (hk:k≤10) (R:RowAt n f row) {G:Bool→(Nat→Nat)→Prop}
  (g:∀ f',RowAt n f' (if row.length<n then row++[v] else row)→f' (2*n+2)=(f (2*n+2)+1)%18446744073709551616→f' (2*n+3)=(if row.length<n then f (2*n+3) else (f (2*n+3)+1)%18446744073709551616)→f' (2*n+4)=f (2*n+4)→G (decide (row.length<n)) f') :
  OfferT (mirLone x mr r b n nc ap) n v f G:=by
 have hpos:2≤n:=by have:=Nat.pow_le_pow_right (n:=2) (by omega) hk0;omega
 refine offer_with (A:=loneAcc x (maddr mr r b n) (2*n+5) (mK mr r b n nc) ap) ?_
 refine ⟨by show 2*n+2+0<2*n+5;omega,?_⟩
 refine put_rowG (x:=x) (ap:=ap) (N:=2*n+5) (by omega) hn hk0 hk (rowAt_same (q:=2*n+2) (by omega) (Nat.le_refl _) R) fun f' R' hs=>?_
 have e0:=hs (2*n+2) (by omega)
 have e1:=hs (2*n+3) (by omega)
 have e2:=hs (2*n+4) (by omega)
 rw [upd_same] at e0
 rw [upd_other (by omega)] at e1 e2
 by_cases c:row.length<n
 ·rw [if_pos c] at R' g
  rw [decide_eq_true c] at g ⊢
  rw [if_pos rfl]
  exact g f' R' e0 (by rw [if_pos c];exact e1) e2
 ·rw [if_neg c] at R' g
  rw [decide_eq_false c] at g ⊢
  rw [if_neg (by decide)]
  refine ⟨by show 2*n+2+1<2*n+5;omega,?_⟩
  refine g _ (rowAt_same (by omega) (by omega) R') ?_ ?_ ?_
  ·rw [upd_other (by omega)];exact e0
  ·rw [if_neg c,upd_same,show 2*n+2+1=2*n+3 from rfl,e1]
  ·rw [upd_other (by omega)];exact e2
theorem take_lone (hn:n=2^k) (hk0:1≤k) (hk:k≤10) (R:RowAt n f row) {G:Option Nat→(Nat→Nat)→Prop}
  (g:∀ f',RowAt n f' row.tail→f' (2*n+2)=f (2*n+2)→f' (2*n+3)=f (2*n+3)→f' (2*n+4)=(if row=[] then f (2*n+4) else (f (2*n+4)+1)%18446744073709551616)→G row.head? f') :
  MTakeT (mirLone x mr r b n nc ap) n f G:=by
 have hpos:2≤n:=by have:=Nat.pow_le_pow_right (n:=2) (by omega) hk0;omega
 refine mtake_with (A:=loneAcc x (maddr mr r b n) (2*n+5) (mK mr r b n nc) ap) ?_
 refine take_rowG (x:=x) (ap:=ap) (N:=2*n+5) (by omega) hn hk0 hk R fun f' R' hs=>?_
 have e0:=hs (2*n+2) (by omega)
 have e1:=hs (2*n+3) (by omega)
 have e2:=hs (2*n+4) (by omega)
 cases row with
 | nil=>exact g f' R' e0 e1 (by rw [if_pos rfl];exact e2)
 | cons y l =>
  refine ⟨by show 2*n+2+2<2*n+5;omega,?_⟩
  refine g _ (rowAt_same (by omega) (by omega) R') ?_ ?_ ?_
  ·rw [upd_other (by omega)];exact e0
  ·rw [upd_other (by omega)];exact e1
  ·rw [if_neg (by simp),upd_same,show 2*n+2+2=2*n+4 from rfl,e2]
end
end
end Go.Proofs.Ytmkkanmkjfnpdaa
namespace Go.Proofs.Ytmkkanmkjfnpdaa
open Go Go.PB
section
structure Wds where
 W:(Nat→Nat)→Mach.Wd
 un:Mach.Wd→(Nat→Nat)
 ok:(Nat→Nat)→Prop
 fu:Nat
 back:∀ f,W (un (W f))=W f
 okun:∀ f,ok f→ok (un (W f))
def mF (D:Wds) (q:Nat × Mach.Th) (f:Nat→Nat):(Nat→Nat) × (Nat × Mach.Th) :=
 match Mach.opF D.fu (D.W f) q.2 with
 | some y=>(D.un y.1,(q.1,y.2))
 | none=>(f,(q.1,{ q.2 with over:=true }))
def mkII (m:Nat × Nat):Int × Int:=(((m.1:Nat):Int),((m.2:Nat):Int))
def mPlan (D:Wds) (q:Nat × Mach.Th):Option ((Int × Int) × ((Nat→Nat)→(Nat→Nat) × (Nat × Mach.Th))) :=
 if q.2.over=true then none else some (mkII q.2.mark,mF D q)
def mG (D:Wds) (U:(Nat→Nat)→HProp) (Pv:Nat × Mach.Th→HProp):Game where
 σ:=Nat→Nat
 θ:=Nat × Mach.Th
 U:=U
 plan:=mPlan D
 ok:=D.ok
 Pv:=Pv
 Fin:=Pv
def GoodN (D:Wds):Nat→Mach.Th→Prop
 | 0,_=>True
 | n+1,t=>t.over=true∨t.over=false∧∀ f,D.ok f→∃ f' t',Mach.opF D.fu (D.W f) t=some (D.W f',t')∧D.ok f'∧GoodN D n t'
def GoodT (D:Wds) (t:Mach.Th):Prop:=∀ n,GoodN D n t
theorem GoodT.over {D:Wds} {t:Mach.Th} (h:t.over=true):GoodT D t
 | 0=>trivial
 | _+1=>.inl h
theorem GoodT.mk {D:Wds} {t:Mach.Th} (ho:t.over=false) (h:∀ f,D.ok f→∃ f' t',Mach.opF D.fu (D.W f) t=some (D.W f',t')∧D.ok f'∧GoodT D t'):GoodT D t
 | 0=>trivial
 | n+1=>.inr ⟨ho,fun f hf=>by
  obtain ⟨f',t',h1,h2,h3⟩:=h f hf
  exact ⟨f',t',h1,h2,h3 n⟩⟩
theorem GoodT.on {D:Wds} {t:Mach.Th} (g:GoodT D t) (ho:t.over=false):∀ f,D.ok f→∃ f' t',Mach.opF D.fu (D.W f) t=some (D.W f',t')∧D.ok f'∧GoodT D t':=by
 have at_:∀ n f,D.ok f→∃ f' t',Mach.opF D.fu (D.W f) t=some (D.W f',t')∧D.ok f'∧GoodN D n t':=fun n f hf=>by
  rcases g (n+1) with h | ⟨_,h⟩
  ·rw [h] at ho;cases ho
  ·exact h f hf
 intro f hf
 obtain ⟨f',t',h1,h2,_⟩:=at_ 0 f hf
 refine ⟨f',t',h1,h2,fun n=>?_⟩
 obtain ⟨g',u',e1,_,e3⟩:=at_ n f hf
 rw [h1] at e1
 simp only [Option.some.injEq,Prod.mk.injEq] at e1
 rw [e1.2]
 exact e3
section
variable {D:Wds} {U:(Nat→Nat)→HProp} {Pv:Nat × Mach.Th→HProp}
structure Rel (p:PS (mG D U Pv)) (st:Mach.St):Prop where
 w:st.w=D.W p.s
 len:p.qs.length=st.l.length
 qs:∀ k:Nat,p.qs[k]?=(st.l[k]?).map fun t=>(k,t)
 tr:p.tr=st.tr.map fun e=>(e.1,mkII e.2)
 le:st.tr.length≤16384
 good:∀ t∈st.l,GoodT D t
 ok:D.ok p.s
structure Begins (D:Wds) (U:(Nat→Nat)→HProp) (Pv:Nat × Mach.Th→HProp) (k0:Nat) (ts:List (Thr (mG D U Pv))) (cc:List (List Mach.Cl)):Prop where
 len:ts.length=cc.length
 ini:∀ (k:Nat) t c,ts[k]?=some t→cc[k]?=some c→∃ u,Mach.onF D.fu { calls:=c }=some u∧GoodT D u∧∀ s:(mG D U Pv).σ,t.ini s=(s,((k0+k,u):Nat × Mach.Th))
end
end
end Go.Proofs.Ytmkkanmkjfnpdaa
namespace Go.Proofs.Ytmkkanmkjfnpdaa
open Go Go.PB
attribute [local irreducible] Mo Bin Eql Tr Wo Ap Wle
section
structure PlS where
 f:Nat→Nat
 g:Nat→Nat
 t:Mach.Th
 n:Nat
section
variable {D:Wds} {addr:Nat→Nat × Nat} {N:Nat} {K:List (Nat × Nat × Value)} {Z:HProp} {Pv:Nat × Mach.Th→HProp} {sb says turn fin wg:Nat}
end
end
section
structure GaS (G:WGm) where
 f:Nat→Nat
 c:G.ζ
 s:G.σ
 q:G.θ
 n:Nat
section
variable {G:WGm} {addr:Nat→Nat × Nat} {N:Nat} {K:List (Nat × Nat × Value)} {sb says turn fin wg:Nat}
def gaC (G:WGm) (addr:Nat→Nat × Nat) (N:Nat) (K:List (Nat × Nat × Value)) (sb says turn fin:Nat) (Pm:HProp) (f:Nat→Nat) (c:G.ζ):HProp:=all [wds addr N K f,G.Z c,seatR sb says turn fin,Pm]
def GaStep (G:WGm) (N:Nat) (Pm:HProp) (op:Int) (w:Nat) (s:GaS G) (R:GaS G→Prop):Prop :=
 ∃ F,G.plan s.q=some ((op,((w:Nat):Int)),F)∧(∀ i,i<N→s.f i=G.wf s.s i)∧s.c=G.zf s.s∧(∀ h,Pm h→G.Pv s.q h)∧∀ s' n,n<s.n→G.ok s'→R ⟨G.wf s',G.zf s',(F s').1,(F s').2,n⟩
theorem ga_step {Pm:HProp} {op:Int} {w:Nat} {s:GaS G} {R:GaS G→Prop} {L F:List HProp} (hs:GaStep G N Pm op w s R) (hh:Has L (gaC G addr N K sb says turn fin Pm s.f s.c) F) :
  Tr Try.prog tH 120 [.pointer (some ⟨sb,0,none⟩),.agg #[.int .u8 op,.int .i64 (w:Nat)]] L (tx (G.g addr N K) says turn fin wg (.busy s.s s.q s.n)) fun v L' x' =>
   ∃ s',R s'∧v=.tuple #[]∧L'=gaC G addr N K sb says turn fin Pm s'.f s'.c::F∧x'=tx (G.g addr N K) says turn fin wg (.busy s'.s s'.q s'.n):=by
 obtain ⟨FF,hp,hfg,hc,hpm,hR⟩:=hs
 refine tr_star ((G.g addr N K).U s.s::seatR sb says turn fin::Pm::F) (fun h st=>?_) ?_
 ·have s1:Star (wds addr N K s.f::G.Z s.c::seatR sb says turn fin::Pm::F) h:=star_open (M:=[_,_,_,_]) (hh.star st)
  rw [hc] at s1
  exact star_shut (M:=[_,_]) (star_map s1 (wds_congr hfg) fun _ z=>z)
 ·refine (seat_tr (g:=G.g addr N K) (mk:=(op,((w:Nat):Int))) (f:=FF) hp .here .here fun h st=>G.up _ _ ?_).post ?_
  ·exact star_map (star_drop st) hpm fun _ z=>trivial
  ·rintro v L' x' ⟨m',s',hm,hok,rfl,rfl,rfl⟩
   refine ⟨_,⟨⟨G.wf s',G.zf s',(FF s').1,(FF s').2,m'⟩,hR s' m' (by omega) hok,rfl,rfl,rfl⟩,fun h st=>?_⟩
   exact star_shut (M:=[_,_,_,_]) (star_open (M:=[_,_]) st)
def gamAcc (G:WGm) (addr:Nat→Nat × Nat) (N:Nat) (K:List (Nat × Nat × Value)) (A:Apart addr N K) (sb says turn fin wg:Nat) (Pm:HProp):Acc tH (gateV sb) where
 S:=GaS G
 C:=fun s=>gaC G addr N K sb says turn fin Pm s.f s.c
 x:=fun s=>tx (G.g addr N K) says turn fin wg (.busy s.s s.q s.n)
 step:=GaStep G N Pm
 addr:=addr
 load:=fun w s R=>w<N∧R (s.f w) s
 store:=fun w n s R=>w<N∧R { s with f:=upd s.f w n }
 cas:=fun w a n s R=>w<N∧if s.f w=a then R true { s with f:=upd s.f w n } else R false s
 add:=fun w n s R=>w<N∧R ((s.f w+n)%18446744073709551616) { s with f:=upd s.f w ((s.f w+n)%18446744073709551616) }
 swap:=fun w n s R=>w<N∧R (s.f w) { s with f:=upd s.f w n }
 gate:=.inr ⟨_,_,120,rfl,inferInstance,inferInstance,fun op w s R L F hs hh=>ga_step hs hh⟩
 load_ok:=fun w s R L F b o ha hl hh=>tr_star _ (fun h st=>star_open (hh.star st)) (tr_pure (of_has .here fun h hc=>(hc.1 w hl.1).1) fun hs =>
  (load_lone (rd_wds .here hl.1 ha)).post fun v L' x' ⟨h1,h2,h3⟩=>⟨_,⟨s.f w,s,hs,hl.2,h1,rfl,h3⟩,fun h st=>star_shut (M:=[_,_,_,_]) (by rw [h2] at st;exact st)⟩)
 store_ok:=fun w n s R L F b o ha hn hl hh=>tr_star _ (fun h st=>star_open (hh.star st))
  ((store_lone (wt_wds A .here hl.1 ha hn)).post fun v L' x' ⟨h1,h2,h3⟩=>⟨_,⟨{ s with f:=upd s.f w n },hl.2,h1,rfl,h3⟩,fun h st=>star_shut (M:=[_,_,_,_]) (by rw [h2] at st;exact st)⟩)
 cas_ok:=fun w m n s R L F b o ha hn hl hh=>tr_star _ (fun h st=>star_open (hh.star st))
  ((cas_lone (rd_wds .here hl.1 ha) (wt_wds A .here hl.1 ha hn)).post fun v L' x' ⟨h1,h2,h3⟩=>by
   obtain ⟨h4,h5⟩:=hl
   by_cases e:s.f w=m
   ·rw [if_pos e] at h5;rw [if_pos (by omega)] at h2;exact ⟨_,⟨true,_,h5,by rw [h1];simp [e],rfl,h3⟩,fun h st=>star_shut (M:=[_,_,_,_]) (by rw [h2] at st;exact st)⟩
   ·rw [if_neg e] at h5;rw [if_neg (by omega)] at h2;exact ⟨_,⟨false,_,h5,by rw [h1];simp;omega,rfl,h3⟩,fun h st=>star_shut (M:=[_,_,_,_]) (by rw [h2] at st;exact st)⟩)
 add_ok:=fun w n s R L F b o ha hn hl hh=>tr_star _ (fun h st=>star_open (hh.star st))
  ((add_lone (r:=((s.f w+n)%18446744073709551616:Nat)) (rd_wds .here hl.1 ha) (by rw [wrap_u64_mod];omega) (wt_wds A .here hl.1 ha (Nat.mod_lt _ (by decide)))).post fun v L' x' ⟨h1,h2,h3⟩=>⟨_,⟨_,{ s with f:=_ },Nat.mod_lt _ (by decide),hl.2,h1,rfl,h3⟩,fun h st=>star_shut (M:=[_,_,_,_]) (by rw [h2] at st;exact st)⟩)
theorem ga_go {A:Apart addr N K} {Pm:HProp} {op w:Nat} {o:Int} {s:GaS G} {R:GaS G→Prop} {F:G.σ→G.σ × G.θ} (ho:((op:Nat):Int)=o) (hp:G.plan s.q=some ((((op:Nat):Int),((w:Nat):Int)),F)) (hf:∀ i,i<N→s.f i=G.wf s.s i) (hc:s.c=G.zf s.s) (hpm:∀ h,Pm h→G.Pv s.q h)
  (hR:∀ s' n,n<s.n→G.ok s'→R ⟨G.wf s',G.zf s',(F s').1,(F s').2,n⟩):(gamAcc G addr N K A sb says turn fin wg Pm).step o w s R:=by
 subst ho
 exact ⟨F,hp,hf,hc,hpm,hR⟩
end
section
variable {g:Game}
theorem play_ends {I:PS g→Prop} {Φ:PS g→Nat} {ts:List (Thr g)} {s:g.σ} {o:List Int} {n:Nat} (hs:∀ p k,I p→I (takeF p k).1) (hΦ:∀ p k,I p→(takeF p k).2=true→Φ (takeF p k).1+1≤Φ p) (h0:I ⟨(startF ts s).1,(startF ts s).2,[]⟩) (hn:Φ ⟨(startF ts s).1,(startF ts s).2,[]⟩≤n) (hlt:n<16384) :
  I (playF ts s o)∧(playF ts s o).tr.length≤n∧∀ (k:Nat) q,(playF ts s o).qs[k]?=some q→g.plan q=none:=by
 have hJ:I (playF ts s o)∧(playF ts s o).tr.length+Φ (playF ts s o)≤n:=playF_inv (I:=fun p=>I p∧p.tr.length+Φ p≤n) (fun p k h=>⟨hs p k h.1,by
  have h2:=h.2
  rcases takeF_cases p k with e | ⟨m,q,mk,f,hk,hq,hp,htr,e⟩
  ·rw [e];exact h2
  ·have h3:=hΦ p k h.1 (by rw [e])
   have h4:(takeF p k).1.tr.length=p.tr.length+1:=by rw [e];simp
   omega⟩) ⟨h0,by simpa using hn⟩
 refine ⟨hJ.1,by omega,fun k q hq=>(playF_done hq).resolve_right (by omega)⟩
end
end
end Go.Proofs.Ytmkkanmkjfnpdaa
namespace Go.Proofs.Ytmkkanmkjfnpdaa
open Go Go.PB
attribute [local irreducible] Mo Bin Eql Tr Wo Ap Wle
attribute [local instance] Pass.of_no
section
abbrev fH:Hand:=fHand Try.prog cvT
structure ThrT (g:Game) where
 fv:Value
 q0:g.θ
 M:HProp
structure ThrF (g:Game) (N:Nat) (t:ThrT g):Prop where
 run:∃ f first cap,callee? t.fv=some (f,first,cap)∧Ent' Try.prog f∧∀ wg F,Tr Try.prog fH f (first++[.nilIface]++cap) (t.M::F) (tx g 0 0 0 wg (.free t.q0 N)) fun v L' x' =>
  ∃ q' n',x'=tx g 0 0 0 wg (.free q' n')∧g.plan q'=none∧∀ h,Star L' h→Star (g.Fin q'::F) h
section
variable {g:Game}
end
end
end Go.Proofs.Ytmkkanmkjfnpdaa
namespace Go.PB
open Go.Conc
section
variable {P:Program} {cv:Value} {kd:CallKind} {n:Nat} {K:Post (fHand P cv)} {e:Env} {z:Z} {L:List HProp} {l:List OpG} {d:Option Nat} {ty:TypeId} {gd:Option (Nat × Bool)} {tys:Array TypeId}
 {g:Game} {s1 s2 s3 wg m:Nat} {q:g.θ} {mk:Int × Int} {F:g.σ→g.σ × g.θ} {b o:Nat}
end
end Go.PB
namespace Go.Proofs.Ytmkkanmkjfnpdaa
open Go Go.PB
attribute [local irreducible] Mo Bin Eql Tr Wo Ap Wle
attribute [local instance] Pass.of_no
section
variable {G:WGm} {addr:Nat→Nat × Nat} {N:Nat} {K:List (Nat × Nat × Value)} {wg:Nat} {L F:List HProp} {b o w:Nat}
structure FrS (G:WGm) where
 q:G.θ
 n:Nat
end
end Go.Proofs.Ytmkkanmkjfnpdaa
namespace Go.Proofs.Ytmkkanmkjfnpdaa
open Go Go.PB
attribute [local irreducible] Mo Bin Eql Tr Wo Ap Wle
section
theorem wds_cut1 {addr:Nat→Nat × Nat} {N r o:Nat} {v:Value} {K:List (Nat × Nat × Value)} {f:Nat→Nat} (A:Apart addr N ((r,o,v)::K)) (hK:∀ k∈K,¬ (k.1=r∧k.2.1=o)) {L:List HProp} {h:Hp} (s:Star (wds addr N ((r,o,v)::K) f::L) h):Star (wds addr N K f::arr r o [v]::L) h:=by
 obtain ⟨h1,h2,sp,hc,hL⟩:=s
 have hk:h1.own r o=some v:=hc.2 (r,o,v) List.mem_cons_self
 let ha:Hp:={ h1 with own:=fun b p=>if b=r∧p=o then none else h1.own b p }
 let hb:Hp:=⟨fun b p=>if b=r∧p=o then some v else none,fun _ _=>none,fun _=>none,fun _=>none⟩
 have s1:Split h1 ha hb:=by
  refine ⟨fun _ _ _ e=>e,fun _ _ _ e=>(by cases e),fun b p u e=>?_,fun b p u e=>?_,fun b p=>?_,fun _ _ e=>e,fun _ _ e=>(by cases e),fun _=>.inr rfl,fun _ _ e=>e,fun _ _ e=>(by cases e)⟩
  ·simp only [ha] at e;split at e
   ·cases e
   ·exact e
  ·simp only [hb] at e;split at e
   ·rename_i hh;cases e;rw [hh.1,hh.2];exact hk
   ·cases e
  ·by_cases hh:b=r∧p=o
   ·left;simp [ha,hh]
   ·right;simp [hb,hh]
 obtain ⟨t1,t2⟩:=sp.swap.assoc s1
 refine ⟨ha,_,t1,⟨fun w hw=>?_,fun k hk=>?_⟩,hb,h2,t2.swap,fun i u hi=>?_,hL⟩
 ·obtain ⟨e1,e2⟩:=hc.1 w hw
  refine ⟨e1,?_⟩
  have hne:=A.fix w hw (r,o,v) List.mem_cons_self
  show (if (addr w).1=r∧(addr w).2=o then none else h1.own (addr w).1 (addr w).2)=_
  rw [if_neg fun hh=>hne (Prod.ext hh.1 hh.2)];exact e2
 ·show (if k.1=r∧k.2.1=o then none else h1.own k.1 k.2.1)=_
  rw [if_neg (hK k hk)];exact hc.2 k (List.mem_cons_of_mem _ hk)
 ·have:i=0:=by have:=(List.getElem?_eq_some_iff.1 hi).1;simp at this;omega
  subst this
  simp at hi;subst hi
  show (if r=r∧o+0=o then some _ else none)=_
  rw [if_pos ⟨rfl,Nat.add_zero o⟩]
theorem apart_tail {addr:Nat→Nat × Nat} {N:Nat} {c:Nat × Nat × Value} {K:List (Nat × Nat × Value)} (A:Apart addr N (c::K)):Apart addr N K:=⟨A.inj,fun w hw k hk=>A.fix w hw k (List.mem_cons_of_mem _ hk)⟩
end
section
section
variable {B:Hand} [Lets B]
def kpAcc (x:B.X) (addr:Nat→Nat × Nat) (N:Nat) (A:Apart addr N []) (Cf:HProp):Acc B .nilIface where
 S:=Nat→Nat
 C:=fun s=>all [wds addr N [] s,Cf]
 x:=fun _=>x
 step:=fun _ _ s R=>R s
 addr:=addr
 load:=fun w s R=>w<N∧R (s w) s
 store:=fun w n s R=>w<N∧R (upd s w n)
 cas:=fun w a n s R=>w<N∧if s w=a then R true (upd s w n) else R false s
 add:=fun w n s R=>w<N∧R ((s w+n)%18446744073709551616) (upd s w ((s w+n)%18446744073709551616))
 swap:=fun w n s R=>w<N∧R (s w) (upd s w n)
 gate:=.inl ⟨rfl,fun _ _ _ _ h=>h⟩
 load_ok:=fun w s R L F b o ha hl hh=>tr_star _ (fun h st=>star_open (hh.star st)) (tr_pure (of_has .here fun h hc=>(hc.1 w hl.1).1) fun hs =>
  (load_lone (rd_wds .here hl.1 ha)).post fun v L' x' ⟨h1,h2,h3⟩=>⟨_,⟨s w,s,hs,hl.2,h1,rfl,h3⟩,fun h st=>star_shut (M:=[_,_]) (by rw [h2] at st;exact st)⟩)
 store_ok:=fun w n s R L F b o ha hn hl hh=>tr_star _ (fun h st=>star_open (hh.star st))
  ((store_lone (wt_wds A .here hl.1 ha hn)).post fun v L' x' ⟨h1,h2,h3⟩=>⟨_,⟨upd s w n,hl.2,h1,rfl,h3⟩,fun h st=>star_shut (M:=[_,_]) (by rw [h2] at st;exact st)⟩)
 cas_ok:=fun w m n s R L F b o ha hn hl hh=>tr_star _ (fun h st=>star_open (hh.star st))
  ((cas_lone (rd_wds .here hl.1 ha) (wt_wds A .here hl.1 ha hn)).post fun v L' x' ⟨h1,h2,h3⟩=>by
   obtain ⟨h4,h5⟩:=hl
   by_cases e:s w=m
   ·rw [if_pos e] at h5;rw [if_pos (by omega)] at h2;exact ⟨_,⟨true,_,h5,by rw [h1];simp [e],rfl,h3⟩,fun h st=>star_shut (M:=[_,_]) (by rw [h2] at st;exact st)⟩
   ·rw [if_neg e] at h5;rw [if_neg (by omega)] at h2;exact ⟨_,⟨false,_,h5,by rw [h1];simp;omega,rfl,h3⟩,fun h st=>star_shut (M:=[_,_]) (by rw [h2] at st;exact st)⟩)
 add_ok:=fun w n s R L F b o ha hn hl hh=>tr_star _ (fun h st=>star_open (hh.star st))
  ((add_lone (r:=((s w+n)%18446744073709551616:Nat)) (rd_wds .here hl.1 ha) (by rw [wrap_u64_mod];omega) (wt_wds A .here hl.1 ha (Nat.mod_lt _ (by decide)))).post fun v L' x' ⟨h1,h2,h3⟩=>⟨_,⟨_,_,Nat.mod_lt _ (by decide),hl.2,h1,rfl,h3⟩,fun h st=>star_shut (M:=[_,_]) (by rw [h2] at st;exact st)⟩)
end
end
end Go.Proofs.Ytmkkanmkjfnpdaa
namespace Go.PB
open Go
section
def Dup (c:HProp):Prop:=∀ (L:List HProp) (h:Hp),Star (c::L) h→Star (c::c::L) h
theorem dup_fro {b o:Nat} {vs:List Value}:Dup (fro b o vs):=fun L h s=>fro_two s
theorem dup_base {W:World}:Dup (base W):=fun L h s=>by
 obtain ⟨h1,h2,s1,ha,hL⟩:=s
 exact ⟨⟨fun _ _=>none,h1.ro,fun _=>none,fun _=>none⟩,h,⟨fun _ _ _ e=>s1.r1 _ _ _ e,fun _ _ _ e=>e,fun _ _ _ e=>by simp at e,fun _ _ _ e=>e,fun _ _=>.inl rfl,fun _ _ e=>by simp at e,fun _ _ e=>e,fun _=>.inl rfl,fun _ _ e=>by simp at e,fun _ _ e=>e⟩,ha,h1,h2,s1,ha,hL⟩
theorem all_cons {c:HProp} {M L:List HProp} {h:Hp} (s:Star (all (c::M)::L) h):Star (c::all M::L) h :=
 star_map (star_open (M:=c::M) s) (fun _ z=>z) fun _ z=>star_shut z
theorem cons_all {c:HProp} {M L:List HProp} {h:Hp} (s:Star (c::all M::L) h):Star (all (c::M)::L) h :=
 star_shut (M:=c::M) (star_map s (fun _ z=>z) fun _ z=>star_open z)
theorem dup_all:∀ {M:List HProp},(∀ c∈M,Dup c)→Dup (all M)
 | [],_=>fun L h s=>star_shut (M:=[]) s
 | c::M,hM=>fun L h s=>by
  have s1:=hM c (by simp) _ _ (all_cons s)
  have s2:Star (all M::c::c::L) h:=Ent.star (.take (.there (.there .here)) (.take .here (.take .here .refl))) s1
  have s3:=dup_all (fun d hd=>hM d (by simp [hd])) _ _ s2
  have s4:Star (c::all M::c::all M::L) h:=Ent.star (.take (.there (.there .here)) (.take .here (.take (.there .here) (.take .here .refl)))) s3
  exact cons_all (star_map s4 (fun _ z=>z) fun _ z=>star_map z (fun _ z=>z) fun _ z=>cons_all z)
theorem dup_many {c:HProp} (hc:Dup c) {L:List HProp} {h:Hp} (s:Star (c::L) h):∀ n,Star (all (List.replicate n c)::c::L) h
 | 0=>star_shut (M:=[]) s
 | n+1=>by
  have s1:=dup_many hc s n
  have s2:=hc _ _ (star_swap s1)
  have s3:Star (c::all (List.replicate n c)::c::L) h:=Ent.star (.take .here (.take (.there .here) (.take .here .refl))) s2
  rw [List.replicate_succ]
  exact cons_all s3
theorem star_zip:∀ {As Bs L:List HProp} {h:Hp},As.length=Bs.length→Star (all As::all Bs::L) h→Star (all (List.zipWith (fun a b=>all [a,b]) As Bs)::L) h
 | [],[],L,h,_,s=>star_shut (M:=[]) (star_drop (star_drop s))
 | [],b::Bs,L,h,e,s=>by simp at e
 | a::As,[],L,h,e,s=>by simp at e
 | a::As,b::Bs,L,h,e,s=>by
  have s1:=all_cons s
  have s2:Star (all (b::Bs)::a::all As::L) h:=Ent.star (.take (.there (.there .here)) (.take .here (.take .here .refl))) s1
  have s3:=all_cons s2
  have s4:Star (all As::all Bs::a::b::L) h:=Ent.star (.take (.there (.there (.there .here))) (.take (.there .here) (.take (.there .here) (.take .here .refl)))) s3
  have s5:=star_zip (by simpa using e) s4
  have s6:Star (a::b::all (List.zipWith (fun a b=>all [a,b]) As Bs)::L) h:=Ent.star (.take (.there .here) (.take (.there .here) (.take .here .refl))) s5
  exact cons_all (star_shut (M:=[_,_]) s6)
theorem star_tail:∀ {M L:List HProp} {h:Hp},Star (M++L) h→Star (all L::M) h
 | [],L,h,s=>star_shut (L:=[]) (by rw [List.append_nil];exact s)
 | c::M,L,h,s=>star_swap (star_map (L:=M++L) s (fun _ z=>z) fun _ z=>star_tail z)
theorem zeros_rep {n:Nat} {v:Value}:zeros n [v]=List.replicate n v:=by
 unfold zeros
 induction n with
 | zero=>rfl
 | succ n ih=>rw [List.replicate_succ,List.flatten_cons,ih,List.replicate_succ];rfl
theorem alls_ex {Y:Type}:∀ {M:List HProp} {C:Nat→Y→HProp} {Q:Nat→Y→Prop} (hM:∀ (k:Nat) c,M[k]?=some c→∀ h,c h→∃ y,Q k y∧C k y h) {L:List HProp} {h:Hp},Star (all M::L) h →
  ∃ ys:List Y,(ys.length=M.length∧∀ (k:Nat) y,ys[k]?=some y→Q k y)∧Star (all (ys.mapIdx C)::L) h
 | [],C,Q,hM,L,h,s=>⟨[],⟨rfl,fun k y hy=>by simp at hy⟩,s⟩
 | c::M,C,Q,hM,L,h,s=>by
  obtain ⟨h1,h2,sp,hc,hr⟩:=all_cons s
  obtain ⟨y,hq,hy⟩:=hM 0 c rfl h1 hc
  obtain ⟨ys,⟨hl,hQ⟩,hs⟩:=alls_ex (C:=fun k=>C (k+1)) (Q:=fun k=>Q (k+1)) (fun k c hk=>hM (k+1) c hk) hr
  refine ⟨y::ys,⟨by simp [hl],fun k z hz=>?_⟩,?_⟩
  ·cases k with
   | zero=>cases hz;exact hq
   | succ k=>exact hQ k z hz
  ·rw [List.mapIdx_cons]
   exact cons_all ⟨h1,h2,sp,hy,hs⟩
theorem rd_item {M L:List HProp} {c:HProp} {k b o:Nat} {v:Value} (e:M[k]?=some c) (r:Rd [c] b o v):Rd (all M::L) b o v:=fun h s=>by
 obtain ⟨h1,h2,sp,hc,hr⟩:=PB.star_pick e s
 exact (Rd.of (R:=all (M.eraseIdx k)::L) .here r) h ⟨h1,h2,sp,hc,hr⟩
end
end Go.PB
namespace Go.Proofs.Ytmkkanmkjfnpdaa
open Go Go.PB
attribute [local irreducible] Mo Bin Eql Tr Wo Ap Wle
section
theorem rd_allR {M L:List HProp} {b o:Nat} {v:Value} (r:Rd M b o v):Rd (all M::L) b o v:=fun h s =>
 r h (star_drop (star_tail (star_open s)))
theorem all_one {p:HProp} {M:List HProp}:∀ h,all (p::M) h→all [p] h:=fun h z=>by
 obtain ⟨h1,h2,sp,c,_⟩:=z
 exact ⟨h1,h2,sp,c,trivial⟩
def mrCell (pb tb pn me:Nat) (sv:Value):HProp:=arr (if me<pn then pb else tb) (if me<pn then me else me-pn) [sv]
def mrLst (pb tb pn me:Nat) (out:List Nat):HProp:=fun h=>∃ sv,all [mrCell pb tb pn me sv,vec 1 sv (out.map num)] h
def mrOut (pn:Nat) (q:MrT):List Nat:=if q.q.me<pn then q.q.pa else match q.m with
 | .c2=>q.q.ta.dropLast
 | _=>q.q.ta
def mrW (n:Nat) (fr:Bool) (pb tb pn nc:Nat):WGm where
 σ:=QS
 θ:=MrT
 ζ:=Unit
 wf:=QS.f
 zf:=fun _=>()
 Z:=fun _=>newsC nc
 plan:=mrPlan n fr
 ok:=fun _=>True
 Pv:=fun q=>all [mrLst pb tb pn q.q.me (mrOut pn q)]
 up:=fun q h st=>star_open (M:=[_]) st
theorem m_apart0 {mr r b n:Nat} (h1:r≠b) (h2:mr≠r) (h3:mr≠b):Apart (maddr mr r b n) (2*n+5) []:=apart_tail (apart_tail (apart_tail (m_apart (nc:=0) h1 h2 h3)))
structure MrRo (Ro:HProp) (mr r b n nc:Nat):Prop where
 q:Rd [Ro] r 2 (.slice (some ⟨b,0,none⟩) n n)
 m:Rd [Ro] mr 3 (.pointer (some ⟨r,0,none⟩))
 c:Rd [Ro] mr 4 (.chan (some nc))
theorem maddr_at {B:Hand} {gv:Value} {A:Acc B gv} {mr r b n k nc:Nat} {Ro:HProp} (ha:A.addr=maddr mr r b n) (hn:n=2^k) (hk:k≤10) (hr:∀ s {b o:Nat} {v:Value},Rd [Ro] b o v→Rd [A.C s] b o v) (O:MrRo Ro mr r b n nc):MirAt A mr r b n k nc where
 q:={ hn:=hn,hk:=hk,hdr:=fun s=>hr s O.q,a0:=by rw [ha];unfold maddr;rw [if_pos (by omega)];rfl,a1:=by rw [ha];unfold maddr;rw [if_pos (by omega)];rfl,a2:=fun i hi=>by rw [ha];unfold maddr;rw [if_pos (by omega),Nat.add_comm];rfl }
 hq:=fun s=>hr s O.m
 hc:=fun s=>hr s O.c
 a:=fun j hj=>by rw [ha];unfold maddr;rw [if_neg (by omega),Nat.add_sub_cancel_left]
section
variable {n k pb tb pn nc mr r b:Nat} {h1:r≠b} {h2:mr≠r} {h3:mr≠b} {sb says turn fin wg:Nat} {Pm Cf Ro p:HProp} {me:Nat} {pa ta:List Nat} {rest:List (Option Nat)} {c:Option Nat} {v:Nat}
abbrev mrG (n pb tb pn nc mr r b:Nat) (h1:r≠b) (h2:mr≠r) (h3:mr≠b) (sb says turn fin wg:Nat) (Pm:HProp):Acc tH (gateV sb):=gamAcc (mrW n false pb tb pn nc) (maddr mr r b n) (2*n+5) [] (m_apart0 h1 h2 h3) sb says turn fin wg Pm
theorem mrG_at (hn:n=2^k) (hk:k≤10) (O:MrRo Ro mr r b n nc):MirAt (mrG n pb tb pn nc mr r b h1 h2 h3 sb says turn fin wg (all [p,Ro])) mr r b n k nc :=
 maddr_at rfl hn hk (fun s _ _ _ hC=>rd_allR (.there (.there (.there (rd_allR (.there hC)))))) O
theorem mrG_news:News (mrG n pb tb pn nc mr r b h1 h2 h3 sb says turn fin wg Pm) nc where
 news:=⟨fun s=>all [wds (maddr mr r b n) (2*n+5) [] s.f,seatR sb says turn fin,Pm],fun s h st=>by
   have s1:Star [wds (maddr mr r b n) (2*n+5) [] s.f,newsC nc,seatR sb says turn fin,Pm] h:=star_open (M:=[_,_,_,_]) (L:=[]) (star_one st)
   have s2:Star [wds (maddr mr r b n) (2*n+5) [] s.f,seatR sb says turn fin,Pm,newsC nc] h:=Ent.star (.take .here (.take (.there .here) (.take (.there .here) (.take .here .refl)))) s1
   exact star_swap (star_shut (M:=[_,_,_]) s2),fun s h st=>by
   have s1:Star [wds (maddr mr r b n) (2*n+5) [] s.f,seatR sb says turn fin,Pm,newsC nc] h:=star_open (M:=[_,_,_]) (star_swap st)
   have s2:Star [wds (maddr mr r b n) (2*n+5) [] s.f,newsC nc,seatR sb says turn fin,Pm] h:=Ent.star (.take .here (.take (.there (.there .here)) (.take .here (.take .here .refl)))) s1
   exact s2⟩
structure MrS (q:MrT) (s:GaS (mrW n false pb tb pn nc)):Prop where
 q:s.q=q
 f:∀ i,i<2*n+5→s.f i=(show QS from s.s).f i
 c:s.c=()
theorem mg_lift {q:MrT} {s:GaS (mrW n false pb tb pn nc)} (hs:MrS q s) {op w:Nat} {o:Int} (ho:((op:Nat):Int)=o) {G:QS→QS × QT} (hG:qPlan n q.q=some ((((op:Nat):Int),((w:Nat):Int)),G)) (hm:mrPlan n false q=mrLift n false q) (hpm:∀ h,Pm h→(mrW n false pb tb pn nc).Pv q h) {R:GaS (mrW n false pb tb pn nc)→Prop}
  (hR:∀ (st:QS) n',n'<s.n→R ⟨st.f,(),(G st).1,(⟨(G st).2,if (G st).2.cs.length=q.q.cs.length then q.m else mrNext false q.q (G st).2⟩:MrT),n'⟩):(mrG n pb tb pn nc mr r b h1 h2 h3 sb says turn fin wg Pm).step o w s R:=by
 refine ga_go (F:=(fun st:QS=>((G st).1,(⟨(G st).2,if (G st).2.cs.length=q.q.cs.length then q.m else mrNext false q.q (G st).2⟩:MrT)):QS→QS × MrT)) ho ?_ hs.f hs.c (by rw [hs.q];exact hpm) fun (st:QS) n' hn' _=>hR st n' hn'
 rw [hs.q]
 show mrPlan n false q=_
 rw [hm]
 unfold mrLift
 rw [hG];rfl
theorem mg_draw {m0:MrSt} (hn:0<n) (hm:∀ st,mrPlan n false ⟨⟨me,c::rest,pa,ta,st⟩,m0⟩=mrLift n false ⟨⟨me,c::rest,pa,ta,st⟩,m0⟩) (hpm:∀ st,∀ h,Pm h→(mrW n false pb tb pn nc).Pv (⟨⟨me,c::rest,pa,ta,st⟩,m0⟩:MrT) h) {Q:Option Nat→GaS (mrW n false pb tb pn nc)→Prop} {s:GaS (mrW n false pb tb pn nc)} (hs:MrS ⟨⟨me,c::rest,pa,ta,.load⟩,m0⟩ s)
  (h0:∀ s',MrS ⟨⟨me,rest,pa,ta,.load⟩,mrNext false ⟨me,c::rest,pa,ta,.load⟩ ⟨me,rest,pa,ta,.load⟩⟩ s'→Q none s') (hQ:∀ t s',MrS ⟨⟨me,c::rest,pa,ta,.val t⟩,m0⟩ s'→Q (some t) s'):DrawT (mrG n pb tb pn nc mr r b h1 h2 h3 sb says turn fin wg Pm) n (qw c) (qw c) s Q:=by
 intro X hX
 have hc:qw c<2*n+5:=by cases c <;> simp [qw] <;> omega
 suffices H:∀ (N:Nat) (s:GaS (mrW n false pb tb pn nc)),s.n<N→MrS ⟨⟨me,c::rest,pa,ta,.load⟩,m0⟩ s→X s from H (s.n+1) s (Nat.lt_succ_self _) hs
 intro N
 induction N with
 | zero=>intro s hN;omega
 | succ N ih =>
  intro s hN hs
  refine hX _ ?_
  unfold DrawF
  refine mg_lift hs (op:=1) rfl rfl (hm _) (hpm _) fun st m1 hm1=>⟨hc,?_⟩
  have hmod:st.f (qw c)%n<n:=Nat.mod_lt _ hn
  refine mg_lift (q:=⟨⟨me,c::rest,pa,ta,.seq (st.f (qw c))⟩,m0⟩) ⟨by dsimp only;rw [if_pos rfl],fun i _=>rfl,rfl⟩ (op:=1) rfl rfl (hm _) (hpm _) fun st' m2 hm2=>⟨by show 2+2*(st.f (qw c)%n)<2*n+5;omega,?_⟩
  show if 9223372036854775808≤qd n st' (st.f (qw c)) (qw c) then Q none _ else if 0<qd n st' (st.f (qw c)) (qw c) then X _ else _
  by_cases g1:9223372036854775808≤qd n st' (st.f (qw c)) (qw c)
  ·rw [if_pos g1]
   refine h0 _ ⟨?_,fun i _=>rfl,rfl⟩
   dsimp only
   rw [if_pos g1,if_neg (by simp)];rfl
  ·rw [if_neg g1]
   by_cases g2:0<qd n st' (st.f (qw c)) (qw c)
   ·rw [if_pos g2]
    refine ih _ (by dsimp only at hm1 hm2 ⊢;omega) ⟨?_,fun i _=>rfl,rfl⟩
    dsimp only
    rw [if_neg g1,if_pos g2,if_pos rfl]
   ·rw [if_neg g2]
    refine mg_lift (q:=⟨⟨me,c::rest,pa,ta,.cas (st.f (qw c))⟩,m0⟩) ⟨by dsimp only;rw [if_neg g1,if_neg g2,if_pos rfl],fun i _=>rfl,rfl⟩ (op:=5) rfl rfl (hm _) (hpm _) fun st2 m3 hm3=>⟨hc,?_⟩
    show if st2.f (qw c)=st.f (qw c) then _ else _
    by_cases g3:st2.f (qw c)=st.f (qw c)
    ·rw [if_pos g3]
     show ite (true=true) _ _
     rw [if_pos rfl]
     refine hQ _ _ ⟨?_,fun i _=>?_,rfl⟩
     ·dsimp only
      rw [if_pos g3,if_pos rfl]
     ·dsimp only
      rw [if_pos g3]
    ·rw [if_neg g3]
     show ite (false=true) _ _
     rw [if_neg (by decide)]
     refine ih _ (by dsimp only at hm1 hm2 hm3 ⊢;omega) ⟨?_,fun i _=>?_,rfl⟩
     ·dsimp only
      rw [if_neg g3,if_pos rfl]
     ·dsimp only
      rw [if_neg g3]
theorem mg_offer (hn:0<n) (hme:me<pn) {s:GaS (mrW n false pb tb pn nc)} (hs:MrS ⟨⟨me,some v::rest,pa,ta,.load⟩,.c0⟩ s) :
  OfferT (mrG n pb tb pn nc mr r b h1 h2 h3 sb says turn fin wg (all [mrLst pb tb pn me pa,Ro])) n v s fun q s'=>MrS ⟨⟨me,rest,if q=true then pa++[v] else pa,ta,.load⟩,.c0⟩ s':=by
 have hpm:∀ (cs:List (Option Nat)) (st:QSt) (m:MrSt),∀ h,all [mrLst pb tb pn me pa,Ro] h→(mrW n false pb tb pn nc).Pv (⟨⟨me,cs,pa,ta,st⟩,m⟩:MrT) h:=fun cs st m h z=>by
  show all [mrLst pb tb pn me (mrOut pn (⟨⟨me,cs,pa,ta,st⟩,m⟩:MrT))] h
  rw [show mrOut pn (⟨⟨me,cs,pa,ta,st⟩,m⟩:MrT)=pa from if_pos hme]
  exact all_one h z
 refine ga_go (op:=3) (F:=(fun st:QS=>(mrUp st (2*n+2),(⟨⟨me,some v::rest,pa,ta,.load⟩,.qu⟩:MrT)):QS→QS × MrT)) rfl (by rw [hs.q];rfl) hs.f hs.c (by rw [hs.q];exact hpm _ _ _) fun (st:QS) m1 hm1 _=>⟨by omega,?_⟩
 refine mg_draw (c:=some v) hn (fun _=>rfl) (fun _=>hpm _ _ _) ⟨rfl,fun i _=>rfl,rfl⟩ (fun s' hs'=>?_) fun t s' hs'=>?_
 ·show ite (false=true) _ _
  rw [if_neg (by decide)]
  have e:mrNext false ⟨me,some v::rest,pa,ta,.load⟩ ⟨me,rest,pa,ta,.load⟩=.c1:=if_pos rfl
  rw [e] at hs'
  refine ga_go (op:=3) (F:=(fun st:QS=>(mrUp st (2*n+3),(⟨⟨me,rest,pa,ta,.load⟩,.c0⟩:MrT)):QS→QS × MrT)) rfl (by rw [hs'.q];rfl) hs'.f hs'.c (by rw [hs'.q];exact hpm _ _ _) fun (st:QS) m1 hm1 _=>⟨by omega,?_⟩
  exact ⟨rfl,fun i _=>rfl,rfl⟩
 ·have hmod:t%n<n:=Nat.mod_lt _ hn
  refine mg_lift hs' (op:=2) rfl rfl rfl (hpm _ _ _) fun st m1 hm1=>⟨by show 3+2*(t%n)<2*n+5;omega,?_⟩
  refine mg_lift (q:=⟨⟨me,some v::rest,pa,ta,.rel t v⟩,.qu⟩) ⟨by dsimp only;rw [if_pos rfl],fun i _=>rfl,rfl⟩ (op:=2) rfl rfl rfl (hpm _ _ _) fun st' m2 hm2=>⟨by show 2+2*(t%n)<2*n+5;omega,?_⟩
  show ite (true=true) _ _
  rw [if_pos rfl]
  refine ⟨?_,fun i _=>rfl,rfl⟩
  dsimp only
  rw [if_neg (by simp),if_pos rfl]
  simp [mrNext]
  rfl
theorem mg_take (hn:0<n) (hme:¬ me<pn) {s:GaS (mrW n false pb tb pn nc)} (hs:MrS ⟨⟨me,none::rest,pa,ta,.load⟩,.c0⟩ s) :
  MTakeT (mrG n pb tb pn nc mr r b h1 h2 h3 sb says turn fin wg (all [mrLst pb tb pn me ta,Ro])) n s fun q s'=>MrS ⟨⟨me,rest,pa,(match q with | some v=>ta++[v] | none=>ta),.load⟩,.c0⟩ s':=by
 have hpm:∀ (cs:List (Option Nat)) (st:QSt),∀ h,all [mrLst pb tb pn me ta,Ro] h→(mrW n false pb tb pn nc).Pv (⟨⟨me,cs,pa,ta,st⟩,.c0⟩:MrT) h:=fun cs st h z=>by
  show all [mrLst pb tb pn me (mrOut pn (⟨⟨me,cs,pa,ta,st⟩,.c0⟩:MrT))] h
  rw [show mrOut pn (⟨⟨me,cs,pa,ta,st⟩,.c0⟩:MrT)=ta from if_neg hme]
  exact all_one h z
 refine mg_draw (c:=none) hn (fun _=>rfl) (fun _=>hpm _ _) hs (fun s' hs'=>?_) fun t s' hs'=>?_
 ·have e:mrNext false ⟨me,none::rest,pa,ta,.load⟩ ⟨me,rest,pa,ta,.load⟩=.c0:=if_pos rfl
  rw [e] at hs'
  exact hs'
 ·have hmod:t%n<n:=Nat.mod_lt _ hn
  refine mg_lift hs' (op:=1) rfl rfl rfl (hpm _ _) fun st m1 hm1=>⟨by show 3+2*(t%n)<2*n+5;omega,?_⟩
  refine mg_lift (q:=⟨⟨me,none::rest,pa,ta,.rel t (st.f (3+2*(t%n)))⟩,.c0⟩) ⟨by dsimp only;rw [if_pos rfl],fun i _=>rfl,rfl⟩ (op:=2) rfl rfl rfl (hpm _ _) fun st' m2 hm2=>⟨by show 2+2*(t%n)<2*n+5;omega,?_⟩
  show (mrG n pb tb pn nc mr r b h1 h2 h3 sb says turn fin wg (all [mrLst pb tb pn me ta,Ro])).step 3 2 _ _
  refine ga_go (op:=3) (F:=(fun st2:QS=>(mrUp st2 (2*n+4),(⟨⟨me,rest,pa,ta++[st.f (3+2*(t%n))],.load⟩,.c0⟩:MrT)):QS→QS × MrT)) rfl ?_ (fun i _=>rfl) rfl ?_ fun (st2:QS) m3 hm3 _=>⟨by omega,?_⟩
  ·dsimp only
   rw [if_neg (by simp)]
   simp only [mrNext,List.length_append,List.length_singleton,Nat.add_eq_left,Nat.one_ne_zero,if_false]
   rfl
  ·dsimp only
   rw [if_neg (by simp)]
   simp only [mrNext,List.length_append,List.length_singleton,Nat.add_eq_left,Nat.one_ne_zero,if_false]
   intro h z
   show all [mrLst pb tb pn me (mrOut pn (⟨⟨me,rest,pa,ta++[st.f (3+2*(t%n))],.load⟩,.c2⟩:MrT))] h
   rw [show mrOut pn (⟨⟨me,rest,pa,ta++[st.f (3+2*(t%n))],.load⟩,.c2⟩:MrT)=(ta++[st.f (3+2*(t%n))]).dropLast from if_neg hme,List.dropLast_concat]
   exact all_one h z
  ·exact ⟨rfl,fun i _=>rfl,rfl⟩
end
end
end Go.Proofs.Ytmkkanmkjfnpdaa
namespace Go.Proofs.Ytmkkanmkjfnpdaa
open Go Go.PB
attribute [local irreducible] Mo Bin Eql Tr Wo Ap Wle
attribute [local instance] Pass.of_no
section
abbrev qVal (k i:Nat):Nat:=k*4294967296+i
def qpCs (k W:Nat):List (Option Nat):=(List.range W).map fun i=>some (qVal k i)
def qtCs (T:Nat):List (Option Nat):=List.replicate T none
theorem qpCs_at {k W i:Nat} (h:i<W):(qpCs k W).drop i=some (qVal k i)::(qpCs k W).drop (i+1):=by
 have hl:i<(qpCs k W).length:=by simp [qpCs];exact h
 rw [List.drop_eq_getElem_cons hl]
 simp [qpCs]
theorem qpCs_end {k W:Nat}:(qpCs k W).drop W=[]:=List.drop_eq_nil_of_le (by simp [qpCs])
theorem qtCs_at {T i:Nat} (h:i<T):(qtCs T).drop i=none::(qtCs T).drop (i+1):=by
 unfold qtCs
 rw [List.drop_replicate,List.drop_replicate,show T-i=(T-(i+1))+1 by omega,List.replicate_succ]
theorem qtCs_end {T:Nat}:(qtCs T).drop T=[]:=List.drop_eq_nil_of_le (by simp [qtCs])
theorem qv_bits {k i:Nat} (hk:k<4) (hi:i<200):IntKind.u64.wrap (BitVec.ofInt IntKind.u64.bits ((k*4294967296:Nat):Int) ||| BitVec.ofInt IntKind.u64.bits ((i:Nat):Int)).toNat=((qVal k i:Nat):Int):=by
 have key:∀ k∈List.range 4,∀ i∈List.range 200,IntKind.u64.wrap (BitVec.ofInt IntKind.u64.bits ((k*4294967296:Nat):Int) ||| BitVec.ofInt IntKind.u64.bits ((i:Nat):Int)).toNat=((qVal k i:Nat):Int):=by decide +kernel
 exact key k (List.mem_range.2 hk) i (List.mem_range.2 hi)
abbrev mpF (xb kb qb pB:Nat):Value:=.func (.func 49) #[] #[.pointer (some ⟨xb,0,none⟩),.pointer (some ⟨kb,0,none⟩),.pointer (some ⟨qb,0,none⟩),.pointer (some ⟨pB,0,none⟩)]
abbrev mtF (yb mb qb tB kb:Nat):Value:=.func (.func 50) #[] #[.pointer (some ⟨yb,0,none⟩),.pointer (some ⟨mb,0,none⟩),.pointer (some ⟨qb,0,none⟩),.pointer (some ⟨tB,0,none⟩),.pointer (some ⟨kb,0,none⟩)]
structure MnRo (Ro:HProp) (yb mb qb pB tB mr pb tb pn tn:Nat) (tries most:Int):Prop where
 q:Rd [Ro] qb 0 (.pointer (some ⟨mr,0,none⟩))
 p:Rd [Ro] pB 0 (.slice (some ⟨pb,0,none⟩) pn pn)
 t:Rd [Ro] tB 0 (.slice (some ⟨tb,0,none⟩) tn tn)
 y:Rd [Ro] yb 3 (.int .i64 tries)
 m:Rd [Ro] mb 0 (.int .i64 most)
section
variable {B:Hand} [Lets B] {gv:Value} {S:Type} {x:S→B.X} {C0:S→HProp} {Ro:HProp} {F:List HProp} {xb yb mb kb qb pB tB mr pb tb pn tn k W T:Nat} {tries most:Int}
def moInv (gv:Value) (x:S→B.X) (C0:S→HProp) (I:Nat→List Nat→S→Prop) (Ro:HProp) (xb kb qb pB pb k W:Nat) (F:List HProp):PB.Inv (Nat × Value × List Nat × S) B.X where
 e:=fun i=>[(0,gv),(1,.pointer (some ⟨xb,0,none⟩)),(2,.pointer (some ⟨kb,0,none⟩)),(3,.pointer (some ⟨qb,0,none⟩)),(4,.pointer (some ⟨pB,0,none⟩)),(6,.int .i64 (i.1:Nat))]
 L:=fun i=>Ro::vec 1 i.2.1 (i.2.2.1.map num)::arr pb k [i.2.1]::arr kb 0 [.int .i64 (k:Nat)]::arr xb 0 [.int .i64 (W:Nat)]::C0 i.2.2.2::F
 x:=fun i=>x i.2.2.2
 ok:=fun i=>i.1≤W∧i.2.2.1.length≤i.1∧I i.1 i.2.2.1 i.2.2.2
set_option maxHeartbeats 4000000 in
theorem moffers_tr {C:List Nat→S→HProp} {I:Nat→List Nat→S→Prop} {s0:S} (hk:k<pn) (hpn:pn≤4) (hW2:W<200) (O:MnRo Ro yb mb qb pB tB mr pb tb pn tn tries most)
  (hop:∀ pa s R h,Star (C pa s::R) h→Star (mrLst pb tb pn k pa::C0 s::R) h) (hsh:∀ pa s R h,Star (mrLst pb tb pn k pa::C0 s::R) h→Star (C pa s::R) h)
  (hOf:∀ i pa s R,i<W→I i pa s→Tr Try.prog B 19 [.pointer (some ⟨mr,0,none⟩),gv,.int .u64 (qVal k i:Nat)] (C pa s::R) (x s) fun v L' x'=>∃ q s',I (i+1) (if q=true then pa++[qVal k i] else pa) s'∧v=.tuple #[.bool q,.int .i64 0]∧L'=C pa s'::R∧x'=x s') (h0:I 0 [] s0) :
  Tr Try.prog B 49 [gv,.pointer (some ⟨xb,0,none⟩),.pointer (some ⟨kb,0,none⟩),.pointer (some ⟨qb,0,none⟩),.pointer (some ⟨pB,0,none⟩)] (C [] s0::Ro::arr xb 0 [.int .i64 (W:Nat)]::arr kb 0 [.int .i64 (k:Nat)]::F) (x s0) fun v L' x'=>∃ pa s',I W pa s'∧v=.tuple #[]∧L'=C pa s'::Ro::F∧x'=x s':=by
 have cell:∀ sv,mrCell pb tb pn k sv=arr pb k [sv]:=fun sv=>by unfold mrCell;rw [if_pos hk,if_pos hk]
 have opn:∀ pa s R h,Star (C pa s::Ro::arr kb 0 [.int .i64 (k:Nat)]::arr xb 0 [.int .i64 (W:Nat)]::R) h→Star ((fun h=>∃ sv,all [vec 1 sv (pa.map num),arr pb k [sv]] h)::Ro::arr kb 0 [.int .i64 (k:Nat)]::arr xb 0 [.int .i64 (W:Nat)]::C0 s::R) h:=fun pa s R h st=>by
  have s1:=hop _ _ _ _ st
  have s2:Star (mrLst pb tb pn k pa::Ro::arr kb 0 [.int .i64 (k:Nat)]::arr xb 0 [.int .i64 (W:Nat)]::C0 s::R) h:=Ent.star (.take .here (.take (.there .here) (.take (.there .here) (.take (.there .here) (.take .here .refl))))) s1
  refine star_map s2 (fun h z=>?_) fun _ z=>z
  obtain ⟨sv,z⟩:=z
  rw [cell] at z
  refine ⟨sv,?_⟩
  have z1:Star [arr pb k [sv],vec 1 sv (pa.map num)] h:=z
  exact (star_swap z1:Star [vec 1 sv (pa.map num),arr pb k [sv]] h)
 have shut:∀ pa s R h sv,Star (Ro::vec 1 sv (pa.map num)::arr pb k [sv]::arr kb 0 [.int .i64 (k:Nat)]::arr xb 0 [.int .i64 (W:Nat)]::C0 s::R) h→Star (C pa s::Ro::arr kb 0 [.int .i64 (k:Nat)]::arr xb 0 [.int .i64 (W:Nat)]::R) h:=fun pa s R h sv st=>by
  refine hsh _ _ _ _ ?_
  have s1:Star (all [arr pb k [sv],vec 1 sv (pa.map num)]::Ro::arr kb 0 [.int .i64 (k:Nat)]::arr xb 0 [.int .i64 (W:Nat)]::C0 s::R) h:=star_shut (M:=[_,_]) (Ent.star (.take (.there (.there .here)) (.take (.there .here) (.take .here (.take .here (.take .here (.take .here .refl)))))) st)
  have s2:Star (mrLst pb tb pn k pa::Ro::arr kb 0 [.int .i64 (k:Nat)]::arr xb 0 [.int .i64 (W:Nat)]::C0 s::R) h:=star_map s1 (fun h z=>⟨sv,by rw [cell];exact z⟩) fun _ z=>z
  exact Ent.star (.take .here (.take (.there (.there (.there .here))) (.take .here (.take .here (.take .here .refl))))) s2
 refine Tr.post (R:=fun v L' x'=>∃ pa s',I W pa s'∧v=.tuple #[]∧x'=x s'∧∀ h,Star L' h→Star (C pa s'::Ro::F) h) ?_
  (by rintro v L' x' ⟨pa,s',a1,rfl,rfl,h2⟩;exact ⟨_,⟨pa,s',a1,rfl,rfl,rfl⟩,h2⟩)
 refine tr_star ((fun h=>∃ sv,all [vec 1 sv (([]:List Nat).map num),arr pb k [sv]] h)::Ro::arr kb 0 [.int .i64 (k:Nat)]::arr xb 0 [.int .i64 (W:Nat)]::C0 s0::F) (fun h st=>opn _ _ _ _ (Ent.star (.take .here (.take .here (.take (.there .here) (.take .here .refl)))) st)) ?_
 refine tr_of_body Try.func49 rfl Try.ntmps49 (by simp) fun um Q _ hQ=>?_
 simp only [argE,Nat.zero_add,Nat.reduceAdd]
 repeat (first | refine we_seq ?_ | (refine wR ?_;try simp only [oS]) | refine wo_nil ?_ | refine wA ?_ | refine we_block ?_)
 refine we_ex .here fun sv0=>?_
 refine we_star (Ro::vec 1 sv0 (([]:List Nat).map num)::arr pb k [sv0]::arr kb 0 [.int .i64 (k:Nat)]::arr xb 0 [.int .i64 (W:Nat)]::C0 s0::F) (fun h st=>Ent.star (.take (.there (.there .here)) (.take .here (.take .here (.take .here (.take .here (.take .here .refl)))))) (star_open (M:=[_,_]) st)) ?_
 refine we_loopN (moInv gv x C0 I Ro xb kb qb pB pb k W F) (fun i=>W-i.1) (0,sv0,[],s0) ⟨Nat.zero_le _,Nat.le_refl _,h0⟩ ⟨rfl,rfl,rfl,rfl,rfl,rfl,trivial⟩ .refl rfl ?_
 clear h0
 rintro ⟨i,sv,pa,s⟩ ⟨hi,hpa,hs⟩
 dsimp only at hi hpa hs
 simp only [moInv]
 have q1:∀ {c1 c2 c3 c4:HProp} {M:List HProp},Rd (c1::c2::c3::c4::arr xb 0 [.int .i64 (W:Nat)]::M) xb 0 (.int .i64 (W:Nat)):=.there (.there (.there (.there (Rd.row (k:=0) rfl rfl))))
 have q3:∀ {M:List HProp},Rd (Ro::M) qb 0 (.pointer (some ⟨mr,0,none⟩)):=Rd.of .here O.q
 have q4:∀ {c1 c2 c3:HProp} {M:List HProp},Rd (c1::c2::c3::arr kb 0 [.int .i64 (k:Nat)]::M) kb 0 (.int .i64 (k:Nat)):=.there (.there (.there (Rd.row (k:=0) rfl rfl)))
 have q5:∀ {M:List HProp},Rd (Ro::M) pB 0 (.slice (some ⟨pb,0,none⟩) pn pn):=Rd.of .here O.p
 by_cases hlt:i<W
 ·have w1:IntKind.u64.wrap ((k:Nat):Int)=((k:Nat):Int):=wrap_u64 (by omega) (by omega)
  have w2:IntKind.u64.wrap (((k:Nat):Int)*2^(min (32:Int).toNat IntKind.u64.bits))=((k*4294967296:Nat):Int):=by
   rw [show (2:Int)^(min (32:Int).toNat IntKind.u64.bits)=4294967296 from by decide,wrap_u64 (by omega) (by omega)];omega
  have w3:IntKind.u64.wrap ((i:Nat):Int)=((i:Nat):Int):=wrap_u64 (by omega) (by omega)
  have w4:=qv_bits (k:=k) (i:=i) (by omega) (by omega)
  repeat (first | (apply wo_po;apply mo_load;exact rfl;(first | exact q1 | exact q3 | exact q4);exact trivial) | (apply wo_po;apply mo_conv;exact rfl;(first | exact w1 | exact w3);exact gY) | (apply wo_po;apply mo_bin;exact rfl;exact rfl;apply bin_shl;omega;exact w2;exact trivial) | (apply wo_po;apply mo_bin;exact rfl;exact rfl;apply bin_or;exact w4;exact trivial) | refine wlssT ?_ | refine we_seq ?_ | (refine wR ?_;try simp only [oS]) | refine wo_nil ?_ | refine wM ?_ | refine wA ?_ | refine wT ?_ | refine we_skip ?_ | refine we_block ?_)
  refine wo_star (C pa s::Ro::arr kb 0 [.int .i64 (k:Nat)]::arr xb 0 [.int .i64 (W:Nat)]::F) (fun h st=>shut _ _ _ _ _ st) ?_
  refine wo_call (.cons rfl (.cons rfl (.cons rfl .nil))) trivial (hOf i pa s _ hlt hs) ?_
  rintro v1 L1 x1 ⟨q,s',hs',rfl,rfl,rfl⟩
  refine wo_star ((fun h=>∃ sv,all [vec 1 sv (pa.map num),arr pb k [sv]] h)::Ro::arr kb 0 [.int .i64 (k:Nat)]::arr xb 0 [.int .i64 (W:Nat)]::C0 s'::F) (fun h st=>opn _ _ _ _ st) ?_
  refine wo_ex .here fun sv=>?_
  refine wo_star (Ro::vec 1 sv (pa.map num)::arr pb k [sv]::arr kb 0 [.int .i64 (k:Nat)]::arr xb 0 [.int .i64 (W:Nat)]::C0 s'::F) (fun h st=>Ent.star (.take (.there (.there .here)) (.take .here (.take .here (.take .here (.take .here (.take .here .refl)))))) (star_open (M:=[_,_]) st)) ?_
  cases q with
  | false =>
   rw [if_neg (by decide)] at hs'
   repeat (first | refine we_seq ?_ | (refine wR ?_;try simp only [oS]) | refine wo_nil ?_ | refine wM ?_ | refine wA ?_ | (apply wo_po;apply mo_extract;exact rfl;exact rfl;exact gY) | refine wadd ?_ | refine wF ?_ | refine we_skip ?_)
   refine at_round (B:=B) (I:=moInv gv x C0 I Ro xb kb qb pB pb k W F) (R:=fun z=>W-z.1<W-i) (i+1,sv,pa,s') (by show W-(i+1)<W-i;omega) ⟨by show i+1≤W;omega,by show pa.length≤i+1;omega,hs'⟩ ⟨rfl,rfl,rfl,rfl,rfl,rfl,trivial⟩ .refl rfl
  | true =>
   rw [if_pos rfl] at hs'
   repeat (first | refine we_seq ?_ | (refine wR ?_;try simp only [oS]) | refine wo_nil ?_ | refine wM ?_ | refine wA ?_ | (apply wo_po;apply mo_extract;exact rfl;exact rfl;exact gY) | refine wT ?_)
   refine we_pure (of_has (.there .here) (vec_shape (by omega))) ?_
   rintro ⟨va,vn,vc,rfl,hvn,_⟩
   have hvn:vn=pa.length:=by simp at hvn;omega
   subst hvn
   let L0:List HProp:=Ro::vec 1 (.slice va pa.length vc) (pa.map num)::arr pb k [.slice va pa.length vc]::arr kb 0 [.int .i64 (k:Nat)]::arr xb 0 [.int .i64 (W:Nat)]::C0 s'::F
   have w0:Rd L0 pb (0+k) (.slice va pa.length vc):=.there (.there (Rd.row (k:=0) rfl (by omega)))
   have u4:Rd L0 kb 0 (.int .i64 (k:Nat)):=q4
   have u5:Rd L0 pB 0 (.slice (some ⟨pb,0,none⟩) pn pn):=q5
   refine we_draw (List.range' 0 11) (by kernel_rfl) ?_
   repeat (first | (apply ap_pure;exact rfl;exact rfl;exact trivial;intro L;apply mo_index1;exact rfl;exact rfl;omega) | (apply ap_read;exact rfl;exact rfl;exact trivial;apply mo_load;exact rfl;(first | exact w0 | exact u4 | exact u5)) | refine aM ?_)
   refine ap_loudR rfl rfl rfl rfl trivial (mo_buildSlice (sz:=1) (vs:=[num (qVal k i)]) rfl (.cons rfl .nil) rfl (by intro v hv;cases (List.mem_singleton.1 hv);exact rfl) (by omega)) ?_ ?_
   ·rintro v L' ⟨sb2,rfl,rfl⟩ p hp
    replace hp:=(List.mem_filter.1 hp).1
    simp only [List.mem_cons,List.not_mem_nil,or_false] at hp
    repeat (rcases hp with rfl | hp;· first | exact .inl rfl | exact .inr ⟨_,rfl,trivial,mo_load rfl (Rd.there (by first | exact w0 | exact u4 | exact u5))⟩)
   rintro v' L' ⟨sb2,rfl,rfl⟩
   refine ap_loudR rfl rfl rfl rfl trivial (mo_append (sz:=1) (new:=[num (qVal k i)]) rfl rfl rfl rfl (.there (.there .here)) rfl (.inr ⟨_,_,rfl,Rds.all .here⟩) (by intro v hv;cases (List.mem_singleton.1 hv);exact rfl) (by simp only [sliceLen];omega)) ?_ ?_
   ·rintro v L' rfl p hp
    replace hp:=(List.mem_filter.1 (List.mem_filter.1 hp).1).1
    simp only [List.mem_cons,List.not_mem_nil,or_false] at hp
    have v0:Rd (vec 1 v (pa.map num++[num (qVal k i)])::arr sb2 0 [num (qVal k i)]::Ro::arr pb k [.slice va pa.length vc]::arr kb 0 [.int .i64 (k:Nat)]::arr xb 0 [.int .i64 (W:Nat)]::C0 s'::F) pb (0+k) (.slice va pa.length vc):=.there (.there (.there (Rd.row (k:=0) rfl (by omega))))
    have v4:Rd (vec 1 v (pa.map num++[num (qVal k i)])::arr sb2 0 [num (qVal k i)]::Ro::arr pb k [.slice va pa.length vc]::arr kb 0 [.int .i64 (k:Nat)]::arr xb 0 [.int .i64 (W:Nat)]::C0 s'::F) kb 0 (.int .i64 (k:Nat)):=.there (.there (.there (.there (Rd.row (k:=0) rfl rfl))))
    have v5:Rd (vec 1 v (pa.map num++[num (qVal k i)])::arr sb2 0 [num (qVal k i)]::Ro::arr pb k [.slice va pa.length vc]::arr kb 0 [.int .i64 (k:Nat)]::arr xb 0 [.int .i64 (W:Nat)]::C0 s'::F) pB 0 (.slice (some ⟨pb,0,none⟩) pn pn):=.there (.there q5)
    repeat (rcases hp with rfl | hp;· first | exact .inl rfl | exact .inr ⟨_,rfl,trivial,mo_load rfl (by first | exact v0 | exact v4 | exact v5)⟩)
   rintro v' L' rfl
   refine ap_know (of_has .here (vec_shape (by omega))) ?_
   rintro ⟨wa,wn,wc,rfl,_⟩
   repeat (first | (apply ap_pure;exact rfl;exact rfl;exact trivial;intro L;apply mo_index1;exact rfl;exact rfl;omega))
   refine ap_loud rfl rfl rfl rfl rfl trivial (mo_store rfl rfl rfl (Wt.row (k:=0) (vs:=[.slice va pa.length vc]) (Nat.lt_succ_self 0) (by omega) (.there (.there (.there .here))))) ?_
   rintro v' L' ⟨rfl,rfl⟩
   refine ap_end ?_
   repeat (first | (refine wR ?_;try simp only [oS]) | refine wo_nil ?_ | refine wM ?_ | refine wA ?_ | refine wadd ?_)
   refine at_roundS (B:=B) (I:=moInv gv x C0 I Ro xb kb qb pB pb k W F) (R:=fun z=>W-z.1<W-i) (i+1,.slice wa wn wc,pa++[qVal k i],s') (by show W-(i+1)<W-i;omega) ⟨by show i+1≤W;omega,by show (pa++[qVal k i]).length≤i+1;simp;omega,hs'⟩ ⟨rfl,rfl,rfl,rfl,rfl,rfl,trivial⟩ (fun hp st=>?_) rfl
   show Star (Ro::vec 1 (.slice wa wn wc) ((pa++[qVal k i]).map num)::arr pb k [.slice wa wn wc]::arr kb 0 [.int .i64 (k:Nat)]::arr xb 0 [.int .i64 (W:Nat)]::C0 s'::F) hp
   rw [List.map_append]
   exact Ent.star (.take (.there (.there .here)) (.take .here (.take (.there .here) (.take (.there .here) (.drop .refl))))) st
 ·obtain rfl:i=W:=by omega
  repeat (first | (apply wo_po;apply mo_load;exact rfl;(first | exact q1 | exact q3 | exact q4);exact trivial) | refine wlssF ?_ | refine we_seq ?_ | (refine wR ?_;try simp only [oS]) | refine wo_nil ?_ | refine wM ?_ | refine wF ?_ | refine we_exit ?_)
  (first | refine or0 Try.func49 Try.results49 hQ ?_ | refine on0 Try.func49 Try.results49 hQ ?_)
  refine ⟨pa,s,hs,rfl,rfl,fun h st=>?_⟩
  have s1:=shut _ _ _ _ _ st
  exact Ent.star (.take .here (.take .here (.drop (.drop .refl)))) s1
def mtInv (gv:Value) (x:S→B.X) (C0:S→HProp) (I:Nat→List Nat→S→Prop) (Ro:HProp) (yb mb qb tB kb tb k T:Nat) (F:List HProp):PB.Inv (Nat × Value × List Nat × S) B.X where
 e:=fun i=>[(0,gv),(1,.pointer (some ⟨yb,0,none⟩)),(2,.pointer (some ⟨mb,0,none⟩)),(3,.pointer (some ⟨qb,0,none⟩)),(4,.pointer (some ⟨tB,0,none⟩)),(5,.pointer (some ⟨kb,0,none⟩)),(13,.int .i64 (T:Nat)),(14,.int .i64 (i.1:Nat))]
 L:=fun i=>Ro::vec 1 i.2.1 (i.2.2.1.map num)::arr tb k [i.2.1]::arr kb 0 [.int .i64 (k:Nat)]::C0 i.2.2.2::F
 x:=fun i=>x i.2.2.2
 ok:=fun i=>i.1≤T∧i.2.2.1.length≤i.1∧I i.1 i.2.2.1 i.2.2.2
set_option maxHeartbeats 4000000 in
theorem mtakes_tr {C:List Nat→S→HProp} {I:Nat→List Nat→S→Prop} {s0:S} (hk:k<tn) (htn:tn≤4) (hm:0<most∧most≤200) (hb:-9223372036854775808≤tries∧tries≤9223372036854775807) (hT:tries%most=T) (O:MnRo Ro yb mb qb pB tB mr pb tb pn tn tries most)
  (hop:∀ ta s R h,Star (C ta s::R) h→Star (mrLst pb tb pn (pn+k) ta::C0 s::R) h) (hsh:∀ ta s R h,Star (mrLst pb tb pn (pn+k) ta::C0 s::R) h→Star (C ta s::R) h)
  (hTk:∀ i ta s R,i<T→I i ta s→Tr Try.prog B 20 [.pointer (some ⟨mr,0,none⟩),gv] (C ta s::R) (x s) fun v L' x'=>∃ q s',I (i+1) (match q with | some v=>ta++[v] | none=>ta) s'∧q.getD 0<18446744073709551616∧v=.tuple #[.int .u64 (q.getD 0:Nat),.bool q.isSome,.int .i64 0]∧L'=C ta s'::R∧x'=x s') (h0:I 0 [] s0) :
  Tr Try.prog B 50 [gv,.pointer (some ⟨yb,0,none⟩),.pointer (some ⟨mb,0,none⟩),.pointer (some ⟨qb,0,none⟩),.pointer (some ⟨tB,0,none⟩),.pointer (some ⟨kb,0,none⟩)] (C [] s0::Ro::arr kb 0 [.int .i64 (k:Nat)]::F) (x s0) fun v L' x'=>∃ ta s',I T ta s'∧v=.tuple #[]∧L'=C ta s'::Ro::F∧x'=x s':=by
 have e1:=Int.emod_nonneg tries (by omega:most≠0)
 have e2:=Int.emod_lt_of_pos tries hm.1
 have hT2:T<200:=by omega
 have cell:∀ sv,mrCell pb tb pn (pn+k) sv=arr tb k [sv]:=fun sv=>by unfold mrCell;rw [if_neg (by omega),if_neg (by omega),Nat.add_sub_cancel_left]
 have opn:∀ pa s R h,Star (C pa s::Ro::arr kb 0 [.int .i64 (k:Nat)]::R) h→Star ((fun h=>∃ sv,all [vec 1 sv (pa.map num),arr tb k [sv]] h)::Ro::arr kb 0 [.int .i64 (k:Nat)]::C0 s::R) h:=fun pa s R h st=>by
  have s1:=hop _ _ _ _ st
  have s2:Star (mrLst pb tb pn (pn+k) pa::Ro::arr kb 0 [.int .i64 (k:Nat)]::C0 s::R) h:=Ent.star (.take .here (.take (.there .here) (.take (.there .here) (.take .here .refl)))) s1
  refine star_map s2 (fun h z=>?_) fun _ z=>z
  obtain ⟨sv,z⟩:=z
  rw [cell] at z
  refine ⟨sv,?_⟩
  have z1:Star [arr tb k [sv],vec 1 sv (pa.map num)] h:=z
  exact (star_swap z1:Star [vec 1 sv (pa.map num),arr tb k [sv]] h)
 have shut:∀ pa s R h sv,Star (Ro::vec 1 sv (pa.map num)::arr tb k [sv]::arr kb 0 [.int .i64 (k:Nat)]::C0 s::R) h→Star (C pa s::Ro::arr kb 0 [.int .i64 (k:Nat)]::R) h:=fun pa s R h sv st=>by
  refine hsh _ _ _ _ ?_
  have s1:Star (all [arr tb k [sv],vec 1 sv (pa.map num)]::Ro::arr kb 0 [.int .i64 (k:Nat)]::C0 s::R) h:=star_shut (M:=[_,_]) (Ent.star (.take (.there (.there .here)) (.take (.there .here) (.take .here (.take .here (.take .here .refl))))) st)
  have s2:Star (mrLst pb tb pn (pn+k) pa::Ro::arr kb 0 [.int .i64 (k:Nat)]::C0 s::R) h:=star_map s1 (fun h z=>⟨sv,by rw [cell];exact z⟩) fun _ z=>z
  exact Ent.star (.take .here (.take (.there (.there .here)) (.take .here (.take .here .refl)))) s2
 refine Tr.post (R:=fun v L' x'=>∃ pa s',I T pa s'∧v=.tuple #[]∧x'=x s'∧∀ h,Star L' h→Star (C pa s'::Ro::F) h) ?_
  (by rintro v L' x' ⟨pa,s',a1,rfl,rfl,h2⟩;exact ⟨_,⟨pa,s',a1,rfl,rfl,rfl⟩,h2⟩)
 refine tr_star ((fun h=>∃ sv,all [vec 1 sv (([]:List Nat).map num),arr tb k [sv]] h)::Ro::arr kb 0 [.int .i64 (k:Nat)]::C0 s0::F) (fun h st=>opn _ _ _ _ st) ?_
 have q1:∀ {c1:HProp} {M:List HProp},Rd (c1::Ro::M) yb (0+3) (.int .i64 tries):=.there (Rd.of .here O.y)
 have q2:∀ {c1:HProp} {M:List HProp},Rd (c1::Ro::M) mb 0 (.int .i64 most):=.there (Rd.of .here O.m)
 have q3:∀ {M:List HProp},Rd (Ro::M) qb 0 (.pointer (some ⟨mr,0,none⟩)):=Rd.of .here O.q
 have q4:∀ {c1 c2 c3:HProp} {M:List HProp},Rd (c1::c2::c3::arr kb 0 [.int .i64 (k:Nat)]::M) kb 0 (.int .i64 (k:Nat)):=.there (.there (.there (Rd.row (k:=0) rfl rfl)))
 have q5:∀ {M:List HProp},Rd (Ro::M) tB 0 (.slice (some ⟨tb,0,none⟩) tn tn):=Rd.of .here O.t
 refine tr_of_body Try.func50 rfl Try.ntmps50 (by simp) fun um Q _ hQ=>?_
 simp only [argE,Nat.zero_add,Nat.reduceAdd]
 repeat (first | (apply wo_po;apply mo_load;exact rfl;(first | exact q1 | exact q2);exact trivial) | refine we_seq ?_ | (refine wR ?_;try simp only [oS]) | refine wD ?_)
 refine wo_call (.cons rfl (.cons rfl .nil)) trivial (within_tr hb (by omega)) ?_
 rintro v1 L1 x1 ⟨rfl,rfl,rfl⟩
 rw [hT]
 repeat (first | refine wo_nil ?_ | refine wM ?_ | refine we_block ?_)
 refine we_ex .here fun sv0=>?_
 refine we_star (Ro::vec 1 sv0 (([]:List Nat).map num)::arr tb k [sv0]::arr kb 0 [.int .i64 (k:Nat)]::C0 s0::F) (fun h st=>Ent.star (.take (.there (.there .here)) (.take .here (.take .here (.take .here (.take .here .refl))))) (star_open (M:=[_,_]) st)) ?_
 refine we_loopN (mtInv gv x C0 I Ro yb mb qb tB kb tb k T F) (fun i=>T-i.1) (0,sv0,[],s0) ⟨Nat.zero_le _,Nat.le_refl _,h0⟩ ⟨rfl,rfl,rfl,rfl,rfl,rfl,rfl,rfl,trivial⟩ .refl rfl ?_
 clear h0
 rintro ⟨i,sv,ta,s⟩ ⟨hi,hta,hs⟩
 dsimp only at hi hta hs
 simp only [mtInv]
 by_cases hlt:i<T
 ·repeat (first | (apply wo_po;apply mo_load;exact rfl;(first | exact q3);exact trivial) | refine wlssT ?_ | refine we_seq ?_ | (refine wR ?_;try simp only [oS]) | refine wo_nil ?_ | refine wM ?_ | refine wT ?_ | refine we_skip ?_ | refine we_block ?_)
  refine wo_star (C ta s::Ro::arr kb 0 [.int .i64 (k:Nat)]::F) (fun h st=>shut _ _ _ _ _ st) ?_
  refine wo_call (.cons rfl (.cons rfl .nil)) trivial (hTk i ta s _ hlt hs) ?_
  rintro v1 L1 x1 ⟨q,s',hs',hq,rfl,rfl,rfl⟩
  refine wo_star ((fun h=>∃ sv,all [vec 1 sv (ta.map num),arr tb k [sv]] h)::Ro::arr kb 0 [.int .i64 (k:Nat)]::C0 s'::F) (fun h st=>opn _ _ _ _ st) ?_
  refine wo_ex .here fun sv=>?_
  refine wo_star (Ro::vec 1 sv (ta.map num)::arr tb k [sv]::arr kb 0 [.int .i64 (k:Nat)]::C0 s'::F) (fun h st=>Ent.star (.take (.there (.there .here)) (.take .here (.take .here (.take .here (.take .here .refl))))) (star_open (M:=[_,_]) st)) ?_
  cases q with
  | none =>
   repeat (first | refine we_seq ?_ | (refine wR ?_;try simp only [oS]) | refine wo_nil ?_ | refine wM ?_ | refine wA ?_ | (apply wo_po;apply mo_extract;exact rfl;exact rfl;exact gY) | refine wadd ?_ | refine wF ?_ | refine we_skip ?_)
   refine at_round (B:=B) (I:=mtInv gv x C0 I Ro yb mb qb tB kb tb k T F) (R:=fun z=>T-z.1<T-i) (i+1,sv,ta,s') (by show T-(i+1)<T-i;omega) ⟨by show i+1≤T;omega,by show ta.length≤i+1;omega,hs'⟩ ⟨rfl,rfl,rfl,rfl,rfl,rfl,rfl,rfl,trivial⟩ .refl rfl
  | some v0 =>
   repeat (first | refine we_seq ?_ | (refine wR ?_;try simp only [oS]) | refine wo_nil ?_ | refine wM ?_ | refine wA ?_ | (apply wo_po;apply mo_extract;exact rfl;exact rfl;exact gY) | refine wT ?_)
   refine we_pure (of_has (.there .here) (vec_shape (by omega))) ?_
   rintro ⟨va,vn,vc,rfl,hvn,_⟩
   have hvn:vn=ta.length:=by simp at hvn;omega
   subst hvn
   let L0:List HProp:=Ro::vec 1 (.slice va ta.length vc) (ta.map num)::arr tb k [.slice va ta.length vc]::arr kb 0 [.int .i64 (k:Nat)]::C0 s'::F
   have w0:Rd L0 tb (0+k) (.slice va ta.length vc):=.there (.there (Rd.row (k:=0) rfl (by omega)))
   have u4:Rd L0 kb 0 (.int .i64 (k:Nat)):=q4
   have u5:Rd L0 tB 0 (.slice (some ⟨tb,0,none⟩) tn tn):=q5
   refine we_draw (List.range' 0 11) (by kernel_rfl) ?_
   repeat (first | (apply ap_pure;exact rfl;exact rfl;exact trivial;intro L;apply mo_index1;exact rfl;exact rfl;omega) | (apply ap_read;exact rfl;exact rfl;exact trivial;apply mo_load;exact rfl;(first | exact w0 | exact u4 | exact u5)) | refine aM ?_)
   refine ap_loudR rfl rfl rfl rfl trivial (mo_buildSlice (sz:=1) (vs:=[num v0]) rfl (.cons rfl .nil) rfl (by intro v hv;cases (List.mem_singleton.1 hv);exact rfl) (by omega)) ?_ ?_
   ·rintro v L' ⟨sb2,rfl,rfl⟩ p hp
    replace hp:=(List.mem_filter.1 hp).1
    simp only [List.mem_cons,List.not_mem_nil,or_false] at hp
    repeat (rcases hp with rfl | hp;· first | exact .inl rfl | exact .inr ⟨_,rfl,trivial,mo_load rfl (Rd.there (by first | exact w0 | exact u4 | exact u5))⟩)
   rintro v' L' ⟨sb2,rfl,rfl⟩
   refine ap_loudR rfl rfl rfl rfl trivial (mo_append (sz:=1) (new:=[num v0]) rfl rfl rfl rfl (.there (.there .here)) rfl (.inr ⟨_,_,rfl,Rds.all .here⟩) (by intro v hv;cases (List.mem_singleton.1 hv);exact rfl) (by simp only [sliceLen];omega)) ?_ ?_
   ·rintro v L' rfl p hp
    replace hp:=(List.mem_filter.1 (List.mem_filter.1 hp).1).1
    simp only [List.mem_cons,List.not_mem_nil,or_false] at hp
    have v0':Rd (vec 1 v (ta.map num++[num v0])::arr sb2 0 [num v0]::Ro::arr tb k [.slice va ta.length vc]::arr kb 0 [.int .i64 (k:Nat)]::C0 s'::F) tb (0+k) (.slice va ta.length vc):=.there (.there (.there (Rd.row (k:=0) rfl (by omega))))
    have v4:Rd (vec 1 v (ta.map num++[num v0])::arr sb2 0 [num v0]::Ro::arr tb k [.slice va ta.length vc]::arr kb 0 [.int .i64 (k:Nat)]::C0 s'::F) kb 0 (.int .i64 (k:Nat)):=.there (.there (.there (.there (Rd.row (k:=0) rfl rfl))))
    have v5:Rd (vec 1 v (ta.map num++[num v0])::arr sb2 0 [num v0]::Ro::arr tb k [.slice va ta.length vc]::arr kb 0 [.int .i64 (k:Nat)]::C0 s'::F) tB 0 (.slice (some ⟨tb,0,none⟩) tn tn):=.there (.there q5)
    repeat (rcases hp with rfl | hp;· first | exact .inl rfl | exact .inr ⟨_,rfl,trivial,mo_load rfl (by first | exact v0' | exact v4 | exact v5)⟩)
   rintro v' L' rfl
   refine ap_know (of_has .here (vec_shape (by omega))) ?_
   rintro ⟨wa,wn,wc,rfl,_⟩
   repeat (first | (apply ap_pure;exact rfl;exact rfl;exact trivial;intro L;apply mo_index1;exact rfl;exact rfl;omega))
   refine ap_loud rfl rfl rfl rfl rfl trivial (mo_store rfl rfl rfl (Wt.row (k:=0) (vs:=[.slice va ta.length vc]) (Nat.lt_succ_self 0) (by omega) (.there (.there (.there .here))))) ?_
   rintro v' L' ⟨rfl,rfl⟩
   refine ap_end ?_
   repeat (first | (refine wR ?_;try simp only [oS]) | refine wo_nil ?_ | refine wM ?_ | refine wadd ?_)
   refine at_roundS (B:=B) (I:=mtInv gv x C0 I Ro yb mb qb tB kb tb k T F) (R:=fun z=>T-z.1<T-i) (i+1,.slice wa wn wc,ta++[v0],s') (by show T-(i+1)<T-i;omega) ⟨by show i+1≤T;omega,by show (ta++[v0]).length≤i+1;simp;omega,hs'⟩ ⟨rfl,rfl,rfl,rfl,rfl,rfl,rfl,rfl,trivial⟩ (fun hp st=>?_) rfl
   show Star (Ro::vec 1 (.slice wa wn wc) ((ta++[v0]).map num)::arr tb k [.slice wa wn wc]::arr kb 0 [.int .i64 (k:Nat)]::C0 s'::F) hp
   rw [List.map_append]
   exact Ent.star (.take (.there (.there .here)) (.take .here (.take (.there .here) (.take (.there .here) (.drop .refl))))) st
 ·obtain rfl:i=T:=by omega
  repeat (first | refine wlssF ?_ | refine we_seq ?_ | (refine wR ?_;try simp only [oS]) | refine wo_nil ?_ | refine wF ?_ | refine we_exit ?_)
  (first | refine or0 Try.func50 Try.results50 hQ ?_ | refine on0 Try.func50 Try.results50 hQ ?_)
  refine ⟨ta,s,hs,rfl,rfl,fun h st=>?_⟩
  have s1:=shut _ _ _ _ _ st
  exact Ent.star (.take .here (.take .here (.drop .refl))) s1
end
end
section
section
variable {n j pb tb pn nc mr r b:Nat} {h1:r≠b} {h2:mr≠r} {h3:mr≠b} {wg:Nat} {Ro p:HProp} {L F:List HProp} {me v m0:Nat} {pa ta:List Nat} {rest:List (Option Nat)}
end
theorem g_op {G:WGm} {addr:Nat→Nat × Nat} {N sb says turn fin:Nat} {K:List (Nat × Nat × Value)} {f:Nat→Nat} {c:G.ζ} {p Ro:HProp} {R:List HProp} {h:Hp} (st:Star (gaC G addr N K sb says turn fin (all [p,Ro]) f c::R) h):Star (p::gaC G addr N K sb says turn fin Ro f c::R) h:=by
 have s1:Star (wds addr N K f::G.Z c::seatR sb says turn fin::all [p,Ro]::R) h:=star_open (M:=[_,_,_,_]) st
 have s2:Star (all [p,Ro]::wds addr N K f::G.Z c::seatR sb says turn fin::R) h:=Ent.star (.take (.there (.there (.there .here))) (.take .here (.take .here (.take .here .refl)))) s1
 have s3:Star (p::Ro::wds addr N K f::G.Z c::seatR sb says turn fin::R) h:=star_open (M:=[_,_]) s2
 have s4:Star (wds addr N K f::G.Z c::seatR sb says turn fin::Ro::p::R) h:=Ent.star (.take (.there (.there .here)) (.take (.there (.there .here)) (.take (.there (.there .here)) (.take (.there .here) (.take .here .refl))))) s3
 exact star_swap (star_shut (M:=[_,_,_,_]) s4)
theorem g_sh {G:WGm} {addr:Nat→Nat × Nat} {N sb says turn fin:Nat} {K:List (Nat × Nat × Value)} {f:Nat→Nat} {c:G.ζ} {p Ro:HProp} {R:List HProp} {h:Hp} (st:Star (p::gaC G addr N K sb says turn fin Ro f c::R) h):Star (gaC G addr N K sb says turn fin (all [p,Ro]) f c::R) h:=by
 have s1:Star (wds addr N K f::G.Z c::seatR sb says turn fin::Ro::p::R) h:=star_open (M:=[_,_,_,_]) (star_swap st)
 have s2:Star (p::Ro::wds addr N K f::G.Z c::seatR sb says turn fin::R) h:=Ent.star (.take (.there (.there (.there (.there .here)))) (.take (.there (.there (.there .here))) (.take .here (.take .here (.take .here .refl))))) s1
 have s3:Star (all [p,Ro]::wds addr N K f::G.Z c::seatR sb says turn fin::R) h:=star_shut (M:=[_,_]) s2
 exact star_shut (M:=[_,_,_,_]) (Ent.star (.take (.there .here) (.take (.there .here) (.take (.there .here) (.take .here .refl)))) s3)
def mrM (Ro:HProp) (cb i:Nat) (bx:HProp):HProp:=all [all [Ro,bx],arr cb i [.slice none 0 0]]
def mrBx (xb kb W k:Nat):HProp:=all [arr xb 0 [.int .i64 (W:Nat)],arr kb 0 [.int .i64 (k:Nat)]]
theorem mrM_open {Ro bx:HProp} {cb i pb tb pn me:Nat} (hd:Dup Ro) (hc:∀ sv,mrCell pb tb pn me sv=arr cb i [sv]) {R:List HProp} {h:Hp} (st:Star (mrM Ro cb i bx::R) h):Star (mrLst pb tb pn me []::Ro::Ro::bx::R) h:=by
 have s1:Star (all [Ro,bx]::arr cb i [.slice none 0 0]::R) h:=star_open (M:=[_,_]) st
 have s2:Star (Ro::bx::arr cb i [.slice none 0 0]::R) h:=star_open (M:=[_,_]) s1
 have s3:=hd _ _ s2
 have s4:Star (vec 1 (.slice none 0 0) (([]:List Nat).map num)::Ro::Ro::bx::arr cb i [.slice none 0 0]::R) h:=vec_nil s3
 have s5:Star (all [arr cb i [.slice none 0 0],vec 1 (.slice none 0 0) (([]:List Nat).map num)]::Ro::Ro::bx::R) h:=star_shut (M:=[_,_]) (Ent.star (.take (.there (.there (.there (.there .here)))) (.take .here (.take .here (.take .here (.take .here .refl))))) s4)
 exact star_map s5 (fun h z=>⟨_,by rw [hc];exact z⟩) fun _ z=>z
section
variable {n j pb tb pn tn nc mr r b:Nat} {h1:r≠b} {h2:mr≠r} {h3:mr≠b} {Ro:HProp} {xb yb mb kb qb pB tB k W T:Nat} {tries most:Int}
abbrev mrGm (n:Nat) (fr:Bool) (pb tb pn nc mr r b:Nat):Game:=(mrW n fr pb tb pn nc).g (maddr mr r b n) (2*n+5) []
theorem mr_done {me:Nat} {out pa ta:List Nat} {sb says turn fin:Nat} {R:List HProp} {s':GaS (mrW n false pb tb pn nc)} (hs':MrS ⟨⟨me,[],pa,ta,.load⟩,.c0⟩ s') (ho:mrOut pn (⟨⟨me,[],pa,ta,.load⟩,.c0⟩:MrT)=out) {hp:Hp} (st:Star (gaC (mrW n false pb tb pn nc) (maddr mr r b n) (2*n+5) [] sb says turn fin (all [mrLst pb tb pn me out,Ro]) s'.f s'.c::Ro::R) hp) :
  Star ((mrGm n false pb tb pn nc mr r b).U s'.s::seatR sb says turn fin::(mrGm n false pb tb pn nc mr r b).Fin s'.q::R) hp:=by
 have s1:Star (mrLst pb tb pn me out::gaC (mrW n false pb tb pn nc) (maddr mr r b n) (2*n+5) [] sb says turn fin Ro s'.f s'.c::Ro::R) hp:=g_op st
 have s2:Star (wds (maddr mr r b n) (2*n+5) [] s'.f::newsC nc::seatR sb says turn fin::Ro::mrLst pb tb pn me out::Ro::R) hp:=star_open (M:=[_,_,_,_]) (star_swap s1)
 have s3:Star (wds (maddr mr r b n) (2*n+5) [] (show QS from s'.s).f::newsC nc::seatR sb says turn fin::Ro::mrLst pb tb pn me out::Ro::R) hp:=star_map s2 (wds_congr hs'.f) fun _ z=>z
 have s4:Star (all [mrLst pb tb pn me out]::wds (maddr mr r b n) (2*n+5) [] (show QS from s'.s).f::newsC nc::seatR sb says turn fin::R) hp:=star_shut (M:=[_]) (Ent.star (.take (.there (.there (.there (.there .here)))) (.take .here (.take .here (.take .here (.drop (.drop .refl)))))) s3)
 have s5:Star ((mrGm n false pb tb pn nc mr r b).U s'.s::all [mrLst pb tb pn me out]::seatR sb says turn fin::R) hp:=star_shut (M:=[_,_]) (Ent.star (.take (.there .here) (.take (.there .here) (.take .here (.take .here .refl)))) s4)
 have e:(mrGm n false pb tb pn nc mr r b).Fin s'.q=all [mrLst pb tb pn me out]:=by
  show all [mrLst pb tb pn _ (mrOut pn s'.q)]=_
  rw [hs'.q,ho]
 rw [e]
 exact Ent.star (.take .here (.take (.there .here) (.take .here .refl))) s5
theorem mP_ok (hne:r≠b) (hm1:mr≠r) (hm2:mr≠b) (hn:n=2^j) (hj:1≤j∧j≤10) (hk:k<pn) (hpn:pn≤4) (hW:W<200) (O:MnRo Ro yb mb qb pB tB mr pb tb pn tn tries most) (OM:MrRo Ro mr r b n nc) (hd:Dup Ro) :
  ThrOk (mrGm n false pb tb pn nc mr r b) (fun s=>(s,(⟨⟨k,qpCs k W,[],[],.load⟩,.c0⟩:MrT))) (mpF xb kb qb pB) (mrM Ro pb k (mrBx xb kb W k)) where
 run:=by
  have hpos:0<n:=by rw [hn];exact Nat.two_pow_pos j
  refine ⟨_,_,_,rfl,inferInstance,fun sb says turn fin wg (s:QS) m F hok=>?_⟩
  let C:List Nat→GaS (mrW n false pb tb pn nc)→HProp:=fun pa s=>gaC (mrW n false pb tb pn nc) (maddr mr r b n) (2*n+5) [] sb says turn fin (all [mrLst pb tb pn k pa,Ro]) s.f s.c
  let X:GaS (mrW n false pb tb pn nc)→TX:=fun s=>tx (mrGm n false pb tb pn nc mr r b) says turn fin wg (.busy s.s s.q s.n)
  refine tr_star (C [] ⟨s.f,(),s,(⟨⟨k,qpCs k W,[],[],.load⟩,.c0⟩:MrT),m⟩::Ro::arr xb 0 [.int .i64 (W:Nat)]::arr kb 0 [.int .i64 (k:Nat)]::F) (fun hp st=>?_) ?_
  ·have s1:Star (wds (maddr mr r b n) (2*n+5) [] s.f::newsC nc::seatR sb says turn fin::mrM Ro pb k (mrBx xb kb W k)::F) hp:=star_open (M:=[_,_]) st
   have s2:Star (mrM Ro pb k (mrBx xb kb W k)::wds (maddr mr r b n) (2*n+5) [] s.f::newsC nc::seatR sb says turn fin::F) hp:=Ent.star (.take (.there (.there (.there .here))) (.take .here (.take .here (.take .here .refl)))) s1
   have s3:=mrM_open (pb:=pb) (tb:=tb) (pn:=pn) (me:=k) hd (fun sv=>by unfold mrCell;rw [if_pos hk,if_pos hk]) s2
   have s4:Star (all [mrLst pb tb pn k [],Ro]::Ro::mrBx xb kb W k::wds (maddr mr r b n) (2*n+5) [] s.f::newsC nc::seatR sb says turn fin::F) hp:=star_shut (M:=[_,_]) s3
   have s5:Star (mrBx xb kb W k::wds (maddr mr r b n) (2*n+5) [] s.f::newsC nc::seatR sb says turn fin::all [mrLst pb tb pn k [],Ro]::Ro::F) hp:=Ent.star (.take (.there (.there .here)) (.take (.there (.there .here)) (.take (.there (.there .here)) (.take (.there (.there .here)) (.take .here (.take .here .refl)))))) s4
   have s6:Star (arr xb 0 [.int .i64 (W:Nat)]::arr kb 0 [.int .i64 (k:Nat)]::wds (maddr mr r b n) (2*n+5) [] s.f::newsC nc::seatR sb says turn fin::all [mrLst pb tb pn k [],Ro]::Ro::F) hp:=star_open (M:=[_,_]) s5
   exact star_shut (M:=[_,_,_,_]) (Ent.star (.take (.there (.there .here)) (.take (.there (.there .here)) (.take (.there (.there .here)) (.take (.there (.there .here)) (.take (.there (.there .here)) (.take .here (.take .here .refl))))))) s6)
  refine (moffers_tr (B:=tH) (S:=GaS (mrW n false pb tb pn nc)) (x:=X) (C:=C) (C0:=fun s=>gaC (mrW n false pb tb pn nc) (maddr mr r b n) (2*n+5) [] sb says turn fin Ro s.f s.c) (I:=fun i pa s=>MrS ⟨⟨k,(qpCs k W).drop i,pa,[],.load⟩,.c0⟩ s) hk hpn hW O (fun pa s R h st=>g_op st) (fun pa s R h st=>g_sh st) (fun i pa s R hi hs=>?_) ⟨rfl,fun i _=>rfl,rfl⟩).mono ?_
  ·rw [qpCs_at hi] at hs
   refine (moffer_tr (A:=mrG n pb tb pn nc mr r b hne hm1 hm2 sb says turn fin wg (all [mrLst pb tb pn k pa,Ro])) (mrG_at hn hj.2 OM) mrG_news (v:=qVal k i) (by unfold qVal;omega) (mg_offer hpos hk hs) .here).mono ?_
   rintro v L' x' ⟨q,s',a1,a2,a3,a4⟩
   exact ⟨q,s',a1,a2,a3,a4⟩
  ·rintro v L' x' ⟨pa,s',hs',rfl,rfl,rfl⟩
   rw [qpCs_end] at hs'
   refine ⟨s'.s,s'.q,s'.n,rfl,?_,fun hp st=>?_⟩
   ·show mrPlan n false s'.q=none
    rw [hs'.q];rfl
   ·exact mr_done hs' (if_pos hk) st
theorem mT_ok (hne:r≠b) (hm1:mr≠r) (hm2:mr≠b) (hn:n=2^j) (hj:1≤j∧j≤10) (hk:k<tn) (htn:tn≤4) (hm:0<most∧most≤200) (hb:-9223372036854775808≤tries∧tries≤9223372036854775807) (hT:tries%most=T) (O:MnRo Ro yb mb qb pB tB mr pb tb pn tn tries most) (OM:MrRo Ro mr r b n nc) (hd:Dup Ro) :
  ThrOk (mrGm n false pb tb pn nc mr r b) (fun s=>(s,(⟨⟨pn+k,qtCs T,[],[],.load⟩,.c0⟩:MrT))) (mtF yb mb qb tB kb) (mrM Ro tb k (arr kb 0 [.int .i64 (k:Nat)])) where
 run:=by
  have hpos:0<n:=by rw [hn];exact Nat.two_pow_pos j
  have hnk:¬ pn+k<pn:=by omega
  refine ⟨_,_,_,rfl,inferInstance,fun sb says turn fin wg (s:QS) m F hok=>?_⟩
  let C:List Nat→GaS (mrW n false pb tb pn nc)→HProp:=fun ta s=>gaC (mrW n false pb tb pn nc) (maddr mr r b n) (2*n+5) [] sb says turn fin (all [mrLst pb tb pn (pn+k) ta,Ro]) s.f s.c
  let X:GaS (mrW n false pb tb pn nc)→TX:=fun s=>tx (mrGm n false pb tb pn nc mr r b) says turn fin wg (.busy s.s s.q s.n)
  refine tr_star (C [] ⟨s.f,(),s,(⟨⟨pn+k,qtCs T,[],[],.load⟩,.c0⟩:MrT),m⟩::Ro::arr kb 0 [.int .i64 (k:Nat)]::F) (fun hp st=>?_) ?_
  ·have s1:Star (wds (maddr mr r b n) (2*n+5) [] s.f::newsC nc::seatR sb says turn fin::mrM Ro tb k (arr kb 0 [.int .i64 (k:Nat)])::F) hp:=star_open (M:=[_,_]) st
   have s2:Star (mrM Ro tb k (arr kb 0 [.int .i64 (k:Nat)])::wds (maddr mr r b n) (2*n+5) [] s.f::newsC nc::seatR sb says turn fin::F) hp:=Ent.star (.take (.there (.there (.there .here))) (.take .here (.take .here (.take .here .refl)))) s1
   have s3:=mrM_open (pb:=pb) (tb:=tb) (pn:=pn) (me:=pn+k) hd (fun sv=>by unfold mrCell;rw [if_neg hnk,if_neg hnk,Nat.add_sub_cancel_left]) s2
   have s4:Star (all [mrLst pb tb pn (pn+k) [],Ro]::Ro::arr kb 0 [.int .i64 (k:Nat)]::wds (maddr mr r b n) (2*n+5) [] s.f::newsC nc::seatR sb says turn fin::F) hp:=star_shut (M:=[_,_]) s3
   exact star_shut (M:=[_,_,_,_]) (Ent.star (.take (.there (.there (.there .here))) (.take (.there (.there (.there .here))) (.take (.there (.there (.there .here))) (.take .here (.take .here (.take .here .refl)))))) s4)
  refine (mtakes_tr (B:=tH) (S:=GaS (mrW n false pb tb pn nc)) (x:=X) (C:=C) (C0:=fun s=>gaC (mrW n false pb tb pn nc) (maddr mr r b n) (2*n+5) [] sb says turn fin Ro s.f s.c) (I:=fun i ta s=>MrS ⟨⟨pn+k,(qtCs T).drop i,[],ta,.load⟩,.c0⟩ s) hk htn hm hb hT O (fun pa s R h st=>g_op st) (fun pa s R h st=>g_sh st) (fun i ta s R hi hs=>?_) ⟨rfl,fun i _=>rfl,rfl⟩).mono ?_
  ·rw [qtCs_at hi] at hs
   refine (mtake_tr (A:=mrG n pb tb pn nc mr r b hne hm1 hm2 sb says turn fin wg (all [mrLst pb tb pn (pn+k) ta,Ro])) (mrG_at hn hj.2 OM) (mg_take hpos hnk hs) .here).mono ?_
   rintro v L' x' ⟨q,s',a1,a2,a3,a4,a5⟩
   exact ⟨q,s',a1,a2,a3,a4,a5⟩
  ·rintro v L' x' ⟨ta,s',hs',rfl,rfl,rfl⟩
   rw [qtCs_end] at hs'
   refine ⟨s'.s,s'.q,s'.n,rfl,?_,fun hp st=>?_⟩
   ·show mrPlan n false s'.q=none
    rw [hs'.q];rfl
   ·exact mr_done hs' (if_neg hnk) st
end
end
end Go.Proofs.Ytmkkanmkjfnpdaa
namespace Go.Proofs.Ytmkkanmkjfnpdaa
open Go Go.PB
attribute [local irreducible] Mo Bin Eql Tr Wo Ap Wle
section
def HdrOk (L:List HProp) (vs:List Value) (ls:List (List Nat)):Prop:=vs.length=ls.length∧∀ (i:Nat) l,ls[i]?=some l→∃ a c,vs[i]?=some (.slice a l.length c)∧RdsO L a l.length (l.map num)
theorem mGet_put {k k':Int} {v:Value}:∀ {l:List (Int × Value)},mGet (mPut l k v) k'=if k'=k then some v else mGet l k'
 | []=>by unfold mPut mGet;rfl
 | e::l=>by
  unfold mPut
  by_cases h:k=e.1
  ·rw [if_pos h]
   unfold mGet
   by_cases h2:k'=k
   ·rw [if_pos h2,if_pos h2]
   ·rw [if_neg h2,if_neg h2,if_neg (fun h3=>h2 (h3.trans h.symm))]
  ·rw [if_neg h]
   unfold mGet
   by_cases h2:k'=e.1
   ·rw [if_pos h2,if_neg (fun h3=>h (h3.symm.trans h2)),if_pos h2]
   ·rw [if_neg h2,if_neg h2];exact mGet_put
section
variable {P:Program} {e:Env} {ty:TypeId} {L F:List HProp} {ki:IntKind} {b:Nat} {l:List (Int × Value)}
theorem mo_look2 {t key el:Nat} {kk:IntKind} {zv u:Value} {m ko:Operand} {k:Int} [p:Und P t (.map key el)] [pk:InT P key kk] [z:Zer P el zv] (hG:mGet l k=some u) (hm:ev e m=some (.map (some b))) (hk:ev e ko=some (.int ki k)) (hh:Has L (mapC ki b l) F) :
  Mo P e (.lookup t m ko true) ty L fun v' L'=>v'=.tuple #[u,.bool true]∧L'=L:=by
 have h:=mo_lookup2 (P:=P) (e:=e) (ty:=ty) (L:=L) (F:=F) (t:=t) (ki:=ki) (b:=b) (l:=l) (m:=m) (ko:=ko) (k:=k) (el:=el) (key:=key) (kk:=kk) (zv:=zv) hm hk hh
 rw [hG] at h
 exact h
theorem mo_look1 {t key el:Nat} {kk:IntKind} {zv u:Value} {m ko:Operand} {k:Int} [p:Und P t (.map key el)] [pk:InT P key kk] [z:Zer P el zv] (hG:mGet l k=some u∨(mGet l k=none∧zv=u)) (hm:ev e m=some (.map (some b))) (hk:ev e ko=some (.int ki k)) (hh:Has L (mapC ki b l) F) :
  Mo P e (.lookup t m ko false) ty L fun v' L'=>v'=u∧L'=L:=by
 have h:=mo_lookup1 (P:=P) (e:=e) (ty:=ty) (L:=L) (F:=F) (t:=t) (ki:=ki) (b:=b) (l:=l) (m:=m) (ko:=ko) (k:=k) (el:=el) (key:=key) (kk:=kk) (zv:=zv) hm hk hh
 rcases hG with hG | ⟨hG,rfl⟩ <;> rw [hG] at h <;> exact h
end
section
variable {B:Hand} [Lets B] {L:List HProp} {x:B.X}
theorem prs_nil {qs:List (List Nat)}:prs (qs++[[]])=prs qs:=by rw [prs_snoc];simp [ents]
theorem prs_len {qs:List (List Nat)}:(prs qs).length=qs.flatten.length:=by rw [← List.length_map (f:=(·.1)),prs_fst]
theorem flat_split {ps:List (List Nat)} {l:List Nat} {k i v:Nat} (hk:ps[k]?=some l) (hi:l[i]?=some v):ps.flatten=((ps.take k).flatten++l.take i)++v::(l.drop (i+1)++(ps.drop (k+1)).flatten):=by
 obtain ⟨h1,e1⟩:=List.getElem?_eq_some_iff.1 hk
 obtain ⟨h2,e2⟩:=List.getElem?_eq_some_iff.1 hi
 have d1:ps.drop k=l::ps.drop (k+1):=by rw [List.drop_eq_getElem_cons h1,e1]
 have d2:l.drop i=v::l.drop (i+1):=by rw [List.drop_eq_getElem_cons h2,e2]
 conv=>lhs;rw [← List.take_append_drop k ps,List.flatten_append,d1,List.flatten_cons,← List.take_append_drop i l,d2]
 simp
theorem flat_len {ps:List (List Nat)} {l:List Nat} {k i:Nat} (hk:ps[k]?=some l) (hi:i≤l.length):(prs (ps.take k++[l.take i])).length≤ps.flatten.length:=by
 obtain ⟨h1,e1⟩:=List.getElem?_eq_some_iff.1 hk
 have d1:ps.drop k=l::ps.drop (k+1):=by rw [List.drop_eq_getElem_cons h1,e1]
 rw [prs_len]
 conv=>rhs;rw [← List.take_append_drop k ps,List.flatten_append,d1,List.flatten_cons]
 simp only [List.flatten_append,List.length_append,List.flatten_cons,List.flatten_nil,List.append_nil,List.length_take]
 omega
theorem row_len {ps:List (List Nat)} {l:List Nat} {k:Nat} (hk:ps[k]?=some l):l.length≤ps.flatten.length:=by
 have:=flat_len hk (Nat.le_refl l.length)
 rw [prs_len] at this
 simp only [List.flatten_append,List.length_append,List.flatten_cons,List.flatten_nil,List.append_nil,List.take_length] at this
 omega
theorem flat_new {ps:List (List Nat)} {l:List Nat} {k i v:Nat} (hnd:ps.flatten.Nodup) (hk:ps[k]?=some l) (hi:l[i]?=some v):v∉(prs (ps.take k++[l.take i])).map (·.1):=by
 rw [prs_fst,List.flatten_append]
 rw [flat_split hk hi] at hnd
 have:=(List.nodup_append.1 hnd).2.2
 intro hm
 exact this v (by simpa using hm) v List.mem_cons_self rfl
theorem prs_step {ps:List (List Nat)} {l:List Nat} {k i v:Nat} (hk:ps[k]?=some l) (hi:l[i]?=some v):prs (ps.take k++[l.take (i+1)])=prs (ps.take k++[l.take i])++[((v,(k,i)):KE)]:=by
 obtain ⟨h1,e1⟩:=List.getElem?_eq_some_iff.1 hk
 obtain ⟨h2,e2⟩:=List.getElem?_eq_some_iff.1 hi
 rw [prs_snoc,prs_snoc,List.take_succ_eq_append_getElem h2,ents_snoc,e2,List.length_take,List.length_take,Nat.min_eq_left (by omega),Nat.min_eq_left (by omega),List.append_assoc]
theorem prs_row {ps:List (List Nat)} {l:List Nat} {k:Nat} (hk:ps[k]?=some l):prs (ps.take k++[l.take l.length])=prs (ps.take (k+1)):=by
 obtain ⟨h1,e1⟩:=List.getElem?_eq_some_iff.1 hk
 rw [List.take_length,List.take_succ_eq_append_getElem h1,e1]
def kInv1 (put tak lef:Value) (mb:Nat) (ps:List (List Nat)) (L:List HProp) (x:B.X):PB.Inv Nat B.X where
 e:=fun k=>[(0,put),(1,tak),(2,lef),(6,.bool false),(7,.map (some mb)),(8,.int .i64 (k:Nat))]
 L:=fun k=>mapC .u64 mb ((prs (ps.take k)).map kEnc)::L
 x:=fun _=>x
 ok:=fun k=>k≤ps.length
def kInv2 (put tak lef:Value) (mb:Nat) (ps:List (List Nat)) (k:Nat) (l:List Nat) (L:List HProp) (x:B.X):PB.Inv Nat B.X where
 e:=fun i=>[(0,put),(1,tak),(2,lef),(6,.bool false),(7,.map (some mb)),(8,.int .i64 (k:Nat)),(9,.int .i64 (i:Nat))]
 L:=fun i=>mapC .u64 mb ((prs (ps.take k++[l.take i])).map kEnc)::L
 x:=fun _=>x
 ok:=fun i=>i≤l.length
def kInv3 (put tak lef all_:Value) (mb:Nat) (ls:List (List Nat)) (L:List HProp) (x:B.X):PB.Inv (Nat × List KE) B.X where
 e:=fun i=>[(0,put),(1,tak),(2,lef),(6,.bool false),(7,.map (some mb)),(10,all_),(11,.int .i64 (i.1:Nat))]
 L:=fun i=>mapC .u64 mb (i.2.map kEnc)::L
 x:=fun _=>x
 ok:=fun i=>i.1≤ls.length∧(i.2.map (·.1)).Nodup∧i.2.length≤1000000∧(∀ y∈i.2,y.1<18446744073709551616∧y.2.1<1000000∧y.2.2<1000000)∧KeptA i.2 (ls.drop i.1)
structure K4 where
 i:Nat
 R:List KE
 f:Nat→Nat
 lm:List (Int × Value)
def kInv4 (put tak lef all_:Value) (mb lb:Nat) (ls:List (List Nat)) (t:Nat) (l:List Nat) (L:List HProp) (x:B.X):PB.Inv K4 B.X where
 e:=fun i=>[(0,put),(1,tak),(2,lef),(6,.bool false),(7,.map (some mb)),(10,all_),(11,.int .i64 (t:Nat)),(12,.map (some lb)),(13,.int .i64 (i.i:Nat))]
 L:=fun i=>mapC .u64 mb (i.R.map kEnc)::mapC .i64 lb i.lm::L
 x:=fun _=>x
 ok:=fun i=>i.i≤l.length∧(i.R.map (·.1)).Nodup∧i.R.length≤1000000∧(∀ y∈i.R,y.1<18446744073709551616∧y.2.1<1000000∧y.2.2<1000000)∧KeptL i.R (l.drop i.i) i.f∧KeptA (rmvs i.R (l.drop i.i)) (ls.drop (t+1)) ∧
  ∀ k:Nat,mGet i.lm (k:Nat)=some (.int .i64 (i.f k:Nat))∨(mGet i.lm (k:Nat)=none∧i.f k=0)
set_option maxHeartbeats 4000000 in
theorem kept_tr {pa ta la:Option Addr} {pn pc tn tc ln lc:Nat} {pvs tvs:List Value} {ps ts:List (List Nat)} {left:List Nat} (hp:RdsO L pa pn pvs) (hps:HdrOk L pvs ps) (ht:RdsO L ta tn tvs) (hts:HdrOk L tvs ts) (hl:RdsO L la ln (left.map num))
  (hb1:ps.length≤1000) (hb2:ts.length≤1000) (hb3:ps.flatten.length≤100000) (hb4:∀ v∈ps.flatten,v<18446744073709551616) (hnd:ps.flatten.Nodup) (hbl:∀ l∈ts++[left],l.length≤1000000) (hK:KeptA (prs ps) (ts++[left])) :
  Tr Try.prog B 51 [.slice pa pn pc,.slice ta tn tc,.slice la ln lc] L x fun v L' x'=>v=.bool true∧x'=x:=by
 have hpn:pn=ps.length:=by have:=hp.1;have:=hps.1;omega
 have htn:tn=ts.length:=by have:=ht.1;have:=hts.1;omega
 have hln:ln=left.length:=by have:=hl.1;simpa using this
 subst hpn
 subst htn
 subst hln
 refine tr_of_body Try.func51 rfl Try.ntmps51 (by simp) fun um Q _ hQ=>?_
 simp only [argE,Nat.zero_add,Nat.reduceAdd]
 repeat (first | (apply wo_mo;apply mo_makeMap .u64;exact trivial) | refine we_seq ?_ | (refine wR ?_;try simp only [oS]) | refine wo_nil ?_ | refine wA ?_)
 rintro v' L' ⟨mb,rfl,rfl⟩
 repeat (first | refine we_seq ?_ | (refine wR ?_;try simp only [oS]) | refine wo_nil ?_ | refine wA ?_ | refine we_block ?_)
 refine we_loopN (kInv1 (.slice pa ps.length pc) (.slice ta ts.length tc) (.slice la left.length lc) mb ps L x) (fun k=>ps.length-k) 0 (Nat.zero_le _) ⟨rfl,rfl,rfl,rfl,rfl,rfl,trivial⟩ .refl rfl ?_
 intro k hk
 replace hk:k≤ps.length:=hk
 simp only [kInv1]
 by_cases hlt:k<ps.length
 ·obtain ⟨l,hlk⟩:∃ l,ps[k]?=some l:=⟨_,List.getElem?_eq_getElem hlt⟩
  obtain ⟨a,c,hv,hrow⟩:=hps.2 k l hlk
  obtain ⟨pb,po,rfl,hpr⟩:=hp.rds (by omega)
  have hhd:=hpr k _ hv
  repeat (first | refine wlssT ?_ | refine we_seq ?_ | (refine wR ?_;try simp only [oS]) | refine wo_nil ?_ | refine wM ?_ | refine wA ?_ | refine wE ?_ | refine wT ?_ | refine we_skip ?_ | refine we_block ?_)
  refine we_loopN (kInv2 (.slice (some ⟨pb,po,none⟩) ps.length pc) (.slice ta ts.length tc) (.slice la left.length lc) mb ps k l L x) (fun i=>l.length-i) 0 (Nat.zero_le _) ?_ ?_ rfl ?_
  ·simp only [kInv2,List.take_zero,prs_nil]
   exact ⟨rfl,rfl,rfl,rfl,rfl,rfl,rfl,trivial⟩
  ·simp only [kInv2,List.take_zero,prs_nil]
   exact .refl
  intro i hi
  replace hi:i≤l.length:=hi
  simp only [kInv2]
  have hfl:=flat_len hlk hi
  have hrl:=row_len hlk
  have h9:Rd (mapC .u64 mb ((prs (ps.take k++[l.take i])).map kEnc)::L) pb (po+k) (.slice a l.length c):=.there hhd
  by_cases hlt2:i<l.length
  ·obtain ⟨v,hvi⟩:∃ v,l[i]?=some v:=⟨_,List.getElem?_eq_getElem hlt2⟩
   obtain ⟨b,o,rfl,hrd⟩:=hrow.rds (by omega)
   have h10:Rd (mapC .u64 mb ((prs (ps.take k++[l.take i])).map kEnc)::L) b (o+i) (num v):=.there (hrd i (num v) (by rw [List.getElem?_map,hvi];rfl))
   have hnew:=kPut (k:=k) (i:=i) (flat_new hnd hlk hvi)
   repeat (first | (apply wo_po;apply mo_index1;exact rfl;exact rfl;omega;exact gY) | (apply wo_po;apply mo_load;exact rfl;(first | exact h9 | exact h10);exact trivial) | refine wlssT ?_ | refine we_seq ?_ | (refine wR ?_;try simp only [oS]) | refine wo_nil ?_ | refine wM ?_ | refine wE ?_ | refine wT ?_ | refine we_skip ?_ | refine we_block ?_)
   repeat (first | (apply wo_po;apply mo_buildArr (pv:=[(0,_),(1,_)]);exact rfl;exact .cons rfl (.cons rfl .nil);exact rfl;exact trivial) | (apply wo_pm;apply mo_mapUpdate (ki:=.u64) (k:=(v:Nat));exact rfl;exact rfl;exact rfl;exact .here;exact trivial) | (refine wR ?_;try simp only [oS]) | refine wo_nil ?_ | refine wM ?_ | refine wA ?_ | refine wadd ?_)
   refine at_roundS (B:=B) (I:=kInv2 (.slice (some ⟨pb,po,none⟩) ps.length pc) (.slice ta ts.length tc) (.slice la left.length lc) mb ps k l L x) (R:=fun j=>l.length-j<l.length-i) (i+1) (by omega) (show i+1≤l.length by omega) ?_ (fun h st=>?_) rfl
   ·simp only [kInv2,prs_step hlk hvi,List.length_append,List.length_singleton]
    exact ⟨rfl,rfl,rfl,rfl,rfl,rfl,rfl,trivial⟩
   ·show Star (mapC .u64 mb ((prs (ps.take k++[l.take (i+1)])).map kEnc)::L) h
    rw [prs_step hlk hvi,← hnew]
    exact st
  ·obtain rfl:i=l.length:=by omega
   repeat (first | (apply wo_po;apply mo_index1;exact rfl;exact rfl;omega;exact gY) | (apply wo_po;apply mo_load;exact rfl;exact h9;exact trivial) | refine wlssF ?_ | refine we_seq ?_ | (refine wR ?_;try simp only [oS]) | refine wo_nil ?_ | refine wM ?_ | refine wA ?_ | refine wadd ?_ | refine wE ?_ | refine wF ?_ | refine we_exit ?_)
   refine at_roundS (B:=B) (I:=kInv1 (.slice (some ⟨pb,po,none⟩) ps.length pc) (.slice ta ts.length tc) (.slice la left.length lc) mb ps L x) (R:=fun j=>ps.length-j<ps.length-k) (k+1) (by omega) (show k+1≤ps.length by omega) ?_ (fun h st=>?_) rfl
   ·simp only [kInv1,← prs_row hlk]
    exact ⟨rfl,rfl,rfl,rfl,rfl,rfl,trivial⟩
   ·show Star (mapC .u64 mb ((prs (ps.take (k+1))).map kEnc)::L) h
    rw [← prs_row hlk]
    exact st
 obtain rfl:k=ps.length:=by omega
 rw [List.take_length]
 repeat (first | refine wlssF ?_ | refine we_seq ?_ | (refine wR ?_;try simp only [oS]) | refine wo_nil ?_ | refine wM ?_ | refine wA ?_ | refine wE ?_ | refine wF ?_ | refine we_exit ?_)
 -- all lists,one behind the other
 refine wo_star (vec 1 (.slice none 0 0) []::mapC .u64 mb ((prs ps).map kEnc)::L) (fun h st=>vec_nil st) ?_
 have hone:∀ w∈tvs,one w=true:=fun w hw=>by
  obtain ⟨i,hi⟩:=List.mem_iff_getElem?.1 hw
  have hlt:=(List.getElem?_eq_some_iff.1 hi).1
  obtain ⟨a,c,e,_⟩:=hts.2 i _ (List.getElem?_eq_getElem (by have:=hts.1;omega))
  rw [hi] at e;cases e;rfl
 have hrd1:ts.length=0∨∃ xb xo,ta=some ⟨xb,xo,none⟩∧Rds (vec 1 (.slice none 0 0) []::mapC .u64 mb ((prs ps).map kEnc)::L) xb xo tvs:=ht.2.imp id fun ⟨b,o,e,r⟩=>⟨b,o,e,fun i v hi=>.there (.there (r i v hi))⟩
 repeat (first | (apply wo_mo;apply mo_append (sz:=1) (cs:=[]) (new:=tvs);exact rfl;exact rfl;exact rfl;exact rfl;exact .here;(have:=ht.1;omega);exact hrd1;exact hone;(simp only [sliceLen];omega);exact trivial))
 rintro v1 L1 rfl
 repeat (first | (apply wo_mo;apply mo_buildSlice (sz:=1) (vs:=[.slice la left.length lc]);exact rfl;exact .cons rfl .nil;exact rfl;(intro v hv;cases (List.mem_singleton.1 hv);exact rfl);omega;exact trivial) | refine wM ?_)
 rintro v2 L2 ⟨nb,rfl,rfl⟩
 refine wo_pure (of_has (.there .here) (vec_shape (by omega))) ?_
 rintro ⟨ua,un,uc,rfl,hun,_⟩
 have hun:un=ts.length:=by have:=hts.1;simp at hun;omega
 repeat (first | (apply wo_mo;apply mo_append (sz:=1) (cs:=[]++tvs) (new:=[.slice la left.length lc]);exact rfl;exact rfl;exact rfl;exact rfl;exact (.there .here);exact rfl;exact .inr ⟨_,_,rfl,Rds.all .here⟩;(intro v hv;cases (List.mem_singleton.1 hv);exact rfl);(simp only [sliceLen];omega);exact trivial))
 rintro v3 L3 rfl
 refine wo_pure (of_has .here (vec_shape (by omega))) ?_
 rintro ⟨va,vn,vc,rfl,hvn,_,hvz,hvy⟩
 have hvn:vn=ts.length+1:=by have:=hts.1;simp at hvn;omega
 subst hvn
 obtain ⟨vb,vo,rfl⟩:∃ b o,va=some ⟨b,o,none⟩:=by
  cases va with
  | none=>have:=hvz rfl;omega
  | some y=>exact ⟨y.block,y.off,by rw [hvy y rfl]⟩
 let LS:List HProp:=vec 1 (.slice (some ⟨vb,vo,none⟩) (ts.length+1) vc) ([]++tvs++[.slice la left.length lc])::arr nb 0 [.slice la left.length lc]::L
 let ls:List (List Nat):=ts++[left]
 have hH:∀ (i:Nat) l,ls[i]?=some l→∃ a c,Rd LS vb (vo+i) (.slice a l.length c)∧RdsO LS a l.length (l.map num):=fun i l hi=>by
  rcases Nat.lt_or_ge i ts.length with hlt | hge
  ·rw [List.getElem?_append_left hlt] at hi
   obtain ⟨a,c,e,r⟩:=hts.2 i l hi
   exact ⟨a,c,rd_vec .here (by rw [List.nil_append,List.getElem?_append_left (by have:=hts.1;omega)];exact e),r.there.there⟩
  ·rw [List.getElem?_append_right hge] at hi
   have:i-ts.length=0:=by have:=(List.getElem?_eq_some_iff.1 hi).1;simp at this;omega
   rw [this] at hi;simp at hi;subst hi
   exact ⟨la,lc,rd_vec .here (by rw [List.nil_append,List.getElem?_append_right (by have:=hts.1;omega),show i-tvs.length=0 by have:=hts.1;omega];rfl),hl.there.there⟩
 repeat (first | refine we_seq ?_ | (refine wR ?_;try simp only [oS]) | refine wo_nil ?_ | refine wA ?_ | refine we_block ?_)
 refine we_star (mapC .u64 mb ((prs ps).map kEnc)::LS) (fun h st=>Ent.star (.take (.there (.there .here)) .refl) st) ?_
 refine we_loopN (kInv3 (.slice pa ps.length pc) (.slice ta ts.length tc) (.slice la left.length lc) (.slice (some ⟨vb,vo,none⟩) (ts.length+1) vc) mb ls LS x) (fun i=>ls.length-i.1) (0,prs ps) ⟨Nat.zero_le _,?_,?_,?_,?_⟩ ⟨rfl,rfl,rfl,rfl,rfl,rfl,rfl,trivial⟩ .refl rfl ?_
 ·show ((prs ps).map (·.1)).Nodup
  rw [prs_fst];exact hnd
 ·show (prs ps).length≤1000000
  rw [prs_len];omega
 ·intro y hy
  obtain ⟨l,h1,h2⟩:=prs_mem hy
  have e1:=(List.getElem?_eq_some_iff.1 h1).1
  have e2:=(List.getElem?_eq_some_iff.1 h2).1
  have e3:=row_len h1
  exact ⟨hb4 _ (List.mem_flatten.2 ⟨l,List.mem_of_getElem? h1,List.mem_of_getElem? h2⟩),by omega,by omega⟩
 ·exact hK
 rintro ⟨t,R⟩ ⟨ht1,ht2,ht3,ht4,ht5⟩
 simp only at ht1 ht2 ht3 ht4 ht5
 simp only [kInv3]
 have hlsl:ls.length=ts.length+1:=by simp [ls]
 by_cases hlt:t<ls.length
 ·obtain ⟨l,hlt'⟩:∃ l,ls[t]?=some l:=⟨_,List.getElem?_eq_getElem hlt⟩
  obtain ⟨a,c,r1,r2⟩:=hH t l hlt'
  have hll:=hbl l (List.mem_of_getElem? hlt')
  have hdl:ls.drop t=l::ls.drop (t+1):=by rw [List.drop_eq_getElem_cons hlt,(List.getElem?_eq_some_iff.1 hlt').2]
  rw [hdl] at ht5
  obtain ⟨hK1,hK2⟩:=ht5
  repeat (first | (apply wo_mo;apply mo_makeMap .i64;exact trivial) | refine wlssT ?_ | refine we_seq ?_ | (refine wR ?_;try simp only [oS]) | refine wo_nil ?_ | refine wM ?_ | refine wE ?_ | refine wT ?_ | refine we_skip ?_ | refine we_block ?_)
  rintro v' L' ⟨lb,rfl,rfl⟩
  repeat (first | refine we_seq ?_ | (refine wR ?_;try simp only [oS]) | refine wo_nil ?_ | refine wA ?_ | refine we_block ?_)
  refine we_loopN (kInv4 (.slice pa ps.length pc) (.slice ta ts.length tc) (.slice la left.length lc) (.slice (some ⟨vb,vo,none⟩) (ts.length+1) vc) mb lb ls t l LS x) (fun i=>l.length-i.i) ⟨0,R,fun _=>0,[]⟩ ⟨Nat.zero_le _,ht2,ht3,ht4,hK1,hK2,fun k=>.inr ⟨rfl,rfl⟩⟩ ⟨rfl,rfl,rfl,rfl,rfl,rfl,rfl,rfl,rfl,trivial⟩ (.take (.there .here) (.take .here .refl)) rfl ?_
  rintro ⟨i,R,f,lm⟩ ⟨hi1,hi2,hi3,hi4,hi5,hi6,hi7⟩
  simp only at hi1 hi2 hi3 hi4 hi5 hi6 hi7
  simp only [kInv4]
  have g9:∀ {c1 c2:HProp},Rd (c1::c2::LS) vb (vo+t) (.slice a l.length c):=.there (.there r1)
  by_cases hlt2:i<l.length
  ·obtain ⟨v,hvi⟩:∃ v,l[i]?=some v:=⟨_,List.getElem?_eq_getElem hlt2⟩
   have hdi:l.drop i=v::l.drop (i+1):=by rw [List.drop_eq_getElem_cons hlt2,(List.getElem?_eq_some_iff.1 hvi).2]
   rw [hdi] at hi5 hi6
   obtain ⟨k,p,hm,hf,hrest⟩:=hi5
   obtain ⟨b,o,rfl,hrd⟩:=r2.rds (by omega)
   have g10:∀ {c1 c2:HProp},Rd (c1::c2::LS) b (o+i) (num v):=.there (.there (hrd i (num v) (by rw [List.getElem?_map,hvi];rfl)))
   have hG:=kGet hi2 hm
   have hD:=kDel (v:=v) hi2
   obtain ⟨hb5,hb6,hb7⟩:=hi4 _ hm
   simp only at hb5 hb6 hb7
   have hlast:mGet lm ((k:Nat):Int)=some (.int .i64 (f k:Nat))∨(mGet lm ((k:Nat):Int)=none∧(Value.int .i64 0)=.int .i64 (f k:Nat)):=(hi7 k).imp id fun ⟨e1,e2⟩=>⟨e1,by rw [e2];rfl⟩
   repeat (first | (apply wo_po;apply mo_index1;exact rfl;exact rfl;omega;exact gY) | (apply wo_po;apply mo_load;exact rfl;(first | exact g9 | exact g10);exact trivial) | (apply wo_po;apply mo_look2 (ki:=.u64) (k:=((v:Nat):Int)) (l:=R.map kEnc) hG;exact rfl;exact rfl;exact .here;exact trivial) | (apply wo_mo;apply mo_alloc;exact trivial) | refine wlssT ?_ | refine we_seq ?_ | (refine wR ?_;try simp only [oS]) | refine wo_nil ?_ | refine wM ?_ | (apply wo_po;apply mo_extract;exact rfl;exact rfl;exact gY) | refine wE ?_ | refine wT ?_ | refine we_skip ?_ | refine we_block ?_)
   rintro v' L' ⟨xb,rfl,rfl⟩
   repeat (first | (apply wo_pm;apply mo_storeA (c:=0) (k:=0) (a:=0) (vs:=[.int .i64 0,.int .i64 0]);exact rfl;exact rfl;exact rfl;(intro w hw;simp [kV,Value.cells] at hw;rcases hw with rfl | rfl <;> rfl);exact rfl;exact Nat.le_refl 2;exact .here;exact trivial) | refine we_seq ?_ | (refine wR ?_;try simp only [oS]) | refine wo_nil ?_ | refine wM ?_ | refine wA ?_ | (apply wo_po;apply mo_not;exact rfl;exact gY))
   refine wo_star (arr xb 0 [.int .i64 (k:Nat),.int .i64 (p:Nat)]::mapC .u64 mb (R.map kEnc)::mapC .i64 lb lm::LS) (fun h st=>st) ?_
   have x0:∀ {M:List HProp},Rd (arr xb 0 [.int .i64 (k:Nat),.int .i64 (p:Nat)]::M) xb (0+0) (.int .i64 (k:Nat)):=Rd.row (k:=0) rfl rfl
   have x1:∀ {M:List HProp},Rd (arr xb 0 [.int .i64 (k:Nat),.int .i64 (p:Nat)]::M) xb (0+1) (.int .i64 (p:Nat)):=Rd.row (k:=1) rfl rfl
   repeat (first | (apply wo_po;apply mo_indexArr1 (j:=0);exact rfl;exact rfl;omega;exact gY) | (apply wo_po;apply mo_indexArr1 (j:=1);exact rfl;exact rfl;omega;exact gY) | (apply wo_po;apply mo_load;exact rfl;(first | exact x0 | exact x1);exact gY) | (apply wo_po;apply mo_look1 (ki:=.i64) (k:=((k:Nat):Int)) (l:=lm) hlast;exact rfl;exact rfl;exact (.there (.there .here));exact gY) | refine wgtrF ?_ | refine we_seq ?_ | (refine wR ?_;try simp only [oS]) | refine wo_nil ?_ | refine wM ?_ | refine wJ ?_ | refine wF ?_ | refine we_skip ?_)
   obtain ⟨R',hR'⟩:∃ R',R'=R.filter fun y=>decide (y.1≠v):=⟨_,rfl⟩
   have hlen:=kLen hi2 hm
   rw [← hR'] at hD hrest hlen
   repeat (first | (apply wo_pm;apply mo_mapUpdate (ki:=.i64) (k:=((k:Nat):Int));exact rfl;exact rfl;exact rfl;exact (.there (.there .here));exact trivial) | (refine wR ?_;try simp only [oS]) | refine wo_nil ?_ | refine wM ?_)
   refine wo_star (mapC .u64 mb (R.map kEnc)::mapC .i64 lb (mPut lm ((k:Nat):Int) (.int .i64 (p:Nat)))::LS) (fun h st=>Ent.star (.take (.there (.there .here)) (.take .here (.drop .refl))) st) ?_
   repeat (first | (apply wo_po;apply mo_index1;exact rfl;exact rfl;omega;exact gY) | (apply wo_po;apply mo_load;exact rfl;(first | exact g9 | exact g10);exact trivial) | (apply wo_pm;apply mo_mapDelete (ki:=.u64) (k:=((v:Nat):Int));exact rfl;exact rfl;exact .here;exact trivial) | (refine wR ?_;try simp only [oS]) | refine wo_nil ?_ | refine wM ?_ | refine wA ?_ | refine wadd ?_)
   rw [hD]
   refine at_round (B:=B) (I:=kInv4 (.slice pa ps.length pc) (.slice ta ts.length tc) (.slice la left.length lc) (.slice (some ⟨vb,vo,none⟩) (ts.length+1) vc) mb lb ls t l LS x) (R:=fun j=>l.length-j.i<l.length-i) ⟨i+1,R',upd f k p,mPut lm ((k:Nat):Int) (.int .i64 (p:Nat))⟩ (by show l.length-(i+1)<l.length-i;omega) ⟨by show i+1≤l.length;omega,?_,?_,?_,hrest,?_,fun k'=>?_⟩ ⟨rfl,rfl,rfl,rfl,rfl,rfl,rfl,rfl,rfl,trivial⟩ .refl rfl
   ·show (R'.map (·.1)).Nodup
    rw [hR'];exact kNd hi2
   ·show R'.length≤1000000
    omega
   ·intro y hy
    rw [hR'] at hy
    exact hi4 y (List.mem_filter.1 hy).1
   ·show KeptA (rmvs R' (l.drop (i+1))) _
    rw [hR'];exact hi6
   ·show mGet (mPut lm ((k:Nat):Int) (.int .i64 (p:Nat))) ((k':Nat):Int)=some (.int .i64 (upd f k p k':Nat))∨(mGet (mPut lm ((k:Nat):Int) (.int .i64 (p:Nat))) ((k':Nat):Int)=none∧upd f k p k'=0)
    rw [mGet_put]
    by_cases e:k'=k
    ·subst e
     rw [if_pos rfl,upd_same];exact .inl rfl
    ·rw [if_neg (by omega),upd_other e];exact hi7 k'
  ·obtain rfl:i=l.length:=by omega
   repeat (first | (apply wo_po;apply mo_index1;exact rfl;exact rfl;omega;exact gY) | (apply wo_po;apply mo_load;exact rfl;exact g9;exact trivial) | refine wlssF ?_ | refine we_seq ?_ | (refine wR ?_;try simp only [oS]) | refine wo_nil ?_ | refine wM ?_ | refine wA ?_ | refine wadd ?_ | refine wE ?_ | refine wF ?_ | refine we_exit ?_)
   have e0:l.drop l.length=[]:=List.drop_length
   rw [e0] at hi6
   refine at_round (B:=B) (I:=kInv3 (.slice pa ps.length pc) (.slice ta ts.length tc) (.slice la left.length lc) (.slice (some ⟨vb,vo,none⟩) (ts.length+1) vc) mb ls LS x) (R:=fun j=>ls.length-j.1<ls.length-t) (t+1,R) (by show ls.length-(t+1)<ls.length-t;omega) ⟨by show t+1≤ls.length;omega,hi2,hi3,hi4,hi6⟩ ⟨rfl,rfl,rfl,rfl,rfl,rfl,rfl,trivial⟩ (.take .here (.drop .refl)) rfl
 ·obtain rfl:t=ls.length:=by omega
  rw [List.drop_length] at ht5
  replace ht5:R=[]:=ht5
  subst ht5
  rw [hlsl]
  repeat (first | (apply wo_po;apply mo_mapLen;exact rfl;exact .here;exact gY) | refine wlssF ?_ | refine we_seq ?_ | (refine wR ?_;try simp only [oS]) | refine wo_nil ?_ | refine wM ?_ | refine wA ?_ | (apply wo_po;apply mo_bin;exact rfl;exact rfl;exact bin_eql;exact gY) | refine wE ?_ | refine wF ?_ | refine we_ret ?_ | refine we_exit ?_)
  (first | refine or1 Try.func51 Try.results51 hQ rfl ?_ | refine on1 Try.func51 Try.results51 hQ rfl ?_)
  exact ⟨rfl,rfl⟩
end
end
end Go.Proofs.Ytmkkanmkjfnpdaa
