/-
  Part 4 of 7.
-/
import Derived.Test.YtmkkanmkjfnpdaaMs3
import Derived.Test.YtmkkanmkjfnpdaaMs2
set_option linter.unusedVariables false
set_option linter.unusedSimpArgs false
namespace Go.Proofs.Ytmkkanmkjfnpdaa
open Go Go.PB
section
section
variable {n Bd:Nat} {s s':QS} {qs:List QT} {j:Nat} {q a:QT} {t v u:Nat} {rest:List (Option Nat)}
theorem QI.pos (hn:2≤n):t%n<n:=Nat.mod_lt _ (by omega)
theorem QI.put_slot (h:QI n Bd s qs) (hn:2≤n) (he:s.f 0=t) (hx:t≤s.f (2+2*(t%n))):t<s.tk.length+n∧SlotA s qs (t%n) t:=by
 obtain ⟨u,h1,h2,h3,h4⟩:=h.slot (t%n) (QI.pos hn)
 have hp:=h.p0
 have hl:=h.le
 rcases h4 with h4 | h4
 ·have e:=h4.1
  obtain rfl:u=t:=mod_step (n:=n) h1.symm (by omega) (by omega)
  exact ⟨h3,h4⟩
 ·exact (mod_succ hn h1 (by have:=h4.1;have:=h4.2.1;omega)).elim
theorem QI.take_slot (h:QI n Bd s qs) (hn:2≤n) (he:s.f 1=t) (hx:t+1≤s.f (2+2*(t%n))):s.vs.length≤t+n∧SlotB s qs (t%n) t:=by
 obtain ⟨u,h1,h2,h3,h4⟩:=h.slot (t%n) (QI.pos hn)
 have hp:=h.t0
 rcases h4 with h4 | h4
 ·have e:=h4.1
  have:=mod_step (n:=n) h1.symm (by omega) (by omega)
  omega
 ·have e:=h4.1
  obtain rfl:u=t:=mod_step (n:=n) h1.symm (by omega) (by omega)
  exact ⟨h2,h4⟩
theorem QI.a_at (h:QI n Bd s qs) (hn:2≤n) (hf:s.f (2+2*(t%n))=t):s.vs.length≤t+n∧t<s.tk.length+n∧SlotA s qs (t%n) t:=by
 obtain ⟨u,h1,h2,h3,h4⟩:=h.slot (t%n) (QI.pos hn)
 rcases h4 with h4 | h4
 ·obtain rfl:u=t:=h4.1.symm.trans hf
  exact ⟨h2,h3,h4⟩
 ·exact (mod_succ hn h1 (hf.symm.trans h4.1)).elim
theorem QI.b_at (h:QI n Bd s qs) (hn:2≤n) (hf:s.f (2+2*(t%n))=t+1):s.vs.length≤t+n∧t<s.tk.length+n∧SlotB s qs (t%n) t:=by
 obtain ⟨u,h1,h2,h3,h4⟩:=h.slot (t%n) (QI.pos hn)
 rcases h4 with h4 | h4
 ·exact (mod_succ hn h1.symm (h4.1.symm.trans hf)).elim
 ·obtain rfl:u=t:=by have:=h4.1.symm.trans hf;omega
  exact ⟨h2,h3,h4⟩
theorem QTok.mono (h:QTok n s a) (h0:s.f 0≤s'.f 0) (h1:s.f 1≤s'.f 1) (hi:∀ i,2≤i→s'.f i=s.f i) (hv:∀ (t:Nat) (x:Nat × Nat),s.vs[t]?=some x→s'.vs[t]?=some x) (ht:∀ (t x:Nat),s.tk[t]?=some x→s'.tk[t]?=some x):QTok n s' a:=by
 obtain ⟨me,cs,pa,ta,st⟩:=a
 have hw:∀ c,s.f (qw c)≤s'.f (qw c):=fun c=>by cases c <;> assumption
 cases cs with
 | nil=>exact h
 | cons c r =>
  cases st with
  | load=>trivial
  | seq t=>exact Nat.le_trans (show t≤s.f (qw c) from h) (hw c)
  | cas t=>exact ⟨Nat.le_trans (show t≤s.f (qw c) from h.1) (hw c),by rw [hi _ (by omega)];exact h.2⟩
  | val t =>
   cases c with
   | some v=>exact ⟨hv _ _ h.1,by rw [hi _ (by omega)];exact h.2⟩
   | none=>exact ⟨ht _ _ h.1,by rw [hi _ (by omega)];exact h.2⟩
  | rel t u =>
   cases c with
   | some v=>exact ⟨h.1,hv _ _ h.2.1,by rw [hi _ (by omega)];exact h.2.2.1,by rw [hi _ (by omega)];exact h.2.2.2⟩
   | none =>
    obtain ⟨x,hx,e⟩:=Option.map_eq_some_iff.1 h.2.2
    exact ⟨ht _ _ h.1,by rw [hi _ (by omega)];exact h.2.1,by rw [hv _ _ hx];simp [e]⟩
theorem zip_app {α β:Type}:∀ {l:List α} {m k:List β},l.length≤m.length→List.zip l (m++k)=List.zip l m
 | [],m,k,_=>by simp
 | a::l,[],k,h=>by simp at h
 | a::l,b::m,k,h=>by simp only [List.cons_append,List.zip_cons_cons];rw [zip_app (by simpa using h)]
theorem zip_push {α β:Type} {b:β} {a:α}:∀ {l:List α} {m:List β},m[l.length]?=some b→List.zip (l++[a]) m=List.zip l m++[(a,b)]
 | [],[],h=>by simp at h
 | [],c::m,h=>by simp at h;subst h;simp
 | x::l,[],h=>by simp at h
 | x::l,c::m,h=>by simp only [List.cons_append,List.zip_cons_cons];rw [zip_push (by simpa using h)]
theorem get_push {α:Type} {l:List α} {x y:α} {t:Nat} (h:l[t]?=some y):(l++[x])[t]?=some y:=by
 rw [List.getElem?_append_left (List.getElem?_eq_some_iff.1 h).1];exact h
theorem get_last {α:Type} {l:List α} {x:α} {t:Nat} (h:t=l.length):(l++[x])[t]?=some x:=by subst h;simp
theorem puts_at (h:QTok n s a) (hp:Puts t a):∃ v,s.vs[t]?=some (a.me,v)∧s.f (2+2*(t%n))=t:=by
 obtain ⟨me,cs,pa,ta,st⟩:=a
 obtain ⟨v,r,e,e2 | ⟨u,e2⟩⟩:=hp
 ·simp only at e e2;subst e;subst e2;exact ⟨v,h⟩
 ·simp only at e e2;subst e;subst e2;exact ⟨v,h.2.1,h.2.2.1⟩
theorem takes_at (h:QTok n s a) (hp:Takes t a):s.tk[t]?=some a.me∧s.f (2+2*(t%n))=t+1:=by
 obtain ⟨me,cs,pa,ta,st⟩:=a
 obtain ⟨r,e,e2 | ⟨u,e2⟩⟩:=hp
 ·simp only at e e2;subst e;subst e2;exact h
 ·simp only at e e2;subst e;subst e2;exact ⟨h.1,h.2.1⟩
theorem pendT_mono (h:QTok n s a) (hl:s.tk.length≤s.vs.length) (hv:∀ (t:Nat) (x:Nat × Nat),s.vs[t]?=some x→s'.vs[t]?=some x):pendT s' a=pendT s a:=by
 obtain ⟨me,cs,pa,ta,st⟩:=a
 have key:∀ (t m:Nat),s.tk[t]?=some m→s'.vs[t]?=s.vs[t]?:=fun t m e=>by
  have hlt:=(List.getElem?_eq_some_iff.1 e).1
  have:=List.getElem?_eq_getElem (l:=s.vs) (i:=t) (by omega)
  rw [hv _ _ this,this]
 cases cs with
 | nil=>rfl
 | cons c r =>
  cases c with
  | some v=>rfl
  | none =>
   cases st with
   | val t=>show ((s'.vs[t]?).map _).toList=((s.vs[t]?).map _).toList;rw [key t me h.1]
   | rel t u=>show ((s'.vs[t]?).map _).toList=((s.vs[t]?).map _).toList;rw [key t me h.1]
   | _=>rfl
theorem not_puts (h:q.st.holds=false) {t:Nat}:¬ Puts t q:=fun x=>by rw [puts_holds x] at h;cases h
theorem not_takes (h:q.st.holds=false) {t:Nat}:¬ Takes t q:=fun x=>by rw [takes_holds x] at h;cases h
theorem QI.casP (h:QI n Bd s qs) (hn:2≤n) (hB:Bd<4611686018427387904) (hq:qs[j]?=some q) (hcs:q.cs=some v::rest) (hst:q.st=.cas t) (he:s.f 0=t) :
  QI n Bd ⟨upd s.f 0 ((t+1)%18446744073709551616),s.vs++[(q.me,v)],s.tk⟩ (qs.set j { q with st:=.val t }):=by
 have hlt:=(List.getElem?_eq_some_iff.1 hq).1
 obtain ⟨hme,hok⟩:=h.thr j q hq
 have hx:t≤s.f (2+2*(t%n)):=by
  unfold QTok at hok;rw [hcs] at hok;simp only [hst] at hok;exact hok.2
 obtain ⟨h3,hA⟩:=h.put_slot hn he hx
 have hp:=h.p0
 have hbd:=h.bd
 have hm:(t+1)%18446744073709551616=t+1:=Nat.mod_eq_of_lt (by omega)
 have hnh:q.st.holds=false:=by rw [hst];rfl
 have hup:∀ i,i≠0→upd s.f 0 ((t+1)%18446744073709551616) i=s.f i:=fun i hi=>upd_other hi
 have hvs:∀ (t':Nat) (x:Nat × Nat),s.vs[t']?=some x→(s.vs++[(q.me,v)])[t']?=some x:=fun t' x e=>get_push e
 have hself:s.f 0≤upd s.f 0 ((t+1)%18446744073709551616) 0:=by
  have:=upd_same (m:=s.f) (w:=0) (n:=(t+1)%18446744073709551616)
  omega
 have hmono:∀ a,QTok n s a→QTok n ⟨upd s.f 0 ((t+1)%18446744073709551616),s.vs++[(q.me,v)],s.tk⟩ a:=fun a ha =>
  ha.mono hself (Nat.le_of_eq (hup 1 (by omega)).symm) (fun i hi=>hup i (by omega)) hvs (fun _ _ x=>x)
 refine ⟨?_,?_,?_,?_,fun i hi=>?_,fun k a hk=>?_,fun k k' a a' t' hk hk' hh=>?_,fun k a hk=>?_,fun k a hk=>?_⟩
 ·have:=upd_same (m:=s.f) (w:=0) (n:=(t+1)%18446744073709551616)
  simp only [List.length_append,List.length_singleton]
  omega
 ·exact (hup 1 (by omega)).trans h.t0
 ·have:=h.le;simp;omega
 ·have h1:=sum_set (φ:=qrem) (q':=({ q with st:=.val t }:QT)) hq
  have h2:qrem q=rest.length+1:=by unfold qrem;rw [hnh,hcs];simp
  have h4:qrem ({ q with st:=.val t }:QT)=rest.length:=by unfold qrem;simp [QSt.holds,hcs]
  simp only [List.length_append,List.length_singleton]
  omega
 ·obtain ⟨u,g1,g2,g3,g4⟩:=h.slot i hi
  by_cases e:i=t%n
  ·subst e
   refine ⟨t,rfl,by simp;omega,h3,.inl ⟨(hup _ (by omega)).trans hA.1,hA.2.1,fun _=>⟨j,_,List.getElem?_set_self hlt,v,rest,hcs,.inl rfl⟩⟩⟩
  ·have hne:u≠t:=fun e2=>e (by rw [← g1,e2])
   have hne2:s.vs.length≠u+n:=by
    intro e2
    have hu:t=u+n:=by omega
    refine e ?_
    rw [← g1,hu]
    simp
   refine ⟨u,g1,by simp;omega,g3,g4.imp (fun ⟨b1,b2,b3⟩=>⟨(hup _ (by omega)).trans b1,b2,fun hv=>wit_set hq (fun x=>(not_puts hnh x).elim) (fun _ x=>x) (b3 (by simp at hv;omega))⟩) fun ⟨b1,b2,b3,b4⟩=>⟨(hup _ (by omega)).trans b1,by simp;omega,?_,fun hv=>wit_set hq (fun x=>(not_takes hnh x).elim) (fun _ x=>x) (b4 hv)⟩⟩
   show Option.map _ ((s.vs++[(q.me,v)])[u]?)=some (upd s.f 0 _ _)
   rw [hup _ (by omega),List.getElem?_append_left b2];exact b3
 ·rcases set_cases hk hlt with ⟨e1,e2⟩ | ⟨_,hk⟩
  ·subst e1;subst e2
   refine ⟨hme,?_⟩
   show QTok n _ ⟨q.me,q.cs,q.pa,q.ta,.val t⟩
   rw [hcs]
   exact ⟨get_last (by omega),(hup _ (by omega)).trans hA.1⟩
  ·exact ⟨(h.thr k a hk).1,hmono a (h.thr k a hk).2⟩
 ·have nobody:∀ k a,qs[k]?=some a→¬ Puts t a:=fun k a hk hp'=>by
   obtain ⟨v',e,_⟩:=puts_at (h.thr k a hk).2 hp'
   have:=(List.getElem?_eq_some_iff.1 e).1;omega
  have noT:∀ t',¬ Takes t' ({ q with st:=.val t }:QT):=fun t' ⟨r,e,_⟩=>by simp only at e;rw [hcs] at e;cases e
  have onlyP:∀ t',Puts t' ({ q with st:=.val t }:QT)→t'=t:=fun t' ⟨_,_,_,e⟩=>by
   rcases e with e | ⟨_,e⟩
   ·simp only at e;injection e with e;exact e.symm
   ·simp only at e;cases e
  rcases set_cases hk hlt with ⟨e1,e2⟩ | ⟨_,hk2⟩ <;> rcases set_cases hk' hlt with ⟨f1,f2⟩ | ⟨_,hk2'⟩
  ·rw [e1,f1]
  ·subst e2
   rcases hh with ⟨x,y⟩ | ⟨x,_⟩
   ·have:=onlyP _ x;subst this;exact (nobody _ _ hk2' y).elim
   ·exact (noT _ x).elim
  ·subst f2
   rcases hh with ⟨x,y⟩ | ⟨_,y⟩
   ·have:=onlyP _ y;subst this;exact (nobody _ _ hk2 x).elim
   ·exact (noT _ y).elim
  ·exact h.uniq k k' a a' t' hk2 hk2' hh
 ·have hby:∀ m,putBy ⟨upd s.f 0 ((t+1)%18446744073709551616),s.vs++[(q.me,v)],s.tk⟩ m=putBy s m++if q.me=m then [v] else []:=fun m=>by
   unfold putBy;simp only [List.filter_append,List.map_append]
   by_cases e:q.me=m <;> simp [e]
  rw [hby]
  rcases set_cases hk hlt with ⟨e1,e2⟩ | ⟨hkj,hk⟩
  ·subst e1;subst e2
   rw [if_pos hme,h.pas k q hq]
   have e1:pendP q=[]:=by unfold pendP;rw [hcs];simp [hnh]
   have e2:pendP ({ q with st:=.val t }:QT)=[v]:=by unfold pendP;simp only [hcs];rfl
   rw [e1,e2];simp
  ·rw [if_neg fun e=>hkj (by rw [← e,hme]),List.append_nil];exact h.pas k a hk
 ·have hby:∀ m,takenBy ⟨upd s.f 0 ((t+1)%18446744073709551616),s.vs++[(q.me,v)],s.tk⟩ m=takenBy s m:=fun m=>by
   unfold takenBy;simp only [zip_app h.le]
  rw [hby]
  rcases set_cases hk hlt with ⟨e1,e2⟩ | ⟨_,hk⟩
  ·subst e1;subst e2
   rw [h.tas k q hq]
   have e1:pendT s q=[]:=by unfold pendT;rw [hcs]
   have e2:pendT ⟨upd s.f 0 ((t+1)%18446744073709551616),s.vs++[(q.me,v)],s.tk⟩ ({ q with st:=.val t }:QT)=[]:=by unfold pendT;simp only [hcs]
   rw [e1,e2]
  ·exact (h.tas k a hk).trans (congrArg (a.ta++·) (pendT_mono (h.thr k a hk).2 h.le hvs).symm)
end
end
section
section
variable {n Bd:Nat} {s s':QS} {qs:List QT} {j:Nat} {q q' a:QT} {t v u:Nat} {rest:List (Option Nat)}
theorem QI.casT (h:QI n Bd s qs) (hn:2≤n) (hB:Bd<4611686018427387904) (hq:qs[j]?=some q) (hcs:q.cs=none::rest) (hst:q.st=.cas t) (he:s.f 1=t) :
  QI n Bd ⟨upd s.f 1 ((t+1)%18446744073709551616),s.vs,s.tk++[q.me]⟩ (qs.set j { q with st:=.val t }):=by
 have hlt:=(List.getElem?_eq_some_iff.1 hq).1
 obtain ⟨hme,hok⟩:=h.thr j q hq
 have hx:t+1≤s.f (2+2*(t%n)):=by
  unfold QTok at hok;rw [hcs] at hok;simp only [hst] at hok;exact hok.2
 obtain ⟨h3,hB'⟩:=h.take_slot hn he hx
 have hp:=h.t0
 have hbd:=h.bd
 have hle:=h.le
 have hm:(t+1)%18446744073709551616=t+1:=Nat.mod_eq_of_lt (by omega)
 have hnh:q.st.holds=false:=by rw [hst];rfl
 have hup:∀ i,i≠1→upd s.f 1 ((t+1)%18446744073709551616) i=s.f i:=fun i hi=>upd_other hi
 have hself:=upd_same (m:=s.f) (w:=1) (n:=(t+1)%18446744073709551616)
 have htk:∀ (t' x:Nat),s.tk[t']?=some x→(s.tk++[q.me])[t']?=some x:=fun t' x e=>get_push e
 have hmono:∀ a,QTok n s a→QTok n ⟨upd s.f 1 ((t+1)%18446744073709551616),s.vs,s.tk++[q.me]⟩ a:=fun a ha =>
  ha.mono (Nat.le_of_eq (hup 0 (by omega)).symm) (by show s.f 1≤upd s.f 1 ((t+1)%18446744073709551616) 1;omega) (fun i hi=>hup i (by omega)) (fun _ _ x=>x) htk
 obtain ⟨x,hx1,hx2⟩:=Option.map_eq_some_iff.1 hB'.2.2.1
 refine ⟨(hup 0 (by omega)).trans h.p0,?_,?_,?_,fun i hi=>?_,fun k a hk=>?_,fun k k' a a' t' hk hk' hh=>?_,fun k a hk=>?_,fun k a hk=>?_⟩
 ·simp only [List.length_append,List.length_singleton]
  omega
 ·have:=hB'.2.1
  simp only [List.length_append,List.length_singleton]
  omega
 ·have h1:=sum_set (φ:=qrem) (q':=({ q with st:=.val t }:QT)) hq
  have h2:qrem q=rest.length+1:=by unfold qrem;rw [hnh,hcs];simp
  have h4:qrem ({ q with st:=.val t }:QT)=rest.length:=by unfold qrem;simp [QSt.holds,hcs]
  simp only [List.length_append,List.length_singleton]
  omega
 ·obtain ⟨u,g1,g2,g3,g4⟩:=h.slot i hi
  by_cases e:i=t%n
  ·subst e
   refine ⟨t,rfl,h3,by simp;omega,.inr ⟨(hup _ (by omega)).trans hB'.1,hB'.2.1,?_,fun _=>⟨j,_,List.getElem?_set_self hlt,rest,hcs,.inl rfl⟩⟩⟩
   show _=some (upd s.f 1 _ _)
   rw [hup _ (by omega)];exact hB'.2.2.1
  ·have hne:u≠t:=fun e2=>e (by rw [← g1,e2])
   refine ⟨u,g1,g2,by simp;omega,g4.imp (fun ⟨b1,b2,b3⟩=>⟨(hup _ (by omega)).trans b1,by simp;omega,fun hv=>wit_set hq (fun x=>(not_puts hnh x).elim) (fun _ x=>x) (b3 hv)⟩) fun ⟨b1,b2,b3,b4⟩=>⟨(hup _ (by omega)).trans b1,b2,?_,fun hv=>wit_set hq (fun x=>(not_takes hnh x).elim) (fun _ x=>x) (b4 (by simp at hv;omega))⟩⟩
   show _=some (upd s.f 1 _ _)
   rw [hup _ (by omega)];exact b3
 ·rcases set_cases hk hlt with ⟨e1,e2⟩ | ⟨_,hk⟩
  ·subst e1;subst e2
   refine ⟨hme,?_⟩
   show QTok n _ ⟨q.me,q.cs,q.pa,q.ta,.val t⟩
   rw [hcs]
   exact ⟨get_last (by omega),(hup _ (by omega)).trans hB'.1⟩
  ·exact ⟨(h.thr k a hk).1,hmono a (h.thr k a hk).2⟩
 ·have nobody:∀ k a,qs[k]?=some a→¬ Takes t a:=fun k a hk hp'=>by
   have e:=(takes_at (h.thr k a hk).2 hp').1
   have:=(List.getElem?_eq_some_iff.1 e).1;omega
  have noP:∀ t',¬ Puts t' ({ q with st:=.val t }:QT):=fun t' ⟨_,r,e,_⟩=>by simp only at e;rw [hcs] at e;cases e
  have onlyT:∀ t',Takes t' ({ q with st:=.val t }:QT)→t'=t:=fun t' ⟨_,_,e⟩=>by
   rcases e with e | ⟨_,e⟩
   ·simp only at e;injection e with e;exact e.symm
   ·simp only at e;cases e
  rcases set_cases hk hlt with ⟨e1,e2⟩ | ⟨_,hk2⟩ <;> rcases set_cases hk' hlt with ⟨f1,f2⟩ | ⟨_,hk2'⟩
  ·rw [e1,f1]
  ·subst e2
   rcases hh with ⟨x,_⟩ | ⟨x,y⟩
   ·exact (noP _ x).elim
   ·have:=onlyT _ x;subst this;exact (nobody _ _ hk2' y).elim
  ·subst f2
   rcases hh with ⟨_,y⟩ | ⟨x,y⟩
   ·exact (noP _ y).elim
   ·have:=onlyT _ y;subst this;exact (nobody _ _ hk2 x).elim
  ·exact h.uniq k k' a a' t' hk2 hk2' hh
 ·rcases set_cases hk hlt with ⟨e1,e2⟩ | ⟨_,hk⟩
  ·subst e1;subst e2
   have e1:pendP q=[]:=by unfold pendP;rw [hcs]
   have e2:pendP ({ q with st:=.val t }:QT)=[]:=by unfold pendP;simp only [hcs]
   have:=h.pas k q hq
   rw [e1] at this
   show putBy s k=q.pa++pendP ({ q with st:=.val t }:QT)
   rw [e2];exact this
  ·exact h.pas k a hk
 ·have hby:∀ m,takenBy ⟨upd s.f 1 ((t+1)%18446744073709551616),s.vs,s.tk++[q.me]⟩ m=takenBy s m++if q.me=m then [x.2] else []:=fun m=>by
   unfold takenBy
   simp only
   rw [zip_push (b:=x) (by rw [← hp,he];exact hx1),List.filter_append,List.map_append]
   by_cases e:q.me=m <;> simp [e]
  rw [hby]
  rcases set_cases hk hlt with ⟨e1,e2⟩ | ⟨hkj,hk⟩
  ·subst e1;subst e2
   rw [if_pos hme,h.tas k q hq]
   have e1:pendT s q=[]:=by unfold pendT;rw [hcs];simp only [hst]
   have e2:pendT ⟨upd s.f 1 ((t+1)%18446744073709551616),s.vs,s.tk++[q.me]⟩ ({ q with st:=.val t }:QT)=[x.2]:=by unfold pendT;simp only [hcs,hx1];rfl
   rw [e1,e2];simp
  ·rw [if_neg fun e=>hkj (by rw [← e,hme]),List.append_nil]
   exact (h.tas k a hk).trans (congrArg (a.ta++·) (pendT_mono (h.thr k a hk).2 h.le (fun _ _ x=>x)).symm)
theorem QI.lay (h:QI n Bd s qs) (hn:2≤n) (hq:qs[j]?=some q) {w x:Nat} (hw:w=2+2*(t%n)∨w=3+2*(t%n)) (hx:w=2+2*(t%n)→s.f w≤x)
  (hslot:∃ u,u%n=t%n∧s.vs.length≤u+n∧u<s.tk.length+n∧(SlotA ⟨upd s.f w x,s.vs,s.tk⟩ (qs.set j q') (t%n) u∨SlotB ⟨upd s.f w x,s.vs,s.tk⟩ (qs.set j q') (t%n) u))
  (hown:∀ t',Puts t' q∨Takes t' q→t'=t) (hoth:∀ (k:Nat) a,k≠j→qs[k]?=some a→∀ t',Puts t' a∨Takes t' a→t'%n≠t%n)
  (hme:q'.me=q.me) (hp:∀ t',Puts t' q'→Puts t' q) (ht:∀ t',Takes t' q'→Takes t' q) (hr:qrem q'≤qrem q) (hok:QTok n ⟨upd s.f w x,s.vs,s.tk⟩ q') (hpa:q'.pa++pendP q'=q.pa++pendP q) (hta:q'.ta++pendT s q'=q.ta++pendT s q) :
  QI n Bd ⟨upd s.f w x,s.vs,s.tk⟩ (qs.set j q'):=by
 have hlt:=(List.getElem?_eq_some_iff.1 hq).1
 have h0:upd s.f w x 0=s.f 0:=upd_other (by omega)
 have h1:upd s.f w x 1=s.f 1:=upd_other (by omega)
 have hup:∀ i,i≠t%n→upd s.f w x (2+2*i)=s.f (2+2*i)∧upd s.f w x (3+2*i)=s.f (3+2*i):=fun i hi=>⟨upd_other (by omega),upd_other (by omega)⟩
 have hge:∀ i,s.f (2+2*i)≤upd s.f w x (2+2*i):=fun i=>by
  by_cases e:2+2*i=w
  ·rw [e,upd_same];exact hx (by omega)
  ·rw [upd_other e];exact Nat.le_refl _
 refine ⟨h0.trans h.p0,h1.trans h.t0,h.le,by have:=rem_le hq hr;have:=h.bd;show s.vs.length+s.tk.length+_≤Bd;omega,fun i hi=>?_,fun k a hk=>?_,fun k k' a a' t' hk hk' hh=>?_,fun k a hk=>?_,fun k a hk=>?_⟩
 ·by_cases e:i=t%n
  ·rw [e];exact hslot
  ·obtain ⟨u,g1,g2,g3,g4⟩:=h.slot i hi
   have hne:u≠t:=fun e2=>e (by rw [← g1,e2])
   refine ⟨u,g1,g2,g3,g4.imp (fun ⟨b1,b2,b3⟩=>⟨(hup i e).1.trans b1,b2,fun hv=>wit_set hq (fun y=>(hne (hown _ (.inl y))).elim) (fun _ y=>y) (b3 hv)⟩) fun ⟨b1,b2,b3,b4⟩=>⟨(hup i e).1.trans b1,b2,?_,fun hv=>wit_set hq (fun y=>(hne (hown _ (.inr y))).elim) (fun _ y=>y) (b4 hv)⟩⟩
   show _=some (upd s.f w x _)
   rw [(hup i e).2];exact b3
 ·rcases set_cases hk hlt with ⟨e1,e2⟩ | ⟨hkj,hk⟩
  ·subst e1;subst e2
   exact ⟨hme.trans (h.thr k q hq).1,hok⟩
  ·obtain ⟨g1,g2⟩:=h.thr k a hk
   refine ⟨g1,?_⟩
   have ho:=hoth k a hkj hk
   obtain ⟨me,cs,pa,ta,st⟩:=a
   cases cs with
   | nil=>exact g2
   | cons c r =>
    have hw':upd s.f w x (qw c)=s.f (qw c):=by cases c <;> assumption
    cases st with
    | load=>trivial
    | seq t'=>show t'≤upd s.f w x (qw c);rw [hw'];exact g2
    | cas t'=>exact ⟨by show t'≤upd s.f w x (qw c);rw [hw'];exact g2.1,Nat.le_trans g2.2 (hge _)⟩
    | val t' =>
     cases c with
     | some v'=>exact ⟨g2.1,(hup _ (ho t' (.inl ⟨v',r,rfl,.inl rfl⟩))).1.trans g2.2⟩
     | none=>exact ⟨g2.1,(hup _ (ho t' (.inr ⟨r,rfl,.inl rfl⟩))).1.trans g2.2⟩
    | rel t' u' =>
     cases c with
     | some v' =>
      have e:=hup _ (ho t' (.inl ⟨v',r,rfl,.inr ⟨u',rfl⟩⟩))
      exact ⟨g2.1,g2.2.1,e.1.trans g2.2.2.1,e.2.trans g2.2.2.2⟩
     | none=>exact ⟨g2.1,(hup _ (ho t' (.inr ⟨r,rfl,.inr ⟨u',rfl⟩⟩))).1.trans g2.2.1,g2.2.2⟩
 ·have key:∀ {k:Nat} {a:QT},(qs.set j q')[k]?=some a→∃ b,qs[k]?=some b∧(∀ t,Puts t a→Puts t b)∧(∀ t,Takes t a→Takes t b):=by
   intro k a hk
   rcases set_cases hk hlt with ⟨e1,e2⟩ | ⟨_,hk⟩
   ·subst e1;subst e2;exact ⟨q,hq,hp,ht⟩
   ·exact ⟨a,hk,fun _ y=>y,fun _ y=>y⟩
  obtain ⟨b,b1,b2,b3⟩:=key hk
  obtain ⟨b',b1',b2',b3'⟩:=key hk'
  exact h.uniq k k' b b' t' b1 b1' (hh.imp (fun y=>⟨b2 _ y.1,b2' _ y.2⟩) fun y=>⟨b3 _ y.1,b3' _ y.2⟩)
 ·show putBy s k=_
  rcases set_cases hk hlt with ⟨e1,e2⟩ | ⟨_,hk⟩
  ·subst e1;subst e2;rw [h.pas k q hq,hpa]
  ·exact h.pas k a hk
 ·show takenBy s k=a.ta++pendT s a
  rcases set_cases hk hlt with ⟨e1,e2⟩ | ⟨_,hk⟩
  ·subst e1;subst e2;rw [h.tas k q hq,hta]
  ·exact h.tas k a hk
theorem puts_only {t'} (hcs:q.cs=some v::rest) (hst:q.st=.val t∨∃ u,q.st=.rel t u) (h:Puts t' q∨Takes t' q):t'=t:=by
 rcases h with ⟨_,_,_,e⟩ | ⟨_,e,_⟩
 ·rcases hst with h | ⟨_,h⟩ <;> rw [h] at e <;> rcases e with e | ⟨_,e⟩ <;> first | cases e;rfl | cases e
 ·rw [hcs] at e;cases e
theorem takes_only {t'} (hcs:q.cs=none::rest) (hst:q.st=.val t∨∃ u,q.st=.rel t u) (h:Puts t' q∨Takes t' q):t'=t:=by
 rcases h with ⟨_,_,e,_⟩ | ⟨_,_,e⟩
 ·rw [hcs] at e;cases e
 ·rcases hst with h | ⟨_,h⟩ <;> rw [h] at e <;> rcases e with e | ⟨_,e⟩ <;> first | cases e;rfl | cases e
theorem QI.alone_put (h:QI n Bd s qs) (hn:2≤n) (hq:qs[j]?=some q) (hp:Puts t q) (hf:s.f (2+2*(t%n))=t):∀ (k:Nat) a,k≠j→qs[k]?=some a→∀ t',Puts t' a∨Takes t' a→t'%n≠t%n:=by
 intro k a hkj hk t' hh e
 obtain ⟨_,ha⟩:=h.thr k a hk
 rcases hh with hh | hh
 ·obtain ⟨_,_,e2⟩:=puts_at ha hh
  rw [e,hf] at e2;subst e2
  exact hkj (h.uniq k j a q t hk hq (.inl ⟨hh,hp⟩))
 ·obtain ⟨_,e2⟩:=takes_at ha hh
  rw [e,hf] at e2
  exact mod_succ hn e e2
theorem QI.alone_take (h:QI n Bd s qs) (hn:2≤n) (hq:qs[j]?=some q) (hp:Takes t q) (hf:s.f (2+2*(t%n))=t+1):∀ (k:Nat) a,k≠j→qs[k]?=some a→∀ t',Puts t' a∨Takes t' a→t'%n≠t%n:=by
 intro k a hkj hk t' hh e
 obtain ⟨_,ha⟩:=h.thr k a hk
 rcases hh with hh | hh
 ·obtain ⟨_,_,e2⟩:=puts_at ha hh
  rw [e,hf] at e2
  exact mod_succ hn e.symm e2.symm
 ·obtain ⟨_,e2⟩:=takes_at ha hh
  rw [e,hf] at e2
  obtain rfl:t'=t:=by omega
  exact hkj (h.uniq k j a q t' hk hq (.inr ⟨hh,hp⟩))
theorem QI.valP (h:QI n Bd s qs) (hn:2≤n) (hq:qs[j]?=some q) (hcs:q.cs=some v::rest) (hst:q.st=.val t) :
  QI n Bd ⟨upd s.f (3+2*(t%n)) v,s.vs,s.tk⟩ (qs.set j { q with st:=.rel t v }):=by
 have hlt:=(List.getElem?_eq_some_iff.1 hq).1
 obtain ⟨hme,hok⟩:=h.thr j q hq
 have hpq:Puts t q:=⟨v,rest,hcs,.inl hst⟩
 have hok':s.vs[t]?=some (q.me,v)∧s.f (2+2*(t%n))=t:=by unfold QTok at hok;rw [hcs] at hok;simp only [hst] at hok;exact hok
 obtain ⟨h1,h2,hA⟩:=h.a_at hn hok'.2
 have hsq:upd s.f (3+2*(t%n)) v (2+2*(t%n))=s.f (2+2*(t%n)):=upd_other (by omega)
 have hP':Puts t ({ q with st:=.rel t v }:QT):=⟨v,rest,hcs,.inr ⟨v,rfl⟩⟩
 refine h.lay hn hq (.inr rfl) (fun e=>by omega) ⟨t,rfl,h1,h2,.inl ⟨hsq.trans hA.1,hA.2.1,fun hv=>wit_set hq (fun _=>hP') (fun _ y=>y) (hA.2.2 hv)⟩⟩ (fun t'=>puts_only hcs (.inl hst)) (h.alone_put hn hq hpq hok'.2) rfl (fun t' hp=>?_) (fun t' ht=>?_) ?_ ?_ ?_ ?_
 ·have:=puts_only (q:=({ q with st:=.rel t v }:QT)) hcs (.inr ⟨v,rfl⟩) (.inl hp);subst this;exact hpq
 ·obtain ⟨_,e,_⟩:=ht;simp only at e;rw [hcs] at e;cases e
 ·unfold qrem;simp [hst,QSt.holds]
 ·show QTok n _ ⟨q.me,q.cs,q.pa,q.ta,.rel t v⟩
  rw [hcs]
  exact ⟨rfl,hok'.1,hsq.trans hok'.2,upd_same⟩
 ·unfold pendP;simp [hcs,hst,QSt.holds]
 ·unfold pendT;simp [hcs]
theorem QI.relP (h:QI n Bd s qs) (hn:2≤n) (hB:Bd<4611686018427387904) (hq:qs[j]?=some q) (hcs:q.cs=some v::rest) (hst:q.st=.rel t u) :
  QI n Bd ⟨upd s.f (2+2*(t%n)) ((t+1)%18446744073709551616),s.vs,s.tk⟩ (qs.set j { q with cs:=rest,pa:=q.pa++[u],st:=.load }):=by
 have hlt:=(List.getElem?_eq_some_iff.1 hq).1
 obtain ⟨hme,hok⟩:=h.thr j q hq
 have hpq:Puts t q:=⟨v,rest,hcs,.inr ⟨u,hst⟩⟩
 obtain ⟨rfl,k1,k2,k3⟩:u=v∧s.vs[t]?=some (q.me,v)∧s.f (2+2*(t%n))=t∧s.f (3+2*(t%n))=v:=by unfold QTok at hok;rw [hcs] at hok;simp only [hst] at hok;exact hok
 obtain ⟨h1,h2,hA⟩:=h.a_at hn k2
 have htl:=(List.getElem?_eq_some_iff.1 k1).1
 have hm:(t+1)%18446744073709551616=t+1:=Nat.mod_eq_of_lt (by have:=h.bd;omega)
 rw [hm]
 have hsq:upd s.f (2+2*(t%n)) (t+1) (3+2*(t%n))=s.f (3+2*(t%n)):=upd_other (by omega)
 have hnh:({ q with cs:=rest,pa:=q.pa++[u],st:=.load }:QT).st.holds=false:=rfl
 refine h.lay hn hq (.inl rfl) (fun _=>by omega) ⟨t,rfl,h1,h2,.inr ⟨upd_same,htl,?_,fun hv=>by have:=hA.2.1;replace hv:t<s.tk.length:=hv;omega⟩⟩ (fun t'=>puts_only hcs (.inr ⟨u,hst⟩)) (h.alone_put hn hq hpq k2) rfl (fun t' hp=>(not_puts hnh hp).elim) (fun t' ht=>(not_takes hnh ht).elim) ?_ ?_ ?_ ?_
 ·show _=some (upd s.f _ _ _)
  rw [hsq,k1,k3];rfl
 ·unfold qrem;simp [hst,hcs,QSt.holds]
 ·show QTok n _ ⟨q.me,rest,q.pa++[u],q.ta,.load⟩
  cases rest <;> first | rfl | trivial
 ·have e1:pendP ({ q with cs:=rest,pa:=q.pa++[u],st:=.load }:QT)=[]:=by unfold pendP;cases rest with
   | nil=>rfl
   | cons c r=>cases c <;> rfl
  have e2:pendP q=[u]:=by unfold pendP;simp [hcs,hst,QSt.holds]
  rw [e1,e2];simp
 ·have e1:pendT s ({ q with cs:=rest,pa:=q.pa++[u],st:=.load }:QT)=[]:=by unfold pendT;cases rest with
   | nil=>rfl
   | cons c r=>cases c <;> rfl
  have e2:pendT s q=[]:=by unfold pendT;simp [hcs]
  rw [e1,e2]
theorem QI.relT (h:QI n Bd s qs) (hn:2≤n) (hn2:n≤1024) (hB:Bd<4611686018427387904) (hq:qs[j]?=some q) (hcs:q.cs=none::rest) (hst:q.st=.rel t u) :
  QI n Bd ⟨upd s.f (2+2*(t%n)) ((t+n)%18446744073709551616),s.vs,s.tk⟩ (qs.set j { q with cs:=rest,ta:=q.ta++[u],st:=.load }):=by
 have hlt:=(List.getElem?_eq_some_iff.1 hq).1
 obtain ⟨hme,hok⟩:=h.thr j q hq
 have hpq:Takes t q:=⟨rest,hcs,.inr ⟨u,hst⟩⟩
 obtain ⟨k1,k2,k3⟩:s.tk[t]?=some q.me∧s.f (2+2*(t%n))=t+1∧(s.vs[t]?).map (·.2)=some u:=by unfold QTok at hok;rw [hcs] at hok;simp only [hst] at hok;exact hok
 obtain ⟨h1,h2,hB'⟩:=h.b_at hn k2
 have htl:=(List.getElem?_eq_some_iff.1 k1).1
 have hle:=h.le
 have hm:(t+n)%18446744073709551616=t+n:=Nat.mod_eq_of_lt (by have:=h.bd;omega)
 rw [hm]
 have hnh:({ q with cs:=rest,ta:=q.ta++[u],st:=.load }:QT).st.holds=false:=rfl
 refine h.lay hn hq (.inl rfl) (fun _=>by omega) ⟨t+n,by simp,by omega,by omega,.inl ⟨upd_same,by show s.tk.length≤t+n;omega,fun hv=>by replace hv:t+n<s.vs.length:=hv;omega⟩⟩ (fun t'=>takes_only hcs (.inr ⟨u,hst⟩)) (h.alone_take hn hq hpq k2) rfl (fun t' hp=>(not_puts hnh hp).elim) (fun t' ht=>(not_takes hnh ht).elim) ?_ ?_ ?_ ?_
 ·unfold qrem;simp [hst,hcs,QSt.holds]
 ·show QTok n _ ⟨q.me,rest,q.pa,q.ta++[u],.load⟩
  cases rest <;> first | rfl | trivial
 ·have e1:pendP ({ q with cs:=rest,ta:=q.ta++[u],st:=.load }:QT)=[]:=by unfold pendP;cases rest with
   | nil=>rfl
   | cons c r=>cases c <;> rfl
  have e2:pendP q=[]:=by unfold pendP;simp [hcs]
  rw [e1,e2]
 ·have e1:pendT s ({ q with cs:=rest,ta:=q.ta++[u],st:=.load }:QT)=[]:=by unfold pendT;cases rest with
   | nil=>rfl
   | cons c r=>cases c <;> rfl
  have e2:pendT s q=[u]:=by unfold pendT;simp only [hcs,hst,k3];rfl
  rw [e1,e2];simp
end
end
section
def qwt (s:QS) (q:QT):Nat:=match q.cs with
 | []=>0
 | c::_=>match q.st with
  | .load=>5
  | .seq t=>if t=s.f (qw c) then 4 else 7
  | .cas t=>if t=s.f (qw c) then 3 else 6
  | .val _=>2
  | .rel _ _=>1
def qpsi (m:Nat) (s:QS) (q:QT):Nat:=8*q.cs.length+qwt s q+4*m*qrem q
def qphi (s:QS) (qs:List QT):Nat:=sumN (qs.map (qpsi qs.length s))
section
variable {n Bd:Nat} {s s':QS} {qs:List QT} {j:Nat} {q q' a:QT} {t v u:Nat} {rest:List (Option Nat)}
theorem pendP_none (h:q.st.holds=false):pendP q=[]:=by
 obtain ⟨me,cs,pa,ta,st⟩:=q
 cases cs with
 | nil=>rfl
 | cons c r =>
  cases c with
  | none=>rfl
  | some v=>show (if st.holds=true then [v] else [])=[];rw [show st.holds=false from h];rfl
theorem pendT_none (h:q.st.holds=false):pendT s q=[]:=by
 obtain ⟨me,cs,pa,ta,st⟩:=q
 cases cs with
 | nil=>rfl
 | cons c r=>cases c <;> cases st <;> first | rfl | cases h
theorem QI.stay0 (h:QI n Bd s qs) (hq:qs[j]?=some q) (h0:q.st.holds=false) (h1:q'.st.holds=false) (hme:q'.me=q.me) (hpa:q'.pa=q.pa) (hta:q'.ta=q.ta) (hr:qrem q'≤qrem q) (hok:QTok n s q'):QI n Bd s (qs.set j q') :=
 h.stay hq hme (fun t=>⟨fun x=>(not_puts h1 x).elim,fun x=>(not_puts h0 x).elim⟩) (fun t=>⟨fun x=>(not_takes h1 x).elim,fun x=>(not_takes h0 x).elim⟩) hr hok (by rw [pendP_none h0,pendP_none h1,hpa]) (by rw [pendT_none h0,pendT_none h1,hta])
theorem QI.xb (h:QI n Bd s qs) {i:Nat} (hi:i<n):s.f (2+2*i)≤Bd+n:=by
 obtain ⟨u,h1,h2,h3,h4⟩:=h.slot i hi
 have:=h.bd
 rcases h4 with h4 | h4
 ·have:=h4.1;omega
 ·have:=h4.1;have:=h4.2.1;omega
theorem QI.wb (h:QI n Bd s qs) (c:Option Nat):s.f (qw c)≤Bd:=by
 have:=h.bd
 cases c with
 | none=>show s.f 1≤Bd;have:=h.t0;omega
 | some v=>show s.f 0≤Bd;have:=h.p0;omega
theorem psi_eq {m:Nat} (h0:s'.f 0=s.f 0) (h1:s'.f 1=s.f 1):qpsi m s' a=qpsi m s a:=by
 have hw:∀ c,s'.f (qw c)=s.f (qw c):=fun c=>by cases c <;> assumption
 unfold qpsi qwt
 simp only [hw]
theorem phi_step (hq:qs[j]?=some q) (h0:s'.f 0=s.f 0) (h1:s'.f 1=s.f 1) (hd:∀ m,qpsi m s q'+1≤qpsi m s q):qphi s' (qs.set j q')<qphi s qs:=by
 unfold qphi
 rw [List.length_set]
 exact sum_step (φ0:=qpsi qs.length s) (φ1:=qpsi qs.length s') (fun a=>Nat.le_of_eq (psi_eq h0 h1)) hq (by rw [psi_eq h0 h1];exact hd _)
theorem phi_cas {c:Option Nat} (hq:qs[j]?=some q) (hcs:q.cs=c::rest) (hst:q.st=.cas t) (hst':q'.st=.val t) (hcs':q'.cs=q.cs) (hw:s'.f (qw c)≠t) (hoth:∀ c',qw c'≠qw c→s'.f (qw c')=s.f (qw c')):qphi s' (qs.set j q')<qphi s qs:=by
 unfold qphi
 rw [List.length_set]
 refine sum_step2 (φ0:=qpsi qs.length s) (φ1:=qpsi qs.length s') (d:=3) (fun a=>?_) hq ?_
 ·unfold qpsi
  have:qwt s' a≤qwt s a+3:=by
   unfold qwt
   cases a.cs with
   | nil=>simp
   | cons c r =>
    cases a.st <;> simp only
    ·omega
    ·split <;> split <;> omega
    ·split <;> split <;> omega
    ·omega
    ·omega
  omega
 ·have e1:qrem q=rest.length+1:=by unfold qrem;simp [hst,QSt.holds,hcs]
  have e2:qrem q'=rest.length:=by unfold qrem;simp [hst',QSt.holds,hcs,hcs']
  have e3:qwt s' q=6:=by unfold qwt;simp only [hcs,hst];rw [if_neg fun e=>hw e.symm]
  have e4:qwt s' q'=2:=by unfold qwt;simp only [hcs',hcs,hst']
  unfold qpsi
  rw [e1,e2,e3,e4,hcs']
  have:4*qs.length*(rest.length+1)=4*qs.length*rest.length+4*qs.length:=by rw [Nat.mul_add,Nat.mul_one]
  omega
theorem q_step (h:QI n Bd s qs) (hn:2≤n) (hn2:n≤1024) (hB:Bd<4611686018427387904) (hq:qs[j]?=some q) {mk:Int × Int} {F:QS→QS × QT} (hpl:qPlan n q=some (mk,F)) :
  QI n Bd (F s).1 (qs.set j (F s).2)∧qphi (F s).1 (qs.set j (F s).2)<qphi s qs:=by
 obtain ⟨hme,hok⟩:=h.thr j q hq
 obtain ⟨me,cs,pa,ta,st⟩:=q
 cases cs with
 | nil=>simp [qPlan] at hpl
 | cons c rest =>
  have hwb:=h.wb c
  cases st with
  | load =>
   simp only [qPlan,Option.some.injEq,Prod.mk.injEq] at hpl
   obtain ⟨_,rfl⟩:=hpl
   exact ⟨h.stay0 hq rfl rfl rfl rfl rfl (Nat.le_refl _) (Nat.le_refl _),phi_step hq rfl rfl fun m=>by simp [qpsi,qwt,qrem,QSt.holds] <;> omega⟩
  | seq t =>
   simp only [qPlan,Option.some.injEq,Prod.mk.injEq] at hpl
   obtain ⟨_,rfl⟩:=hpl
   replace hok:t≤s.f (qw c):=hok
   have hxb:=h.xb (i:=t%n) (QI.pos hn)
   have hwc:qw c≤1:=by cases c <;> simp [qw]
   simp only
   by_cases h1:9223372036854775808≤qd n s t (qw c)
   ·rw [if_pos h1]
    refine ⟨h.stay0 hq rfl rfl rfl rfl rfl (by simp [qrem,QSt.holds]) ?_,phi_step hq rfl rfl fun m=>?_⟩
    ·show QTok n s ⟨me,rest,pa,ta,.load⟩
     cases rest <;> first | rfl | trivial
    ·have e1:qwt s ⟨me,rest,pa,ta,.load⟩≤5:=by cases rest <;> simp [qwt]
     have e2:4≤qwt s ⟨me,c::rest,pa,ta,.seq t⟩:=by simp only [qwt];split <;> omega
     simp only [qpsi,qrem,QSt.holds,List.length_cons]
     have:4*m*rest.length≤4*m*(rest.length+1):=Nat.mul_le_mul_left _ (by omega)
     simp only [Bool.false_eq_true,if_false]
     omega
   ·rw [if_neg h1]
    have hd:qd n s t (qw c)=s.f (2+2*(t%n))-t-qw c∧t+qw c≤s.f (2+2*(t%n)):=by
     unfold qd at h1 ⊢
     generalize s.f (2+2*(t%n))=x at *
     omega
    by_cases h2:0<qd n s t (qw c)
    ·rw [if_pos h2]
     have hne:t≠s.f (qw c):=fun e=>by
      cases c with
      | some v=>have:=(h.put_slot hn e.symm (by omega)).2.1;simp only [qw] at hd h2;omega
      | none=>have:=(h.take_slot hn e.symm (by simp only [qw] at hd;omega)).2.1;simp only [qw] at hd h2;omega
     exact ⟨h.stay0 hq rfl rfl rfl rfl rfl (Nat.le_refl _) trivial,phi_step hq rfl rfl fun m=>by simp only [qpsi,qwt,qrem,QSt.holds,Bool.false_eq_true,if_false];rw [if_neg hne];omega⟩
    ·rw [if_neg h2]
     refine ⟨h.stay0 hq rfl rfl rfl rfl rfl (Nat.le_refl _) ⟨hok,hd.2⟩,phi_step hq rfl rfl fun m=>?_⟩
     simp only [qpsi,qwt,qrem,QSt.holds,Bool.false_eq_true,if_false]
     split <;> omega
  | cas t =>
   simp only [qPlan,Option.some.injEq,Prod.mk.injEq] at hpl
   obtain ⟨_,rfl⟩:=hpl
   replace hok:t≤s.f (qw c)∧t+qw c≤s.f (2+2*(t%n)):=hok
   by_cases he:s.f (qw c)=t
   ·simp only [if_pos he]
    have hm:(t+1)%18446744073709551616≠t:=by omega
    refine ⟨?_,phi_cas hq rfl rfl rfl rfl (by show upd _ _ _ _≠t;rw [upd_same];exact hm) fun c' hc'=>upd_other hc'⟩
    cases c with
    | some v=>exact h.casP hn hB hq rfl rfl he
    | none=>exact h.casT hn hB hq rfl rfl he
   ·simp only [if_neg he]
    exact ⟨h.stay0 hq rfl rfl rfl rfl rfl (Nat.le_refl _) trivial,phi_step hq rfl rfl fun m=>by simp only [qpsi,qwt,qrem,QSt.holds,Bool.false_eq_true,if_false];rw [if_neg fun e=>he e.symm];omega⟩
  | val t =>
   cases c with
   | some v =>
    simp only [qPlan,Option.some.injEq,Prod.mk.injEq] at hpl
    obtain ⟨_,rfl⟩:=hpl
    exact ⟨h.valP hn hq rfl rfl,phi_step hq (upd_other (by omega)) (upd_other (by omega)) fun m=>by simp [qpsi,qwt,qrem,QSt.holds] <;> omega⟩
   | none =>
    simp only [qPlan,Option.some.injEq,Prod.mk.injEq] at hpl
    obtain ⟨_,rfl⟩:=hpl
    replace hok:s.tk[t]?=some me∧s.f (2+2*(t%n))=t+1:=hok
    have hb:=(h.b_at hn hok.2).2.2.2.2.1
    refine ⟨h.stay hq rfl (fun t'=>⟨fun ⟨_,_,e,_⟩=>(by cases e),fun ⟨_,_,e,_⟩=>(by cases e)⟩) (fun t'=>⟨fun x=>?_,fun x=>?_⟩) (Nat.le_refl _) ⟨hok.1,hok.2,hb⟩ rfl rfl,phi_step hq rfl rfl fun m=>by simp [qpsi,qwt,qrem,QSt.holds] <;> omega⟩
    ·have:=takes_only (q:=⟨me,none::rest,pa,ta,.rel t (s.f (3+2*(t%n)))⟩) (t:=t) rfl (.inr ⟨_,rfl⟩) (.inr x)
     subst this
     exact ⟨rest,rfl,.inl rfl⟩
    ·have:=takes_only (q:=⟨me,none::rest,pa,ta,.val t⟩) (t:=t) rfl (.inl rfl) (.inr x)
     subst this
     exact ⟨rest,rfl,.inr ⟨_,rfl⟩⟩
  | rel t u =>
   have hwt:∀ (pa' ta':List Nat),qwt s ⟨me,rest,pa',ta',.load⟩≤5:=fun _ _=>by cases rest <;> simp [qwt]
   cases c with
   | some v =>
    simp only [qPlan,Option.some.injEq,Prod.mk.injEq] at hpl
    obtain ⟨_,rfl⟩:=hpl
    refine ⟨h.relP hn hB hq rfl rfl,phi_step hq (upd_other (by omega)) (upd_other (by omega)) fun m=>?_⟩
    have:=hwt (pa++[u]) ta
    simp only [qpsi,qrem,QSt.holds,List.length_cons] at this ⊢
    simp only [qwt] at this ⊢
    simp
    omega
   | none =>
    simp only [qPlan,Option.some.injEq,Prod.mk.injEq] at hpl
    obtain ⟨_,rfl⟩:=hpl
    refine ⟨h.relT hn hn2 hB hq rfl rfl,phi_step hq (upd_other (by omega)) (upd_other (by omega)) fun m=>?_⟩
    have:=hwt pa (ta++[u])
    simp only [qpsi,qrem,QSt.holds,List.length_cons] at this ⊢
    simp only [qwt] at this ⊢
    simp
    omega
end
end
end Go.Proofs.Ytmkkanmkjfnpdaa
namespace Go.PB
open Go.Conc
section
def mIdx:List (Int × Value)→Int→Nat→Option (Nat × Value)
 | [],_,_=>none
 | e::l,k,i=>if k=e.1 then some (i,e.2) else mIdx l k (i+1)
def mGet:List (Int × Value)→Int→Option Value
 | [],_=>none
 | e::l,k=>if k=e.1 then some e.2 else mGet l k
def mPut:List (Int × Value)→Int→Value→List (Int × Value)
 | [],k,v=>[(k,v)]
 | e::l,k,v=>if k=e.1 then (k,v)::l else e::mPut l k v
def mDel:List (Int × Value)→Int→List (Int × Value)
 | [],_=>[]
 | e::l,k=>if k=e.1 then l else e::mDel l k
theorem mIdx_get:∀ (l:List (Int × Value)) (k:Int) (i:Nat),(mIdx l k i).map (·.2)=mGet l k
 | [],_,_=>rfl
 | e::l,k,i=>by
  unfold mIdx mGet
  split
  ·rfl
  ·exact mIdx_get l k (i+1)
structure EsOk (ki:IntKind) (es:List MapEntry) (clock:Nat) (l:List (Int × Value)):Prop where
 eq:es.map (fun e=>(e.key,e.val))=l.map fun y=>(Value.int ki y.1,y.2)
 lt:∀ e∈es,e.born<clock
 nd:(es.map (·.born)).Nodup
section
variable {ki:IntKind} {es:List MapEntry} {clock:Nat} {l:List (Int × Value)}
theorem EsOk.nil:EsOk ki [] clock []:=⟨rfl,fun e h=>by simp at h,by simp⟩
theorem EsOk.len (h:EsOk ki es clock l):es.length=l.length:=by have:=congrArg List.length h.eq;simpa using this
theorem EsOk.get (h:EsOk ki es clock l) {i:Nat} {y:Int × Value} (hy:l[i]?=some y):∃ e,es[i]?=some e∧e.key=.int ki y.1∧e.val=y.2:=by
 have:=congrArg (fun x=>x[i]?) h.eq
 simp only [List.getElem?_map,hy,Option.map_some] at this
 obtain ⟨e,h1,h2⟩:=Option.map_eq_some_iff.1 this
 simp only [Prod.mk.injEq] at h2
 exact ⟨e,h1,h2.1,h2.2⟩
theorem findNow_eq {kk:IntKind} {k:Int}:∀ {es:List MapEntry} {l:List (Int × Value)} (i:Nat),es.map (fun e=>(e.key,e.val))=l.map (fun y=>(Value.int ki y.1,y.2))→Instr.findNow (.int kk) (.int ki k) es i=some (mIdx l k i)
 | [],[],_,_=>rfl
 | [],_::_,_,h=>by simp at h
 | _::_,[],_,h=>by simp at h
 | e::es,y::l,i,h=>by
  simp only [List.map_cons,List.cons.injEq,Prod.mk.injEq] at h
  obtain ⟨⟨h1,h2⟩,h3⟩:=h
  unfold Instr.findNow mIdx
  rw [h1]
  by_cases hk:k=y.1
  ·rw [if_pos hk]
   have:Instr.sameNow (.int kk) (.int ki k) (.int ki y.1)=some true:=by simp [Instr.sameNow,hk]
   rw [this,h2]
  ·rw [if_neg hk]
   have:Instr.sameNow (.int kk) (.int ki k) (.int ki y.1)=some false:=by simp [Instr.sameNow,hk]
   rw [this]
   exact findNow_eq (i+1) h3
theorem mIdx_none:∀ {l:List (Int × Value)} {k:Int} {i:Nat},mIdx l k i=none→∀ v,mPut l k v=l++[(k,v)]
 | [],_,_,_,_=>rfl
 | e::l,k,i,h,v=>by
  unfold mIdx at h
  split at h
  ·cases h
  ·rename_i hk
   unfold mPut
   rw [if_neg hk,mIdx_none h v];rfl
theorem mIdx_some:∀ {l:List (Int × Value)} {k:Int} {i j:Nat} {u:Value},mIdx l k i=some (j,u)→∃ q,j=i+q∧q<l.length∧l[q]?=some (k,u)∧(∀ v,mPut l k v=l.set q (k,v))∧mDel l k=l.eraseIdx q
 | [],_,_,_,_,h=>by cases h
 | e::l,k,i,j,u,h=>by
  unfold mIdx at h
  split at h
  ·rename_i hk
   cases h
   exact ⟨0,rfl,Nat.succ_pos _,by rw [hk];rfl,fun v=>by unfold mPut;rw [if_pos hk];rfl,by unfold mDel;rw [if_pos hk];rfl⟩
  ·rename_i hk
   obtain ⟨q,h1,h2,h3,h4,h5⟩:=mIdx_some h
   exact ⟨q+1,by omega,by simp;omega,by simpa using h3,fun v=>by unfold mPut;rw [if_neg hk,h4];rfl,by unfold mDel;rw [if_neg hk,h5];rfl⟩
theorem EsOk.push {k:Int} {v:Value} (h:EsOk ki es clock l):EsOk ki (es++[⟨.int ki k,v,clock⟩]) (clock+1) (l++[(k,v)]):=⟨by
  simp [h.eq],fun e he=>by
  rcases List.mem_append.1 he with he | he
  ·exact Nat.lt_succ_of_lt (h.lt e he)
  ·cases List.mem_singleton.1 he;exact Nat.lt_succ_self _,by
  rw [List.map_append,List.nodup_append]
  refine ⟨h.nd,by simp,fun a ha b hb=>?_⟩
  obtain ⟨e,he,rfl⟩:=List.mem_map.1 ha
  simp only [List.map_cons,List.map_nil,List.mem_singleton] at hb
  have:=h.lt e he
  omega⟩
theorem EsOk.set {k:Int} {v:Value} {q:Nat} {e:MapEntry} (h:EsOk ki es clock l) (he:es[q]?=some e):EsOk ki (es.set q { e with key:=.int ki k,val:=v }) clock (l.set q (k,v)) where
 eq:=by rw [List.map_set,List.map_set,h.eq]
 lt:=fun e' he'=>by
  rcases List.mem_or_eq_of_mem_set he' with h1 | rfl
  ·exact h.lt _ h1
  ·exact h.lt e (List.mem_of_getElem? he)
 nd:=by
  rw [List.map_set]
  have:(es.map (·.born)).set q e.born=es.map (·.born):=by
   apply List.ext_getElem?
   intro i
   rw [List.getElem?_set]
   split
   ·rename_i hi;subst hi
    rw [List.getElem?_map,he]
    have:=(List.getElem?_eq_some_iff.1 he).1
    simp [this]
   ·rfl
  rw [this];exact h.nd
theorem map_eraseIdx' {α β:Type} {f:α→β}:∀ (l:List α) (q:Nat),(l.eraseIdx q).map f=(l.map f).eraseIdx q
 | [],_=>rfl
 | a::l,0=>rfl
 | a::l,q+1=>by simp [map_eraseIdx' l q]
theorem EsOk.del {q:Nat} (h:EsOk ki es clock l):EsOk ki (es.eraseIdx q) clock (l.eraseIdx q) where
 eq:=by
  rw [map_eraseIdx',map_eraseIdx',h.eq]
 lt:=fun e he=>h.lt e (List.mem_of_mem_eraseIdx he)
 nd:=by
  rw [map_eraseIdx']
  exact h.nd.sublist (List.eraseIdx_sublist _ _)
end
theorem modify_set {α:Type} (f:α→α):∀ {l:List α} {i:Nat} {a:α},l[i]?=some a→l.modify i f=l.set i (f a)
 | [],_,_,h=>by simp at h
 | b::l,0,a,h=>by simp at h;subst h;rfl
 | b::l,i+1,a,h=>by
  simp only [List.getElem?_cons_succ] at h
  simp [modify_set f h]
def mapC (ki:IntKind) (b:Nat) (l:List (Int × Value)):HProp:=fun h=>∃ es clock,EsOk ki es clock l∧h.obj b=some (.map es.toArray clock)
section
variable {P:Program} {e:Env} {ty:TypeId} {L F:List HProp} {ki:IntKind} {b:Nat} {l:List (Int × Value)}
theorem mapC_new {h:Hp} (f:h.fresh b) (s:Star L h):Star (mapC ki b []::L) (h.setObj b (.map #[] 0)) :=
 star_map (star_newObj f s) (fun h ho=>⟨[],0,.nil,ho⟩) fun _ z=>z
theorem mapC_obj {h:Hp} (s:Star (mapC ki b l::L) h):∃ es clock,EsOk ki es clock l∧Star (ob b (.map es.toArray clock)::L) h:=by
 obtain ⟨h1,h2,s1,⟨es,clock,he,ho⟩,hL⟩:=s
 exact ⟨es,clock,he,h1,h2,s1,ho,hL⟩
theorem mapC_of {h:Hp} {es:List MapEntry} {clock:Nat} (he:EsOk ki es clock l) (s:Star (ob b (.map es.toArray clock)::L) h):Star (mapC ki b l::L) h :=
 star_map s (fun h ho=>⟨es,clock,he,ho⟩) fun _ z=>z
theorem wpS_checkKey {M:Mark→Prop} {empty:Bool} {n key:Nat} {kk:IntKind} {k:Int} {h:Hp} {Q:Unit→Hp→Prop} {X:Value→Hp→Prop} (hk:P.underlying key=some (.int kk)) (q:Q () h):wpS P M (Instr.checkKey empty (n+1) key (.int ki k)) h Q X:=by
 unfold Instr.checkKey
 exact wpS_underlying hk q
theorem wpS_findKey {M:Mark→Prop} {key:Nat} {kk:IntKind} {k:Int} {es:List MapEntry} {clock:Nat} {h:Hp} {Q:Option (Nat × Value)→Hp→Prop} {X:Value→Hp→Prop} (hk:P.underlying key=some (.int kk)) (he:EsOk ki es clock l) (q:Q (mIdx l k 0) h):wpS P M (Instr.findKey key (.int ki k) es) h Q X:=by
 unfold Instr.findKey
 refine wpS_underlying hk ?_
 rw [findNow_eq 0 he.eq]
 exact q
theorem mo_makeMap {t:TypeId} (ki:IntKind):Mo P e (.makeMap t none) ty L fun v' L'=>∃ b,v'=.map (some b)∧L'=mapC ki b []::L:=by
 intro M _ _ tt h Q X ag s q
 show wpS P M (Sem.bind (Instr.makeMap t none) fun v=>pure (.value v)) h Q X
 intro b hf
 exact q _ _ _ _ (.inl rfl) ⟨b,rfl,rfl⟩ (mapC_new hf s)
theorem wpS_mapUpdate {M:Mark→Prop} {t key el:Nat} {kk:IntKind} {k:Int} {v:Value} {h:Hp} {Q:Unit→Hp→Prop} {X:Value→Hp→Prop} (ht:P.underlying t=some (.map key el)) (hk:P.underlying key=some (.int kk)) (s:Star (mapC ki b l::L) h)
  (q:∀ h',Star (mapC ki b (mPut l k v)::L) h'→Q () h'):wpS P M (Instr.mapUpdate t (.map (some b)) (.int ki k) v) h Q X:=by
 obtain ⟨es,clock,he,s'⟩:=mapC_obj s
 unfold Instr.mapUpdate
 refine wpS_underlying ht ?_
 refine ⟨_,(star_setObj (o':=.map #[] 0) s').1,?_⟩
 refine wpS_bind _ _ ?_
 change wpS P M (Sem.bind (Instr.checkKey _ 10000 _ _) _) _ _ _
 refine wpS_bind _ _ (wpS_checkKey (n:=9999) hk ?_)
 refine wpS_bind _ _ (wpS_findKey hk (l:=l) (by simpa using he) ?_)
 cases hm:mIdx l k 0 with
 | none =>
  obtain ⟨h1,h2⟩:=star_setObj (o':=.map (es++[({ key:=.int ki k,val:=v,born:=clock }:MapEntry)]).toArray (clock+1)) s'
  refine ⟨by rw [h1];rfl,rfl,?_⟩
  rw [show es.toArray.push ({ key:=.int ki k,val:=v,born:=clock }:MapEntry)=(es++[({ key:=.int ki k,val:=v,born:=clock }:MapEntry)]).toArray by simp]
  refine q _ (mapC_of ?_ h2)
  rw [mIdx_none hm v]
  exact he.push
 | some y =>
  obtain ⟨j,u⟩:=y
  obtain ⟨i,h1,h2,h3,h4,_⟩:=mIdx_some hm
  obtain rfl:j=i:=by omega
  obtain ⟨en,h5,h6,h7⟩:=he.get h3
  have hb:Instr.sameBits 10000 (((es.toArray[j]?).map (·.key)).getD (.int ki k)) (.int ki k)=true:=by
   rw [List.getElem?_toArray,h5,Option.map_some,Option.getD_some,h6]
   show Instr.sameBits (9999+1) _ _=true
   simp [Instr.sameBits]
  show wpS P M (Sem.bind (Instr.keyThatStays _ _) _) h Q X
  unfold Instr.keyThatStays
  rw [if_pos hb]
  obtain ⟨k1,k2⟩:=star_setObj (o':=.map (es.set j { en with key:=.int ki k,val:=v }).toArray clock) s'
  refine ⟨by rw [k1];rfl,rfl,?_⟩
  rw [show (es.toArray.modify j fun e=>{ e with key:=.int ki k,val:=v })=(es.set j { en with key:=.int ki k,val:=v }).toArray by
   apply Array.ext'
   simp only [Array.toList_modify]
   exact modify_set _ h5]
  refine q _ (mapC_of ?_ k2)
  rw [h4]
  exact he.set h5
theorem mo_mapUpdate {t key el:Nat} {kk:IntKind} {m ko x:Operand} {k:Int} {v:Value} [p:Und P t (.map key el)] [pk:InT P key kk] (hm:ev e m=some (.map (some b))) (hk:ev e ko=some (.int ki k)) (hx:ev e x=some v) (hh:Has L (mapC ki b l) F) :
  Mo P e (.mapUpdate t m ko x) ty L fun v' L'=>v'=undef∧L'=mapC ki b (mPut l k v)::F:=by
 intro M _ _ tt h Q X ag s q
 show wpS P M (Sem.bind (Instr.mapUpdate t (evT tt m) (evT tt ko) (evT tt x)) fun _=>pure .skip) h Q X
 rw [ag.ev hm,ag.ev hk,ag.ev hx]
 exact wpS_bind _ _ (wpS_mapUpdate p.ok pk.ok (hh.star s) fun h' s'=>q undef _ _ _ (.inr ⟨rfl,rfl⟩) ⟨rfl,rfl⟩ s')
theorem wpS_lookup {M:Mark→Prop} {t key el:Nat} {kk:IntKind} {zv:Value} {k:Int} {ok:Bool} {h:Hp} {Q:Value→Hp→Prop} {X:Value→Hp→Prop} (ht:P.underlying t=some (.map key el)) (hk:P.underlying key=some (.int kk)) (hz:zeroOf P el=some zv) (s:Star (mapC ki b l::L) h)
  (q:Q (if ok=true then .tuple #[(mGet l k).getD zv,.bool (mGet l k).isSome] else (mGet l k).getD zv) h):wpS P M (Instr.lookup t (.map (some b)) (.int ki k) ok) h Q X:=by
 obtain ⟨es,clock,he,s'⟩:=mapC_obj s
 unfold Instr.lookup
 refine wpS_underlying ht ?_
 refine ⟨_,(star_setObj (o':=.map #[] 0) s').1,?_⟩
 refine wpS_bind _ _ ?_
 change wpS P M (Sem.bind (Instr.checkKey _ 10000 _ _) _) _ _ _
 refine wpS_bind _ _ (wpS_checkKey (n:=9999) hk ?_)
 refine wpS_bind _ _ (wpS_findKey hk (l:=l) (by simpa using he) ?_)
 have hg:=mIdx_get l k 0
 cases hm:mIdx l k 0 with
 | none =>
  rw [hm] at hg
  rw [← hg] at q
  refine wpS_zeroValue hz ?_
  cases ok <;> exact q
 | some y =>
  rw [hm] at hg
  rw [← hg] at q
  cases ok <;> exact q
theorem mo_lookup {t key el:Nat} {kk:IntKind} {zv:Value} {m ko:Operand} {k:Int} {ok:Bool} [p:Und P t (.map key el)] [pk:InT P key kk] [z:Zer P el zv] (hm:ev e m=some (.map (some b))) (hk:ev e ko=some (.int ki k)) (hh:Has L (mapC ki b l) F) :
  Mo P e (.lookup t m ko ok) ty L fun v' L'=>v'=(if ok=true then .tuple #[(mGet l k).getD zv,.bool (mGet l k).isSome] else (mGet l k).getD zv)∧L'=L:=by
 intro M _ _ tt h Q X ag s q
 show wpS P M (Sem.bind (Instr.lookup t (evT tt m) (evT tt ko) ok) fun v=>pure (.value v)) h Q X
 rw [ag.ev hm,ag.ev hk]
 exact wpS_bind _ _ (wpS_lookup p.ok pk.ok z.ok (hh.star s) (q _ L _ _ (.inl rfl) ⟨rfl,rfl⟩ s))
theorem mo_lookup2 {t key el:Nat} {kk:IntKind} {zv:Value} {m ko:Operand} {k:Int} [p:Und P t (.map key el)] [pk:InT P key kk] [z:Zer P el zv] (hm:ev e m=some (.map (some b))) (hk:ev e ko=some (.int ki k)) (hh:Has L (mapC ki b l) F) :
  Mo P e (.lookup t m ko true) ty L fun v' L'=>v'=.tuple #[(mGet l k).getD zv,.bool (mGet l k).isSome]∧L'=L:=by
 have h:=mo_lookup (P:=P) (e:=e) (ty:=ty) (L:=L) (F:=F) (t:=t) (ki:=ki) (b:=b) (l:=l) (m:=m) (ko:=ko) (k:=k) (ok:=true) (el:=el) (key:=key) (kk:=kk) (zv:=zv) hm hk hh
 rw [if_pos rfl] at h
 exact h
theorem mo_lookup1 {t key el:Nat} {kk:IntKind} {zv:Value} {m ko:Operand} {k:Int} [p:Und P t (.map key el)] [pk:InT P key kk] [z:Zer P el zv] (hm:ev e m=some (.map (some b))) (hk:ev e ko=some (.int ki k)) (hh:Has L (mapC ki b l) F) :
  Mo P e (.lookup t m ko false) ty L fun v' L'=>v'=(mGet l k).getD zv∧L'=L:=by
 have h:=mo_lookup (P:=P) (e:=e) (ty:=ty) (L:=L) (F:=F) (t:=t) (ki:=ki) (b:=b) (l:=l) (m:=m) (ko:=ko) (k:=k) (ok:=false) (el:=el) (key:=key) (kk:=kk) (zv:=zv) hm hk hh
 rw [if_neg (by decide)] at h
 exact h
theorem mo_mapLen {t key el:Nat} {m:Operand} [p:Und P t (.map key el)] (hm:ev e m=some (.map (some b))) (hh:Has L (mapC ki b l) F) :
  Mo P e (.call ⟨.builtin .len,#[m],#[t]⟩) ty L fun v' L'=>v'=.int .i64 (l.length:Nat)∧L'=L:=by
 intro M _ _ tt h Q X ag s q
 show wpS P M (Sem.bind (Builtin.len_ #[t] ty (#[m].map (evT tt))) fun v=>pure (.value v)) h Q X
 rw [show #[m].map (evT tt)=#[evT tt m] by simp,ag.ev hm]
 obtain ⟨es,clock,he,s'⟩:=mapC_obj (hh.star s)
 refine wpS_bind _ _ ?_
 refine wpS_underlying p.ok ?_
 refine ⟨_,(star_setObj (o':=.map #[] 0) s').1,?_⟩
 show Q (.value (goInt es.toArray.size)) h
 rw [List.size_toArray,he.len]
 exact q _ L _ _ (.inl rfl) ⟨rfl,rfl⟩ s
theorem mo_mapDelete {t t2 key el:Nat} {kk:IntKind} {m ko:Operand} {k:Int} [p:Und P t (.map key el)] [pk:InT P key kk] (hm:ev e m=some (.map (some b))) (hk:ev e ko=some (.int ki k)) (hh:Has L (mapC ki b l) F) :
  Mo P e (.call ⟨.builtin .delete,#[m,ko],#[t,t2]⟩) ty L fun v' L'=>v'=.tuple #[]∧L'=mapC ki b (mDel l k)::F:=by
 intro M _ _ tt h Q X ag s q
 show wpS P M (Sem.bind (Builtin.delete_ #[t,t2] ty (#[m,ko].map (evT tt))) fun v=>pure (.value v)) h Q X
 rw [show #[m,ko].map (evT tt)=#[evT tt m,evT tt ko] by simp,ag.ev hm,ag.ev hk]
 obtain ⟨es,clock,he,s'⟩:=mapC_obj (hh.star s)
 refine wpS_bind _ _ ?_
 refine wpS_underlying p.ok ?_
 refine ⟨_,(star_setObj (o':=.map #[] 0) s').1,?_⟩
 refine wpS_bind _ _ ?_
 change wpS P M (Sem.bind (Instr.checkKey _ 10000 _ _) _) _ _ _
 refine wpS_bind _ _ (wpS_checkKey (n:=9999) pk.ok ?_)
 refine wpS_bind _ _ (wpS_findKey pk.ok (l:=l) (by simpa using he) ?_)
 cases hi:mIdx l k 0 with
 | none =>
  obtain ⟨h1,h2⟩:=star_setObj (o':=.map es.toArray clock) s'
  refine ⟨by rw [h1];rfl,rfl,?_⟩
  have hd:∀ {l:List (Int × Value)} {i:Nat},mIdx l k i=none→mDel l k=l:=by
   intro l
   induction l with
   | nil=>intro i _;rfl
   | cons y l ih =>
    intro i hi
    unfold mIdx at hi
    split at hi
    ·cases hi
    ·rename_i hk
     unfold mDel
     rw [if_neg hk,ih hi]
  refine q _ _ _ _ (.inl rfl) ⟨rfl,rfl⟩ (mapC_of ?_ h2)
  rw [hd hi];exact he
 | some y =>
  obtain ⟨j,u⟩:=y
  obtain ⟨i,h1,h2,h3,_,h5⟩:=mIdx_some hi
  obtain rfl:j=i:=by omega
  obtain ⟨k1,k2⟩:=star_setObj (o':=.map (es.eraseIdx j).toArray clock) s'
  refine ⟨by rw [k1];rfl,rfl,?_⟩
  rw [show es.toArray.eraseIdxIfInBounds j=(es.eraseIdx j).toArray by simp]
  refine q _ _ _ _ (.inl rfl) ⟨rfl,rfl⟩ (mapC_of ?_ k2)
  rw [h5];exact he.del
end
end
end Go.PB
namespace Go.Proofs.Ytmkkanmkjfnpdaa
open Go Go.PB
section
abbrev KE:=Nat × (Nat × Nat)
def kV (k i:Nat):Value:=.agg #[.int .i64 (k:Nat),.int .i64 (i:Nat)]
def kEnc (y:KE):Int × Value:=((y.1:Nat),kV y.2.1 y.2.2)
section
variable {R:List KE} {v k i:Nat}
theorem kGet (nd:(R.map (·.1)).Nodup) (hm:(v,(k,i))∈R):mGet (R.map kEnc) (v:Nat)=some (kV k i):=by
 induction R with
 | nil=>simp at hm
 | cons y R ih =>
  rw [List.map_cons] at nd ⊢
  unfold mGet
  rcases List.mem_cons.1 hm with e | hm
  ·subst e;rw [if_pos (show ((v:Nat):Int)=(kEnc (v,(k,i))).1 from rfl)];rfl
  ·have hne:(v:Int)≠(kEnc y).1:=fun e=>by
    have e:v=y.1:=by have e':((v:Nat):Int)=((y.1:Nat):Int):=e;omega
    exact (List.nodup_cons.1 nd).1 (List.mem_map.2 ⟨_,hm,e⟩)
   rw [if_neg hne]
   exact ih (List.nodup_cons.1 nd).2 hm
theorem kPut (hn:v∉R.map (·.1)):mPut (R.map kEnc) (v:Nat) (kV k i)=(R++[((v,(k,i)):KE)]).map kEnc:=by
 induction R with
 | nil=>rfl
 | cons y R ih =>
  rw [List.map_cons] at hn ⊢
  have hne:(v:Int)≠(kEnc y).1:=fun e=>by
   have e:v=y.1:=by have e':((v:Nat):Int)=((y.1:Nat):Int):=e;omega
   exact hn (by rw [e];exact List.mem_cons_self)
  unfold mPut
  rw [if_neg hne,ih fun h=>hn (List.mem_cons_of_mem _ h)]
  rfl
theorem kDel (nd:(R.map (·.1)).Nodup):mDel (R.map kEnc) (v:Nat)=(R.filter fun y=>decide (y.1≠v)).map kEnc:=by
 induction R with
 | nil=>rfl
 | cons y R ih =>
  rw [List.map_cons] at nd ⊢
  have hnd:=List.nodup_cons.1 nd
  unfold mDel
  by_cases e:v=y.1
  ·rw [if_pos (by subst e;rfl),List.filter_cons,if_neg (by simp [e])]
   congr 1
   exact (List.filter_eq_self.2 fun z hz=>by
    simp only [ne_eq,decide_not,Bool.not_eq_eq_eq_not,Bool.not_true,decide_eq_false_iff_not]
    exact fun h=>hnd.1 (List.mem_map.2 ⟨z,hz,h.trans e⟩)).symm
  ·rw [if_neg (fun h=>e (by have e':((v:Nat):Int)=((y.1:Nat):Int):=h;omega)),List.filter_cons,if_pos (by simpa using fun h=>e h.symm),ih hnd.2]
   rfl
theorem kLen (nd:(R.map (·.1)).Nodup) (hm:(v,(k,i))∈R):(R.filter fun y=>decide (y.1≠v)).length+1=R.length:=by
 induction R with
 | nil=>simp at hm
 | cons y R ih =>
  rw [List.map_cons] at nd
  have hnd:=List.nodup_cons.1 nd
  rw [List.filter_cons]
  rcases List.mem_cons.1 hm with e | hm
  ·subst e
   rw [if_neg (by simp),List.filter_eq_self.2 fun z hz=>by
    simp only [ne_eq,decide_not,Bool.not_eq_eq_eq_not,Bool.not_true,decide_eq_false_iff_not]
    exact fun h=>hnd.1 (List.mem_map.2 ⟨z,hz,h⟩)]
   simp
  ·rw [if_pos (by simpa using fun h=>hnd.1 (List.mem_map.2 ⟨_,hm,h.symm⟩))]
   simp only [List.length_cons]
   have:=ih hnd.2 hm
   omega
theorem kNd (nd:(R.map (·.1)).Nodup):((R.filter fun y=>decide (y.1≠v)).map (·.1)).Nodup :=
 nd.sublist (List.filter_sublist.map _)
end
def KeptL:List KE→List Nat→(Nat→Nat)→Prop
 | _,[],_=>True
 | R,v::l,f=>∃ k i,(v,(k,i))∈R∧f k≤i∧KeptL (R.filter fun y=>decide (y.1≠v)) l (upd f k i)
def rmvs (R:List KE) (l:List Nat):List KE:=l.foldl (fun R v=>R.filter fun y=>decide (y.1≠v)) R
def KeptA:List KE→List (List Nat)→Prop
 | R,[]=>R=[]
 | R,l::ls=>KeptL R l (fun _=>0)∧KeptA (rmvs R l) ls
def ents (k:Nat) (l:List Nat):List KE:=l.mapIdx fun i v=>(v,(k,i))
def prs (ps:List (List Nat)):List KE:=(ps.mapIdx ents).flatten
theorem ents_snoc {k:Nat} {l:List Nat} {v:Nat}:ents k (l++[v])=ents k l++[(v,(k,l.length))]:=by
 unfold ents;rw [List.mapIdx_append];simp
theorem prs_snoc {ps:List (List Nat)} {l:List Nat}:prs (ps++[l])=prs ps++ents ps.length l:=by
 unfold prs;rw [List.mapIdx_append];simp
theorem ents_fst {k:Nat} {l:List Nat}:(ents k l).map (·.1)=l:=by
 apply List.ext_getElem?
 intro i
 simp only [ents,List.getElem?_map,List.getElem?_mapIdx]
 cases l[i]? <;> rfl
theorem prs_fst:∀ {ps:List (List Nat)},(prs ps).map (·.1)=ps.flatten:=by
 intro ps
 have key:∀ qs:List (List Nat),(prs qs.reverse).map (·.1)=qs.reverse.flatten:=by
  intro qs
  induction qs with
  | nil=>rfl
  | cons l qs ih=>rw [List.reverse_cons,prs_snoc,List.map_append,ih,ents_fst];simp
 have:=key ps.reverse
 rwa [List.reverse_reverse] at this
theorem prs_mem {ps:List (List Nat)} {y:KE} (h:y∈prs ps):∃ l,ps[y.2.1]?=some l∧l[y.2.2]?=some y.1:=by
 obtain ⟨r,hr,hy⟩:=List.mem_flatten.1 h
 obtain ⟨k,hk⟩:=List.mem_iff_getElem?.1 hr
 rw [List.getElem?_mapIdx] at hk
 obtain ⟨l,hl,rfl⟩:=Option.map_eq_some_iff.1 hk
 obtain ⟨i,hi⟩:=List.mem_iff_getElem?.1 hy
 unfold ents at hi
 rw [List.getElem?_mapIdx] at hi
 obtain ⟨v,hv,rfl⟩:=Option.map_eq_some_iff.1 hi
 exact ⟨l,hl,hv⟩
end
section
structure QE (m:Nat) (o:Nat→List Nat) (T:Nat→Prop) (s:QS) (qs:List QT):Prop where
 len:qs.length=m
 own:∀ x∈s.vs,x.1<m
 tak:∀ j∈s.tk,j<m∧T j
 sub:∀ (j:Nat) (q:QT),qs[j]?=some q→q.me=j∧(q.pa++q.cs.filterMap id).Sublist (o j)∧(none∈q.cs→T j)
section
variable {m n:Nat} {o:Nat→List Nat} {T:Nat→Prop} {s s':QS} {qs:List QT} {j:Nat} {q q':QT}
theorem QE.step (h:QE m o T s qs) (hq:qs[j]?=some q) (hv:∀ x∈s'.vs,x∈s.vs∨x.1=q.me) (ht:∀ x∈s'.tk,x∈s.tk∨(x=q.me∧none∈q.cs)) (hme:q'.me=q.me) (hs:(q'.pa++q'.cs.filterMap id).Sublist (q.pa++q.cs.filterMap id)) (hn:none∈q'.cs→none∈q.cs):QE m o T s' (qs.set j q'):=by
 have hlt:=(List.getElem?_eq_some_iff.1 hq).1
 obtain ⟨e1,e2,e3⟩:=h.sub j q hq
 refine ⟨by rw [List.length_set];exact h.len,fun x hx=>?_,fun x hx=>?_,fun k a hk=>?_⟩
 ·rcases hv x hx with hx | hx
  ·exact h.own x hx
  ·rw [hx,e1,← h.len];exact hlt
 ·rcases ht x hx with hx | ⟨hx,hc⟩
  ·exact h.tak x hx
  ·rw [hx,e1];exact ⟨by rw [← h.len];exact hlt,e3 hc⟩
 ·rcases set_cases hk hlt with ⟨e,e'⟩ | ⟨_,hk⟩
  ·subst e;subst e'
   exact ⟨hme.trans e1,hs.trans e2,fun x=>e3 (hn x)⟩
  ·exact h.sub k a hk
theorem qe_step {Bd:Nat} (h:QE m o T s qs) (hI:QI n Bd s qs) (hq:qs[j]?=some q) {mk:Int × Int} {F:QS→QS × QT} (hpl:qPlan n q=some (mk,F)):QE m o T (F s).1 (qs.set j (F s).2):=by
 obtain ⟨_,hok⟩:=hI.thr j q hq
 obtain ⟨me,cs,pa,ta,st⟩:=q
 have keep:∀ {q':QT} {f:Nat→Nat},q'.me=me→q'.pa=pa→q'.cs=cs→QE m o T ⟨f,s.vs,s.tk⟩ (qs.set j q'):=fun {q' f} e1 e2 e3 =>
  h.step hq (fun x hx=>.inl hx) (fun x hx=>.inl hx) e1 (by rw [e2,e3];exact List.Sublist.refl _) (by rw [e3];exact id)
 cases cs with
 | nil=>simp [qPlan] at hpl
 | cons c rest =>
  have drop:∀ {q':QT},q'.me=me→q'.pa=pa→q'.cs=rest→QE m o T s (qs.set j q'):=fun {q'} e1 e2 e3 =>
   h.step hq (fun x hx=>.inl hx) (fun x hx=>.inl hx) e1 (by rw [e2,e3];exact (List.Sublist.refl _).append ((List.sublist_cons_self _ _).filterMap _)) (by rw [e3];exact List.mem_cons_of_mem _)
  cases st with
  | load =>
   simp only [qPlan,Option.some.injEq,Prod.mk.injEq] at hpl
   obtain ⟨_,rfl⟩:=hpl
   exact keep rfl rfl rfl
  | seq t =>
   simp only [qPlan,Option.some.injEq,Prod.mk.injEq] at hpl
   obtain ⟨_,rfl⟩:=hpl
   simp only
   split
   ·exact drop rfl rfl rfl
   ·split
    ·exact keep rfl rfl rfl
    ·exact keep rfl rfl rfl
  | cas t =>
   simp only [qPlan,Option.some.injEq,Prod.mk.injEq] at hpl
   obtain ⟨_,rfl⟩:=hpl
   simp only
   split
   ·cases c with
    | some v =>
     refine h.step hq (fun x hx=>?_) (fun x hx=>.inl hx) rfl (List.Sublist.refl _) id
     rcases List.mem_append.1 hx with hx | hx
     ·exact .inl hx
     ·rw [List.mem_singleton.1 hx];exact .inr rfl
    | none =>
     refine h.step hq (fun x hx=>.inl hx) (fun x hx=>?_) rfl (List.Sublist.refl _) id
     rcases List.mem_append.1 hx with hx | hx
     ·exact .inl hx
     ·rw [List.mem_singleton.1 hx];exact .inr ⟨rfl,List.mem_cons_self⟩
   ·exact keep rfl rfl rfl
  | val t =>
   cases c with
   | some v =>
    simp only [qPlan,Option.some.injEq,Prod.mk.injEq] at hpl
    obtain ⟨_,rfl⟩:=hpl
    exact keep rfl rfl rfl
   | none =>
    simp only [qPlan,Option.some.injEq,Prod.mk.injEq] at hpl
    obtain ⟨_,rfl⟩:=hpl
    exact keep rfl rfl rfl
  | rel t u =>
   cases c with
   | some v =>
    simp only [qPlan,Option.some.injEq,Prod.mk.injEq] at hpl
    obtain ⟨_,rfl⟩:=hpl
    have e:u=v:=hok.1
    subst e
    exact h.step hq (fun x hx=>.inl hx) (fun x hx=>.inl hx) rfl (by simp) (List.mem_cons_of_mem _)
   | none =>
    simp only [qPlan,Option.some.injEq,Prod.mk.injEq] at hpl
    obtain ⟨_,rfl⟩:=hpl
    exact h.step hq (fun x hx=>.inl hx) (fun x hx=>.inl hx) rfl (by simp) (List.mem_cons_of_mem _)
end
end
section
def qLeft (s:QS):List Nat:=(s.vs.drop s.tk.length).map (·.2)
section
variable {n Bd:Nat} {s:QS} {qs:List QT}
theorem QI.room (h:QI n Bd s qs) (hn:2≤n):s.vs.length≤s.tk.length+n:=by
 obtain ⟨u,h1,h2,h3,_⟩:=h.slot (s.tk.length%n) (QI.pos hn)
 by_cases hle:s.tk.length≤u
 ·have:=mod_step (n:=n) h1.symm hle h3;omega
 ·omega
theorem QI.row (h:QI n Bd s qs) (hn:2≤n) (hn2:n≤1024) (hB:Bd<4611686018427387904) (hd:∀ q∈qs,q.cs=[]):RowAt n s.f (qLeft s):=by
 have hle:=h.le
 have hr:=h.room hn
 have hbd:=h.bd
 have hlen:(qLeft s).length=s.vs.length-s.tk.length:=by simp [qLeft]
 have noP:∀ t,¬ ∃ (j:Nat) (q:QT),qs[j]?=some q∧Puts t q:=fun t ⟨j,q,h1,v,r,h2,_⟩=>by rw [hd q (List.mem_of_getElem? h1)] at h2;cases h2
 have noT:∀ t,¬ ∃ (j:Nat) (q:QT),qs[j]?=some q∧Takes t q:=fun t ⟨j,q,h1,r,h2,_⟩=>by rw [hd q (List.mem_of_getElem? h1)] at h2;cases h2
 have hp:=h.p0
 have ht:=h.t0
 have key:∀ t,s.tk.length≤t→t<s.tk.length+n→(t<s.vs.length→SlotB s qs (t%n) t)∧(s.vs.length≤t→s.f (2+2*(t%n))=t):=fun t g1 g2=>by
  obtain ⟨u,h1,h2,h3,h4⟩:=h.slot (t%n) (QI.pos hn)
  have hu:s.tk.length≤u→u=t:=fun hu=>by
   rcases Nat.le_total t u with hl | hl
   ·exact mod_step (n:=n) h1.symm hl (by omega)
   ·exact (mod_step (n:=n) h1 hl (by omega)).symm
  rcases h4 with h4 | h4
  ·obtain rfl:=hu h4.2.1
   exact ⟨fun hv=>absurd (h4.2.2 hv) (noP _),fun _=>h4.1⟩
  ·have hTu:s.tk.length≤u:=Nat.le_of_not_lt fun hlt=>noT _ (h4.2.2.2 hlt)
   obtain rfl:=hu hTu
   exact ⟨fun _=>h4,fun hv=>by have:=h4.2.1;omega⟩
 refine ⟨by rw [hlen];omega,by rw [hlen];omega,by omega,fun i v hi=>?_,fun i h1 h2=>?_⟩
 ·have hlt:=(List.getElem?_eq_some_iff.1 hi).1
  rw [hlen] at hlt
  have hb:=(key (s.tk.length+i) (by omega) (by omega)).1 (by omega)
  rw [ht]
  refine ⟨by rw [hb.1];omega,?_⟩
  have e:=hb.2.2.1
  unfold qLeft at hi
  rw [List.getElem?_map,List.getElem?_drop] at hi
  rw [hi] at e
  exact (Option.some.inj e).symm
 ·rw [hlen] at h1
  rw [ht,(key (s.tk.length+i) (by omega) (by omega)).2 (by omega)]
  omega
end
def cnt (p:List (Nat × Nat)) (k:Nat):Nat:=(p.filter fun x=>decide (x.1=k)).length
theorem cnt_snoc {p:List (Nat × Nat)} {x:Nat × Nat} {k:Nat}:cnt (p++[x]) k=cnt p k+if x.1=k then 1 else 0:=by
 unfold cnt
 rw [List.filter_append,List.length_append]
 by_cases e:x.1=k <;> simp [e]
theorem keptL_sub:∀ {suf pre:List (Nat × Nat)} {R:List KE} {l:List Nat} {f:Nat→Nat},l.Sublist (suf.map (·.2))→(∀ k,f k≤cnt pre k)→(suf.map (·.2)).Nodup →
  (∀ p x q,suf=p++x::q→x.2∈l→((x.2,(x.1,cnt (pre++p) x.1)):KE)∈R)→KeptL R l f
 | [],pre,R,l,f,hs,hf,hn,hR=>by
  cases hs;trivial
 | x::suf,pre,R,l,f,hs,hf,hn,hR=>by
  rw [List.map_cons] at hs hn
  have hn':=List.nodup_cons.1 hn
  cases hs with
  | cons _ hs =>
   refine keptL_sub (pre:=pre++[x]) hs (fun k=>?_) hn'.2 fun p y q e hy=>?_
   ·rw [cnt_snoc];have:=hf k;omega
   ·have:=hR (x::p) y q (by rw [e];rfl) hy
    rwa [List.append_assoc]
  | cons_cons _ hs =>
   rename_i l
   refine ⟨x.1,cnt pre x.1,?_,hf _,?_⟩
   ·have:=hR [] x suf rfl List.mem_cons_self
    rwa [List.append_nil] at this
   ·refine keptL_sub (pre:=pre++[x]) hs (fun k=>?_) hn'.2 fun p y q e hy=>?_
    ·rw [cnt_snoc]
     by_cases hk:k=x.1
     ·subst hk;rw [upd_same];omega
     ·rw [upd_other hk];have:=hf k;omega
    ·refine List.mem_filter.2 ⟨?_,?_⟩
     ·have:=hR (x::p) y q (by rw [e];rfl) (List.mem_cons_of_mem _ hy)
      rwa [List.append_assoc]
     ·have hne:y.2≠x.2:=fun e2=>hn'.1 (by rw [← e2,e];simp)
      simpa using hne
theorem rmvs_mem:∀ {l:List Nat} {R:List KE} {y:KE},y∈rmvs R l↔y∈R∧y.1∉l
 | [],R,y=>by simp [rmvs]
 | v::l,R,y=>by
  show y∈rmvs (R.filter fun y=>decide (y.1≠v)) l↔_
  rw [rmvs_mem,List.mem_filter]
  simp only [List.mem_cons,not_or,decide_eq_true_eq,ne_eq]
  constructor
  ·rintro ⟨⟨h1,h2⟩,h3⟩;exact ⟨h1,h2,h3⟩
  ·rintro ⟨h1,h2,h3⟩;exact ⟨⟨h1,h2⟩,h3⟩
theorem keptA_of {vs:List (Nat × Nat)} (hnd:(vs.map (·.2)).Nodup):∀ {ls:List (List Nat)} {R:List KE},(∀ l∈ls,l.Sublist (vs.map (·.2)))→ls.flatten.Nodup→(∀ y∈R,y.1∈ls.flatten) →
  (∀ p x q,vs=p++x::q→x.2∈ls.flatten→((x.2,(x.1,cnt p x.1)):KE)∈R)→KeptA R ls
 | [],R,hs,hn,hR,hE=>List.eq_nil_iff_forall_not_mem.2 fun y hy=>by have:=hR y hy;simp at this
 | l::ls,R,hs,hn,hR,hE=>by
  rw [List.flatten_cons] at hn
  have hn':=List.nodup_append.1 hn
  refine ⟨keptL_sub (pre:=[]) (hs l (by simp)) (fun k=>Nat.zero_le _) hnd fun p x q e hx=>?_,keptA_of hnd (fun l' h'=>hs l' (by simp [h'])) hn'.2.1 (fun y hy=>?_) fun p x q e hx=>?_⟩
  ·exact hE p x q e (by rw [List.flatten_cons];exact List.mem_append.2 (.inl hx))
  ·obtain ⟨h1,h2⟩:=rmvs_mem.1 hy
   have:=hR y h1
   rw [List.flatten_cons,List.mem_append] at this
   exact this.resolve_left h2
  ·refine rmvs_mem.2 ⟨hE p x q e (by rw [List.flatten_cons];exact List.mem_append.2 (.inr hx)),fun h'=>hn'.2.2 _ h' _ hx rfl⟩
theorem nodup_by {key:Nat→Nat}:∀ {l:List (Nat × Nat)},(∀ x∈l,key x.2=x.1)→(∀ j,((l.filter fun x=>decide (x.1=j)).map (·.2)).Nodup)→(l.map (·.2)).Nodup
 | [],_,_=>List.nodup_nil
 | x::l,hk,hn=>by
  rw [List.map_cons]
  refine List.nodup_cons.2 ⟨fun hm=>?_,nodup_by (fun y hy=>hk y (by simp [hy])) fun j=>?_⟩
  ·obtain ⟨y,hy,e⟩:=List.mem_map.1 hm
   have e1:y.1=x.1:=by rw [← hk y (by simp [hy]),← hk x (by simp),e]
   have:=hn x.1
   rw [List.filter_cons,if_pos (by simp),List.map_cons] at this
   exact (List.nodup_cons.1 this).1 (List.mem_map.2 ⟨y,List.mem_filter.2 ⟨hy,by simp [e1]⟩,e⟩)
  ·have:=hn j
   rw [List.filter_cons] at this
   split at this
   ·rw [List.map_cons] at this;exact (List.nodup_cons.1 this).2
   ·exact this
theorem nodup_inj:∀ {l:List Nat} {i j v:Nat},l.Nodup→l[i]?=some v→l[j]?=some v→i=j
 | [],i,j,v,_,h,_=>by simp at h
 | a::l,0,0,v,_,_,_=>rfl
 | a::l,0,j+1,v,hn,hi,hj=>by
  simp at hi;subst hi
  exact ((List.nodup_cons.1 hn).1 (List.mem_of_getElem? (by simpa using hj))).elim
 | a::l,i+1,0,v,hn,hi,hj=>by
  simp at hj;subst hj
  exact ((List.nodup_cons.1 hn).1 (List.mem_of_getElem? (by simpa using hi))).elim
 | a::l,i+1,j+1,v,hn,hi,hj=>congrArg (·+1) (nodup_inj (v:=v) (List.nodup_cons.1 hn).2 (by simpa using hi) (by simpa using hj))
theorem prs_of {ps:List (List Nat)} {l:List Nat} {k i v:Nat} (h1:ps[k]?=some l) (h2:l[i]?=some v):((v,(k,i)):KE)∈prs ps:=by
 refine List.mem_flatten.2 ⟨ents k l,List.mem_of_getElem? (i:=k) (by rw [List.getElem?_mapIdx,h1];rfl),?_⟩
 exact List.mem_of_getElem? (i:=i) (by unfold ents;rw [List.getElem?_mapIdx,h2];rfl)
end
section
theorem nodup_flat:∀ {L:List (List Nat)},(∀ l∈L,l.Nodup)→(∀ (i j:Nat) l l' v,L[i]?=some l→L[j]?=some l'→v∈l→v∈l'→i=j)→L.flatten.Nodup
 | [],_,_=>List.nodup_nil
 | l::L,h1,h2=>by
  rw [List.flatten_cons]
  refine List.nodup_append.2 ⟨h1 l (by simp),nodup_flat (fun l' h=>h1 l' (by simp [h])) (fun i j a b v hi hj ha hb=>?_),fun a ha b hb e=>?_⟩
  ·have:=h2 (i+1) (j+1) a b v (by simpa using hi) (by simpa using hj) ha hb;omega
  ·subst e
   obtain ⟨l',h3,h4⟩:=List.mem_flatten.1 hb
   obtain ⟨i,hi⟩:=List.mem_iff_getElem?.1 h3
   have:=h2 0 (i+1) l l' a rfl (by simpa using hi) ha h4;omega
section
variable {s:QS}
theorem taken_at {j v:Nat} (h:v∈takenBy s j):∃ t:Nat,s.tk[t]?=some j∧(s.vs.map (·.2))[t]?=some v:=by
 unfold takenBy at h
 obtain ⟨x,hx,rfl⟩:=List.mem_map.1 h
 obtain ⟨h1,h2⟩:=List.mem_filter.1 hx
 obtain ⟨t,ht⟩:=List.mem_iff_getElem?.1 h1
 obtain ⟨a,b⟩:=x
 rw [List.getElem?_zip_eq_some] at ht
 simp only [decide_eq_true_eq] at h2
 subst h2
 exact ⟨t,ht.1,by rw [List.getElem?_map,ht.2];rfl⟩
theorem at_taken {t j v:Nat} (h1:s.tk[t]?=some j) (h2:(s.vs.map (·.2))[t]?=some v):v∈takenBy s j:=by
 rw [List.getElem?_map] at h2
 obtain ⟨x,hx,rfl⟩:=Option.map_eq_some_iff.1 h2
 unfold takenBy
 refine List.mem_map.2 ⟨(j,x),List.mem_filter.2 ⟨List.mem_of_getElem? (i:=t) (List.getElem?_zip_eq_some.2 ⟨h1,hx⟩),by simp⟩,rfl⟩
theorem left_at {v:Nat} (h:v∈qLeft s):∃ t:Nat,s.tk.length≤t∧(s.vs.map (·.2))[t]?=some v:=by
 unfold qLeft at h
 obtain ⟨i,hi⟩:=List.mem_iff_getElem?.1 h
 rw [List.getElem?_map,List.getElem?_drop] at hi
 exact ⟨s.tk.length+i,by omega,by rw [List.getElem?_map];exact hi⟩
theorem at_left {t v:Nat} (h1:s.tk.length≤t) (h2:(s.vs.map (·.2))[t]?=some v):v∈qLeft s:=by
 unfold qLeft
 refine List.mem_of_getElem? (i:=t-s.tk.length) ?_
 rw [List.getElem?_map,List.getElem?_drop,show s.tk.length+(t-s.tk.length)=t by omega]
 rw [List.getElem?_map] at h2;exact h2
theorem taken_sub (j:Nat):(takenBy s j).Sublist (s.vs.map (·.2)):=by
 unfold takenBy
 have h1:((List.zip s.tk s.vs).map (·.2.2)).Sublist (s.vs.map (·.2)):=by
  have:(List.zip s.tk s.vs).map (·.2)=s.vs.take s.tk.length∨True:=.inr trivial
  have key:∀ (a:List Nat) (b:List (Nat × Nat)),((List.zip a b).map (·.2.2)).Sublist (b.map (·.2)):=by
   intro a
   induction a with
   | nil=>intro b;simp
   | cons x a ih =>
    intro b
    cases b with
    | nil=>simp
    | cons y b=>simp only [List.zip_cons_cons,List.map_cons];exact (ih b).cons_cons _
  exact key _ _
 exact (List.filter_sublist.map _).trans h1
theorem left_sub:(qLeft s).Sublist (s.vs.map (·.2)):=by unfold qLeft;exact (List.drop_sublist _ _).map _
theorem put_sub (j:Nat):(putBy s j).Sublist (s.vs.map (·.2)):=by unfold putBy;exact List.filter_sublist.map _
theorem put_at {p q:List (Nat × Nat)} {x:Nat × Nat} (e:s.vs=p++x::q):(putBy s x.1)[cnt p x.1]?=some x.2:=by
 unfold putBy cnt
 rw [e,List.filter_append,List.map_append,List.getElem?_append_right (by simp),List.length_map,Nat.sub_self,List.filter_cons,if_pos (by simp)]
 rfl
def qPs (s:QS) (pn:Nat):List (List Nat):=(List.range pn).map (putBy s)
def qTs (s:QS) (off tn:Nat):List (List Nat):=(List.range tn).map fun k=>takenBy s (off+k)
theorem q_kept {n Bd m pn off tn:Nat} {qs:List QT} {o:Nat→List Nat} {T:Nat→Prop} {key:Nat→Nat} (h:QI n Bd s qs) (e:QE m o T s qs) (hd:∀ q∈qs,q.cs=[]) (ho:∀ j,(o j).Nodup∧(∀ v∈o j,key v=j)∧(pn≤j→o j=[])) (hT:∀ j,j<m→T j→off≤j∧j<off+tn) :
  KeptA (prs (qPs s pn)) (qTs s off tn++[qLeft s])∧(qPs s pn).flatten.Nodup∧(∀ v∈(qPs s pn).flatten,∃ j,v∈o j)∧(∀ l∈qTs s off tn++[qLeft s],l.length≤Bd)∧(qPs s pn).flatten.length≤pn*Bd:=by
 have hbd:=h.bd
 have hput:∀ j,j<m→(putBy s j).Sublist (o j):=fun j hj=>by
  have hlt:j<qs.length:=by rw [e.len];exact hj
  have hq:=List.getElem?_eq_getElem hlt
  have hc:=hd _ (List.getElem_mem hlt)
  have e1:=h.pas j _ hq
  have e2:pendP (qs[j])=[]:=by unfold pendP;rw [hc]
  rw [e2,List.append_nil] at e1
  obtain ⟨_,e3,_⟩:=e.sub j _ hq
  rw [hc] at e3
  rw [e1];simpa using e3
 have hmemp:∀ x∈s.vs,x.2∈putBy s x.1:=fun x hx=>by
  unfold putBy;exact List.mem_map.2 ⟨x,List.mem_filter.2 ⟨hx,by simp⟩,rfl⟩
 have hino:∀ x∈s.vs,x.2∈o x.1:=fun x hx=>(hput x.1 (e.own x hx)).subset (hmemp x hx)
 have hown:∀ x∈s.vs,x.1<pn:=fun x hx=>Nat.lt_of_not_le fun hle=>by have:=hino x hx;rw [(ho x.1).2.2 hle] at this;simp at this
 have hnd:(s.vs.map (·.2)).Nodup:=nodup_by (key:=key) (fun x hx=>(ho x.1).2.1 _ (hino x hx)) fun j=>by
  by_cases hj:j<m
  ·exact (ho j).1.sublist (hput j hj)
  ·have:s.vs.filter (fun x=>decide (x.1=j))=[]:=List.filter_eq_nil_iff.2 fun x hx=>by have:=e.own x hx;simp;omega
   rw [this];exact List.nodup_nil
 have hls:∀ (i:Nat) l,(qTs s off tn++[qLeft s])[i]?=some l→(i<tn∧l=takenBy s (off+i))∨(i=tn∧l=qLeft s):=fun i l hi=>by
  have hl:(qTs s off tn).length=tn:=by simp [qTs]
  rcases Nat.lt_or_ge i tn with hlt | hge
  ·rw [List.getElem?_append_left (by omega)] at hi
   unfold qTs at hi
   rw [List.getElem?_map,List.getElem?_range hlt] at hi
   exact .inl ⟨hlt,(Option.some.inj hi).symm⟩
  ·rw [List.getElem?_append_right (by omega)] at hi
   have:i-(qTs s off tn).length=0:=by have:=(List.getElem?_eq_some_iff.1 hi).1;simp at this;omega
   rw [this] at hi
   exact .inr ⟨by omega,(Option.some.inj hi).symm⟩
 have hsub:∀ l∈qTs s off tn++[qLeft s],l.Sublist (s.vs.map (·.2)):=fun l hl=>by
  obtain ⟨i,hi⟩:=List.mem_iff_getElem?.1 hl
  rcases hls i l hi with ⟨_,rfl⟩ | ⟨_,rfl⟩
  ·exact taken_sub _
  ·exact left_sub
 have hcov:∀ v∈s.vs.map (·.2),v∈(qTs s off tn++[qLeft s]).flatten:=fun v hv=>by
  obtain ⟨t,ht⟩:=List.mem_iff_getElem?.1 hv
  by_cases hlt:t<s.tk.length
  ·obtain ⟨j,hj⟩:∃ j,s.tk[t]?=some j:=⟨_,List.getElem?_eq_getElem hlt⟩
   obtain ⟨h1,h2⟩:=e.tak j (List.mem_of_getElem? hj)
   obtain ⟨h3,h4⟩:=hT j h1 h2
   refine List.mem_flatten.2 ⟨takenBy s j,List.mem_append.2 (.inl ?_),at_taken hj ht⟩
   unfold qTs
   exact List.mem_map.2 ⟨j-off,List.mem_range.2 (by omega),by rw [show off+(j-off)=j by omega]⟩
  ·exact List.mem_flatten.2 ⟨qLeft s,by simp,at_left (by omega) ht⟩
 have hfl:(qTs s off tn++[qLeft s]).flatten.Nodup:=nodup_flat (fun l hl=>hnd.sublist (hsub l hl)) fun i j l l' v hi hj hv hv'=>by
  rcases hls i l hi with ⟨g1,rfl⟩ | ⟨g1,rfl⟩ <;> rcases hls j l' hj with ⟨g2,rfl⟩ | ⟨g2,rfl⟩
  ·obtain ⟨t1,a1,b1⟩:=taken_at hv
   obtain ⟨t2,a2,b2⟩:=taken_at hv'
   obtain rfl:=nodup_inj hnd b1 b2
   rw [a1] at a2;have:=Option.some.inj a2;omega
  ·obtain ⟨t1,a1,b1⟩:=taken_at hv
   obtain ⟨t2,a2,b2⟩:=left_at hv'
   obtain rfl:=nodup_inj hnd b1 b2
   have:=(List.getElem?_eq_some_iff.1 a1).1;omega
  ·obtain ⟨t1,a1,b1⟩:=left_at hv
   obtain ⟨t2,a2,b2⟩:=taken_at hv'
   obtain rfl:=nodup_inj hnd b1 b2
   have:=(List.getElem?_eq_some_iff.1 a2).1;omega
  ·omega
 have hps:∀ (k:Nat) l,(qPs s pn)[k]?=some l→k<pn∧l=putBy s k:=fun k l hk=>by
  unfold qPs at hk
  rw [List.getElem?_map] at hk
  obtain ⟨k',h1,rfl⟩:=Option.map_eq_some_iff.1 hk
  have hlt:=(List.getElem?_eq_some_iff.1 h1).1
  rw [List.length_range] at hlt
  rw [List.getElem?_range hlt] at h1
  cases h1;exact ⟨hlt,rfl⟩
 refine ⟨keptA_of hnd hsub hfl (fun y hy=>?_) fun p x q ee hx=>?_,nodup_flat (fun l hl=>?_) fun i j l l' v hi hj hv hv'=>?_,fun v hv=>?_,fun l hl=>?_,?_⟩
 ·obtain ⟨l,h1,h2⟩:=prs_mem hy
  obtain ⟨_,rfl⟩:=hps _ _ h1
  exact hcov _ ((put_sub _).subset (List.mem_of_getElem? h2))
 ·have hx':x∈s.vs:=by rw [ee];simp
  exact prs_of (l:=putBy s x.1) (by unfold qPs;rw [List.getElem?_map,List.getElem?_range (hown x hx')];rfl) (put_at ee)
 ·obtain ⟨k,hk⟩:=List.mem_iff_getElem?.1 hl
  obtain ⟨_,rfl⟩:=hps k l hk
  exact hnd.sublist (put_sub k)
 ·obtain ⟨_,rfl⟩:=hps i l hi
  obtain ⟨_,rfl⟩:=hps j l' hj
  unfold putBy at hv hv'
  obtain ⟨x,hx,e1⟩:=List.mem_map.1 hv
  obtain ⟨y,hy,e2⟩:=List.mem_map.1 hv'
  obtain ⟨x1,x2⟩:=List.mem_filter.1 hx
  obtain ⟨y1,y2⟩:=List.mem_filter.1 hy
  have k1:=(ho x.1).2.1 _ (hino x x1)
  have k2:=(ho y.1).2.1 _ (hino y y1)
  simp only [decide_eq_true_eq] at x2 y2
  rw [e1] at k1;rw [e2] at k2
  omega
 ·obtain ⟨l,hl,hv⟩:=List.mem_flatten.1 hv
  obtain ⟨k,hk⟩:=List.mem_iff_getElem?.1 hl
  obtain ⟨_,rfl⟩:=hps k l hk
  unfold putBy at hv
  obtain ⟨x,hx,e1⟩:=List.mem_map.1 hv
  exact ⟨x.1,by rw [← e1];exact hino x (List.mem_filter.1 hx).1⟩
 ·have:=(hsub l hl).length_le
  rw [List.length_map] at this;omega
 ·have key:∀ k,((List.range k).map (putBy s)).flatten.length≤k*Bd:=fun k=>by
   induction k with
   | zero=>simp
   | succ k ih =>
    rw [List.range_succ,List.map_append,List.flatten_append,List.length_append,Nat.succ_mul]
    have:=(put_sub (s:=s) k).length_le
    rw [List.length_map] at this
    simp only [List.map_cons,List.map_nil,List.flatten_cons,List.flatten_nil,List.append_nil]
    omega
  exact key pn
end
end
section
def qAct (q:QT):Nat:=if q.cs=[] then 0 else 1
def qtPsi (M:Nat) (s:QS) (q:QT):Nat:=(match q.cs with | []=>0 | _::rest=>5*rest.length+qwt s q)+3*(M-1)*qrem q
section
variable {n Bd M:Nat} {s s':QS} {qs:List QT} {j:Nat} {q q' a:QT} {t v u:Nat} {rest:List (Option Nat)}
theorem qt_eq (h0:s'.f 0=s.f 0) (h1:s'.f 1=s.f 1):qtPsi M s' a=qtPsi M s a:=by
 have hw:∀ c,s'.f (qw c)=s.f (qw c):=fun c=>by cases c <;> assumption
 unfold qtPsi qwt
 simp only [hw]
theorem qt_phi (hq:qs[j]?=some q) (h0:s'.f 0=s.f 0) (h1:s'.f 1=s.f 1) (hd:qtPsi M s q'+1≤qtPsi M s q):sumN ((qs.set j q').map (qtPsi M s'))+1≤sumN (qs.map (qtPsi M s)) :=
 sum_step (fun a=>Nat.le_of_eq (qt_eq h0 h1)) hq (by rw [qt_eq h0 h1];exact hd)
theorem qt_act (hq:qs[j]?=some q) (h:qAct q'≤qAct q):sumN ((qs.set j q').map qAct)≤sumN (qs.map qAct):=by
 have:=sum_set (φ:=qAct) (q':=q') hq;omega
theorem sum_le3 (h:∀ a,qtPsi M s' a≤qtPsi M s a+3*qAct a):∀ qs:List QT,sumN (qs.map (qtPsi M s'))≤sumN (qs.map (qtPsi M s))+3*sumN (qs.map qAct)
 | []=>by simp [sumN]
 | a::qs=>by
  have h1:=sum_le3 h qs
  have h2:=h a
  simp only [List.map_cons,sumN,List.foldr_cons,Nat.mul_add] at h1 ⊢;omega
theorem qt_cas {c:Option Nat} (hM:sumN (qs.map qAct)≤M) (hM1:1≤M) (hq:qs[j]?=some q) (hcs:q.cs=c::rest) (hst:q.st=.cas t) (hst':q'.st=.val t) (hcs':q'.cs=q.cs) (hw:s'.f (qw c)≠t):sumN ((qs.set j q').map (qtPsi M s'))+1≤sumN (qs.map (qtPsi M s)):=by
 have h1:=sum_set (φ:=qtPsi M s') (q':=q') hq
 have h2:=sum_le3 (M:=M) (s:=s) (s':=s') (fun a=>by
  have:qwt s' a≤qwt s a+3:=by
   unfold qwt
   cases a.cs with
   | nil=>simp
   | cons c r =>
    cases a.st <;> simp only
    ·omega
    ·split <;> split <;> omega
    ·split <;> split <;> omega
    ·omega
    ·omega
  unfold qtPsi qAct
  cases h:a.cs with
  | nil=>simp
  | cons c r=>simp only [if_neg (List.cons_ne_nil _ _)];omega) qs
 have e1:qrem q=rest.length+1:=by unfold qrem;simp [hst,QSt.holds,hcs]
 have e2:qrem q'=rest.length:=by unfold qrem;simp [hst',QSt.holds,hcs,hcs']
 have e3:qwt s' q=6:=by unfold qwt;simp only [hcs,hst];rw [if_neg fun e=>hw e.symm]
 have e4:qwt s' q'=2:=by unfold qwt;simp only [hcs',hcs,hst']
 have e5:qtPsi M s' q=5*rest.length+6+3*(M-1)*(rest.length+1):=by
  unfold qtPsi;rw [e1,e3,hcs]
 have e6:qtPsi M s' q'=5*rest.length+2+3*(M-1)*rest.length:=by
  unfold qtPsi;rw [e2,e4,hcs',hcs]
 have e7:3*(M-1)*(rest.length+1)=3*(M-1)*rest.length+3*(M-1):=by rw [Nat.mul_add,Nat.mul_one]
 omega
theorem act_one (hq:qs[j]?=some q) (h:q.cs≠[]):1≤sumN (qs.map qAct):=by
 induction qs generalizing j with
 | nil=>simp at hq
 | cons a l ih =>
  cases j with
  | zero=>simp at hq;subst hq;simp only [List.map_cons,sumN,List.foldr_cons,qAct,if_neg h];omega
  | succ j =>
   have:=ih (j:=j) (by simpa using hq)
   simp only [List.map_cons,sumN,List.foldr_cons] at this ⊢;omega
theorem qt_step (h:QI n Bd s qs) (hA:sumN (qs.map qAct)≤M) (hn:2≤n) (hn2:n≤1024) (hB:Bd<4611686018427387904) (hq:qs[j]?=some q) {mk:Int × Int} {F:QS→QS × QT} (hpl:qPlan n q=some (mk,F)) :
  sumN ((qs.set j (F s).2).map qAct)≤M∧sumN ((qs.set j (F s).2).map (qtPsi M (F s).1))+1≤sumN (qs.map (qtPsi M s)):=by
 obtain ⟨hme,hok⟩:=h.thr j q hq
 obtain ⟨me,cs,pa,ta,st⟩:=q
 cases cs with
 | nil=>simp [qPlan] at hpl
 | cons c rest =>
  have hwb:=h.wb c
  have hM1:=act_one hq (List.cons_ne_nil _ _)
  have act:∀ {q':QT},sumN ((qs.set j q').map qAct)≤M:=fun {q'}=>Nat.le_trans (qt_act hq (by unfold qAct;rw [if_neg (List.cons_ne_nil _ _)];split <;> omega)) hA
  refine ⟨act,?_⟩
  have hdrop:∀ {x:Nat} {pa' ta':List Nat} {st':QSt},(∀ s,1≤qwt s ⟨me,c::rest,pa,ta,st'⟩)→qtPsi M s ⟨me,rest,pa',ta',.load⟩+1≤5*rest.length+qwt s ⟨me,c::rest,pa,ta,st'⟩+3*(M-1)*rest.length:=fun {x pa' ta' st'} hw=>by
   have e1:=hw s
   unfold qtPsi
   have e2:qrem ⟨me,rest,pa',ta',.load⟩=rest.length:=by simp [qrem,QSt.holds]
   rw [e2]
   cases rest with
   | nil=>simp only [List.length_nil];omega
   | cons d r=>simp only [qwt,List.length_cons] at e1 ⊢;omega
  cases st with
  | load =>
   simp only [qPlan,Option.some.injEq,Prod.mk.injEq] at hpl
   obtain ⟨_,rfl⟩:=hpl
   exact qt_phi hq rfl rfl (by simp [qtPsi,qwt,qrem,QSt.holds] <;> omega)
  | seq t =>
   simp only [qPlan,Option.some.injEq,Prod.mk.injEq] at hpl
   obtain ⟨_,rfl⟩:=hpl
   replace hok:t≤s.f (qw c):=hok
   have hxb:=h.xb (i:=t%n) (QI.pos hn)
   have hwc:qw c≤1:=by cases c <;> simp [qw]
   simp only
   by_cases h1:9223372036854775808≤qd n s t (qw c)
   ·rw [if_pos h1]
    refine qt_phi hq rfl rfl ?_
    have e2:4≤qwt s ⟨me,c::rest,pa,ta,.seq t⟩:=by simp only [qwt];split <;> omega
    have e3:qtPsi M s ⟨me,c::rest,pa,ta,.seq t⟩=5*rest.length+qwt s ⟨me,c::rest,pa,ta,.seq t⟩+3*(M-1)*(rest.length+1):=by simp [qtPsi,qrem,QSt.holds]
    have e4:qtPsi M s ⟨me,rest,pa,ta,.load⟩≤5*rest.length+3*(M-1)*rest.length:=by
     unfold qtPsi
     have e2:qrem ⟨me,rest,pa,ta,.load⟩=rest.length:=by simp [qrem,QSt.holds]
     rw [e2]
     cases rest with
     | nil=>simp
     | cons d r=>simp only [qwt,List.length_cons];omega
    have e7:3*(M-1)*(rest.length+1)=3*(M-1)*rest.length+3*(M-1):=by rw [Nat.mul_add,Nat.mul_one]
    omega
   ·rw [if_neg h1]
    have hd:qd n s t (qw c)=s.f (2+2*(t%n))-t-qw c∧t+qw c≤s.f (2+2*(t%n)):=by
     unfold qd at h1 ⊢
     generalize s.f (2+2*(t%n))=x at *
     omega
    by_cases h2:0<qd n s t (qw c)
    ·rw [if_pos h2]
     have hne:t≠s.f (qw c):=fun e=>by
      cases c with
      | some v=>have:=(h.put_slot hn e.symm (by omega)).2.1;simp only [qw] at hd h2;omega
      | none=>have:=(h.take_slot hn e.symm (by simp only [qw] at hd;omega)).2.1;simp only [qw] at hd h2;omega
     exact qt_phi hq rfl rfl (by simp only [qtPsi,qwt,qrem,QSt.holds,Bool.false_eq_true,if_false];rw [if_neg hne];omega)
    ·rw [if_neg h2]
     refine qt_phi hq rfl rfl ?_
     simp only [qtPsi,qwt,qrem,QSt.holds,Bool.false_eq_true,if_false]
     split <;> omega
  | cas t =>
   simp only [qPlan,Option.some.injEq,Prod.mk.injEq] at hpl
   obtain ⟨_,rfl⟩:=hpl
   simp only
   by_cases hc:s.f (qw c)=t
   ·rw [if_pos hc]
    refine qt_cas (c:=c) hA (by omega) hq rfl rfl rfl rfl ?_
    simp only
    rw [upd_same,Nat.mod_eq_of_lt (by omega)]
    omega
   ·rw [if_neg hc]
    exact qt_phi hq rfl rfl (by simp only [qtPsi,qwt,qrem,QSt.holds,Bool.false_eq_true,if_false];rw [if_neg fun e=>hc e.symm];omega)
  | val t =>
   cases c with
   | some v =>
    simp only [qPlan,Option.some.injEq,Prod.mk.injEq] at hpl
    obtain ⟨_,rfl⟩:=hpl
    exact qt_phi hq (upd_other (by omega)) (upd_other (by omega)) (by simp [qtPsi,qwt,qrem,QSt.holds] <;> omega)
   | none =>
    simp only [qPlan,Option.some.injEq,Prod.mk.injEq] at hpl
    obtain ⟨_,rfl⟩:=hpl
    exact qt_phi hq rfl rfl (by simp [qtPsi,qwt,qrem,QSt.holds] <;> omega)
  | rel t u =>
   have e5:∀ {pa' ta':List Nat},qtPsi M s ⟨me,rest,pa',ta',.load⟩+1≤qtPsi M s ⟨me,c::rest,pa,ta,.rel t u⟩:=fun {pa' ta'}=>by
    have:=hdrop (x:=0) (pa':=pa') (ta':=ta') (st':=.rel t u) fun _=>by simp [qwt]
    have e3:qtPsi M s ⟨me,c::rest,pa,ta,.rel t u⟩=5*rest.length+qwt s ⟨me,c::rest,pa,ta,.rel t u⟩+3*(M-1)*rest.length:=by simp [qtPsi,qrem,QSt.holds]
    omega
   cases c with
   | some v =>
    simp only [qPlan,Option.some.injEq,Prod.mk.injEq] at hpl
    obtain ⟨_,rfl⟩:=hpl
    exact qt_phi hq (upd_other (by omega)) (upd_other (by omega)) e5
   | none =>
    simp only [qPlan,Option.some.injEq,Prod.mk.injEq] at hpl
    obtain ⟨_,rfl⟩:=hpl
    exact qt_phi hq (upd_other (by omega)) (upd_other (by omega)) e5
end
end
section
inductive MrSt where
 | c0
 | qu
 | c1
 | nw
 | c2
structure MrT where
 q:QT
 m:MrSt
def mrNext (fr:Bool) (a b:QT):MrSt:=match a.cs with
 | some _::_=>if b.pa.length=a.pa.length then .c1 else if fr=true then .nw else .c0
 | _=>if b.ta.length=a.ta.length then .c0 else .c2
def mrLift (n:Nat) (fr:Bool) (q:MrT):Option ((Int × Int) × (QS→QS × MrT)) :=
 (qPlan n q.q).map fun p=>(p.1,fun s=>((p.2 s).1,⟨(p.2 s).2,if (p.2 s).2.cs.length=q.q.cs.length then q.m else mrNext fr q.q (p.2 s).2⟩))
def mrUp (s:QS) (w:Nat):QS:={ s with f:=upd s.f w ((s.f w+1)%18446744073709551616) }
def mrPlan (n:Nat) (fr:Bool) (q:MrT):Option ((Int × Int) × (QS→QS × MrT)):=match q.m with
 | .c0=>(match q.q.cs with
  | some _::_=>some ((3,0),fun s=>(mrUp s (2*n+2),{ q with m:=.qu }))
  | _=>mrLift n fr q)
 | .qu=>mrLift n fr q
 | .c1=>some ((3,1),fun s=>(mrUp s (2*n+3),{ q with m:=.c0 }))
 | .nw=>some ((0,0),fun s=>(s,{ q with m:=.c0 }))
 | .c2=>some ((3,2),fun s=>(mrUp s (2*n+4),{ q with m:=.c0 }))
inductive Qk (c:Option Nat) (rest:List (Option Nat)) (q q':QT) (s s':QS):Prop
 | keep (vs:s'.vs=s.vs) (tk:s'.tk=s.tk) (cs:q'.cs=q.cs) (hold:q'.st.holds=q.st.holds)
 | drawP (v:Nat) (hc:c=some v) (vs:s'.vs=s.vs++[(q.me,v)]) (tk:s'.tk=s.tk) (cs:q'.cs=q.cs) (h0:q.st.holds=false) (h1:q'.st.holds=true)
 | drawT (hc:c=none) (vs:s'.vs=s.vs) (tk:s'.tk=s.tk++[q.me]) (cs:q'.cs=q.cs) (h0:q.st.holds=false) (h1:q'.st.holds=true)
 | refuse (vs:s'.vs=s.vs) (tk:s'.tk=s.tk) (cs:q'.cs=rest) (st:q'.st=.load) (pa:q'.pa=q.pa) (ta:q'.ta=q.ta) (h0:q.st.holds=false)
 | doneP (v:Nat) (hc:c=some v) (vs:s'.vs=s.vs) (tk:s'.tk=s.tk) (cs:q'.cs=rest) (st:q'.st=.load) (u:Nat) (pa:q'.pa=q.pa++[u]) (h0:q.st.holds=true)
 | doneT (hc:c=none) (vs:s'.vs=s.vs) (tk:s'.tk=s.tk) (cs:q'.cs=rest) (st:q'.st=.load) (u:Nat) (ta:q'.ta=q.ta++[u]) (h0:q.st.holds=true)
theorem qk_of {n:Nat} {s:QS} {q:QT} {c:Option Nat} {rest:List (Option Nat)} (hcs:q.cs=c::rest) {mk:Int × Int} {F:QS→QS × QT} (hpl:qPlan n q=some (mk,F)):Qk c rest q (F s).2 s (F s).1∧∀ w,2*n+2≤w→0<n→(F s).1.f w=s.f w:=by
 obtain ⟨me,cs,pa,ta,st⟩:=q
 simp only at hcs
 subst hcs
 have hm:∀ t w,2*n+2≤w→0<n→w≠2+2*(t%n)∧w≠3+2*(t%n):=fun t w h1 h2=>by have:=Nat.mod_lt t h2;omega
 cases st with
 | load =>
  simp only [qPlan,Option.some.injEq,Prod.mk.injEq] at hpl
  obtain ⟨_,rfl⟩:=hpl
  exact ⟨.keep rfl rfl rfl rfl,fun w _ _=>rfl⟩
 | seq t =>
  simp only [qPlan,Option.some.injEq,Prod.mk.injEq] at hpl
  obtain ⟨_,rfl⟩:=hpl
  refine ⟨?_,fun w _ _=>rfl⟩
  simp only
  split
  ·exact .refuse rfl rfl rfl rfl rfl rfl rfl
  ·split
   ·exact .keep rfl rfl rfl rfl
   ·exact .keep rfl rfl rfl rfl
 | cas t =>
  simp only [qPlan,Option.some.injEq,Prod.mk.injEq] at hpl
  obtain ⟨_,rfl⟩:=hpl
  refine ⟨?_,fun w h1 h2=>?_⟩
  ·simp only
   split
   ·cases c with
    | some v=>exact .drawP v rfl rfl rfl rfl rfl rfl
    | none=>exact .drawT rfl rfl rfl rfl rfl rfl
   ·exact .keep rfl rfl rfl rfl
  ·simp only
   split
   ·exact upd_other (by cases c <;> simp [qw] <;> omega)
   ·rfl
 | val t =>
  cases c with
  | some v =>
   simp only [qPlan,Option.some.injEq,Prod.mk.injEq] at hpl
   obtain ⟨_,rfl⟩:=hpl
   exact ⟨.keep rfl rfl rfl rfl,fun w h1 h2=>upd_other (hm t w h1 h2).2⟩
  | none =>
   simp only [qPlan,Option.some.injEq,Prod.mk.injEq] at hpl
   obtain ⟨_,rfl⟩:=hpl
   exact ⟨.keep rfl rfl rfl rfl,fun w _ _=>rfl⟩
 | rel t u =>
  cases c with
  | some v =>
   simp only [qPlan,Option.some.injEq,Prod.mk.injEq] at hpl
   obtain ⟨_,rfl⟩:=hpl
   exact ⟨.doneP v rfl rfl rfl rfl rfl u rfl rfl,fun w h1 h2=>upd_other (hm t w h1 h2).1⟩
  | none =>
   simp only [qPlan,Option.some.injEq,Prod.mk.injEq] at hpl
   obtain ⟨_,rfl⟩:=hpl
   exact ⟨.doneT rfl rfl rfl rfl rfl u rfl rfl,fun w h1 h2=>upd_other (hm t w h1 h2).1⟩
section
variable {n Bd:Nat} {s:QS} {qs:List QT} {f':Nat→Nat}
theorem QTok.words {a:QT} (h:QTok n s a) (hn:0<n) (hf:∀ i,i<2*n+2→f' i=s.f i):QTok n ⟨f',s.vs,s.tk⟩ a:=by
 obtain ⟨me,cs,pa,ta,st⟩:=a
 have hw:∀ c,f' (qw c)=s.f (qw c):=fun c=>hf _ (by cases c <;> simp [qw])
 have h2:∀ t,f' (2+2*(t%n))=s.f (2+2*(t%n)):=fun t=>hf _ (by have:=Nat.mod_lt t hn;omega)
 have h3:∀ t,f' (3+2*(t%n))=s.f (3+2*(t%n)):=fun t=>hf _ (by have:=Nat.mod_lt t hn;omega)
 cases cs with
 | nil=>exact h
 | cons c r =>
  cases st with
  | load=>trivial
  | seq t=>show t≤f' (qw c);rw [hw];exact h
  | cas t=>exact ⟨by show t≤f' (qw c);rw [hw];exact h.1,by show t+qw c≤f' _;rw [h2];exact h.2⟩
  | val t =>
   cases c with
   | some v=>exact ⟨h.1,(h2 t).trans h.2⟩
   | none=>exact ⟨h.1,(h2 t).trans h.2⟩
  | rel t u =>
   cases c with
   | some v=>exact ⟨h.1,h.2.1,(h2 t).trans h.2.2.1,(h3 t).trans h.2.2.2⟩
   | none=>exact ⟨h.1,(h2 t).trans h.2.1,h.2.2⟩
theorem QI.words (h:QI n Bd s qs) (hn:0<n) (hf:∀ i,i<2*n+2→f' i=s.f i):QI n Bd ⟨f',s.vs,s.tk⟩ qs where
 p0:=(hf 0 (by omega)).trans h.p0
 t0:=(hf 1 (by omega)).trans h.t0
 le:=h.le
 bd:=h.bd
 slot:=fun i hi=>by
  obtain ⟨t,h1,h2,h3,h4⟩:=h.slot i hi
  refine ⟨t,h1,h2,h3,h4.imp (fun ⟨a,b,c⟩=>⟨(hf _ (by omega)).trans a,b,c⟩) fun ⟨a,b,c,d⟩=>⟨(hf _ (by omega)).trans a,b,?_,d⟩⟩
  show _=some (f' (3+2*i))
  rw [hf _ (by omega)];exact c
 thr:=fun j q hq=>⟨(h.thr j q hq).1,(h.thr j q hq).2.words hn hf⟩
 uniq:=h.uniq
 pas:=h.pas
 tas:=h.tas
theorem QE.words {m:Nat} {o:Nat→List Nat} {T:Nat→Prop} (h:QE m o T s qs):QE m o T ⟨f',s.vs,s.tk⟩ qs:=⟨h.len,h.own,h.tak,h.sub⟩
end
def np (cs:List (Option Nat)):Nat:=(cs.filterMap id).length
def hP (q:QT):Nat:=match q.cs with
 | some _::_=>if q.st.holds=true then 1 else 0
 | _=>0
def hT (q:QT):Nat:=match q.cs with
 | none::_=>if q.st.holds=true then 1 else 0
 | _=>0
def uO (q:MrT):Nat:=match q.m with
 | .qu=>np q.q.cs-1
 | _=>np q.q.cs
def uL (q:MrT):Nat:=np q.q.cs-hP q.q+(match q.m with | .c1=>1 | _=>0)
def uT (q:MrT):Nat:=hT q.q+(match q.m with | .c2=>1 | _=>0)
def MrOk (q:MrT):Prop:=match q.m with
 | .c0=>(match q.q.cs with | some _::_=>q.q.st=.load | _=>True)
 | .qu=>∃ v r,q.q.cs=some v::r
 | _=>q.q.st=.load
def uE (q:MrT):Nat:=match q.m with
 | .c0=>2*q.q.cs.length
 | .qu=>2*q.q.cs.length-1
 | _=>2*q.q.cs.length+1
structure MrI (n Bd T:Nat) (s:QS) (qs:List MrT):Prop where
 q:QI n Bd s (qs.map MrT.q)
 ok:∀ (j:Nat) (q:MrT),qs[j]?=some q→MrOk q
 off:s.f (2*n+2)+sumN (qs.map uO)=T
 los:s.f (2*n+3)+s.vs.length+sumN (qs.map uL)=T
 tak:s.f (2*n+4)+sumN (qs.map uT)=s.tk.length
section
variable {n Bd T:Nat} {fr:Bool} {s:QS} {qs:List MrT} {j:Nat} {q:MrT}
theorem mr_get (hq:qs[j]?=some q):(qs.map MrT.q)[j]?=some q.q:=by rw [List.getElem?_map,hq];rfl
theorem mr_set {q':MrT}:(qs.set j q').map MrT.q=(qs.map MrT.q).set j q'.q:=List.map_set ..
theorem mr_ok {q':MrT} (h:MrI n Bd T s qs) (hlt:j<qs.length) (hok:MrOk q'):∀ (k:Nat) (a:MrT),(qs.set j q')[k]?=some a→MrOk a:=fun k a hk=>by
 rcases set_cases hk hlt with ⟨e1,e2⟩ | ⟨_,hk⟩
 ·subst e2;exact hok
 ·exact h.ok k a hk
theorem set_self {α:Type}:∀ {l:List α} {i:Nat} {a:α},l[i]?=some a→l.set i a=l
 | [],_,_,h=>by simp at h
 | b::l,0,a,h=>by simp at h;subst h;rfl
 | b::l,i+1,a,h=>by simp at h;simp [set_self h]
theorem mr_lift {c:Option Nat} {rest:List (Option Nat)} {s':QS} {b:QT} (h:MrI n Bd T s qs) (hq:qs[j]?=some q) (hcs:q.q.cs=c::rest) (hm:(q.m=.qu∧∃ v,c=some v)∨(q.m=.c0∧c=none))
  (k:Qk c rest q.q b s s') (hf:∀ w,2*n+2≤w→s'.f w=s.f w) (hI:QI n Bd s' ((qs.map MrT.q).set j b)) :
  MrI n Bd T s' (qs.set j ⟨b,if b.cs.length=q.q.cs.length then q.m else mrNext fr q.q b⟩)∧uE ⟨b,if b.cs.length=q.q.cs.length then q.m else mrNext fr q.q b⟩≤uE q:=by
 have hlt:=(List.getElem?_eq_some_iff.1 hq).1
 obtain ⟨q',hq'⟩:∃ q':MrT,q'=⟨b,if b.cs.length=q.q.cs.length then q.m else mrNext fr q.q b⟩:=⟨_,rfl⟩
 rw [← hq']
 have fin:MrOk q'→uO q'=uO q→s'.vs.length+uL q'=s.vs.length+uL q→s'.tk.length+uT q=s.tk.length+uT q'→uE q'≤uE q→MrI n Bd T s' (qs.set j q')∧uE q'≤uE q:=by
  intro h1 h2 h3 h4 h5
  have s1:=sum_set (φ:=uO) (q':=q') hq
  have s2:=sum_set (φ:=uL) (q':=q') hq
  have s3:=sum_set (φ:=uT) (q':=q') hq
  have e1:=h.off
  have e2:=h.los
  have e3:=h.tak
  refine ⟨⟨by rw [mr_set,hq'];exact hI,mr_ok h hlt h1,?_,?_,?_⟩,h5⟩
  ·rw [hf _ (by omega)];omega
  ·rw [hf _ (by omega)];omega
  ·rw [hf _ (by omega)];omega
 obtain ⟨⟨me,cs,pa,ta,st⟩,m⟩:=q
 obtain ⟨me',cs',pa',ta',st'⟩:=b
 simp only at hcs
 subst hcs
 have npc:∀ v,np (some v::rest)=np rest+1:=fun v=>by simp [np]
 have npn:np (none::rest)=np rest:=by simp [np]
 have hPr:∀ x y z,hP ⟨x,rest,y,z,.load⟩=0:=fun x y z=>by unfold hP;simp only;split <;> first | rfl | (simp [QSt.holds])
 have hTr:∀ x y z,hT ⟨x,rest,y,z,.load⟩=0:=fun x y z=>by unfold hT;simp only;split <;> first | rfl | (simp [QSt.holds])
 have okr:∀ x y z,MrOk ⟨⟨x,rest,y,z,.load⟩,.c0⟩:=fun x y z=>by unfold MrOk;simp only;split <;> trivial
 cases k with
 | keep vs tk cs hold =>
  simp only at vs tk cs hold
  subst cs
  rw [if_pos rfl] at hq'
  rw [vs,tk] at fin
  subst hq'
  have e1:hP ⟨me',c::rest,pa',ta',st'⟩=hP ⟨me,c::rest,pa,ta,st⟩:=by unfold hP;simp only [hold]
  have e2:hT ⟨me',c::rest,pa',ta',st'⟩=hT ⟨me,c::rest,pa,ta,st⟩:=by unfold hT;simp only [hold]
  refine fin ?_ rfl ?_ ?_ (Nat.le_refl _)
  ·rcases hm with ⟨e,v,rfl⟩ | ⟨e,rfl⟩ <;> (simp only at e;subst e)
   ·exact ⟨v,rest,rfl⟩
   ·trivial
  ·unfold uL;simp only [e1]
  ·unfold uT;simp only [e2]
 | drawP v hc vs tk cs h0 h1 =>
  simp only at vs tk cs h0 h1
  subst cs;subst hc
  rw [if_pos rfl] at hq'
  rw [vs,tk] at fin
  subst hq'
  rcases hm with ⟨e,_⟩ | ⟨_,e⟩
  ·simp only at e;subst e
   refine fin ⟨v,rest,rfl⟩ rfl ?_ ?_ (Nat.le_refl _)
   ·simp [uL,hP,h0,h1,npc];omega
   ·simp [uT,hT]
  ·cases e
 | drawT hc vs tk cs h0 h1 =>
  simp only at vs tk cs h0 h1
  subst cs;subst hc
  rw [if_pos rfl] at hq'
  rw [vs,tk] at fin
  subst hq'
  rcases hm with ⟨_,v,e⟩ | ⟨e,_⟩
  ·cases e
  ·simp only at e;subst e
   refine fin trivial rfl ?_ ?_ (Nat.le_refl _)
   ·simp [uL,hP]
   ·simp [uT,hT,h0,h1]
 | refuse vs tk cs st1 pa1 ta1 h0 =>
  simp only at vs tk cs st1 pa1 ta1 h0
  subst cs;subst st1;subst pa1;subst ta1
  rw [if_neg (by simp)] at hq'
  rw [vs,tk] at fin
  rcases hm with ⟨e,v,rfl⟩ | ⟨e,rfl⟩ <;> (simp only at e;subst e)
  ·simp only [mrNext,if_true] at hq'
   subst hq'
   refine fin rfl ?_ ?_ ?_ ?_
   ·simp [uO,npc]
   ·simp only [uL,hPr,npc];simp [hP,h0]
   ·simp [uT,hTr];simp [hT]
   ·simp only [uE,List.length_cons];omega
  ·simp only [mrNext,if_true] at hq'
   subst hq'
   refine fin (okr _ _ _) ?_ ?_ ?_ ?_
   ·simp [uO,npn]
   ·simp only [uL,hPr,npn];simp [hP]
   ·simp [uT,hTr];simp [hT,h0]
   ·simp only [uE,List.length_cons];omega
 | doneP v hc vs tk cs st1 u pa1 h0 =>
  simp only at vs tk cs st1 pa1 h0
  subst cs;subst st1;subst pa1;subst hc
  rw [if_neg (by simp)] at hq'
  rw [vs,tk] at fin
  rcases hm with ⟨e,_⟩ | ⟨_,e⟩
  ·simp only at e;subst e
   simp only [mrNext,List.length_append,List.length_singleton,Nat.add_eq_left,Nat.one_ne_zero,if_false] at hq'
   cases fr with
   | true =>
    rw [if_pos rfl] at hq'
    subst hq'
    refine fin rfl ?_ ?_ ?_ ?_
    ·simp [uO,npc]
    ·simp only [uL,hPr,npc];simp [hP,h0]
    ·simp [uT,hTr];simp [hT]
    ·simp only [uE,List.length_cons];omega
   | false =>
    rw [if_neg (by decide)] at hq'
    subst hq'
    refine fin (okr _ _ _) ?_ ?_ ?_ ?_
    ·simp [uO,npc]
    ·simp only [uL,hPr,npc];simp [hP,h0]
    ·simp [uT,hTr];simp [hT]
    ·simp only [uE,List.length_cons];omega
  ·cases e
 | doneT hc vs tk cs st1 u ta1 h0 =>
  simp only at vs tk cs st1 ta1 h0
  subst cs;subst st1;subst ta1;subst hc
  rw [if_neg (by simp)] at hq'
  rw [vs,tk] at fin
  rcases hm with ⟨_,v,e⟩ | ⟨e,_⟩
  ·cases e
  ·simp only at e;subst e
   simp only [mrNext,List.length_append,List.length_singleton,Nat.add_eq_left,Nat.one_ne_zero,if_false] at hq'
   subst hq'
   refine fin rfl ?_ ?_ ?_ ?_
   ·simp [uO,npn]
   ·simp only [uL,hPr,npn];simp [hP]
   ·simp [uT,hTr];simp [hT,h0]
   ·simp only [uE,List.length_cons];omega
theorem mr_up {m':MrSt} (h:MrI n Bd T s qs) (hn:0<n) (hT:T<4611686018427387904) (hB:Bd<4611686018427387904) (hq:qs[j]?=some q) (d0 d1 d2:Nat) (w:Nat) (hw:(w=2*n+2∧d0=1∧d1=0∧d2=0)∨(w=2*n+3∧d0=0∧d1=1∧d2=0)∨(w=2*n+4∧d0=0∧d1=0∧d2=1))
  (hok:MrOk ⟨q.q,m'⟩) (e0:uO ⟨q.q,m'⟩+d0=uO q) (e1:uL ⟨q.q,m'⟩+d1=uL q) (e2:uT ⟨q.q,m'⟩+d2=uT q):MrI n Bd T (mrUp s w) (qs.set j ⟨q.q,m'⟩):=by
 have hlt:=(List.getElem?_eq_some_iff.1 hq).1
 have s1:=sum_set (φ:=uO) (q':=(⟨q.q,m'⟩:MrT)) hq
 have s2:=sum_set (φ:=uL) (q':=(⟨q.q,m'⟩:MrT)) hq
 have s3:=sum_set (φ:=uT) (q':=(⟨q.q,m'⟩:MrT)) hq
 have a1:=h.off
 have a2:=h.los
 have a3:=h.tak
 have hbd:=h.q.bd
 have hoth:∀ i,i≠w→(mrUp s w).f i=s.f i:=fun i hi=>upd_other hi
 have hself:(mrUp s w).f w=(s.f w+1)%18446744073709551616:=upd_same
 refine ⟨?_,mr_ok h hlt hok,?_,?_,?_⟩
 ·rw [mr_set,show (qs.map MrT.q).set j q.q=qs.map MrT.q from set_self (mr_get hq)]
  exact h.q.words hn fun i hi=>hoth i (by omega)
 ·rcases hw with ⟨rfl,rfl,rfl,rfl⟩ | ⟨rfl,rfl,rfl,rfl⟩ | ⟨rfl,rfl,rfl,rfl⟩
  ·rw [hself,Nat.mod_eq_of_lt (by omega)];omega
  ·rw [hoth _ (by omega)];omega
  ·rw [hoth _ (by omega)];omega
 ·show (mrUp s w).f (2*n+3)+s.vs.length+_=T
  rcases hw with ⟨rfl,rfl,rfl,rfl⟩ | ⟨rfl,rfl,rfl,rfl⟩ | ⟨rfl,rfl,rfl,rfl⟩
  ·rw [hoth _ (by omega)];omega
  ·rw [hself,Nat.mod_eq_of_lt (by omega)];omega
  ·rw [hoth _ (by omega)];omega
 ·show (mrUp s w).f (2*n+4)+_=s.tk.length
  rcases hw with ⟨rfl,rfl,rfl,rfl⟩ | ⟨rfl,rfl,rfl,rfl⟩ | ⟨rfl,rfl,rfl,rfl⟩
  ·rw [hoth _ (by omega)];omega
  ·rw [hoth _ (by omega)];omega
  ·rw [hself,Nat.mod_eq_of_lt (by omega)];omega
end
end
section
def mrPhi (s:QS) (qs:List MrT):Nat:=qphi s (qs.map MrT.q)+sumN (qs.map uE)
def mrPsi (M:Nat) (s:QS) (qs:List MrT):Nat:=sumN ((qs.map MrT.q).map (qtPsi M s))+sumN (qs.map uE)
def mrAct (qs:List MrT):Nat:=sumN ((qs.map MrT.q).map qAct)
theorem qPlan_some {n:Nat} {q:QT} {c:Option Nat} {rest:List (Option Nat)} (h:q.cs=c::rest):∃ p,qPlan n q=some p:=by
 obtain ⟨me,cs,pa,ta,st⟩:=q
 simp only at h;subst h
 cases st <;> cases c <;> exact ⟨_,rfl⟩
inductive MrK (n:Nat) (fr:Bool) (q:MrT) (mk:Int × Int) (F:QS→QS × MrT):Prop
 | lift (c:Option Nat) (rest:List (Option Nat)) (G:QS→QS × QT) (hcs:q.q.cs=c::rest) (hm:(q.m=.qu∧∃ v,c=some v)∨(q.m=.c0∧c=none)) (hG:qPlan n q.q=some (mk,G))
   (hF:F=fun s=>((G s).1,⟨(G s).2,if (G s).2.cs.length=q.q.cs.length then q.m else mrNext fr q.q (G s).2⟩))
 | offer (v:Nat) (rest:List (Option Nat)) (hcs:q.q.cs=some v::rest) (hm:q.m=.c0) (hF:F=fun s=>(mrUp s (2*n+2),⟨q.q,.qu⟩))
 | lost (hm:q.m=.c1) (hF:F=fun s=>(mrUp s (2*n+3),⟨q.q,.c0⟩))
 | news (hm:q.m=.nw) (hF:F=fun s=>(s,⟨q.q,.c0⟩))
 | took (hm:q.m=.c2) (hF:F=fun s=>(mrUp s (2*n+4),⟨q.q,.c0⟩))
theorem mrk_of {n:Nat} {fr:Bool} {q:MrT} {mk:Int × Int} {F:QS→QS × MrT} (hok:MrOk q) (h:mrPlan n fr q=some (mk,F)):MrK n fr q mk F:=by
 obtain ⟨q,m⟩:=q
 have lift:mrLift n fr ⟨q,m⟩=some (mk,F)→((m=.qu∧∃ v rest,q.cs=some v::rest)∨(m=.c0∧∃ rest,q.cs=none::rest))→MrK n fr ⟨q,m⟩ mk F:=by
  intro hl hm
  unfold mrLift at hl
  obtain ⟨⟨mk',G⟩,hG,e⟩:=Option.map_eq_some_iff.1 hl
  simp only [Prod.mk.injEq] at e
  obtain ⟨rfl,rfl⟩:=e
  rcases hm with ⟨e,v,rest,hc⟩ | ⟨e,rest,hc⟩
  ·exact .lift (some v) rest G hc (.inl ⟨e,v,rfl⟩) hG rfl
  ·exact .lift none rest G hc (.inr ⟨e,rfl⟩) hG rfl
 cases m with
 | c0 =>
  simp only [mrPlan] at h
  split at h
  ·rename_i v rest hc
   simp only [Option.some.injEq,Prod.mk.injEq] at h
   exact .offer v rest hc rfl h.2.symm
  ·rename_i hne
   cases hc:q.cs with
   | nil =>
    unfold mrLift at h
    have:qPlan n q=none:=by unfold qPlan;rw [hc]
    simp only [this,Option.map_none] at h;cases h
   | cons c rest =>
    cases c with
    | some v=>exact absurd hc (hne v rest)
    | none=>exact lift h (.inr ⟨rfl,rest,hc⟩)
 | qu =>
  obtain ⟨v,r,hc⟩:=hok
  exact lift h (.inl ⟨rfl,v,r,hc⟩)
 | c1 =>
  simp only [mrPlan,Option.some.injEq,Prod.mk.injEq] at h
  exact .lost rfl h.2.symm
 | nw =>
  simp only [mrPlan,Option.some.injEq,Prod.mk.injEq] at h
  exact .news rfl h.2.symm
 | c2 =>
  simp only [mrPlan,Option.some.injEq,Prod.mk.injEq] at h
  exact .took rfl h.2.symm
theorem mr_plan_none {n:Nat} {fr:Bool} {q:MrT} (hok:MrOk q) (h:mrPlan n fr q=none):q.q.cs=[]∧q.m=.c0:=by
 obtain ⟨q,m⟩:=q
 have no:∀ {c:Option Nat} {rest:List (Option Nat)},q.cs=c::rest→mrLift n fr ⟨q,m⟩≠none:=fun hc e=>by
  obtain ⟨p,hp⟩:=qPlan_some (n:=n) hc
  unfold mrLift at e;simp [hp] at e
 cases m with
 | c0 =>
  simp only [mrPlan] at h
  split at h
  ·cases h
  ·rename_i hne
   cases hc:q.cs with
   | nil=>exact ⟨rfl,rfl⟩
   | cons c rest=>exact absurd h (no hc)
 | qu =>
  obtain ⟨v,r,hc⟩:=hok
  exact absurd h (no hc)
 | c1=>simp [mrPlan] at h
 | nw=>simp [mrPlan] at h
 | c2=>simp [mrPlan] at h
section
variable {n Bd T:Nat} {fr:Bool} {s:QS} {qs:List MrT} {j:Nat} {q:MrT}
theorem mrUp_oth {s:QS} {w i:Nat} (h:i≠w):(mrUp s w).f i=s.f i:=upd_other h
theorem mr_step (h:MrI n Bd T s qs) (hn:2≤n) (hn2:n≤1024) (hB:Bd<4611686018427387904) (hT:T<4611686018427387904) (hq:qs[j]?=some q) {mk:Int × Int} {F:QS→QS × MrT} (hpl:mrPlan n fr q=some (mk,F)) :
  MrI n Bd T (F s).1 (qs.set j (F s).2)∧mrPhi (F s).1 (qs.set j (F s).2)<mrPhi s qs∧(∀ M,mrAct qs≤M→mrAct (qs.set j (F s).2)≤M∧mrPsi M (F s).1 (qs.set j (F s).2)+1≤mrPsi M s qs) ∧
   ∀ m o (Tk:Nat→Prop),QE m o Tk s (qs.map MrT.q)→QE m o Tk (F s).1 ((qs.set j (F s).2).map MrT.q):=by
 have hok:=h.ok j q hq
 have hgq:=mr_get hq
 -- a step beside the queue's
 have beside:∀ {s':QS} {m':MrSt},s'.f 0=s.f 0→s'.f 1=s.f 1→s'.vs=s.vs→s'.tk=s.tk→uE ⟨q.q,m'⟩+1≤uE q→MrI n Bd T s' (qs.set j ⟨q.q,m'⟩) →
   MrI n Bd T s' (qs.set j ⟨q.q,m'⟩)∧mrPhi s' (qs.set j ⟨q.q,m'⟩)<mrPhi s qs∧(∀ M,mrAct qs≤M→mrAct (qs.set j ⟨q.q,m'⟩)≤M∧mrPsi M s' (qs.set j ⟨q.q,m'⟩)+1≤mrPsi M s qs) ∧
   ∀ m o (Tk:Nat→Prop),QE m o Tk s (qs.map MrT.q)→QE m o Tk s' ((qs.set j ⟨q.q,m'⟩).map MrT.q):=by
  intro s' m' e0 e1 e2 e3 he hI
  have hs:(qs.set j ⟨q.q,m'⟩).map MrT.q=qs.map MrT.q:=by rw [mr_set];exact set_self hgq
  have s1:=sum_set (φ:=uE) (q':=(⟨q.q,m'⟩:MrT)) hq
  refine ⟨hI,?_,fun M hM=>⟨by unfold mrAct;rw [hs];exact hM,?_⟩,fun m o Tk hE=>?_⟩
  ·unfold mrPhi
   rw [hs]
   have:qphi s' (qs.map MrT.q)=qphi s (qs.map MrT.q):=by
    unfold qphi
    rw [show qpsi (qs.map MrT.q).length s'=qpsi (qs.map MrT.q).length s from funext fun a=>psi_eq e0 e1]
   omega
  ·unfold mrPsi
   rw [hs,show qtPsi M s'=qtPsi M s from funext fun a=>qt_eq e0 e1]
   omega
  ·rw [hs]
   obtain ⟨f',vs',tk'⟩:=s'
   simp only at e2 e3
   subst e2;subst e3
   exact hE.words
 cases mrk_of hok hpl with
 | lift c rest G hcs hm hG hF =>
  subst hF
  obtain ⟨k,hf⟩:=qk_of (s:=s) hcs hG
  obtain ⟨g1,g2⟩:=q_step h.q hn hn2 hB hgq hG
  obtain ⟨i1,i2⟩:=mr_lift (fr:=fr) h hq hcs hm k (fun w hw=>hf w hw (by omega)) g1
  have s1:=sum_set (φ:=uE) (q':=(⟨(G s).2,if (G s).2.cs.length=q.q.cs.length then q.m else mrNext fr q.q (G s).2⟩:MrT)) hq
  dsimp only
  obtain ⟨q',hq'⟩:∃ q':MrT,q'=⟨(G s).2,if (G s).2.cs.length=q.q.cs.length then q.m else mrNext fr q.q (G s).2⟩:=⟨_,rfl⟩
  have hqq:q'.q=(G s).2:=by rw [hq']
  rw [← hq'] at i1 i2 s1 ⊢
  refine ⟨i1,?_,fun M hM=>?_,fun m o Tk hE=>?_⟩
  ·unfold mrPhi
   rw [mr_set,hqq]
   omega
  ·obtain ⟨k1,k2⟩:=qt_step h.q hM hn hn2 hB hgq hG
   refine ⟨by unfold mrAct;rw [mr_set,hqq];exact k1,?_⟩
   unfold mrPsi
   rw [mr_set,hqq]
   omega
  ·rw [mr_set,hqq];exact qe_step hE h.q hgq hG
 | offer v rest hcs hm hF =>
  subst hF
  obtain ⟨q,m⟩:=q
  simp only at hm hcs;subst hm
  have hst:q.st=.load:=by unfold MrOk at hok;simp only [hcs] at hok;exact hok
  have hnp:np q.cs=np rest+1:=by rw [hcs];simp [np]
  refine beside (s':=mrUp s (2*n+2)) (mrUp_oth (by omega)) (mrUp_oth (by omega)) rfl rfl ?_ (mr_up h (by omega) hT hB hq 1 0 0 (2*n+2) (.inl ⟨rfl,rfl,rfl,rfl⟩) ⟨v,rest,hcs⟩ ?_ rfl rfl)
  ·simp only [uE,hcs,List.length_cons];omega
  ·simp only [uO];omega
 | lost hm hF =>
  subst hF
  obtain ⟨q,m⟩:=q
  simp only at hm;subst hm
  have hst:q.st=.load:=hok
  refine beside (s':=mrUp s (2*n+3)) (mrUp_oth (by omega)) (mrUp_oth (by omega)) rfl rfl ?_ (mr_up h (by omega) hT hB hq 0 1 0 (2*n+3) (.inr (.inl ⟨rfl,rfl,rfl,rfl⟩)) ?_ rfl ?_ rfl)
  ·simp only [uE];omega
  ·unfold MrOk;simp only;split <;> first | exact hst | trivial
  ·simp only [uL]
 | news hm hF =>
  subst hF
  obtain ⟨q,m⟩:=q
  simp only at hm;subst hm
  have hst:q.st=.load:=hok
  have hlt:=(List.getElem?_eq_some_iff.1 hq).1
  have s1:=sum_set (φ:=uO) (q':=(⟨q,.c0⟩:MrT)) hq
  have s2:=sum_set (φ:=uL) (q':=(⟨q,.c0⟩:MrT)) hq
  have s3:=sum_set (φ:=uT) (q':=(⟨q,.c0⟩:MrT)) hq
  have e1:uO (⟨q,.c0⟩:MrT)=uO ⟨q,.nw⟩:=rfl
  have e2:uL (⟨q,.c0⟩:MrT)=uL ⟨q,.nw⟩:=rfl
  have e3:uT (⟨q,.c0⟩:MrT)=uT ⟨q,.nw⟩:=rfl
  refine beside rfl rfl rfl rfl (by simp only [uE];omega) ⟨?_,mr_ok h hlt ?_,?_,?_,?_⟩
  ·rw [mr_set];rw [set_self hgq];exact h.q
  ·unfold MrOk;simp only;split <;> first | exact hst | trivial
  ·have:=h.off;show s.f (2*n+2)+sumN ((qs.set j ⟨q,.c0⟩).map uO)=T;omega
  ·have:=h.los;show s.f (2*n+3)+s.vs.length+sumN ((qs.set j ⟨q,.c0⟩).map uL)=T;omega
  ·have:=h.tak;show s.f (2*n+4)+sumN ((qs.set j ⟨q,.c0⟩).map uT)=s.tk.length;omega
 | took hm hF =>
  subst hF
  obtain ⟨q,m⟩:=q
  simp only at hm;subst hm
  have hst:q.st=.load:=hok
  refine beside (s':=mrUp s (2*n+4)) (mrUp_oth (by omega)) (mrUp_oth (by omega)) rfl rfl ?_ (mr_up h (by omega) hT hB hq 0 0 1 (2*n+4) (.inr (.inr ⟨rfl,rfl,rfl,rfl⟩)) ?_ rfl rfl ?_)
  ·simp only [uE];omega
  ·unfold MrOk;simp only;split <;> first | exact hst | trivial
  ·simp only [uT]
end
theorem sum_zero:∀ {l:List Nat},(∀ a∈l,a=0)→sumN l=0
 | [],_=>rfl
 | a::l,h=>by
  have h1:=h a (by simp)
  have h2:=sum_zero (l:=l) fun b hb=>h b (by simp [hb])
  simp only [sumN,List.foldr_cons] at h2 ⊢;omega
theorem mr_begin {n Bd T m:Nat} {o:Nat→List Nat} {Tk:Nat→Prop} {qs:List MrT} {f:Nat→Nat} (hn:2≤n) (hf0:f 0=0) (hf1:f 1=0) (hf:∀ i,i<n→f (2+2*i)=i) (h2:f (2*n+2)=0) (h3:f (2*n+3)=0) (h4:f (2*n+4)=0) (hm:qs.length=m)
  (hq:∀ (j:Nat) (q:MrT),qs[j]?=some q→q.m=.c0∧q.q.me=j∧q.q.pa=[]∧q.q.ta=[]∧q.q.st=.load∧(q.q.cs.filterMap id).Sublist (o j)∧(none∈q.q.cs→Tk j)) (hb:sumN (qs.map fun q=>q.q.cs.length)≤Bd) (hTT:sumN (qs.map fun q=>np q.q.cs)=T) :
  MrI n Bd T ⟨f,[],[]⟩ qs∧QE m o Tk ⟨f,[],[]⟩ (qs.map MrT.q):=by
 have hq':∀ (j:Nat) (a:QT),(qs.map MrT.q)[j]?=some a→∃ q,qs[j]?=some q∧a=q.q:=fun j a ha=>by
  rw [List.getElem?_map] at ha
  obtain ⟨q,h1,rfl⟩:=Option.map_eq_some_iff.1 ha
  exact ⟨q,h1,rfl⟩
 have hnh:∀ (j:Nat) (q:QT),(qs.map MrT.q)[j]?=some q→q.st.holds=false:=fun j a ha=>by
  obtain ⟨q,h1,rfl⟩:=hq' j a ha
  rw [(hq j q h1).2.2.2.2.1];rfl
 have hrem:∀ l:List MrT,(∀ q∈l,q.q.st=.load)→sumN ((l.map MrT.q).map qrem)=sumN (l.map fun q=>q.q.cs.length):=by
  intro l
  induction l with
  | nil=>intro _;rfl
  | cons a l ih =>
   intro hl
   have e1:=ih fun q hq=>hl q (by simp [hq])
   have e2:qrem a.q=a.q.cs.length:=by unfold qrem;rw [hl a (by simp)];rfl
   simp only [List.map_cons,sumN,List.foldr_cons] at e1 ⊢;omega
 have hld:∀ q∈qs,q.q.st=.load∧q.m=.c0:=fun q hq1=>by
  obtain ⟨j,hj⟩:=List.mem_iff_getElem?.1 hq1
  exact ⟨(hq j q hj).2.2.2.2.1,(hq j q hj).1⟩
 have hzero:∀ (φ:MrT→Nat) (ψ:MrT→Nat),(∀ q,q.q.st=.load→q.m=.c0→φ q=ψ q)→sumN (qs.map φ)=sumN (qs.map ψ):=fun φ ψ e=>by
  congr 1
  exact List.map_congr_left fun q hq1=>e q (hld q hq1).1 (hld q hq1).2
 refine ⟨⟨⟨hf0,hf1,Nat.le_refl _,by rw [hrem qs fun q hq=>(hld q hq).1];simpa using hb,fun i hi=>⟨i,Nat.mod_eq_of_lt hi,Nat.zero_le _,by show i<0+n;omega,.inl ⟨hf i hi,Nat.zero_le _,fun h=>absurd h (Nat.not_lt_zero i)⟩⟩,fun j a ha=>?_,fun j j' q q' t h1 h2 hh=>?_,fun j a ha=>?_,fun j a ha=>?_⟩,fun j q h=>?_,?_,?_,?_⟩,⟨by simpa using hm,fun x hx=>by simp at hx,fun x hx=>by simp at hx,fun j a ha=>?_⟩⟩
 ·obtain ⟨q,h1,rfl⟩:=hq' j a ha
  refine ⟨(hq j q h1).2.1,?_⟩
  obtain ⟨_,_,_,_,e,_⟩:=hq j q h1
  obtain ⟨⟨me,cs,pa,ta,st⟩,m⟩:=q
  replace e:st=.load:=e
  subst e
  cases cs <;> first | rfl | trivial
 ·rcases hh with ⟨h3,_⟩ | ⟨h3,_⟩
  ·exact (not_puts (hnh j q h1) h3).elim
  ·exact (not_takes (hnh j q h1) h3).elim
 ·obtain ⟨q,h1,rfl⟩:=hq' j a ha
  rw [(hq j q h1).2.2.1,pendP_none (hnh j q.q ha)];rfl
 ·obtain ⟨q,h1,rfl⟩:=hq' j a ha
  rw [(hq j q h1).2.2.2.1,pendT_none (hnh j q.q ha)];rfl
 ·obtain ⟨e1,_,_,_,e2,_⟩:=hq j q h
  unfold MrOk;rw [e1];simp only;split <;> first | exact e2 | trivial
 ·rw [show (⟨f,[],[]⟩:QS).f=f from rfl,h2,hzero uO (fun q=>np q.q.cs) fun q e1 e2=>by unfold uO;rw [e2]];omega
 ·rw [show (⟨f,[],[]⟩:QS).f=f from rfl,h3,hzero uL (fun q=>np q.q.cs) fun q e1 e2=>by
   have:hP q.q=0:=by unfold hP;rw [e1];split <;> simp [QSt.holds]
   unfold uL;rw [e2,this];rfl]
  simp only [List.length_nil];omega
 ·rw [show (⟨f,[],[]⟩:QS).f=f from rfl,h4,hzero uT (fun _=>0) fun q e1 e2=>by
   have:hT q.q=0:=by unfold hT;rw [e1];split <;> simp [QSt.holds]
   unfold uT;rw [e2,this,Nat.zero_add],sum_zero (fun a ha=>by simp at ha;exact ha.2.symm)]
  rfl
 ·obtain ⟨q,h1,rfl⟩:=hq' j a ha
  obtain ⟨_,e1,e2,_,_,e5,e6⟩:=hq j q h1
  exact ⟨e1,by rw [e2];exact e5,e6⟩
theorem len_split {α:Type} {off:Nat}:∀ {tn:Nat} {l:List (Nat × α)},(∀ x∈l,off≤x.1∧x.1<off+tn)→sumN ((List.range tn).map fun k=>(l.filter fun x=>decide (x.1=off+k)).length)=l.length:=by
 intro tn l
 induction l with
 | nil=>intro _;simp only [List.filter_nil,List.length_nil];exact sum_zero fun a ha=>by simp at ha;exact ha.2.symm
 | cons x l ih =>
  intro h
  have h1:=ih fun y hy=>h y (by simp [hy])
  have h2:=h x (by simp)
  have key:∀ tn,sumN ((List.range tn).map fun k=>((x::l).filter fun x=>decide (x.1=off+k)).length)=sumN ((List.range tn).map fun k=>(l.filter fun x=>decide (x.1=off+k)).length)+(if x.1<off+tn then 1 else 0):=by
   intro tn
   induction tn with
   | zero=>rw [if_neg (by omega)];rfl
   | succ tn ih2 =>
    have hs:∀ (l:List Nat) (a:Nat),sumN (l++[a])=sumN l+a:=fun l a=>by
     induction l with
     | nil=>simp [sumN]
     | cons b l ih=>simp only [sumN,List.cons_append,List.foldr_cons] at ih ⊢;omega
    rw [List.range_succ,List.map_append,List.map_append,List.map_singleton,List.map_singleton,hs,hs,ih2]
    have e:((x::l).filter fun x=>decide (x.1=off+tn)).length=(l.filter fun x=>decide (x.1=off+tn)).length+if x.1=off+tn then 1 else 0:=by
     rw [List.filter_cons]
     by_cases e:x.1=off+tn <;> simp [e]
    rw [e]
    by_cases c1:x.1<off+tn
    ·rw [if_pos c1,if_neg (by omega),if_pos (by omega)];omega
    ·by_cases c2:x.1=off+tn
     ·rw [if_neg c1,if_pos c2,if_pos (by omega)];omega
     ·rw [if_neg c1,if_neg c2,if_neg (by omega)];omega
  rw [key,h1,if_pos h2.2,List.length_cons]
theorem mr_end {n Bd T:Nat} {fr:Bool} {s:QS} {qs:List MrT} (h:MrI n Bd T s qs) (hd:∀ q∈qs,mrPlan n fr q=none):(∀ a∈qs.map MrT.q,a.cs=[])∧s.f (2*n+2)=T∧s.f (2*n+3)+s.vs.length=T∧s.f (2*n+4)=s.tk.length:=by
 have key:∀ q∈qs,q.q.cs=[]∧q.m=.c0:=fun q hq=>by
  obtain ⟨j,hj⟩:=List.mem_iff_getElem?.1 hq
  exact mr_plan_none (h.ok j q hj) (hd q hq)
 have zero:∀ φ:MrT→Nat,(∀ q,q.q.cs=[]→q.m=.c0→φ q=0)→sumN (qs.map φ)=0:=fun φ e=>sum_zero fun a ha=>by
  obtain ⟨q,hq,rfl⟩:=List.mem_map.1 ha
  exact e q (key q hq).1 (key q hq).2
 have z1:=zero uO fun q e1 e2=>by unfold uO;rw [e2,e1];rfl
 have z2:=zero uL fun q e1 e2=>by unfold uL hP;rw [e2,e1];rfl
 have z3:=zero uT fun q e1 e2=>by unfold uT hT;rw [e2,e1];rfl
 have a1:=h.off
 have a2:=h.los
 have a3:=h.tak
 refine ⟨fun a ha=>?_,by omega,by omega,by omega⟩
 obtain ⟨q,hq,rfl⟩:=List.mem_map.1 ha
 exact (key q hq).1
theorem mr_sums {n Bd m pn off tn:Nat} {qs:List QT} {s:QS} {o:Nat→List Nat} {Tk:Nat→Prop} (h:QI n Bd s qs) (e:QE m o Tk s qs) (hown:∀ x∈s.vs,x.1<pn) (hT:∀ j,j<m→Tk j→off≤j∧j<off+tn) :
  sumN ((qPs s pn).map List.length)=s.vs.length∧sumN ((qTs s off tn).map List.length)=s.tk.length∧(qLeft s).length=s.vs.length-s.tk.length:=by
 refine ⟨?_,?_,by simp [qLeft]⟩
 ·have:=len_split (off:=0) (tn:=pn) (l:=s.vs) fun x hx=>⟨Nat.zero_le _,by have:=hown x hx;omega⟩
  rw [← this]
  unfold qPs
  rw [List.map_map]
  congr 1
  exact List.map_congr_left fun k _=>by simp [putBy]
 ·have hz:(List.zip s.tk s.vs).length=s.tk.length:=by rw [List.length_zip];exact Nat.min_eq_left h.le
  have:=len_split (off:=off) (tn:=tn) (l:=List.zip s.tk s.vs) fun x hx=>by
   have h1:x.1∈s.tk:=(List.of_mem_zip hx).1
   exact hT _ (e.tak _ h1).1 (e.tak _ h1).2
  rw [hz] at this
  rw [← this]
  unfold qTs
  rw [List.map_map]
  congr 1
  exact List.map_congr_left fun k _=>by simp [takenBy]
end
end Go.Proofs.Ytmkkanmkjfnpdaa
namespace Go.Proofs.Ytmkkanmkjfnpdaa
open Go Go.PB
attribute [local irreducible] Mo Bin Eql Tr Wo Ap Wle
section
section
variable {B:Hand} [Lets B] {L F:List HProp} {x:B.X}
def seqs (j:Nat) (w:Nat):Nat:=if 2≤w∧w%2=0∧(w-2)/2<j then (w-2)/2 else 0
def newInv (x:B.X) (r b n:Nat) (L:List HProp):Inv (Nat × (Nat→Nat)) B.X where
 e:=fun i=>[(4,.pointer (some ⟨r,0,none⟩)),(27,.int .i64 n),(28,.int .i64 i.1),(3,.int .i64 0)]
 L:=fun i=>wds (twoAddr r b) (2*n+2) [(r,2,.slice (some ⟨b,0,none⟩) n n)] i.2::L
 x:=fun _=>x
 ok:=fun i=>i.1≤n∧i.2=seqs i.1
theorem new_tr {n k:Nat} (hn:n=2^k) (hk0:1≤k) (hk:k≤10) :
  Tr Try.prog B 35 [.int .i64 n] L x fun v L' x'=>∃ r b,v=.tuple #[.pointer (some ⟨r,0,none⟩),.int .i64 0]∧r≠b∧L'=wds (twoAddr r b) (2*n+2) [(r,2,.slice (some ⟨b,0,none⟩) n n)] (seqs n)::L∧x'=x:=by
 have hle:n≤1024:=by rw [hn];exact pow_le hk
 have hpos:2≤n:=by have:=Nat.pow_le_pow_right (n:=2) (by omega) hk0;omega
 have hand:IntKind.i64.wrap (BitVec.ofInt IntKind.i64.bits (n:Int) &&& BitVec.ofInt IntKind.i64.bits ((n:Int)-1)).toNat=0:=by
  have e1:((n:Int)-1)=((n-1:Nat):Int):=by omega
  have key:∀ k∈List.range 11,(2^k) &&& (2^k-1)=0:=by decide +kernel
  rw [e1,and_i64 (by omega) (by omega),hn,key k (by simp;omega)];rfl
 refine tr_of_body Try.func35 rfl Try.ntmps35 (by simp) fun um Q _ hQ=>?_
 simp only [argE,Nat.zero_add,Nat.reduceAdd]
 repeat (first | (apply wo_po;apply mo_bin;exact rfl;exact rfl;apply bin_and;exact hand;exact gY) | (apply wo_mo;apply mo_make;exact rfl;exact rfl;exact rfl;omega;omega;exact trivial) | refine wlssF ?_ | refine wgtrF ?_ | refine wneqF ?_ | refine we_seq ?_ | (refine wR ?_;try simp only [oS]) | refine wo_nil ?_ | refine wM ?_ | refine wA ?_ | refine wJ ?_ | refine wsub ?_ | refine wF ?_ | refine we_skip ?_)
 rintro v' L' ⟨b,rfl,rfl⟩
 repeat (first | (apply wo_po;apply mo_build (pv:=[(2,_)]);exact rfl;exact .cons rfl .nil;exact rfl;exact trivial) | (apply wo_mo;apply mo_box;exact rfl;exact trivial))
 rintro v' L' ⟨r,rfl,rfl⟩
 refine wo_ent (arr r 0 [.int .u64 0,.int .u64 0,.slice (some ⟨b,0,none⟩) n n]::arr b 0 (zeros n [.int .u64 0,.int .u64 0])::L) .refl ?_
 refine wo_pure (p:=r≠b) (fun h st=>?_) fun hne=>?_
 ·obtain ⟨n',rfl⟩:∃ n',n=n'+1:=⟨n-1,by omega⟩
  exact star_ne (ws:=.int .u64 0::zeros n' [.int .u64 0,.int .u64 0]) st
 refine wo_star (wds (twoAddr r b) (2*n+2) [(r,2,.slice (some ⟨b,0,none⟩) n n)] (fun _=>0)::L) (fun h st=>two_wds (fun i hi=>zeros_two hi) st) ?_
 have hhdr:∀ s:Nat→Nat,Rd (wds (twoAddr r b) (2*n+2) [(r,2,.slice (some ⟨b,0,none⟩) n n)] s::L) r 2 (.slice (some ⟨b,0,none⟩) n n):=fun s=>Rd.of .here fun h hs=>by
  obtain ⟨h1,h2,s1,hc,_⟩:=hs
  exact ⟨rfl,.inl (s1.o1 _ _ _ (hc.2 (r,2,.slice (some ⟨b,0,none⟩) n n) (List.mem_singleton.2 rfl)))⟩
 repeat (first | (apply wo_po;apply mo_load;exact rfl;exact hhdr _;exact trivial) | refine we_seq ?_ | (refine wR ?_;try simp only [oS]) | refine wo_nil ?_ | refine wM ?_ | refine wA ?_ | refine wN ?_ | refine wD ?_ | refine wE ?_ | refine we_block ?_)
 refine we_loopN (newInv x r b n L) (fun i=>n-i.1) (0,fun _=>0) ⟨by simp,by funext w;simp [seqs]⟩ ⟨rfl,rfl,rfl,rfl,trivial⟩ .refl rfl ?_
 rintro ⟨j,s⟩ ⟨hj,hs⟩
 dsimp only [newInv] at hj hs ⊢
 subst hs
 by_cases hc:j<n
 ·repeat (first | (apply wo_po;apply mo_load;exact rfl;exact hhdr _;exact trivial) | (apply wo_po;apply mo_indexAddr (r:=2*j);exact rfl;exact rfl;omega;omega;omega;exact trivial) | refine wlssT ?_ | refine we_seq ?_ | (refine wR ?_;try simp only [oS]) | refine wo_nil ?_ | refine wM ?_ | refine wA ?_ | refine wN ?_ | refine wD ?_ | (apply wo_po;apply mo_conv;exact rfl;(first | exact wrap_i64 (by omega) (by omega) | exact wrap_u64 (by omega) (by omega));exact gY) | refine wT ?_ | refine we_skip ?_ | refine we_block ?_)
  refine wo_call (.cons rfl (.cons rfl .nil)) trivial (store_lone (wt_wds (two_apart hne _) .here (w:=2+2*j) (by omega) (by rw [Nat.add_comm];rfl) (n:=j) (by omega))) ?_
  rintro v L' x' ⟨rfl,rfl,rfl⟩
  repeat (first | (refine wR ?_;try simp only [oS]) | refine wo_nil ?_ | refine wM ?_ | refine wadd ?_)
  refine at_round (I:=newInv x' r b n L) (R:=fun i'=>n-i'.1<n-j) (j+1,upd (seqs j) (2+2*j) j) (by simp;omega) ⟨by simp;omega,?_⟩ ⟨rfl,rfl,rfl,rfl,trivial⟩ .refl rfl
  funext w
  simp only [upd,seqs]
  split <;> split <;> (try split) <;> omega
 ·obtain rfl:j=n:=by omega
  repeat (first | refine wlssF ?_ | refine we_seq ?_ | (refine wR ?_;try simp only [oS]) | refine wo_nil ?_ | refine wM ?_ | refine wA ?_ | refine wF ?_ | refine we_ret ?_ | refine we_exit ?_)
  (first | refine or2 Try.func35 Try.results35 hQ rfl rfl ?_ | refine on2 Try.func35 Try.results35 hQ rfl rfl ?_)
  exact ⟨r,b,rfl,hne,rfl,rfl⟩
end
end
section
variable {B:Hand} [Lets B] {gv:Value}
def accWith (A:Acc B gv) (R:HProp):Acc B gv where
 S:=A.S
 C:=fun s=>all [A.C s,R]
 x:=A.x
 step:=A.step
 addr:=A.addr
 load:=A.load
 store:=A.store
 cas:=A.cas
 add:=A.add
 swap:=A.swap
 gate:=A.gate.imp id fun ⟨t,p,f,e,m,en,g⟩=>⟨t,p,f,e,m,en,fun op w s T L F hs hh =>
  tr_star _ (fun h st=>star_open (hh.star st)) ((g op w s T _ _ hs .here).post fun v L' x' ⟨s',h1,h2,h3,h4⟩=>⟨_,⟨s',h1,h2,rfl,h4⟩,fun h st=>star_shut (M:=[_,_]) (by rw [h3] at st;exact st)⟩)⟩
 load_ok:=fun w s T L F b o ha hl hh=>tr_star _ (fun h st=>star_open (hh.star st)) ((A.load_ok w s T _ _ b o ha hl .here).post fun v L' x' ⟨n,s',h1,h2,h3,hL,h5⟩=>⟨_,⟨n,s',h1,h2,h3,rfl,h5⟩,fun h st=>star_shut (M:=[_,_]) (by subst hL;exact st)⟩)
 store_ok:=fun w n s T L F b o ha hn hl hh=>tr_star _ (fun h st=>star_open (hh.star st)) ((A.store_ok w n s T _ _ b o ha hn hl .here).post fun v L' x' ⟨s',h1,h2,hL,h4⟩=>⟨_,⟨s',h1,h2,rfl,h4⟩,fun h st=>star_shut (M:=[_,_]) (by subst hL;exact st)⟩)
 cas_ok:=fun w m n s T L F b o ha hn hl hh=>tr_star _ (fun h st=>star_open (hh.star st)) ((A.cas_ok w m n s T _ _ b o ha hn hl .here).post fun v L' x' ⟨q,s',h1,h2,hL,h4⟩=>⟨_,⟨q,s',h1,h2,rfl,h4⟩,fun h st=>star_shut (M:=[_,_]) (by subst hL;exact st)⟩)
 add_ok:=fun w n s T L F b o ha hn hl hh=>tr_star _ (fun h st=>star_open (hh.star st)) ((A.add_ok w n s T _ _ b o ha hn hl .here).post fun v L' x' ⟨r,s',h0,h1,h2,hL,h4⟩=>⟨_,⟨r,s',h0,h1,h2,rfl,h4⟩,fun h st=>star_shut (M:=[_,_]) (by subst hL;exact st)⟩)
end
section
def newsC (nc:Nat):HProp:=fun h=>∃ y:Array Value × Nat × Nat,chC nc 1 y.1 y.2.1 y.2.2 h
structure MirAt {B:Hand} {gv:Value} (A:Acc B gv) (mr r b n k nc:Nat):Prop where
 q:QueueAt A r b n k
 hq:∀ s,Rd [A.C s] mr 3 (.pointer (some ⟨r,0,none⟩))
 hc:∀ s,Rd [A.C s] mr 4 (.chan (some nc))
 a:∀ j,j<3→A.addr (2*n+2+j)=(mr,j)
structure News {B:Hand} {gv:Value} (A:Acc B gv) (nc:Nat):Prop where
 news:∃ Rs:A.S→HProp,(∀ s h,A.C s h→Star [newsC nc,Rs s] h)∧∀ s h,Star [newsC nc,Rs s] h→A.C s h
section
variable {B:Hand} {gv:Value}
def OfferT (A:Acc B gv) (n v:Nat) (s:A.S) (Q:Bool→A.S→Prop):Prop :=
 A.step 3 0 s fun s=>A.add (2*n+2+0) 1 s fun _ s=>PutT A n v s fun q s=>if q=true then Q true s else A.step 3 1 s fun s=>A.add (2*n+2+1) 1 s fun _ s=>Q false s
def MTakeT (A:Acc B gv) (n:Nat) (s:A.S) (Q:Option Nat→A.S→Prop):Prop :=
 TakeT A n s fun o s=>match o with
  | some v=>A.step 3 2 s fun s=>A.add (2*n+2+2) 1 s fun _ s=>Q (some v) s
  | none=>Q none s
def Cnt2 (A:Acc B gv) (n:Nat) (Q:Nat→Nat→Nat→A.S→Prop) (a b:Nat) (s:A.S):Prop:=A.step 1 2 s fun s=>A.load (2*n+2+2) s fun c s=>Q a b c s
def Cnt1 (A:Acc B gv) (n:Nat) (Q:Nat→Nat→Nat→A.S→Prop) (a:Nat) (s:A.S):Prop:=A.step 1 1 s fun s=>A.load (2*n+2+1) s fun b s=>Cnt2 A n Q a b s
def CountsT (A:Acc B gv) (n:Nat) (s:A.S) (Q:Nat→Nat→Nat→A.S→Prop):Prop:=A.step 1 0 s fun s=>A.load (2*n+2+0) s fun a s=>Cnt1 A n Q a s
end
section
variable {B:Hand} [Lets B] {gv:Value} {A:Acc B gv} {mr r b n k nc:Nat} {L F:List HProp}
theorem mstep_tr {op:Int} {w:Nat} {s:A.S} {T:A.S→Prop} (hs:A.step op w s T) (hh:Has L (A.C s) F) :
  Tr Try.prog B 47 [gv,.int .u8 op,.int .i64 w] L (A.x s) fun v L' x'=>∃ s',T s'∧v=.tuple #[]∧L'=A.C s'::F∧x'=A.x s':=by
 rcases A.gate with ⟨rfl,hg⟩ | ⟨t,p,f,rfl,hm,he,hg⟩
 ·refine tr_of_body Try.func47 rfl Try.ntmps47 (by simp) fun um Q _ hQ=>?_
  simp only [argE,Nat.zero_add,Nat.reduceAdd]
  repeat (first | refine we_seq ?_ | (refine wR ?_;try simp only [oS]) | refine wo_nil ?_ | refine wM ?_ | (apply wo_po;apply mo_bin;exact rfl;exact rfl;apply bin_ne;apply eql_nil_nil;exact gY) | refine wF ?_ | refine we_skip ?_)
  refine at_ent _ (Ent.take hh .refl) ?_
  (first | refine or0 Try.func47 Try.results47 hQ ?_ | refine on0 Try.func47 Try.results47 hQ ?_)
  exact ⟨s,hg _ _ _ _ hs,rfl,rfl,rfl⟩
 ·refine tr_of_body Try.func47 rfl Try.ntmps47 (by simp) fun um Q _ hQ=>?_
  simp only [argE,Nat.zero_add,Nat.reduceAdd]
  repeat (first | (apply wo_po;apply mo_build (pv:=[(0,_),(1,_)]);exact rfl;exact .cons rfl (.cons rfl .nil);exact rfl;exact trivial) | refine we_seq ?_ | (refine wR ?_;try simp only [oS]) | refine wo_nil ?_ | refine wM ?_ | (apply wo_po;apply mo_bin;exact rfl;exact rfl;apply bin_ne;apply eql_iface_nil;exact gY) | refine wT ?_)
  refine wo_invoke (args:=[_]) rfl (.cons rfl .nil) trivial (hg op w s T L F hs hh) ?_
  rintro v L' x' ⟨s',h1,rfl,rfl,rfl⟩
  repeat (first | refine wo_nil ?_)
  (first | refine or0 Try.func47 Try.results47 hQ ?_ | refine on0 Try.func47 Try.results47 hQ ?_)
  exact ⟨s',h1,rfl,rfl,rfl⟩
theorem mthere_tr (R:MirAt A mr r b n k nc) {s:A.S} (hh:Has L (A.C s) F):Tr Try.prog B 43 [.pointer (some ⟨mr,0,none⟩)] L (A.x s) fun v L' x'=>v=.bool true∧L'=L∧x'=A.x s:=by
 have hr:=Rd.of hh (R.hq s)
 refine tr_of_body Try.func43 rfl Try.ntmps43 (by simp) fun um Q _ hQ=>?_
 simp only [argE,Nat.zero_add,Nat.reduceAdd]
 repeat (first | (apply wo_po;apply mo_load;exact rfl;exact hr;exact gY) | refine we_seq ?_ | (refine wR ?_;try simp only [oS]) | refine wo_nil ?_ | refine wM ?_ | refine wA ?_ | refine wK ?_ | refine wN ?_ | refine wD ?_ | (apply wo_po;apply mo_bin;exact rfl;exact rfl;apply bin_ne;apply eql_ptr_nil;exact gY) | refine we_ret ?_)
 (first | refine or1 Try.func43 Try.results43 hQ rfl ?_ | refine on1 Try.func43 Try.results43 hQ rfl ?_)
 exact ⟨rfl,rfl,rfl⟩
theorem mcount_tr (R:MirAt A mr r b n k nc) {j:Nat} (hj:j<3) {s:A.S} {T:A.S→Prop} (hs:A.step 3 j s fun s=>A.add (2*n+2+j) 1 s fun _ s=>T s) (hh:Has L (A.C s) F) :
  Tr Try.prog B 44 [.pointer (some ⟨mr,0,none⟩),gv,.int .i64 (j:Nat)] L (A.x s) fun v L' x'=>∃ s',T s'∧v=.tuple #[]∧L'=A.C s'::F∧x'=A.x s':=by
 refine tr_of_body Try.func44 rfl Try.ntmps44 (by simp) fun um Q _ hQ=>?_
 simp only [argE,Nat.zero_add,Nat.reduceAdd]
 repeat (first | refine we_seq ?_ | (refine wR ?_;try simp only [oS]) | refine wM ?_)
 refine wo_call (.cons rfl (.cons rfl (.cons rfl .nil))) trivial (mstep_tr hs hh) ?_
 rintro v1 L1 x1 ⟨s1,h1,rfl,rfl,rfl⟩
 repeat (first | (apply wo_po;apply mo_indexArr (r:=j);exact rfl;exact rfl;omega;omega;omega;exact trivial) | (refine wR ?_;try simp only [oS]) | refine wo_nil ?_ | refine wM ?_ | refine wN ?_ | refine wD ?_)
 refine wo_call (.cons rfl (.cons rfl .nil)) trivial (A.add_ok _ 1 _ _ _ _ _ _ (R.a j hj) (by omega) h1 .here) ?_
 rintro v1 L1 x1 ⟨m,s2,hm,h2,rfl,rfl,rfl⟩
 repeat (first | refine wo_nil ?_)
 (first | refine or0 Try.func44 Try.results44 hQ ?_ | refine on0 Try.func44 Try.results44 hQ ?_)
 exact ⟨s2,h2,rfl,rfl,rfl⟩
theorem moffer_tr [Chans B] (R:MirAt A mr r b n k nc) (Nw:News A nc) {v:Nat} (hv:v<18446744073709551616) {s:A.S} {Q:Bool→A.S→Prop} (hs:OfferT A n v s Q) (hh:Has L (A.C s) F) :
  Tr Try.prog B 19 [.pointer (some ⟨mr,0,none⟩),gv,.int .u64 (v:Nat)] L (A.x s) fun w L' x'=>∃ q s',Q q s'∧w=.tuple #[.bool q,.int .i64 0]∧L'=A.C s'::F∧x'=A.x s':=by
 refine Tr.post (R:=fun w L' x'=>∃ q s',Q q s'∧w=.tuple #[.bool q,.int .i64 0]∧x'=A.x s'∧∀ h,Star L' h→Star (A.C s'::F) h) ?_
  (by rintro w L' x' ⟨q,s',h1,rfl,rfl,h2⟩;exact ⟨_,⟨q,s',h1,rfl,rfl,rfl⟩,h2⟩)
 refine tr_of_body Try.func19 rfl Try.ntmps19 (by simp) fun um Q _ hQ=>?_
 simp only [argE,Nat.zero_add,Nat.reduceAdd]
 repeat (first | refine we_seq ?_ | (refine wR ?_;try simp only [oS]) | refine wo_nil ?_ | refine wM ?_ | refine wA ?_)
 refine wo_call (.cons rfl .nil) trivial (mthere_tr R hh) ?_
 rintro v1 L1 x1 ⟨rfl,rfl,rfl⟩
 repeat (first | refine we_seq ?_ | (refine wR ?_;try simp only [oS]) | refine wo_nil ?_ | refine wM ?_ | (apply wo_po;apply mo_not;exact rfl;exact gY) | refine wF ?_ | refine we_skip ?_)
 refine wo_call (.cons rfl (.cons rfl (.cons rfl .nil))) trivial (mcount_tr (j:=0) R (by omega) hs hh) ?_
 rintro v1 L1 x1 ⟨s1,h1,rfl,rfl,rfl⟩
 have hr:=Rd.of (L:=A.C s1::F) .here (R.hq s1)
 repeat (first | (apply wo_po;apply mo_load;exact rfl;exact hr;exact gY) | refine we_seq ?_ | (refine wR ?_;try simp only [oS]) | refine wo_nil ?_ | refine wM ?_ | refine wN ?_ | refine wD ?_)
 refine wo_call (.cons rfl (.cons rfl (.cons rfl .nil))) trivial (put_tr R.q hv h1 .here) ?_
 rintro v1 L1 x1 ⟨q,s2,h2,rfl,rfl,rfl⟩
 cases q with
 | false =>
  rw [if_neg (by decide)] at h2
  repeat (first | refine we_seq ?_ | (refine wR ?_;try simp only [oS]) | refine wo_nil ?_ | refine wM ?_ | refine wA ?_ | (apply wo_po;apply mo_extract;exact rfl;exact rfl;exact gY) | (apply wo_po;apply mo_not;exact rfl;exact gY) | refine wT ?_)
  refine wo_call (.cons rfl (.cons rfl (.cons rfl .nil))) trivial (mcount_tr (j:=1) R (by omega) h2 .here) ?_
  rintro v1 L1 x1 ⟨s3,h3,rfl,rfl,rfl⟩
  repeat (first | refine we_seq ?_ | (refine wR ?_;try simp only [oS]) | refine wo_nil ?_ | refine wM ?_ | refine wA ?_ | refine we_ret ?_)
  (first | refine or2 Try.func19 Try.results19 hQ rfl rfl ?_ | refine on2 Try.func19 Try.results19 hQ rfl rfl ?_)
  exact ⟨false,s3,h3,rfl,rfl,fun _ st=>st⟩
 | true =>
  rw [if_pos rfl] at h2
  have hr2:=Rd.of (L:=A.C s2::F) .here (R.hc s2)
  repeat (first | (apply wo_po;apply mo_load;exact rfl;exact hr2;exact gY) | (apply wo_po;apply mo_build (pv:=[]);exact rfl;exact .nil;exact rfl;exact trivial) | refine we_seq ?_ | (refine wR ?_;try simp only [oS]) | refine wo_nil ?_ | refine wM ?_ | refine wA ?_ | refine wN ?_ | refine wD ?_ | (apply wo_po;apply mo_extract;exact rfl;exact rfl;exact gY) | (apply wo_po;apply mo_not;exact rfl;exact gY) | refine wF ?_ | refine we_skip ?_)
  obtain ⟨Rs,hop,hsh⟩:=Nw.news
  refine wo_star (newsC nc::Rs s2::F) (fun h st=>star_open (M:=[newsC nc,Rs s2]) (star_map st (fun h a=>hop s2 h a) (fun _ y=>y))) ?_
  refine wo_ex .here fun y=>?_
  refine wo_try rfl rfl trivial .here (fun hlt=>?_) (fun hle=>?_)
  ·repeat (first | refine we_seq ?_ | (refine wR ?_;try simp only [oS]) | refine wo_nil ?_ | refine wA ?_ | (apply wo_po;apply mo_extract;exact rfl;exact rfl;exact gY) | (apply wo_po;apply mo_bin;exact rfl;exact rfl;exact bin_eql;exact gY) | refine wT ?_ | refine we_ret ?_ | refine we_skip ?_ | refine we_block ?_)
   (first | refine or2 Try.func19 Try.results19 hQ rfl rfl ?_ | refine on2 Try.func19 Try.results19 hQ rfl rfl ?_)
   exact ⟨true,s2,h2,rfl,rfl,fun h st=>star_map (star_shut (M:=[newsC nc,Rs s2]) (star_map st (fun h a=>⟨(_,_,_),a⟩) (fun _ y=>y))) (fun h a=>hsh s2 h a) (fun _ y=>y)⟩
  ·repeat (first | refine we_seq ?_ | (refine wR ?_;try simp only [oS]) | refine wo_nil ?_ | refine wA ?_ | (apply wo_po;apply mo_extract;exact rfl;exact rfl;exact gY) | (apply wo_po;apply mo_bin;exact rfl;exact rfl;exact bin_eql;exact gY) | refine wF ?_ | refine we_ret ?_ | refine we_skip ?_ | refine we_block ?_)
   (first | refine or2 Try.func19 Try.results19 hQ rfl rfl ?_ | refine on2 Try.func19 Try.results19 hQ rfl rfl ?_)
   exact ⟨true,s2,h2,rfl,rfl,fun h st=>star_map (star_shut (M:=[newsC nc,Rs s2]) (star_map st (fun h a=>⟨y,a⟩) (fun _ y=>y))) (fun h a=>hsh s2 h a) (fun _ y=>y)⟩
theorem mtake_tr (R:MirAt A mr r b n k nc) {s:A.S} {Q:Option Nat→A.S→Prop} (hs:MTakeT A n s Q) (hh:Has L (A.C s) F) :
  Tr Try.prog B 20 [.pointer (some ⟨mr,0,none⟩),gv] L (A.x s) fun w L' x'=>∃ q s',Q q s'∧q.getD 0<18446744073709551616∧w=.tuple #[.int .u64 (q.getD 0:Nat),.bool q.isSome,.int .i64 0]∧L'=A.C s'::F∧x'=A.x s':=by
 refine tr_of_body Try.func20 rfl Try.ntmps20 (by simp) fun um Q _ hQ=>?_
 simp only [argE,Nat.zero_add,Nat.reduceAdd]
 repeat (first | refine we_seq ?_ | (refine wR ?_;try simp only [oS]) | refine wo_nil ?_ | refine wM ?_ | refine wA ?_)
 refine wo_call (.cons rfl .nil) trivial (mthere_tr R hh) ?_
 rintro v1 L1 x1 ⟨rfl,rfl,rfl⟩
 have hr:=Rd.of hh (R.hq s)
 repeat (first | (apply wo_po;apply mo_load;exact rfl;exact hr;exact gY) | refine we_seq ?_ | (refine wR ?_;try simp only [oS]) | refine wo_nil ?_ | refine wM ?_ | refine wN ?_ | refine wD ?_ | (apply wo_po;apply mo_not;exact rfl;exact gY) | refine wF ?_ | refine we_skip ?_)
 refine wo_call (.cons rfl (.cons rfl .nil)) trivial (take_tr R.q hs hh) ?_
 rintro v1 L1 x1 ⟨q,s2,h2,hlt,rfl,rfl,rfl⟩
 cases q with
 | none =>
  repeat (first | refine we_seq ?_ | (refine wR ?_;try simp only [oS]) | refine wo_nil ?_ | refine wM ?_ | refine wA ?_ | (apply wo_po;apply mo_extract;exact rfl;exact rfl;exact gY) | refine wF ?_ | refine we_ret ?_ | refine we_skip ?_)
  (first | refine or3 Try.func20 Try.results20 hQ rfl rfl rfl ?_ | refine on3 Try.func20 Try.results20 hQ rfl rfl rfl ?_)
  exact ⟨none,s2,h2,hlt,rfl,rfl,rfl⟩
 | some y =>
  repeat (first | refine we_seq ?_ | (refine wR ?_;try simp only [oS]) | refine wo_nil ?_ | refine wM ?_ | refine wA ?_ | (apply wo_po;apply mo_extract;exact rfl;exact rfl;exact gY) | refine wT ?_)
  refine wo_call (.cons rfl (.cons rfl (.cons rfl .nil))) trivial (mcount_tr (j:=2) R (by omega) h2 .here) ?_
  rintro v1 L1 x1 ⟨s3,h3,rfl,rfl,rfl⟩
  repeat (first | refine we_seq ?_ | (refine wR ?_;try simp only [oS]) | refine wo_nil ?_ | refine wM ?_ | refine wA ?_ | refine we_ret ?_)
  (first | refine or3 Try.func20 Try.results20 hQ rfl rfl rfl ?_ | refine on3 Try.func20 Try.results20 hQ rfl rfl rfl ?_)
  exact ⟨some y,s3,h3,hlt,rfl,rfl,rfl⟩
def cntInv (A:Acc B gv) (mr n tb:Nat) (F:List HProp) (Q:Nat→Nat→Nat→A.S→Prop):Inv (Nat × Nat × Nat × Nat × A.S) B.X where
 e:=fun i=>[(0,.pointer (some ⟨mr,0,none⟩)),(1,gv),(8,.pointer (some ⟨tb,0,none⟩)),(13,.int .i64 (i.1:Nat))]
 L:=fun i=>[arr tb 0 [.int .u64 (i.2.1:Nat),.int .u64 (i.2.2.1:Nat),.int .u64 (i.2.2.2.1:Nat)],A.C i.2.2.2.2]++F
 x:=fun i=>A.x i.2.2.2.2
 ok:=fun i=>(i.1=0∧CountsT A n i.2.2.2.2 Q)∨(i.1=1∧Cnt1 A n Q i.2.1 i.2.2.2.2)∨(i.1=2∧Cnt2 A n Q i.2.1 i.2.2.1 i.2.2.2.2)∨(i.1=3∧Q i.2.1 i.2.2.1 i.2.2.2.1 i.2.2.2.2)
set_option maxHeartbeats 4000000 in
theorem mcounts_tr (R:MirAt A mr r b n k nc) {s:A.S} {G:Nat→Nat→Nat→A.S→Prop} (hs:CountsT A n s G) (hh:Has L (A.C s) F) :
  Tr Try.prog B 21 [.pointer (some ⟨mr,0,none⟩),gv] L (A.x s) fun w L' x'=>∃ a b c s',G a b c s'∧w=.tuple #[.int .u64 (a:Nat),.int .u64 (b:Nat),.int .u64 (c:Nat),.int .i64 0]∧L'=A.C s'::F∧x'=A.x s':=by
 refine Tr.post (R:=fun w L' x'=>∃ a b c s',G a b c s'∧w=.tuple #[.int .u64 (a:Nat),.int .u64 (b:Nat),.int .u64 (c:Nat),.int .i64 0]∧x'=A.x s'∧∀ h,Star L' h→Star (A.C s'::F) h) ?_
  (by rintro w L' x' ⟨a,b,c,s',h1,rfl,rfl,h2⟩;exact ⟨_,⟨a,b,c,s',h1,rfl,rfl,rfl⟩,h2⟩)
 refine tr_of_body Try.func21 rfl Try.ntmps21 (by simp) fun um Q _ hQ=>?_
 simp only [argE,Nat.zero_add,Nat.reduceAdd]
 repeat (first | refine we_seq ?_ | (refine wR ?_;try simp only [oS]) | refine wo_nil ?_ | refine wM ?_ | refine wA ?_)
 refine wo_call (.cons rfl .nil) trivial (mthere_tr R hh) ?_
 rintro v1 L1 x1 ⟨rfl,rfl,rfl⟩
 repeat (first | (apply wo_mo;apply mo_alloc;exact trivial) | refine we_seq ?_ | (refine wR ?_;try simp only [oS]) | refine wo_nil ?_ | (apply wo_po;apply mo_not;exact rfl;exact gY) | refine wF ?_ | refine we_skip ?_)
 rintro v' L' ⟨tb,rfl,rfl⟩
 repeat (first | refine we_seq ?_ | (refine wR ?_;try simp only [oS]) | refine wo_nil ?_ | refine wM ?_ | refine we_block ?_)
 refine we_star ((cntInv A mr n tb F G).L (0,0,0,0,s)) (fun h st=>star_map st (fun _ y=>y) (fun _ y=>hh.star y)) ?_
 refine we_loopN (cntInv A mr n tb F G) (fun i=>3-i.1) (0,0,0,0,s) (.inl ⟨rfl,hs⟩) ⟨rfl,rfl,rfl,rfl,trivial⟩ .refl rfl ?_
 rintro ⟨i,a,b',c,s1⟩ hok
 dsimp only [cntInv] at hok ⊢
 rcases hok with ⟨rfl,hs1⟩ | ⟨rfl,hs1⟩ | ⟨rfl,hs1⟩ | ⟨rfl,hs1⟩
 ·repeat (first | refine wlssT ?_ | refine we_seq ?_ | (refine wR ?_;try simp only [oS]) | refine wo_nil ?_ | refine wM ?_ | refine wA ?_ | refine wT ?_ | refine we_skip ?_ | refine we_block ?_)
  refine wo_call (.cons rfl (.cons rfl (.cons rfl .nil))) trivial (mstep_tr hs1 (.there .here)) ?_
  rintro v1 L1 x1 ⟨s2,h2,rfl,rfl,rfl⟩
  repeat (first | (apply wo_po;apply mo_indexArr (r:=0);exact rfl;exact rfl;omega;omega;omega;exact trivial) | (refine wR ?_;try simp only [oS]) | refine wo_nil ?_ | refine wM ?_ | refine wN ?_ | refine wD ?_)
  refine wo_call (.cons rfl .nil) trivial (A.load_ok _ _ _ _ _ _ _ (R.a 0 (by omega)) h2 .here) ?_
  rintro v1 L1 x1 ⟨m,s3,hm,h3,rfl,rfl,rfl⟩
  repeat (first | (apply wo_po;apply mo_indexArr (r:=0);exact rfl;exact rfl;omega;omega;omega;exact trivial) | refine wS ?_ | (refine wR ?_;try simp only [oS]) | refine wo_nil ?_ | refine wM ?_ | refine wadd ?_)
  refine at_roundS (I:=cntInv A mr n tb F G) (R:=fun i'=>3-i'.1<3-0) (1,m,b',c,s3) (by show 3-1<3-0;omega) (.inr (.inl ⟨rfl,h3⟩)) ⟨rfl,rfl,rfl,rfl,trivial⟩ (fun h st=>?_) rfl
  exact Ent.star (.take (.there .here) (.take .here .refl)) st
 ·repeat (first | refine wlssT ?_ | refine we_seq ?_ | (refine wR ?_;try simp only [oS]) | refine wo_nil ?_ | refine wM ?_ | refine wA ?_ | refine wT ?_ | refine we_skip ?_ | refine we_block ?_)
  refine wo_call (.cons rfl (.cons rfl (.cons rfl .nil))) trivial (mstep_tr hs1 (.there .here)) ?_
  rintro v1 L1 x1 ⟨s2,h2,rfl,rfl,rfl⟩
  repeat (first | (apply wo_po;apply mo_indexArr (r:=1);exact rfl;exact rfl;omega;omega;omega;exact trivial) | (refine wR ?_;try simp only [oS]) | refine wo_nil ?_ | refine wM ?_ | refine wN ?_ | refine wD ?_)
  refine wo_call (.cons rfl .nil) trivial (A.load_ok _ _ _ _ _ _ _ (R.a 1 (by omega)) h2 .here) ?_
  rintro v1 L1 x1 ⟨m,s3,hm,h3,rfl,rfl,rfl⟩
  repeat (first | (apply wo_po;apply mo_indexArr (r:=1);exact rfl;exact rfl;omega;omega;omega;exact trivial) | refine wS ?_ | (refine wR ?_;try simp only [oS]) | refine wo_nil ?_ | refine wM ?_ | refine wadd ?_)
  refine at_roundS (I:=cntInv A mr n tb F G) (R:=fun i'=>3-i'.1<3-1) (2,a,m,c,s3) (by show 3-2<3-1;omega) (.inr (.inr (.inl ⟨rfl,h3⟩))) ⟨rfl,rfl,rfl,rfl,trivial⟩ (fun h st=>?_) rfl
  exact Ent.star (.take (.there .here) (.take .here .refl)) st
 ·repeat (first | refine wlssT ?_ | refine we_seq ?_ | (refine wR ?_;try simp only [oS]) | refine wo_nil ?_ | refine wM ?_ | refine wA ?_ | refine wT ?_ | refine we_skip ?_ | refine we_block ?_)
  refine wo_call (.cons rfl (.cons rfl (.cons rfl .nil))) trivial (mstep_tr hs1 (.there .here)) ?_
  rintro v1 L1 x1 ⟨s2,h2,rfl,rfl,rfl⟩
  repeat (first | (apply wo_po;apply mo_indexArr (r:=2);exact rfl;exact rfl;omega;omega;omega;exact trivial) | (refine wR ?_;try simp only [oS]) | refine wo_nil ?_ | refine wM ?_ | refine wN ?_ | refine wD ?_)
  refine wo_call (.cons rfl .nil) trivial (A.load_ok _ _ _ _ _ _ _ (R.a 2 (by omega)) h2 .here) ?_
  rintro v1 L1 x1 ⟨m,s3,hm,h3,rfl,rfl,rfl⟩
  repeat (first | (apply wo_po;apply mo_indexArr (r:=2);exact rfl;exact rfl;omega;omega;omega;exact trivial) | refine wS ?_ | (refine wR ?_;try simp only [oS]) | refine wo_nil ?_ | refine wM ?_ | refine wadd ?_)
  refine at_roundS (I:=cntInv A mr n tb F G) (R:=fun i'=>3-i'.1<3-2) (3,a,b',m,s3) (by show 3-3<3-2;omega) (.inr (.inr (.inr ⟨rfl,h3⟩))) ⟨rfl,rfl,rfl,rfl,trivial⟩ (fun h st=>?_) rfl
  exact Ent.star (.take (.there .here) (.take .here .refl)) st
 ·repeat (first | refine wlssF ?_ | refine we_seq ?_ | (refine wR ?_;try simp only [oS]) | refine wo_nil ?_ | refine wF ?_ | refine we_exit ?_)
  refine we_draw (List.range' 0 10) (by kernel_rfl) ?_
  repeat (first | (apply ap_pure;exact rfl;exact rfl;exact gY;intro L;apply mo_indexArr (r:=0);exact rfl;exact rfl;omega;omega;omega) | (apply ap_pure;exact rfl;exact rfl;exact gY;intro L;apply mo_indexArr (r:=1);exact rfl;exact rfl;omega;omega;omega) | (apply ap_pure;exact rfl;exact rfl;exact gY;intro L;apply mo_indexArr (r:=2);exact rfl;exact rfl;omega;omega;omega) | refine aA ?_ | refine aL ?_ | refine ap_end ?_)
  repeat (first | refine we_ret ?_)
  (first | refine at_ret4 (ex:=.ret) Try.func21 Try.results21 hQ (.inl rfl) rfl rfl rfl rfl ?_ | refine at_ret4 (ex:=.normal) Try.func21 Try.results21 hQ (.inr rfl) rfl rfl rfl rfl ?_)
  exact ⟨a,b',c,s1,hs1,rfl,rfl,fun h st=>star_drop st⟩
end
section
variable {B:Hand} [Lets B] {L:List HProp}
end
end
end Go.Proofs.Ytmkkanmkjfnpdaa
namespace Go.PB.Mach
section
structure In where
 op:Nat
 on:Nat:=0
 a:Nat:=0
 b:Nat:=0
 c:Nat:=0
 d:Nat:=0
 n:Nat:=0
structure Cl where
 code:List In
 data:List Nat:=[]
structure Wd where
 words:List (List Nat)
 nl:Nat
structure Th where
 calls:List Cl
 call:Nat:=0
 pc:Nat:=0
 r:Nat→Nat:=fun _=>0
 ans:List (Bool × List Nat):=[]
 over:Bool:=false
def fin:In:={ op:=23 }
def Th.cl (t:Th):Cl:=t.calls.getD t.call { code:=[] }
def Th.next (t:Th):In:=t.cl.code.getD t.pc fin
def Th.put (t:Th) (i v:Nat):Th:={ t with r:=upd t.r i (v%18446744073709551616) }
def Th.tell (t:Th) (v:Nat):Th:={ t with ans:=t.ans.modify t.call fun y=>(y.1,y.2++[v]) }
structure Wd.ok (w:Wd):Prop where
 n:w.words.length<1000000
 nl:w.nl<1000000
 len:∀ l∈w.words,l.length<1000000
 lt:∀ l∈w.words,∀ v∈l,v<18446744073709551616
def own (t0:Th) (x:In):Th :=
 let t:={ t0 with pc:=t0.pc+1 }
 match x.op with
 | 6=>t.put x.a x.n
 | 7=>t.put x.a (t.r x.b)
 | 8=>t.put x.a (t.r x.b+t.r x.c+x.n)
 | 9=>t.put x.a (t.r x.b+18446744073709551616-t.r x.c)
 | 10=>t.put x.a (t.r x.b*t.r x.c)
 | 11=>t.put x.a (if t.r x.c=0 then 0 else t.r x.b/t.r x.c)
 | 12=>t.put x.a (t.r x.b &&& t.r x.c)
 | 13=>t.put x.a (t.r x.b ||| t.r x.c)
 | 14=>t.put x.a (t.r x.b*2^x.n)
 | 15=>t.put x.a (t.r x.b/2^x.n)
 | 16=>t.put x.a (max (t.r x.b) (t.r x.c))
 | 17=>t.put x.a (t.cl.data.getD ((t.r x.b+x.n)%18446744073709551616) 0)
 | 18=>{ t with pc:=x.n }
 | 19=>if t.r x.a=t.r x.b then { t with pc:=x.n } else t
 | 20=>if t.r x.a<t.r x.b then { t with pc:=x.n } else t
 | 21=>if 9223372036854775808≤t.r x.a then { t with pc:=x.n } else t
 | 22=>t.tell (t.r x.a)
 | _=>t
def told (op:Nat):Bool:=1≤op&&op≤5
def Th.begun (t:Th):Th:=if t.ans.length=t.call then { t with ans:=t.ans++[(false,[])] } else t
def Th.done (t:Th):Th:={ t with ans:=t.ans.modify t.call fun y=>(true,y.2),call:=t.call+1,pc:=0,r:=fun _=>0 }
def onF:Nat→Th→Option Th
 | 0,_=>none
 | f+1,t =>
  if t.over=true then some t
  else if t.calls.length≤t.call then some { t with over:=true }
  else if told t.begun.next.op=true then some t.begun
  else if t.begun.next.op=23 then onF f t.begun.done
  else onF f (own t.begun t.begun.next)
def Th.place (t:Th):Nat:=(t.r t.next.b+t.next.n)%18446744073709551616
def op1 (x:In) (l:List Nat) (p:Nat) (r:Nat→Nat):List Nat × (Nat→Nat) :=
 let v:=l.getD p 0
 match x.op with
 | 1=>(l,upd r x.a v)
 | 2=>(l.set p (r x.a),r)
 | 3=>(l.set p ((v+r x.c)%18446744073709551616),upd r x.a ((v+r x.c)%18446744073709551616))
 | 4=>(l.set p (r x.c),upd r x.a v)
 | _=>if v=r x.c then (l.set p (r x.d),upd r x.a 1) else (l,upd r x.a 0)
def Wd.row (w:Wd) (on:Nat):List Nat:=w.words.getD on []
def opF (f:Nat) (w:Wd) (t:Th):Option (Wd × Th) :=
 if t.place<(w.row t.next.on).length then
  let y:=op1 t.next (w.row t.next.on) t.place t.r
  (onF f { t with pc:=t.pc+1,r:=y.2 }).map fun t'=>({ w with words:=w.words.set t.next.on y.1 },t')
 else none
def Th.mark (t:Th):Nat × Nat:=(t.next.op,t.place)
structure St where
 w:Wd
 l:List Th
 tr:List (Nat × Nat × Nat):=[]
def turn (f:Nat) (s:St) (k:Nat):Option St :=
 match s.l[k]? with
 | some t=>(opF f s.w t).map fun y=>⟨y.1,s.l.set k y.2,s.tr++[(k,t.mark)]⟩
 | none=>some s
def may (s:St) (k:Nat):Bool:=s.tr.length<16384&&(match s.l[k]? with | some t=>!t.over | none=>false)
def byOrder (f:Nat):St→List (Option Nat)→Option St
 | s,[]=>some s
 | s,none::o=>byOrder f s o
 | s,some k::o=>if may s k=true then (turn f s k).bind fun s=>byOrder f s o else byOrder f s o
def round (f:Nat):Nat→Nat→St→Bool→Option (St × Bool)
 | 0,_,s,q=>some (s,q)
 | m+1,k,s,q=>if may s k=true then (turn f s k).bind fun s=>round f m (k+1) s true else round f m (k+1) s q
def rounds (f:Nat):Nat→St→Option St
 | 0,_=>none
 | g+1,s=>(round f s.l.length 0 s false).bind fun y=>if y.2=true then rounds f g y.1 else some y.1
def begin_ (f:Nat):List Th→Option (List Th)
 | []=>some []
 | t::l=>(onF f t).bind fun t=>(begin_ f l).map fun l=>t::l
def play (f g:Nat) (w:Wd) (o:List (Option Nat)) (l:List (List Cl)):Option St :=
 (begin_ f (l.map fun c=>{ calls:=c })).bind fun l=>(byOrder f ⟨w,l,[]⟩ o).bind fun s=>rounds f g s
def In.ok (x:In):Bool:=1≤x.op&&x.op≤23&&x.a<24&&x.b<24&&x.c<24&&x.d<24&&x.on<1000&&x.n<18446744073709551616&&(!(18≤x.op&&x.op≤21)||x.n<1000000)&&(!(x.op=17)||!(x.a=x.b))&&(!(x.op=14||x.op=15)||x.n<64)
def Cl.ok (c:Cl):Bool:=c.code.all In.ok&&c.data.all (fun v=>v<18446744073709551616)&&c.code.length<1000000&&c.data.length<1000000
end
section
def T (cs:List Cl) (c p:Nat) (r:Nat→Nat) (pre:List (Bool × List Nat)) (said:List Nat):Th:={ calls:=cs,call:=c,pc:=p,r:=r,ans:=pre++[(false,said)],over:=false }
def Goes (k:Nat) (t t':Th):Prop:=∀ f,onF (f+k) t=onF f t'
theorem Goes.trans {k k':Nat} {t t' t'':Th} (a:Goes k t t') (b:Goes k' t' t''):Goes (k'+k) t t'':=fun f=>by
 rw [← Nat.add_assoc,a,b]
theorem Goes.on {k f:Nat} {t t' t'':Th} (a:Goes k t t') (h:onF f t'=some t''):onF (f+k) t=some t'':=by rw [a,h]
theorem Goes.on1 {f:Nat} {t t' t'':Th} (a:Goes 1 t t') (h:onF f t'=some t''):onF (f+1) t=some t'':=a.on h
section
variable {cs:List Cl} {cl:Cl} {c p:Nat} {r:Nat→Nat} {pre:List (Bool × List Nat)} {said:List Nat} {x:In}
variable {on a b cc d n:Nat}
end
section
variable {cs:List Cl} {cl:Cl} {c p:Nat} {r:Nat→Nat} {pre:List (Bool × List Nat)} {said:List Nat} {x:In} {on a b cc d n vb vc v:Nat}
variable {f:Nat} {w:Wd} {l:List Nat} {q:Nat} {ws:List (List Nat)} {t':Th}
structure Op (f:Nat) (w:Wd) (t:Th) (m:Nat × Nat) (w':Wd) (t':Th):Prop where
 over:t.over=false
 on:opF f w t=some (w',t')
 mark:t.mark=m
end
inductive Runs (f:Nat):Wd→Th→List (Nat × Nat)→Wd→Th→Prop
 | nil {w:Wd} {t:Th}:Runs f w t [] w t
 | cons {w w1 w2:Wd} {t t1 t2:Th} {m:Nat × Nat} {ms:List (Nat × Nat)}:Op f w t m w1 t1→Runs f w1 t1 ms w2 t2→Runs f w t (m::ms) w2 t2
theorem Runs.trans {f:Nat} {w w1 w2:Wd} {t t1 t2:Th} {ms ms':List (Nat × Nat)} (a:Runs f w t ms w1 t1) (b:Runs f w1 t1 ms' w2 t2):Runs f w t (ms++ms') w2 t2:=by
 induction a with
 | nil=>exact b
 | cons h _ ih=>exact .cons h (ih b)
end
end Go.PB.Mach
namespace Go.Proofs.Ytmkkanmkjfnpdaa
open Go Go.PB
attribute [local irreducible] Mo Bin Eql Tr Wo Ap
section
variable {B:Hand} [Lets B] {L F:List HProp} {x:B.X}
def inC (x:Mach.In):List Value:=[.int .i64 (x.op:Nat),.int .i64 (x.on:Nat),.int .i64 (x.a:Nat),.int .i64 (x.b:Nat),.int .i64 (x.c:Nat),.int .i64 (x.d:Nat),.int .u64 (x.n:Nat)]
end
section
variable {B:Hand} [Lets B] {L F G:List HProp} {x:B.X}
structure CW where
 a:Option Addr
 c:Nat
 k:Nat→Option Addr × Nat
 d:Nat→Option Addr × Nat
def CW.v (w:CW) (n:Nat):Value:=.slice w.a n w.c
def codeC (w:CW) (cs:List Mach.Cl):HProp:=fun h=>∀ i cl,cs[i]?=some cl→∃ cb co,w.a=some ⟨cb,co,none⟩ ∧
 h.can ⟨cb,co+2*i,none⟩ (.slice (w.k i).1 cl.code.length (w.k i).2)∧h.can ⟨cb,co+2*i+1,none⟩ (.slice (w.d i).1 cl.data.length (w.d i).2) ∧
 (∀ j y,cl.code[j]?=some y→∃ kb ko,(w.k i).1=some ⟨kb,ko,none⟩∧∀ m v,(inC y)[m]?=some v→h.can ⟨kb,ko+7*j+m,none⟩ v) ∧
 (∀ j v,cl.data[j]?=some v→∃ db dq,(w.d i).1=some ⟨db,dq,none⟩∧h.can ⟨db,dq+j,none⟩ (num v))
section
variable {w:CW} {cs:List Mach.Cl} {cl:Mach.Cl} {i:Nat}
theorem can_mono {h h1 h2:Hp} (s:Split h h1 h2) {a:Addr} {v:Value} (c:h1.can a v):h.can a v:=⟨c.1,c.2.elim (fun e=>.inl (s.o1 _ _ _ e)) (fun e=>.inr (s.r1 _ _ _ e))⟩
def Obs (L:List HProp) (c:HProp):Prop:=∀ h,Star L h→c h
theorem code_mono {h h1 h2:Hp} (s:Split h h1 h2) (c:codeC w cs h1):codeC w cs h:=by
 intro i cl hi
 obtain ⟨cb,co,q1,q2,q3,q4,q5⟩:=c i cl hi
 refine ⟨cb,co,q1,can_mono s q2,can_mono s q3,fun j y hj=>?_,fun j v hj=>?_⟩
 ·obtain ⟨kb,ko,q6,q7⟩:=q4 j y hj
  exact ⟨kb,ko,q6,fun m v hm=>can_mono s (q7 m v hm)⟩
 ·obtain ⟨db,dq,q6,q7⟩:=q5 j v hj
  exact ⟨db,dq,q6,can_mono s q7⟩
theorem Obs.there {d:HProp} (o:Obs L (codeC w cs)):Obs (d::L) (codeC w cs):=fun h s=>by
 obtain ⟨h1,h2,s1,_,hL⟩:=s
 exact code_mono s1.swap (o h2 hL)
end
theorem own_calls {t:Mach.Th} {i:Mach.In}:(Mach.own t i).calls=t.calls∧(Mach.own t i).call=t.call∧(Mach.own t i).over=t.over:=by
 unfold Mach.own Mach.Th.put Mach.Th.tell
 dsimp only
 split <;> (try split) <;> exact ⟨rfl,rfl,rfl⟩
theorem own_ans {t:Mach.Th} {i:Mach.In} (h:i.op≠22):(Mach.own t i).ans=t.ans:=by
 unfold Mach.own Mach.Th.put Mach.Th.tell
 dsimp only
 split <;> (try split) <;> first | rfl | exact absurd (by assumption) h
end
section
structure Good (cs:List Mach.Cl) (t:Mach.Th) (k:Nat):Prop where
 calls:t.calls=cs
 ok:(cs.all Mach.Cl.ok)=true
 len:cs.length<1000000
 pc:t.pc<1000000
 call:t.call≤cs.length
 ans1:t.call≤t.ans.length
 ans2:t.ans.length≤t.call+1
 room:∀ y∈t.ans,y.2.length+k<1000000000
theorem Good.begun {cs:List Mach.Cl} {t:Mach.Th} {k:Nat} (g:Good cs t k) (hk:k<1000000000):Good cs t.begun k:=by
 unfold Mach.Th.begun
 split
 ·refine ⟨g.calls,g.ok,g.len,g.pc,g.call,by simp;omega,by simp;omega,fun y hy=>?_⟩
  rcases List.mem_append.1 hy with hy | hy
  ·exact g.room y hy
  ·cases List.mem_singleton.1 hy;simpa using hk
 ·exact g
theorem begun_ans {cs:List Mach.Cl} {t:Mach.Th} {k:Nat} (g:Good cs t k):t.begun.call=t.call∧t.call<t.begun.ans.length:=by
 unfold Mach.Th.begun
 split
 ·exact ⟨rfl,by simp;omega⟩
 ·exact ⟨rfl,by have:=g.ans1;omega⟩
theorem mem_modify {α:Type} {f:α→α}:∀ {l:List α} {i:Nat} {y:α},y∈l.modify i f→y∈l∨∃ z∈l,y=f z:=by
 intro l
 induction l with
 | nil=>intro i y h;simp at h
 | cons a l ih =>
  intro i y h
  cases i with
  | zero =>
   simp only [List.modify_zero_cons,List.mem_cons] at h
   rcases h with h | h
   ·exact .inr ⟨a,by simp,h⟩
   ·exact .inl (by simp [h])
  | succ i =>
   simp only [List.modify_succ_cons,List.mem_cons] at h
   rcases h with h | h
   ·exact .inl (by simp [h])
   ·rcases ih h with h | ⟨z,h1,h2⟩
    ·exact .inl (by simp [h])
    ·exact .inr ⟨z,by simp [h1],h2⟩
theorem Good.done {cs:List Mach.Cl} {t:Mach.Th} {k:Nat} (g:Good cs t k) (h:t.call<t.ans.length) (hl:t.call<cs.length):Good cs t.done k:=by
 refine ⟨g.calls,g.ok,g.len,by show 0<1000000;omega,by show t.call+1≤_;omega,?_,?_,fun y hy=>?_⟩
 ·show t.call+1≤(t.ans.modify _ _).length;rw [List.length_modify];omega
 ·show (t.ans.modify _ _).length≤t.call+1+1;rw [List.length_modify];have:=g.ans2;omega
 ·rcases mem_modify hy with h | ⟨z,h1,rfl⟩
  ·exact g.room y h
  ·exact g.room z h1
theorem own_pc {t:Mach.Th} {i:Mach.In}:(Mach.own t i).pc=t.pc+1∨(Mach.own t i).pc=i.n∧18≤i.op∧i.op≤21:=by
 obtain ⟨op,on,a,b,c,d,n⟩:=i
 unfold Mach.own Mach.Th.put Mach.Th.tell
 dsimp only
 split <;> (try split) <;> first | exact .inl rfl | exact .inr ⟨rfl,by omega,by omega⟩
theorem own_told {t:Mach.Th} {i:Mach.In} {k:Nat} (h:∀ y∈t.ans,y.2.length+(k+1)<1000000000):∀ y∈(Mach.own t i).ans,y.2.length+k<1000000000:=by
 intro y hy
 by_cases e:i.op=22
 ·have e2:(Mach.own t i).ans=(t.tell (t.r i.a)).ans:=by
   obtain ⟨op,on,a,b,c,dd,n⟩:=i
   simp only at e
   subst e
   rfl
  rw [e2] at hy
  rcases mem_modify hy with h1 | ⟨z,h1,rfl⟩
  ·have:=h y h1;omega
  ·have:=h z h1
   simp only [List.length_append,List.length_cons,List.length_nil];omega
 ·rw [own_ans e] at hy
  have:=h y hy;omega
theorem own_len {t:Mach.Th} {i:Mach.In}:(Mach.own t i).ans.length=t.ans.length:=by
 by_cases e:i.op=22
 ·have e2:(Mach.own t i).ans=(t.tell (t.r i.a)).ans:=by
   obtain ⟨op,on,a,b,c,dd,n⟩:=i
   simp only at e
   subst e
   rfl
  rw [e2]
  show (t.ans.modify _ _).length=_
  rw [List.length_modify]
 ·rw [own_ans e]
theorem Good.next {cs:List Mach.Cl} {t:Mach.Th} {k:Nat} (g:Good cs t k) (hl:t.call<cs.length):t.next=Mach.fin∨t.next.ok=true∧t.pc+1<1000000:=by
 unfold Mach.Th.next Mach.Th.cl
 obtain ⟨cl,hcl⟩:∃ cl,t.calls[t.call]?=some cl:=⟨t.calls[t.call]'(by rw [g.calls];omega),by simp⟩
 rw [List.getD_eq_getElem?_getD,List.getD_eq_getElem?_getD,hcl,Option.getD_some]
 have hok:=List.all_eq_true.1 g.ok cl (by rw [← g.calls];exact List.mem_of_getElem? hcl)
 simp only [Mach.Cl.ok,Bool.and_eq_true,decide_eq_true_eq] at hok
 cases hp:cl.code[t.pc]? with
 | none=>exact .inl rfl
 | some y =>
  have:=(List.getElem?_eq_some_iff.1 hp).1
  exact .inr ⟨List.all_eq_true.1 hok.1.1.1 y (List.mem_of_getElem? hp),by omega⟩
theorem Good.own {cs:List Mach.Cl} {t:Mach.Th} {k:Nat} (g:Good cs t (k+1)) (hl:t.call<cs.length) (hn:t.next.op≠23):Good cs (Mach.own t t.next) k:=by
 obtain ⟨o1,o2,o3⟩:=own_calls (t:=t) (i:=t.next)
 rcases g.next hl with hf | ⟨hok,hpc⟩
 ·rw [hf] at hn;exact absurd rfl hn
 refine ⟨o1.trans g.calls,g.ok,g.len,?_,by rw [o2];exact g.call,by rw [o2,own_len];exact g.ans1,by rw [o2,own_len];exact g.ans2,own_told g.room⟩
 rcases own_pc (t:=t) (i:=t.next) with h | ⟨h,h2,h3⟩
 ·rw [h];exact hpc
 ·rw [h]
  simp only [Mach.In.ok,Bool.and_eq_true,decide_eq_true_eq,Bool.or_eq_true,Bool.not_eq_true',decide_eq_false_iff_not] at hok
  obtain ⟨⟨⟨_,hj⟩,_⟩,_⟩:=hok
  rcases hj with hj | hj
  ·simp at hj;omega
  ·exact hj
theorem Good.onF {cs:List Mach.Cl}:∀ {f:Nat} {t t':Mach.Th} {k:Nat},Good cs t (k+f)→k+f<1000000000→Mach.onF f t=some t'→Good cs t' k:=by
 intro f
 induction f with
 | zero=>intro t t' k g hk h;cases h
 | succ f ih =>
  intro t t' k g hk h
  have weak:∀ {t:Mach.Th} {m:Nat},Good cs t m→k≤m→Good cs t k:=fun g hm=>⟨g.calls,g.ok,g.len,g.pc,g.call,g.ans1,g.ans2,fun y hy=>by have:=g.room y hy;omega⟩
  unfold Mach.onF at h
  split at h
  ·cases h;exact weak g (by omega)
  split at h
  ·cases h;exact ⟨g.calls,g.ok,g.len,g.pc,g.call,g.ans1,g.ans2,fun y hy=>by have:=g.room y hy;omega⟩
  rename_i h1 h2
  have hl:t.call<cs.length:=by rw [← g.calls];omega
  have gb:=g.begun hk
  obtain ⟨b1,b2⟩:=begun_ans g
  split at h
  ·cases h;exact weak gb (by omega)
  split at h
  ·exact ih (k:=k) ⟨(gb.done (by rw [b1];exact b2) (by rw [b1];exact hl)).calls,g.ok,g.len,by show 0<1000000;omega,(gb.done (by rw [b1];exact b2) (by rw [b1];exact hl)).call,(gb.done (by rw [b1];exact b2) (by rw [b1];exact hl)).ans1,(gb.done (by rw [b1];exact b2) (by rw [b1];exact hl)).ans2,fun y hy=>by have:=(gb.done (by rw [b1];exact b2) (by rw [b1];exact hl)).room y hy;omega⟩ (by omega) h
  ·rename_i h3
   exact ih (k:=k) (Good.own (k:=k+f) gb (by rw [b1];exact hl) h3) (by omega) h
variable {B:Hand} [Lets B] {L F G:List HProp} {x:B.X}
end
section
structure PT where
 tb:Nat
 cw:CW
 cs:List Mach.Cl
def PT.cv (p:PT):Value:=p.cw.v p.cs.length
abbrev Calls:=List (CW × List Mach.Cl)
structure CallsOk (F:List HProp) (cc:Calls):Prop where
 n:cc.length<1000
 obs:∀ y∈cc,Obs F (codeC y.1 y.2)
 ok:∀ y∈cc,(y.2.all Mach.Cl.ok)=true
 len:∀ y∈cc,y.2.length<1000000
theorem CallsOk.there {F:List HProp} {cc:Calls} {d:HProp} (c:CallsOk F cc):CallsOk (d::F) cc:=⟨c.n,fun y hy=>(c.obs y hy).there,c.ok,c.len⟩
variable {B:Hand} [Lets B] {L F G:List HProp} {x:B.X}
end
section
def Stands (t:Mach.Th):Prop:=t.over=true∨Mach.told t.next.op=true∧t.call<t.calls.length
structure PlayOk (f:Nat) (s:Mach.St) (q:List (PT × Mach.Th)):Prop where
 l:q.map (·.2)=s.l
 tr:s.tr.length≤16384
 good:∀ y∈q,Good y.1.cs y.2 ((16384-s.tr.length)*(f+1))
 st:∀ y∈q,Stands y.2
variable {B:Hand} [Lets B] {L F G:List HProp} {x:B.X}
end
end Go.Proofs.Ytmkkanmkjfnpdaa
namespace Go.PB.Mach
def St.cut (s:St):List Nat:=(List.range s.l.length).filter fun k=>match s.l[k]? with | some t=>!t.over | none=>false
end Go.PB.Mach
namespace Go.Proofs.Ytmkkanmkjfnpdaa
open Go Go.PB
attribute [local irreducible] Mo Bin Eql Tr Wo Ap
variable {B:Hand} [Lets B] {L F G:List HProp} {x:B.X}
end Go.Proofs.Ytmkkanmkjfnpdaa
namespace Go.Proofs.Ytmkkanmkjfnpdaa
open Go Go.PB
attribute [local irreducible] Mo Bin Eql Tr Wo Ap
section
section
variable {B:Hand} [Lets B] {L F G:List HProp} {x:B.X} {n k v:Nat}
def rowOf (N:Nat) (f:Nat→Nat):List Nat:=(List.range N).map f
def yes (q:Bool):Nat:=if q then 1 else 0
end
end
section
section
variable {n k:Nat}
theorem put_plain (hn:n=2^k) (hk0:1≤k) (hk:k≤10) {v:Nat} {s:Nat→Nat} {row:List Nat} (R:RowAt n s row) :
  if row.length<n then (s (2+2*(s 0%n))+18446744073709551616-s 0)%18446744073709551616=0∧RowAt n (upd (upd (upd s 0 ((s 0+1)%18446744073709551616)) (3+2*(s 0%n)) v) (2+2*(s 0%n)) ((s 0+1)%18446744073709551616)) (row++[v])
  else 9223372036854775808≤(s (2+2*(s 0%n))+18446744073709551616-s 0)%18446744073709551616:=by
 have hle:n≤1024:=by rw [hn];exact pow_le hk
 have hpos:2≤n:=by have:=Nat.pow_le_pow_right (n:=2) (by omega) hk0;omega
 obtain ⟨h1,h2,h3,h4,h5⟩:=R
 have hm:s 0%n=(s 1+row.length)%n:=by rw [h2,mod_pow hn hk]
 have hmod:s 0%n<n:=Nat.mod_lt _ (by omega)
 by_cases hf:row.length<n
 ·have hq:=h5 row.length (Nat.le_refl _) hf
  rw [← hm,← h2] at hq
  rw [hq,if_pos hf]
  refine ⟨by omega,?_⟩
  obtain ⟨m,hme⟩:∃ m,s 0%n=m:=⟨_,rfl⟩
  rw [hme] at hm hmod ⊢
  have e0:∀ y z,upd (upd (upd s 0 ((s 0+1)%18446744073709551616)) (3+2*m) y) (2+2*m) z 0=(s 0+1)%18446744073709551616:=fun y z=>by rw [upd_other (by omega),upd_other (by omega),upd_same]
  have e1:∀ y z,upd (upd (upd s 0 ((s 0+1)%18446744073709551616)) (3+2*m) y) (2+2*m) z 1=s 1:=fun y z=>by rw [upd_other (by omega),upd_other (by omega),upd_other (by omega)]
  refine ⟨by simp;omega,?_,?_,?_,?_⟩
  ·rw [e0,e1]
   simp only [List.length_append,List.length_cons,List.length_nil]
   omega
  ·rw [e1];exact h3
  ·intro i u hi
   rw [e1]
   by_cases e:i=row.length
   ·subst e
    rw [← hm]
    have hu:v=u:=by simpa using hi
    refine ⟨by rw [upd_same];omega,?_⟩
    rw [upd_other (by omega),upd_same,hu]
   ·have hi':i<row.length:=by
     have:=(List.getElem?_eq_some_iff.1 hi).1
     simp at this;omega
    rw [List.getElem?_append_left hi'] at hi
    have hne:(s 1+i)%n≠m:=fun hx=>by
     have:=mod_inj (by omega) hf (hx.trans hm)
     omega
    rw [upd_other (by omega),upd_other (by omega),upd_other (by omega),upd_other (by omega),upd_other (by omega),upd_other (by omega)]
    exact h4 i u hi
  ·intro i hi hin
   simp only [List.length_append,List.length_cons,List.length_nil] at hi
   rw [e1]
   have hne:(s 1+i)%n≠m:=fun hx=>by
    have:=mod_inj hin hf (hx.trans hm)
    omega
   rw [upd_other (by omega),upd_other (by omega),upd_other (by omega)]
   exact h5 i (by omega) hin
 ·rw [if_neg hf]
  have hlen:row.length=n:=by omega
  obtain ⟨v0,hv0⟩:∃ v,row[0]?=some v:=⟨row[0]'(by omega),by simp⟩
  have hq:=(h4 0 v0 hv0).1
  rw [Nat.add_zero] at hq
  have hm':s 0%n=s 1%n:=by rw [hm,hlen,Nat.add_mod_right]
  rw [hm',hq,h2,hlen]
  omega
theorem take_plain (hn:n=2^k) (hk0:1≤k) (hk:k≤10) {s:Nat→Nat} {row:List Nat} (R:RowAt n s row) :
  match row with
  | []=>9223372036854775808≤(s (2+2*(s 1%n))+18446744073709551616-(s 1+1)%18446744073709551616)%18446744073709551616
  | v::row=>(s (2+2*(s 1%n))+18446744073709551616-(s 1+1)%18446744073709551616)%18446744073709551616=0∧s (3+2*(s 1%n))=v∧RowAt n (upd (upd s 1 ((s 1+1)%18446744073709551616)) (2+2*(s 1%n)) ((s 1+n)%18446744073709551616)) row:=by
 have hle:n≤1024:=by rw [hn];exact pow_le hk
 have hpos:2≤n:=by have:=Nat.pow_le_pow_right (n:=2) (by omega) hk0;omega
 obtain ⟨h1,h2,h3,h4,h5⟩:=R
 have hmod:s 1%n<n:=Nat.mod_lt _ (by omega)
 cases row with
 | nil =>
  have hq:=h5 0 (by simp) (by omega)
  rw [Nat.add_zero] at hq
  show 9223372036854775808≤(s (2+2*(s 1%n))+18446744073709551616-(s 1+1)%18446744073709551616)%18446744073709551616
  rw [hq];omega
 | cons v row =>
  simp only [List.length_cons] at h1 h2
  have hq:=h4 0 v rfl
  rw [Nat.add_zero] at hq
  show (s (2+2*(s 1%n))+18446744073709551616-(s 1+1)%18446744073709551616)%18446744073709551616=0∧_
  rw [hq.1]
  refine ⟨by omega,hq.2,?_⟩
  obtain ⟨m,hme⟩:∃ m,s 1%n=m:=⟨_,rfl⟩
  rw [hme] at hq hmod ⊢
  have e0:∀ z,upd (upd s 1 ((s 1+1)%18446744073709551616)) (2+2*m) z 0=s 0:=fun z=>by rw [upd_other (by omega),upd_other (by omega)]
  have e1:∀ z,upd (upd s 1 ((s 1+1)%18446744073709551616)) (2+2*m) z 1=(s 1+1)%18446744073709551616:=fun z=>by rw [upd_other (by omega),upd_same]
  have em:∀ i,((s 1+1)%18446744073709551616+i)%n=(s 1+(i+1))%n:=fun i=>by
   rw [← mod_pow (a:=s 1+(i+1)) hn hk,← mod_pow (a:=(s 1+1)%18446744073709551616+i) hn hk]
   congr 1
   omega
  refine ⟨by omega,?_,?_,?_,?_⟩
  ·rw [e0,e1];omega
  ·rw [e1];exact Nat.mod_lt _ (by decide)
  ·intro i u hi
   rw [e1,em]
   have hi':=(List.getElem?_eq_some_iff.1 hi).1
   have hne:(s 1+(i+1))%n≠m:=fun hx=>by
    have:=mod_inj (i:=i+1) (j:=0) (by omega) (by omega) (hx.trans (by rw [Nat.add_zero];exact hme.symm))
    omega
   rw [upd_other (by omega),upd_other (by omega),upd_other (by omega),upd_other (by omega)]
   have:=h4 (i+1) u hi
   exact ⟨by rw [this.1];omega,this.2⟩
  ·intro i hi hin
   rw [e1,em]
   by_cases e:i+1=n
   ·rw [show (s 1+(i+1))%n=m by rw [e,Nat.add_mod_right,hme],upd_same]
    omega
   ·have hne:(s 1+(i+1))%n≠m:=fun hx=>by
     have:=mod_inj (i:=i+1) (j:=0) (by omega) (by omega) (hx.trans (by rw [Nat.add_zero];exact hme.symm))
     omega
    rw [upd_other (by omega),upd_other (by omega),h5 (i+1) (by simp;omega) (by omega)]
    omega
end
end
end Go.Proofs.Ytmkkanmkjfnpdaa
namespace Go.Proofs.Ytmkkanmkjfnpdaa
open Go Go.PB
attribute [local irreducible] Mo Bin Eql Tr Wo Ap Wle
section
section
variable {B:Hand} [Lets B] {L F G:List HProp} {x:B.X} {n k:Nat}
theorem RowAt.seqs (h2:2≤n) (hle:n≤1024):RowAt n (seqs n) []:=by
 refine ⟨by simp,rfl,by show 0<18446744073709551616;decide,fun i v hi=>by simp at hi,fun i _ hi=>?_⟩
 show Go.Proofs.Ytmkkanmkjfnpdaa.seqs n (2+2*((0+i)%n))=(0+i)%18446744073709551616
 rw [Nat.zero_add,Nat.mod_eq_of_lt hi,Nat.mod_eq_of_lt (by omega)]
 unfold Go.Proofs.Ytmkkanmkjfnpdaa.seqs
 rw [if_pos (by omega)]
 omega
end
end
section
section
variable {B:Hand} [Lets B] {x:B.X} {n k N:Nat} {addr:Nat→Nat × Nat} {K:List (Nat × Nat × Value)} {ap:Apart addr N K}
theorem draw_lone (hN:2*n+2≤N) {w whose:Nat} (hw:w<2) {s:Nat→Nat} {G:Option Nat→(Nat→Nat)→Prop} (hn:0<n)
  (g:if 9223372036854775808≤(s (2+2*(s w%n))+36893488147419103232-s w-whose)%18446744073709551616 then G none s
   else (s (2+2*(s w%n))+36893488147419103232-s w-whose)%18446744073709551616=0∧G (some (s w)) (upd s w ((s w+1)%18446744073709551616))) :
  DrawT (loneAcc x addr N K ap) n w whose s G:=by
 intro X hX
 have hmod:s w%n<n:=Nat.mod_lt _ hn
 refine hX _ ⟨by omega,by omega,?_⟩
 show if 9223372036854775808≤(s (2+2*(s w%n))+36893488147419103232-s w-whose)%18446744073709551616 then G none s else _
 split
 ·rename_i hc;rw [if_pos hc] at g;exact g
 ·rename_i hc
  rw [if_neg hc] at g
  rw [if_neg (by rw [g.1];omega)]
  refine ⟨by omega,?_⟩
  rw [if_pos rfl]
  simpa using g.2
theorem put_rowG (hN:2*n+2≤N) (hn:n=2^k) (hk0:1≤k) (hk:k≤10) {v:Nat} {s:Nat→Nat} {row:List Nat} (R:RowAt n s row) {G:Bool→(Nat→Nat)→Prop}
  (g:∀ s',RowAt n s' (if row.length<n then row++[v] else row)→(∀ j,2*n+2≤j→s' j=s j)→G (decide (row.length<n)) s'):PutT (loneAcc x addr N K ap) n v s G:=by
 have hle:n≤1024:=by rw [hn];exact pow_le hk
 have hpos:2≤n:=by have:=Nat.pow_le_pow_right (n:=2) (by omega) hk0;omega
 have hp:=put_plain (v:=v) hn hk0 hk R
 have ht:s 0<18446744073709551616:=by rw [R.put];exact Nat.mod_lt _ (by decide)
 have hm:s 0%n<n:=Nat.mod_lt _ (by omega)
 refine draw_lone hN (by omega) (by omega) ?_
 have e:(s (2+2*(s 0%n))+36893488147419103232-s 0-0)%18446744073709551616=(s (2+2*(s 0%n))+18446744073709551616-s 0)%18446744073709551616:=by omega
 rw [e]
 by_cases hf:row.length<n
 ·rw [if_pos hf] at hp g
  rw [decide_eq_true hf] at g
  rw [hp.1,if_neg (by omega)]
  refine ⟨rfl,?_⟩
  dsimp only
  refine ⟨by show 3+2*(s 0%n)<N;omega,by show 2+2*(s 0%n)<N;omega,?_⟩
  refine g _ hp.2 fun j hj=>?_
  rw [upd_other (by omega),upd_other (by omega),upd_other (by omega)]
 ·rw [if_neg hf] at hp g
  rw [decide_eq_false hf] at g
  rw [if_pos hp]
  exact g _ R fun _ _=>rfl
theorem take_rowG (hN:2*n+2≤N) (hn:n=2^k) (hk0:1≤k) (hk:k≤10) {s:Nat→Nat} {row:List Nat} (R:RowAt n s row) {G:Option Nat→(Nat→Nat)→Prop}
  (g:∀ s',RowAt n s' row.tail→(∀ j,2*n+2≤j→s' j=s j)→G row.head? s'):TakeT (loneAcc x addr N K ap) n s G:=by
 have hle:n≤1024:=by rw [hn];exact pow_le hk
 have hpos:2≤n:=by have:=Nat.pow_le_pow_right (n:=2) (by omega) hk0;omega
 have hp:=take_plain hn hk0 hk R
 have ht:=R.t
 have hm:s 1%n<n:=Nat.mod_lt _ (by omega)
 refine draw_lone hN (by omega) (by omega) ?_
 have e:(s (2+2*(s 1%n))+36893488147419103232-s 1-1)%18446744073709551616=(s (2+2*(s 1%n))+18446744073709551616-(s 1+1)%18446744073709551616)%18446744073709551616:=by omega
 rw [e]
 cases row with
 | nil =>
  dsimp only at hp
  rw [if_pos hp]
  exact g _ R fun _ _=>rfl
 | cons v row =>
  dsimp only at hp
  obtain ⟨h1,h2,h3⟩:=hp
  rw [h1,if_neg (by omega)]
  refine ⟨rfl,?_⟩
  dsimp only
  refine ⟨by show 3+2*(s 1%n)<N;omega,by show 2+2*(s 1%n)<N;omega,?_⟩
  have h2':upd s 1 ((s 1+1)%18446744073709551616) (3+2*(s 1%n))=v:=by rw [upd_other (by omega)];exact h2
  show G (some (upd s 1 ((s 1+1)%18446744073709551616) (3+2*(s 1%n)))) _
  rw [h2']
  refine g _ h3 fun j hj=>?_
  rw [upd_other (by omega),upd_other (by omega)]
end
end
section
structure WdAt (W:(Nat→Nat)→Mach.Wd) (on n:Nat):Prop where
 get:∀ f,(W f).words[on]?=some (rowOf (2*n+2) f)
 set:∀ f q v,q<2*n+2→(⟨(W f).words.set on ((rowOf (2*n+2) f).set q v),(W f).nl⟩:Mach.Wd)=W (upd f q v)
section
variable {B:Hand} [Lets B] {x:B.X} {n k nb N on:Nat} {addr:Nat→Nat × Nat} {K:List (Nat × Nat × Value)} {ap:Apart addr N K} {W:(Nat→Nat)→Mach.Wd}
variable {w whose:Nat} {f:Nat→Nat} {tr:List (Int × Nat)} {G:Option Nat→(Nat→Nat) × List (Int × Nat)→Prop} {t m q t1:Nat}
end
end
section
theorem rowAt_same {n q v:Nat} {f:Nat→Nat} {row:List Nat} (hpos:0<n) (h:2*n+2≤q) (R:RowAt n f row):RowAt n (upd f q v) row where
 len:=R.len
 put:=by rw [upd_other (by omega),upd_other (by omega)];exact R.put
 t:=by rw [upd_other (by omega)];exact R.t
 full:=fun i x hi=>by
  have hm:=Nat.mod_lt (f 1+i) hpos
  rw [upd_other (m:=f) (i:=1) (by omega),upd_other (by omega),upd_other (by omega)]
  exact R.full i x hi
 free:=fun i h1 h2=>by
  have hm:=Nat.mod_lt (f 1+i) hpos
  rw [upd_other (m:=f) (i:=1) (by omega),upd_other (by omega)]
  exact R.free i h1 h2
section
variable {B:Hand} {gv:Value}
end
section
variable {B:Hand} [Lets B] {x:B.X} {n k nb:Nat} {addr:Nat→Nat × Nat} {K:List (Nat × Nat × Value)} {ap:Apart addr (2*n+5) K} {f:Nat→Nat}
end
end
section
def maddr (mr r b n:Nat) (w:Nat):Nat × Nat:=if w<2*n+2 then twoAddr r b w else (mr,w-(2*n+2))
def mK (mr r b n nc:Nat):List (Nat × Nat × Value):=[(r,2,.slice (some ⟨b,0,none⟩) n n),(mr,3,.pointer (some ⟨r,0,none⟩)),(mr,4,.chan (some nc))]
theorem two_blk {r b:Nat}:∀ i,(twoAddr r b i).1=r∨(twoAddr r b i).1=b
 | 0=>.inl rfl
 | 1=>.inl rfl
 | _+2=>.inr rfl
theorem m_apart {mr r b n nc:Nat} (h1:r≠b) (h2:mr≠r) (h3:mr≠b):Apart (maddr mr r b n) (2*n+5) (mK mr r b n nc) where
 inj:=fun i j hi hj e=>by
  unfold maddr at e
  split at e <;> split at e
  ·exact (two_apart (N:=i+j+1) h1 .nilIface).inj i j (by omega) (by omega) e
  ·have:=congrArg Prod.fst e
   simp only at this
   rcases two_blk (r:=r) (b:=b) i with h | h <;> omega
  ·have:=congrArg Prod.fst e
   simp only at this
   rcases two_blk (r:=r) (b:=b) j with h | h <;> omega
  ·have:=congrArg Prod.snd e
   simp only at this
   omega
 fix:=fun i hi k hk=>by
  unfold maddr
  simp only [mK,List.mem_cons,List.not_mem_nil,or_false] at hk
  split
  ·rcases hk with rfl | rfl | rfl
   ·exact (two_apart (N:=i+1) h1 (.slice (some ⟨b,0,none⟩) n n)).fix i (by omega) _ (List.mem_singleton.2 rfl)
   ·intro e
    have:=congrArg Prod.fst e
    simp only at this
    rcases two_blk (r:=r) (b:=b) i with h | h <;> omega
   ·intro e
    have:=congrArg Prod.fst e
    simp only at this
    rcases two_blk (r:=r) (b:=b) i with h | h <;> omega
  ·rcases hk with rfl | rfl | rfl <;> (intro e;have e1:=congrArg Prod.fst e;have e2:=congrArg Prod.snd e;simp only at e1 e2;omega)
theorem rd_with {c R:HProp} {b o:Nat} {v:Value} (r:Rd [c] b o v):Rd [all [c,R]] b o v:=fun h st=>Rd.of (L:=[c,R]) .here r h (star_open (M:=[c,R]) (L:=[]) st)
section
variable {B:Hand} {gv:Value} {A:Acc B gv} {R:HProp} {n k v:Nat} {s:A.S}
theorem offer_with {G:Bool→A.S→Prop} (h:OfferT A n v s G):OfferT (accWith A R) n v s G:=h
theorem mtake_with {G:Option Nat→A.S→Prop} (h:MTakeT A n s G):MTakeT (accWith A R) n s G:=h
theorem counts_with {G:Nat→Nat→Nat→A.S→Prop} (h:CountsT A n s G):CountsT (accWith A R) n s G:=h
end
section
variable {B:Hand} [Lets B] {gv:Value} {x:B.X} {mr r b n k nc nb:Nat} {L F:List HProp}
omit [Lets B] in
theorem mir_at (A:Acc B gv) (ha:A.addr=maddr mr r b n) (hK:∀ s,∀ y∈mK mr r b n nc,Rd [A.C s] y.1 y.2.1 y.2.2) (hn:n=2^k) (hk:k≤10):MirAt (accWith A (newsC nc)) mr r b n k nc where
 q:={ hn:=hn,hk:=hk,hdr:=fun s=>rd_with (hK s (r,2,.slice (some ⟨b,0,none⟩) n n) (by simp [mK])),a0:=by show A.addr 0=_;rw [ha];unfold maddr;rw [if_pos (by omega)];rfl,a1:=by show A.addr 1=_;rw [ha];unfold maddr;rw [if_pos (by omega)];rfl,a2:=fun i hi=>by show A.addr (2+i)=_;rw [ha];unfold maddr;rw [if_pos (by omega),Nat.add_comm];rfl }
 hq:=fun s=>rd_with (hK s (mr,3,.pointer (some ⟨r,0,none⟩)) (by simp [mK]))
 hc:=fun s=>rd_with (hK s (mr,4,.chan (some nc)) (by simp [mK]))
 a:=fun j hj=>by show A.addr _=_;rw [ha];unfold maddr;rw [if_neg (by omega),Nat.add_sub_cancel_left]
omit [Lets B] in
theorem mir_news (A:Acc B gv):News (accWith A (newsC nc)) nc:=⟨fun s=>A.C s,fun s h st=>star_swap st,fun s h st=>star_swap st⟩
theorem rd_K {addr:Nat→Nat × Nat} {N:Nat} {K:List (Nat × Nat × Value)} {s:Nat→Nat}:∀ y∈K,Rd [wds addr N K s] y.1 y.2.1 y.2.2:=fun y hy h hs=>by
 obtain ⟨h1,h2,s1,hc,_⟩:=hs
 exact ⟨rfl,.inl (s1.o1 _ _ _ (hc.2 y hy))⟩
def mirLone (x:B.X) (mr r b n nc:Nat) (ap:Apart (maddr mr r b n) (2*n+5) (mK mr r b n nc)):Acc B .nilIface:=accWith (loneAcc x (maddr mr r b n) (2*n+5) (mK mr r b n nc) ap) (newsC nc)
theorem lone_at {ap:Apart (maddr mr r b n) (2*n+5) (mK mr r b n nc)} (hn:n=2^k) (hk:k≤10):MirAt (mirLone x mr r b n nc ap) mr r b n k nc:=mir_at _ rfl (fun s=>rd_K) hn hk
theorem lone_news {ap:Apart (maddr mr r b n) (2*n+5) (mK mr r b n nc)}:News (mirLone x mr r b n nc ap) nc:=mir_news _
theorem arr_ne_wds {v:Value} {vs:List Value} {c:HProp} {addr:Nat→Nat × Nat} {N w:Nat} {K:List (Nat × Nat × Value)} {s:Nat→Nat} {h:Hp} (st:Star (arr mr 0 (v::vs)::c::wds addr N K s::L) h) (hw:w<N):addr w≠(mr,0):=by
 obtain ⟨h1,h2,s1,ha,h3,h4,s2,_,h5,h6,s3,hb,_⟩:=st
 intro e
 have e1:=ha 0 v rfl
 have e2:=s2.o2 _ _ _ (s3.o1 _ _ _ (hb.1 w hw).2)
 rw [e] at e2
 rcases s1.od mr 0 with d | d
 ·rw [Nat.zero_add] at e1;rw [e1] at d;cases d
 ·simp only at e2;rw [e2] at d;cases d
theorem mir_wds {h:Hp} (st:Star (arr mr 0 [.int .u64 0,.int .u64 0,.int .u64 0,.pointer (some ⟨r,0,none⟩),.chan (some nc)]::chC nc 1 #[] 0 0::wds (twoAddr r b) (2*n+2) [(r,2,.slice (some ⟨b,0,none⟩) n n)] (seqs n)::L) h):Star (wds (maddr mr r b n) (2*n+5) (mK mr r b n nc) (seqs n)::newsC nc::L) h:=by
 have st1:Star (arr mr 0 [.int .u64 0,.int .u64 0,.int .u64 0,.pointer (some ⟨r,0,none⟩),.chan (some nc)]::wds (twoAddr r b) (2*n+2) [(r,2,.slice (some ⟨b,0,none⟩) n n)] (seqs n)::chC nc 1 #[] 0 0::L) h:=Ent.star (.take .here (.take (.there .here) (.take .here .refl))) st
 refine star_map (star_shut (M:=[_,_]) st1) (fun h a=>?_) (fun h y=>star_map y (fun _ z=>⟨(#[],0,0),z⟩) (fun _ z=>z))
 obtain ⟨h1,h2,s1,ha,h3,h4,s2,hb,_⟩:=a
 refine ⟨fun w hw=>?_,fun y hy=>?_⟩
 ·by_cases c:w<2*n+2
  ·have e:maddr mr r b n w=twoAddr r b w:=if_pos c
   rw [e]
   exact ⟨(hb.1 w c).1,s1.o2 _ _ _ (s2.o1 _ _ _ (hb.1 w c).2)⟩
  ·have e:maddr mr r b n w=(mr,w-(2*n+2)):=if_neg c
   have e0:seqs n w=0:=if_neg (by omega)
   rw [e,e0]
   refine ⟨by omega,s1.o1 _ _ _ ?_⟩
   have hc:w-(2*n+2)=0∨w-(2*n+2)=1∨w-(2*n+2)=2:=by omega
   rcases hc with e2 | e2 | e2 <;> (rw [e2];simpa using ha _ _ rfl)
 ·simp only [mK,List.mem_cons,List.not_mem_nil,or_false] at hy
  rcases hy with rfl | rfl | rfl
  ·exact s1.o2 _ _ _ (s2.o1 _ _ _ (hb.2 _ (List.mem_singleton.2 rfl)))
  ·exact s1.o1 _ _ _ (by simpa using ha 3 _ rfl)
  ·exact s1.o1 _ _ _ (by simpa using ha 4 _ rfl)
theorem mnew_tr (hn:n=2^k) (hk0:1≤k) (hk:k≤10):Tr Try.prog B 8 [.int .i64 n] L x fun v L' x'=>∃ mr r b nc,r≠b∧mr≠r∧mr≠b∧v=.tuple #[.pointer (some ⟨mr,0,none⟩),.int .i64 0]∧L'=wds (maddr mr r b n) (2*n+5) (mK mr r b n nc) (seqs n)::newsC nc::L∧x'=x:=by
 refine Tr.post (R:=fun v L' x'=>∃ mr r b nc,r≠b∧mr≠r∧mr≠b∧v=.tuple #[.pointer (some ⟨mr,0,none⟩),.int .i64 0]∧x'=x∧∀ h,Star L' h→Star (wds (maddr mr r b n) (2*n+5) (mK mr r b n nc) (seqs n)::newsC nc::L) h) ?_
  (by rintro v L' x' ⟨mr,r,b,nc,h1,h2,h3,rfl,rfl,h4⟩;exact ⟨_,⟨mr,r,b,nc,h1,h2,h3,rfl,rfl,rfl⟩,h4⟩)
 refine tr_of_body Try.func8 rfl Try.ntmps8 (by simp) fun um Q _ hQ=>?_
 simp only [argE,Nat.zero_add,Nat.reduceAdd]
 repeat (first | refine we_seq ?_ | (refine wR ?_;try simp only [oS]) | refine wo_nil ?_ | refine wM ?_ | refine wA ?_)
 refine wo_call (.cons rfl .nil) trivial (new_tr hn hk0 hk) ?_
 rintro v' L' x' ⟨r,b,rfl,hrb,rfl,rfl⟩
 repeat (first | (apply wo_mo;apply mo_makeChan (m:=1);exact rfl;omega;omega;exact trivial) | refine wneqF ?_ | refine we_seq ?_ | (refine wR ?_;try simp only [oS]) | refine wo_nil ?_ | refine wM ?_ | refine wA ?_ | (apply wo_po;apply mo_extract;exact rfl;exact rfl;exact gY) | refine wF ?_ | refine we_skip ?_)
 rintro v' L' ⟨nc,rfl,rfl⟩
 repeat (first | (apply wo_po;apply mo_build (pv:=[(1,_),(2,_)]);exact rfl;exact .cons rfl (.cons rfl .nil);exact rfl;exact trivial) | (apply wo_mo;apply mo_box;exact rfl;exact trivial))
 rintro v' L' ⟨mr,rfl,rfl⟩
 refine wo_ent (arr mr 0 [.int .u64 0,.int .u64 0,.int .u64 0,.pointer (some ⟨r,0,none⟩),.chan (some nc)]::chC nc 1 #[] 0 0::wds (twoAddr r b) (2*n+2) [(r,2,.slice (some ⟨b,0,none⟩) n n)] (seqs n)::L) .refl ?_
 refine wo_pure (p:=mr≠r∧mr≠b) (fun h st=>⟨fun e=>arr_ne_wds st (w:=0) (by omega) (by rw [e];rfl),fun e=>arr_ne_wds st (w:=2) (by rw [hn];have:=Nat.one_le_two_pow (n:=k);omega) (by rw [e];rfl)⟩) fun hne=>?_
 repeat (first | refine wo_nil ?_ | refine wA ?_ | refine we_ret ?_)
 (first | refine or2 Try.func8 Try.results8 hQ rfl rfl ?_ | refine on2 Try.func8 Try.results8 hQ rfl rfl ?_)
 exact ⟨mr,r,b,nc,hrb,hne.1,hne.2,rfl,rfl,fun h st=>mir_wds st⟩
variable {f:Nat→Nat} {row:List Nat} {ap:Apart (maddr mr r b n) (2*n+5) (mK mr r b n nc)}
theorem offer_lone {v:Nat} (hn:n=2^k) (hk0:1≤k) (hk:k≤10) (R:RowAt n f row) {G:Bool→(Nat→Nat)→Prop}
  (g:∀ f',RowAt n f' (if row.length<n then row++[v] else row)→f' (2*n+2)=(f (2*n+2)+1)%18446744073709551616→f' (2*n+3)=(if row.length<n then f (2*n+3) else (f (2*n+3)+1)%18446744073709551616)→f' (2*n+4)=f (2*n+4)→G (decide (row.length<n)) f') :
  OfferT (mirLone x mr r b n nc ap) n v f G:=by
 have hpos:2≤n:=by have:=Nat.pow_le_pow_right (n:=2) (by omega) hk0;omega
 refine offer_with (A:=loneAcc x (maddr mr r b n) (2*n+5) (mK mr r b n nc) ap) ?_
 refine ⟨by show 2*n+2+0<2*n+5;omega,?_⟩
 refine put_rowG (x:=x) (ap:=ap) (N:=2*n+5) (by omega) hn hk0 hk (rowAt_same (q:=2*n+2) (by omega) (Nat.le_refl _) R) fun f' R' hs=>?_
 have e0:=hs (2*n+2) (by omega)
 have e1:=hs (2*n+3) (by omega)
 have e2:=hs (2*n+4) (by omega)
 rw [upd_same] at e0
 rw [upd_other (by omega)] at e1 e2
 by_cases c:row.length<n
 ·rw [if_pos c] at R' g
  rw [decide_eq_true c] at g ⊢
  rw [if_pos rfl]
  exact g f' R' e0 (by rw [if_pos c];exact e1) e2
 ·rw [if_neg c] at R' g
  rw [decide_eq_false c] at g ⊢
  rw [if_neg (by decide)]
  refine ⟨by show 2*n+2+1<2*n+5;omega,?_⟩
  refine g _ (rowAt_same (by omega) (by omega) R') ?_ ?_ ?_
  ·rw [upd_other (by omega)];exact e0
  ·rw [if_neg c,upd_same,show 2*n+2+1=2*n+3 from rfl,e1]
  ·rw [upd_other (by omega)];exact e2
theorem take_lone (hn:n=2^k) (hk0:1≤k) (hk:k≤10) (R:RowAt n f row) {G:Option Nat→(Nat→Nat)→Prop}
  (g:∀ f',RowAt n f' row.tail→f' (2*n+2)=f (2*n+2)→f' (2*n+3)=f (2*n+3)→f' (2*n+4)=(if row=[] then f (2*n+4) else (f (2*n+4)+1)%18446744073709551616)→G row.head? f') :
  MTakeT (mirLone x mr r b n nc ap) n f G:=by
 have hpos:2≤n:=by have:=Nat.pow_le_pow_right (n:=2) (by omega) hk0;omega
 refine mtake_with (A:=loneAcc x (maddr mr r b n) (2*n+5) (mK mr r b n nc) ap) ?_
 refine take_rowG (x:=x) (ap:=ap) (N:=2*n+5) (by omega) hn hk0 hk R fun f' R' hs=>?_
 have e0:=hs (2*n+2) (by omega)
 have e1:=hs (2*n+3) (by omega)
 have e2:=hs (2*n+4) (by omega)
 cases row with
 | nil=>exact g f' R' e0 e1 (by rw [if_pos rfl];exact e2)
 | cons y l =>
  refine ⟨by show 2*n+2+2<2*n+5;omega,?_⟩
  refine g _ (rowAt_same (by omega) (by omega) R') ?_ ?_ ?_
  ·rw [upd_other (by omega)];exact e0
  ·rw [upd_other (by omega)];exact e1
  ·rw [if_neg (by simp),upd_same,show 2*n+2+2=2*n+4 from rfl,e2]
end
end
end Go.Proofs.Ytmkkanmkjfnpdaa
namespace Go.Proofs.Ytmkkanmkjfnpdaa
open Go Go.PB
section
structure Wds where
 W:(Nat→Nat)→Mach.Wd
 un:Mach.Wd→(Nat→Nat)
 ok:(Nat→Nat)→Prop
 fu:Nat
 back:∀ f,W (un (W f))=W f
 okun:∀ f,ok f→ok (un (W f))
def mF (D:Wds) (q:Nat × Mach.Th) (f:Nat→Nat):(Nat→Nat) × (Nat × Mach.Th) :=
 match Mach.opF D.fu (D.W f) q.2 with
 | some y=>(D.un y.1,(q.1,y.2))
 | none=>(f,(q.1,{ q.2 with over:=true }))
def mkII (m:Nat × Nat):Int × Int:=(((m.1:Nat):Int),((m.2:Nat):Int))
def mPlan (D:Wds) (q:Nat × Mach.Th):Option ((Int × Int) × ((Nat→Nat)→(Nat→Nat) × (Nat × Mach.Th))) :=
 if q.2.over=true then none else some (mkII q.2.mark,mF D q)
def mG (D:Wds) (U:(Nat→Nat)→HProp) (Pv:Nat × Mach.Th→HProp):Game where
 σ:=Nat→Nat
 θ:=Nat × Mach.Th
 U:=U
 plan:=mPlan D
 ok:=D.ok
 Pv:=Pv
 Fin:=Pv
def GoodN (D:Wds):Nat→Mach.Th→Prop
 | 0,_=>True
 | n+1,t=>t.over=true∨t.over=false∧∀ f,D.ok f→∃ f' t',Mach.opF D.fu (D.W f) t=some (D.W f',t')∧D.ok f'∧GoodN D n t'
def GoodT (D:Wds) (t:Mach.Th):Prop:=∀ n,GoodN D n t
theorem GoodT.over {D:Wds} {t:Mach.Th} (h:t.over=true):GoodT D t
 | 0=>trivial
 | _+1=>.inl h
theorem GoodT.mk {D:Wds} {t:Mach.Th} (ho:t.over=false) (h:∀ f,D.ok f→∃ f' t',Mach.opF D.fu (D.W f) t=some (D.W f',t')∧D.ok f'∧GoodT D t'):GoodT D t
 | 0=>trivial
 | n+1=>.inr ⟨ho,fun f hf=>by
  obtain ⟨f',t',h1,h2,h3⟩:=h f hf
  exact ⟨f',t',h1,h2,h3 n⟩⟩
theorem GoodT.on {D:Wds} {t:Mach.Th} (g:GoodT D t) (ho:t.over=false):∀ f,D.ok f→∃ f' t',Mach.opF D.fu (D.W f) t=some (D.W f',t')∧D.ok f'∧GoodT D t':=by
 have at_:∀ n f,D.ok f→∃ f' t',Mach.opF D.fu (D.W f) t=some (D.W f',t')∧D.ok f'∧GoodN D n t':=fun n f hf=>by
  rcases g (n+1) with h | ⟨_,h⟩
  ·rw [h] at ho;cases ho
  ·exact h f hf
 intro f hf
 obtain ⟨f',t',h1,h2,_⟩:=at_ 0 f hf
 refine ⟨f',t',h1,h2,fun n=>?_⟩
 obtain ⟨g',u',e1,_,e3⟩:=at_ n f hf
 rw [h1] at e1
 simp only [Option.some.injEq,Prod.mk.injEq] at e1
 rw [e1.2]
 exact e3
section
variable {D:Wds} {U:(Nat→Nat)→HProp} {Pv:Nat × Mach.Th→HProp}
structure Rel (p:PS (mG D U Pv)) (st:Mach.St):Prop where
 w:st.w=D.W p.s
 len:p.qs.length=st.l.length
 qs:∀ k:Nat,p.qs[k]?=(st.l[k]?).map fun t=>(k,t)
 tr:p.tr=st.tr.map fun e=>(e.1,mkII e.2)
 le:st.tr.length≤16384
 good:∀ t∈st.l,GoodT D t
 ok:D.ok p.s
structure Begins (D:Wds) (U:(Nat→Nat)→HProp) (Pv:Nat × Mach.Th→HProp) (k0:Nat) (ts:List (Thr (mG D U Pv))) (cc:List (List Mach.Cl)):Prop where
 len:ts.length=cc.length
 ini:∀ (k:Nat) t c,ts[k]?=some t→cc[k]?=some c→∃ u,Mach.onF D.fu { calls:=c }=some u∧GoodT D u∧∀ s:(mG D U Pv).σ,t.ini s=(s,((k0+k,u):Nat × Mach.Th))
end
end
end Go.Proofs.Ytmkkanmkjfnpdaa
namespace Go.Proofs.Ytmkkanmkjfnpdaa
open Go Go.PB
attribute [local irreducible] Mo Bin Eql Tr Wo Ap Wle
section
structure PlS where
 f:Nat→Nat
 g:Nat→Nat
 t:Mach.Th
 n:Nat
section
variable {D:Wds} {addr:Nat→Nat × Nat} {N:Nat} {K:List (Nat × Nat × Value)} {Z:HProp} {Pv:Nat × Mach.Th→HProp} {sb says turn fin wg:Nat}
end
end
section
structure GaS (G:WGm) where
 f:Nat→Nat
 c:G.ζ
 s:G.σ
 q:G.θ
 n:Nat
section
variable {G:WGm} {addr:Nat→Nat × Nat} {N:Nat} {K:List (Nat × Nat × Value)} {sb says turn fin wg:Nat}
end
section
variable {g:Game}
end
end
end Go.Proofs.Ytmkkanmkjfnpdaa
namespace Go.PB
open Go.Conc
section
section
variable {P:Program} {b o:Nat}
theorem atom_load {f:Nat} [x:Exn P f (Extern.Atomic.loadT (.int .u64))] {n:Int}:Atom1 P (callFunc f [Value.pointer (some ⟨b,o,none⟩)].toArray) b o (.int .u64 n) (.int .u64 n) none:=by
 obtain ⟨g,h⟩:=looks_load (P:=P) (f:=f) (a:=⟨b,o,none⟩)
 refine ⟨_,fun e he=>?_,fun w hc _=>h w n hc⟩
 simp at he
 rcases he with rfl | rfl
 ·exact .inl ⟨_,rfl⟩
 ·exact .inr ⟨_,rfl⟩
theorem atom_add {f:Nat} [x:Exn P f (Extern.Atomic.update (Op.intArith .add) .u64 true)] {n d:Int}:Atom1 P (callFunc f [Value.pointer (some ⟨b,o,none⟩),.int .u64 d].toArray) b o (.int .u64 n) (.int .u64 (IntKind.u64.wrap (n+d))) (some (.int .u64 (IntKind.u64.wrap (n+d)))):=by
 obtain ⟨g,h⟩:=adds_add (P:=P) (f:=f) (a:=⟨b,o,none⟩) (d:=d)
 refine ⟨_,fun e he=>?_,fun w hc hf=>h w n hc hf⟩
 simp at he
 rcases he with rfl | rfl | rfl
 ·exact .inl ⟨_,rfl⟩
 ·exact .inr ⟨_,rfl⟩
 ·exact .inr ⟨_,rfl⟩
theorem atom_cas {f:Nat} [x:Exn P f (Extern.Atomic.casT (.int .u64))] {n m y:Int}:Atom1 P (callFunc f [Value.pointer (some ⟨b,o,none⟩),.int .u64 m,.int .u64 y].toArray) b o (.int .u64 n) (.bool (decide (n=m))) (if n=m then some (.int .u64 y) else none):=by
 obtain ⟨g,h⟩:=swaps_cas (P:=P) (f:=f) (a:=⟨b,o,none⟩) (old:=m) (new:=y)
 by_cases hn:n=m
 ·rw [if_pos hn,decide_eq_true hn]
  refine ⟨_,fun e he=>?_,fun w hc hf=>(h w n hc hf).1 hn⟩
  simp at he
  rcases he with rfl | rfl | rfl
  ·exact .inl ⟨_,rfl⟩
  ·exact .inr ⟨_,rfl⟩
  ·exact .inr ⟨_,rfl⟩
 ·rw [if_neg hn,decide_eq_false hn]
  refine ⟨_,fun e he=>?_,fun w hc hf=>(h w n hc hf).2 hn⟩
  simp at he
  rcases he with rfl | rfl
  ·exact .inl ⟨_,rfl⟩
  ·exact .inr ⟨_,rfl⟩
theorem atom_store {f:Nat} [x:Exn P f Extern.Atomic.storeT] {n y:Int}:Atom1 P (callFunc f [Value.pointer (some ⟨b,o,none⟩),.int .u64 y].toArray) b o (.int .u64 n) unit (some (.int .u64 y)):=by
 refine ⟨#[⟨.mark (.extern f),false,true⟩,⟨.cell ⟨b,o,none⟩,true,true⟩],fun e he=>?_,fun w hc hf=>ext_runT (v:=unit) ?_⟩
 ·simp at he
  rcases he with rfl | rfl
  ·exact .inl ⟨_,rfl⟩
  ·exact .inr ⟨_,rfl⟩
 ·show (Sem.bind (store ⟨b,o,none⟩ (.int .u64 y) .atomic) fun _=>(pure unit:Sem Value)).runT P w _=_
  rw [store_runT hc hf rfl]
  rfl
end
theorem wo_atom {P:Program} {cv:Value} {kd:CallKind} {n:Nat} {K:Post (fHand P cv)} {e:Env} {z:Z} {L:List HProp} {l:List OpG} {d:Option Nat} {ty:TypeId} {gd:Option (Nat × Bool)} {op:Op}
  {g:Game} {s1 s2 s3 wg m:Nat} {q:g.θ} {mk:Int × Int} {F:g.σ→g.σ × g.θ} {Rv:g.σ→Value→Prop} (hpl:g.plan q=some (mk,F)) (hg:gYes e gd) (hk:kd≠.early)
  (ha:∀ t,Agree e t→∀ st r,g.ok st→g.U st r→∃ b o old v new,r.own b o=some old∧Atom1 P (execOp (evT t) (opOf op ty)) b o old v new∧g.U (F st).1 (r.lay b o new)∧Rv st v)
  (k:∀ st v m',m=m'+1→g.ok st→Rv st v→Wo P (fHand P cv) kd n l K (setE d v e) z L (⟨g,s1,s2,s3,wg,.free (F st).2 m'⟩:TX)) :
  Wo P (fHand P cv) kd n (⟨d,op,ty,gd⟩::l) K e z L (⟨g,s1,s2,s3,wg,.free q m⟩:TX) :=
 wo_act (R:=fun v L' x'=>∃ st m',m=m'+1∧g.ok st∧Rv st v∧L'=L∧x'=(⟨g,s1,s2,s3,wg,.free (F st).2 m'⟩:TX)) hg hk
  (fun t h O a s qq=>⟨q,m,mk,F,rfl,hpl,fun n' st r e1 h1 h2=>by
   obtain ⟨b,o,old,v,new,c1,c2,c3,c4⟩:=ha t a st r h1 h2
   exact ⟨b,o,old,v,new,c1,c2,c3,qq v L _ h ⟨st,n',e1,h1,c4,rfl,rfl⟩ s⟩⟩)
  (by rintro v L' x' ⟨st,m',h1,h2,h3,rfl,rfl⟩;exact k st v m' h1 h2 h3)
theorem wo_tryF {P:Program} {cv:Value} {kd:CallKind} {n:Nat} {K:Post (fHand P cv)} {e:Env} {z:Z} {L:List HProp} {l:List OpG} {d:Option Nat} {co vo:Operand} {el ty:TypeId} {gd:Option (Nat × Bool)} {c:Nat} {v zv:Value} [zr:Zer P el zv]
  {g:Game} {s1 s2 s3 wg m:Nat} {q:g.θ} {mk:Int × Int} {F:g.σ→g.σ × g.θ} (hpl:g.plan q=some (mk,F)) (hc:ev e co=some (.chan (some c))) (hv:ev e vo=some v) (hg:gYes e gd)
  (ha:∀ st r,g.ok st→g.U st r→∃ (cap:Nat) (buf:Array Value) (s rr:Nat) (tm:Bool),r.obj c=some (.chan cap buf false s rr tm)∧(buf.size<cap→g.U (F st).1 (r.setObj c (.chan cap (buf.push v) false (s+1) rr tm)))∧(cap≤buf.size→g.U (F st).1 r))
  (k:∀ st (i:Int) m',m=m'+1→g.ok st→(i=0∨i=-1)→Wo P (fHand P cv) kd n l K (setE d (.tuple #[goInt i,.bool false]) e) z L (⟨g,s1,s2,s3,wg,.free (F st).2 m'⟩:TX)) :
  Wo P (fHand P cv) kd n (⟨d,.select #[⟨co,some vo,el⟩] false,ty,gd⟩::l) K e z L (⟨g,s1,s2,s3,wg,.free q m⟩:TX):=by
 refine wo_talk (cases:=#[scase c v zv]) (bl:=false) (sh:=.select) (R:=fun v L' x'=>∃ (st:g.σ) (i:Int) (m':Nat),m=m'+1∧g.ok st∧(i=0∨i=-1)∧v=.tuple #[goInt i,.bool false]∧L'=L∧x'=(⟨g,s1,s2,s3,wg,.free (F st).2 m'⟩:TX)) hg (fun t w a=>?_) (fun h O s qq=>?_) ?_
 ·have hcv:evT t co=.chan (some c):=a.ev hc
  have hvv:evT t vo=v:=a.ev hv
  show ((#[(⟨co,some vo,el⟩:SelectCase)].mapM fun s=>do pure { chan:=evT t s.chan,send:=s.send.map (evT t),zero:=← zeroValue s.elem:CommCase }) >>= fun cases=>(pure (Next.comm cases false .select):Sem Next)).runT P w #[]=_
  simp only [Array.mapM_eq_mapM_toList,List.mapM_cons,List.mapM_nil,pure_bind,bind_assoc,map_eq_pure_bind,Option.map_some,hcv,hvv]
  exact runT_zero zr.ok
 ·refine .inr (.inr ⟨rfl,rfl,q,m,mk,F,rfl,hpl,c,v,zv,rfl,fun n' st r e1 h1 h2=>?_⟩)
  obtain ⟨cap,buf,sn,rr,tm,h3,h4,h5⟩:=ha st r h1 h2
  exact ⟨cap,buf,sn,rr,tm,h3,fun hl=>⟨h4 hl,qq _ _ _ _ ⟨st,0,n',e1,h1,.inl rfl,rfl,rfl,rfl⟩ s⟩,fun hl=>⟨h5 hl,qq _ _ _ _ ⟨st,-1,n',e1,h1,.inr rfl,rfl,rfl,rfl⟩ s⟩⟩
 ·rintro v L' x' ⟨st,i,m',h1,h2,h3,rfl,rfl,rfl⟩
  exact k st i m' h1 h2 h3
end
end Go.PB
namespace Go.Proofs.Ytmkkanmkjfnpdaa
open Go Go.PB
attribute [local irreducible] Mo Bin Eql Tr Wo Ap Wle
attribute [local instance] Pass.of_no
section
abbrev fH:Hand:=fHand Try.prog cvT
structure ThrT (g:Game) where
 fv:Value
 q0:g.θ
 M:HProp
structure ThrF (g:Game) (N:Nat) (t:ThrT g):Prop where
 run:∃ f first cap,callee? t.fv=some (f,first,cap)∧Ent' Try.prog f∧∀ wg F,Tr Try.prog fH f (first++[.nilIface]++cap) (t.M::F) (tx g 0 0 0 wg (.free t.q0 N)) fun v L' x' =>
  ∃ q' n',x'=tx g 0 0 0 wg (.free q' n')∧g.plan q'=none∧∀ h,Star L' h→Star (g.Fin q'::F) h
section
variable {g:Game}
theorem goesF_tr {N wg tb:Nat} {t:ThrT g} (TO:ThrF g N t) (hfin:∀ q h,g.Pv q h→g.Fin q h) {hc:Hp} (hs:Star [t.M,arr tb 0 [t.fv]] hc) :
  Nonempty (Run Try.prog tH false (tEnd Try.prog 55) (goFr Try.prog { target:=.fn (.func 54) [.pointer (some ⟨wg,0,none⟩),.pointer (some ⟨tb,0,none⟩)].toArray,args:=#[] }) [] hc (tx g 0 0 0 wg (.free t.q0 N))):=by
 obtain ⟨f,first,cap,hcal,en,tr⟩:=TO.run
 have e1:Enterable Try.prog 54:=(inferInstance:Ent' Try.prog 54).ok
 have e3:Enterable Try.prog 55:=(inferInstance:Ent' Try.prog 55).ok
 refine go_runF Try.func54 rfl Try.ntmps54 (by simp) Try.results54 e1 e3 rfl hfin hs ?_
 simp only [argE,Nat.zero_add,Nat.reduceAdd]
 repeat (first | refine we_seq ?_ | (refine wR ?_;try simp only [oS]))
 refine wo_defer (first:=[]) (cap:=[]) (args:=[_]) (vs:=[.pointer (some ⟨wg,0,none⟩)]) rfl (.cons rfl .nil) trivial ?_
 repeat (first | (apply wo_po;apply mo_load;exact rfl;exact .there (Rd.row (k:=0) rfl rfl);exact trivial) | (refine wR ?_;try simp only [oS]) | refine wo_nil ?_)
 refine wo_callv (args:=[_]) rfl hcal (.cons rfl .nil) trivial (tr wg _) ?_
 rintro v L' x' ⟨q',n',rfl,hp,hL⟩
 refine wo_star _ hL ?_
 repeat (first | refine wo_nil ?_)
 exact fun t h _ _ st=>⟨rfl,q',⟨hp,n',rfl⟩,star_map st (fun _ a=>a) (fun _ _=>trivial)⟩
abbrev fx (g:Game) (fd:FreeD g) (wg:Nat) (s:g.σ) (ad nf:Nat):MX:=.game ⟨g,wg,[],some s,0,ad,false,.play,some fd,nf⟩
def freeInv (fd:FreeD g) (ts:List (ThrT g)) (s0:g.σ) (wg:Nat) (tv:Value) (F:List HProp):PB.Inv Nat MX where
 e:=fun i=>[(4,.pointer (some ⟨wg,0,none⟩)),(12,tv),(13,.int .i64 (ts.length:Nat)),(14,.int .i64 (i:Nat))]
 L:=fun i=>all ((ts.drop i).map ThrT.M)::F
 x:=fun i=>fx g fd wg s0 i i
 ok:=fun i=>i≤ts.length
theorem free_trO {fd:FreeD g} {ts:List (ThrT g)} {s0:g.σ} {F:List HProp} {ta:Option Addr} {tn tc:Nat} (hq:fd.q0=ts.map ThrT.q0) (hI:fd.I s0 fd.q0) (hφ:fd.φ s0 fd.q0≤fd.N) (hfin:∀ q h,g.Pv q h→g.Fin q h)
  (hts:∀ t∈ts,ThrF g fd.N t) (h1:0<ts.length) (h16:ts.length≤16) (hrt:RdsO F ta tn (ts.map ThrT.fv)) :
  Tr Try.prog mT 25 [.slice ta tn tc] (g.U s0::all (ts.map ThrT.M)::F) .idle fun v L' x' =>
   ∃ s qs,fd.I s qs∧(∀ q∈qs,g.plan q=none)∧qs.length=ts.length∧v=.int .i64 0∧x'=.idle∧L'=g.U s::all (qs.map g.Fin)::F:=by
 refine Tr.post (R:=fun v L' x'=>∃ s qs,fd.I s qs∧(∀ q∈qs,g.plan q=none)∧qs.length=ts.length∧v=.int .i64 0∧x'=MX.idle∧∀ h,Star L' h→Star (g.U s::all (qs.map g.Fin)::F) h) ?_
  (by rintro v L' x' ⟨s,qs,a1,a2,a3,rfl,rfl,h2⟩;exact ⟨_,⟨s,qs,a1,a2,a3,rfl,rfl,rfl⟩,h2⟩)
 have hfn:∀ v∈ts.map ThrT.fv,isFn v:=by
  intro v hv
  obtain ⟨t,ht,rfl⟩:=List.mem_map.1 hv
  obtain ⟨f,first,cap,hc,_⟩:=(hts t ht).run
  revert hc
  cases t.fv with
  | func a b c=>exact fun _=>⟨a,b,c,rfl⟩
  | _=>intro hc;cases hc
 have htn:tn=ts.length:=by have:=hrt.1;simpa using this
 subst htn
 refine tr_of_body Try.func25 rfl Try.ntmps25 (by simp) fun um Q _ hQ=>?_
 simp only [argE,Nat.zero_add,Nat.reduceAdd]
 repeat (first | refine we_seq ?_ | (refine wR ?_;try simp only [oS]) | refine wo_nil ?_ | refine wM ?_ | refine wA ?_)
 refine wo_call (.cons rfl .nil) trivial (wrong_tr (fun v hv=>.inr (hfn v hv)) hrt.there.there (by omega)) ?_
 rintro v' L' x' ⟨⟨k,rfl,hk⟩,rfl,rfl⟩
 obtain rfl:k=0:=by
  rcases hk with ⟨_,h⟩ | ⟨_,h⟩
  ·obtain ⟨_,_,_,h⟩:=hfn _ h;cases h
  ·rw [h,List.length_map,if_neg (by omega),if_neg (by omega)]
 repeat (first | (apply wo_mo;apply mo_allocS;exact trivial) | refine wneqF ?_ | refine we_seq ?_ | (refine wR ?_;try simp only [oS]) | refine wo_nil ?_ | refine wM ?_ | refine wA ?_ | refine wF ?_ | refine we_skip ?_)
 rintro v' L' ⟨wg,rfl,rfl⟩
 refine wo_beginF g fd s0 (wg:=wg) (R:=all (ts.map ThrT.M)::F) hI hφ (fun h st=>Ent.star (.take (.there (.there .here)) (.take .here (.take .here .refl))) st) ?_
 repeat (first | refine we_seq ?_ | (refine wR ?_;try simp only [oS]) | refine wo_nil ?_ | refine wM ?_ | refine wE ?_ | refine we_block ?_)
 refine we_loopN (freeInv fd ts s0 wg (.slice ta ts.length tc) (shpC wg 132 2::F)) (fun i=>ts.length-i) 0 (Nat.zero_le _) ⟨rfl,rfl,rfl,rfl,trivial⟩ (.take (.there .here) (.take .here .refl)) rfl ?_
 intro j hj
 replace hj:j≤ts.length:=hj
 simp only [freeInv]
 by_cases hlt:j<ts.length
 ·obtain ⟨tb,to,rfl,hrd⟩:=hrt.rds (by omega)
  have ht:ts[j]?=some ts[j]:=List.getElem?_eq_getElem hlt
  have hrj:=hrd j (ts[j].fv) (by simp [ht])
  have hTO:=hts _ (List.getElem_mem hlt)
  have hdrop:ts.drop j=ts[j]::ts.drop (j+1):=List.drop_eq_getElem_cons hlt
  obtain ⟨fa,fb,fc,hfe⟩:=hfn ts[j].fv (List.mem_map.2 ⟨_,List.getElem_mem hlt,rfl⟩)
  rw [hfe] at hrj
  rw [hdrop]
  refine we_star (ts[j].M::all ((ts.drop (j+1)).map ThrT.M)::shpC wg 132 2::F) (fun h st=>star_head st) ?_
  repeat (first | (apply wo_po;apply mo_index1;exact rfl;exact rfl;omega;exact gY) | (apply wo_po;apply mo_load;exact rfl;exact .there (.there (.there hrj));exact trivial) | (apply wo_mo;apply mo_alloc;exact trivial) | refine wlssT ?_ | refine we_seq ?_ | (refine wR ?_;try simp only [oS]) | refine wo_nil ?_ | refine wT ?_ | refine we_skip ?_ | refine we_block ?_)
  rintro v' L' ⟨tb',rfl,rfl⟩
  repeat (first | refine wS ?_ | refine we_seq ?_ | (refine wR ?_;try simp only [oS]) | refine wo_nil ?_)
  refine wo_call (.cons rfl (.cons rfl .nil)) trivial (wgAdd_tr (X:=⟨g,wg,[],some s0,0,j,false,.play,some fd,j⟩) rfl (by show j<1000;omega) (by show j=0+j;omega) rfl rfl (fun h st=>shp_of (.there (.there (.there .here))) st)) ?_
  rintro v1 L1 x1 ⟨rfl,rfl,rfl⟩
  repeat (first | (apply wo_po;apply mo_makeFunc (first:=[]) (cap:=[_,_]) (vf:=[]);exact .nil;exact .cons rfl (.cons rfl .nil);exact trivial) | (refine wR ?_;try simp only [oS]) | refine wo_nil ?_)
  refine wo_startF (X:=⟨g,wg,[],some s0,0,j+1,false,.play,some fd,j⟩) (fd:=fd) (q0:=ts[j].q0) (M:=[ts[j].M,arr tb' 0 [.func fa fb fc]]) (R:=all ((ts.drop (j+1)).map ThrT.M)::shpC wg 132 2::F) (cap:=[_,_]) rfl trivial rfl rfl rfl (by show j+1=0+j+1;omega) (by show fd.q0[j]?=_;rw [hq];simp [ht]) (fun h st=>star_shut (M:=[_,_]) (Ent.star (.take (.there .here) (.take .here (.take .here (.take .here .refl)))) st)) (fun hc st=>goesF_tr (t:=ts[j]) hTO hfin (by rw [hfe];exact st)) ?_
  repeat (first | (refine wR ?_;try simp only [oS]) | refine wo_nil ?_ | refine wM ?_ | refine wadd ?_)
  refine at_round (B:=mT) (I:=freeInv fd ts s0 wg (.slice (some ⟨tb,to,none⟩) ts.length tc) (shpC wg 132 2::F)) (R:=fun i'=>ts.length-i'<ts.length-j) (j+1) (by show ts.length-(j+1)<ts.length-j;omega) (show j+1≤ts.length by omega) ?_ .refl rfl
  exact ⟨rfl,rfl,rfl,rfl,trivial⟩
 ·obtain rfl:j=ts.length:=by omega
  repeat (first | refine wlssF ?_ | refine we_seq ?_ | (refine wR ?_;try simp only [oS]) | refine wo_nil ?_ | refine wF ?_ | refine we_exit ?_)
  refine wo_call (.cons rfl .nil) trivial (wgWait_tr (X:=⟨g,wg,[],some s0,0,ts.length,false,.play,some fd,ts.length⟩) rfl (by show ts.length<1000;omega) (by show ts.length=0+ts.length;omega) (fun s hs=>by cases hs) (fun d hd=>by cases hd;show ts.length=fd.q0.length;rw [hq,List.length_map]) rfl (fun h st=>shp_of (.there .here) st)) ?_
  rintro v' L' x' ⟨rfl,rfl,rfl⟩
  refine wo_star ((fun r=>∃ a:{ p:g.σ × List g.θ // fd.I p.1 p.2∧(∀ q∈p.2,g.plan q=none)∧p.2.length=fd.q0.length },all (g.U a.1.1::a.1.2.map g.Fin) r)::all ((ts.drop ts.length).map ThrT.M)::shpC wg 132 2::F) (fun h st=>star_map st (fun r hr=>?_) fun _ a=>a) ?_
  ·obtain ⟨s,qs,b1,b2,b3,b4⟩:=hr
   exact ⟨⟨(s,qs),b1,b2,b3⟩,b4⟩
  refine wo_ex .here ?_
  rintro ⟨⟨s,qs⟩,b1,b2,b3⟩
  repeat (first | refine we_seq ?_ | (refine wR ?_;try simp only [oS]) | refine wo_nil ?_ | refine wA ?_ | refine we_ret ?_)
  (first | refine or1 Try.func25 Try.results25 hQ rfl ?_ | refine on1 Try.func25 Try.results25 hQ rfl ?_)
  refine ⟨s,qs,b1,b2,by rw [b3,hq,List.length_map],rfl,rfl,fun h st=>?_⟩
  exact Ent.star (.take .here (.take .here (.drop (.drop .refl)))) (star_head st)
end
end
end Go.Proofs.Ytmkkanmkjfnpdaa
