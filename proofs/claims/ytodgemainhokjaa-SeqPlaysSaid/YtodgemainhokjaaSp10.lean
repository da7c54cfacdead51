/-
  patchbaylaw05: what the row asks: SeqPlays is true of every input; the input reads as it did.
-/
import Derived.Test.YtodgemainhokjaaSp9
import Derived.Listen
import Derived.Leaving
import Derived.Test.YtodgemainhokjaaChecked
import Derived.Conc.WgLib
import Derived.KernelRfl
import Derived.Test.YtodgemainhokjaaSp8
import Derived.Test.YtodgemainhokjaaSp7
import Derived.Test.YtodgemainhokjaaSp3
import Derived.Test.YtodgemainhokjaaRows
set_option linter.unusedVariables false
set_option linter.unusedSimpArgs false
namespace Go.PB
open Go.Conc Go.Conc.Lib
open Go.ConcR (KK stA smA rd wr mk DC0)
variable {W0:World} {P:Program} {cv:Value} {L:WgLink}
def mEnd (P:Program) (f:FuncId) (Q:Value→Hp→Prop) (fr:Frame) (cs:List Frame) (h:Hp) (x:MX):Prop :=
 x=.idle∧cs=[]∧∃ v,AtEnd P fr f .normal h (.ret v)∧Q v h
theorem Mem.at {w:World} {t:Trace} {hp:Nat→Hp} (m:Mem w t hp) (d:Nat):Mem (w.at d) t hp:=⟨fun i=>⟨(m.fits i).own,(m.fits i).thaw,(m.fits i).ro,(m.fits i).disj,(m.fits i).obj,(m.fits i).objn,(m.fits i).shp⟩,m.sep,m.nr,m.low,m.norel⟩
section
variable {f:FuncId} {Q:Value→Hp→Prop} {gs:Array Goroutine} {w:World} {t:Trace} {M:MN P cv L (mEnd P f Q)} {sl:List (Slot P cv L)} {hp:Nat→Hp}
theorem Cfg.at (c:Cfg W0 gs w t M sl hp) (d:Nat):Cfg W0 gs (w.at d) t M sl hp where
 size:=c.size
 main:=c.main
 thr:=fun i s hi=>by
  obtain ⟨g,h1,h2⟩:=c.thr i s hi
  exact ⟨g,h1,qz_ (w:=w) (w':=w.at d) rfl (fun ⟨a,b,h⟩=>⟨a,b,h.of_heap rfl⟩) h2⟩
 mem:=c.mem.at d
 aft:=⟨⟨⟨c.aft.after.1.os,c.aft.after.1.tape,c.aft.after.1.output,c.aft.after.1.size,c.aft.after.1.block⟩,c.aft.after.2⟩,c.aft.own,c.aft.obj,c.aft.game⟩
 hp0:=c.hp0
 hpn:=c.hpn
 tg:=c.tg
 kn0:=c.kn0
 game:=by
  have hg:=c.game
  cases hM:M.x with
  | idle=>rw [hM] at hg;exact hg
  | game X =>
   rw [hM] at hg
   obtain ⟨nb,G⟩:=hg
   exact ⟨nb,⟨G.len,G.old,G.seat,G.know,G.chan,G.dist,G.noch,G.nowg,G.wg.at fun a b h=>h.of_heap rfl,G.wgt,G.deaf,G.tok0,G.tok1,G.adp,G.ads,G.adl,G.live,G.park,fun g0 h1 h2 h3=>⟨(G.sleep g0 h1 h2 h3).1,fun h=>(G.sleep g0 h1 h2 h3).2 (h.of_heap rfl)⟩,G.cht⟩⟩
 pool:=by
  have:=c.pool.step (w':=w.at d) (u:=#[]) (sl':=sl) (hp':=hp) (fun pl _ h2 h3=>⟨⟨h3.own,h3.thaw,h3.ro,h3.disj,h3.obj,h3.objn,h3.shp⟩,h2,fun op ho=>by simp at ho⟩) rfl fun g wg m q i sx hi=>⟨sx,hi,id⟩
  rwa [Array.append_empty] at this
theorem Cfg.awake (c:Cfg W0 gs w t M sl hp):∀ g∈gs,awake g:=by
 intro g hg tm
 obtain ⟨i,hi⟩:=Array.mem_iff_getElem?.1 hg
 cases i with
 | zero =>
  obtain ⟨g',h1,h2⟩:=c.main
  rw [hi] at h1;cases h1
  rcases h2 with h | ⟨_,_,h,_⟩ | ⟨h,_⟩ <;> rw [h.status] <;> simp
 | succ i =>
  have hlt:i<sl.length:=by have:=(Array.getElem?_eq_some_iff.1 hi).1;have:=c.size;omega
  obtain ⟨g',h1,h2⟩:=c.thr i _ (List.getElem?_eq_getElem hlt)
  rw [hi] at h1;cases h1
  cases hs:sl[i] with
  | act n =>
   rw [hs] at h2
   rcases h2 with h | ⟨_,_,h,_⟩ <;> rw [h.status] <;> simp
  | out k m =>
   rw [hs] at h2
   cases k with
   | zero=>rcases QuitsD.status (P:=P) (n:=m) h2 with h | h <;> rw [h] <;> simp
   | succ k=>rw [fi_ (k:=k+1) h2];simp
theorem Cfg.someone (c:Cfg W0 gs w t M sl hp):∃ (i:Nat) (g:Goroutine),gs[i]?=some g∧g.status=.running:=by
 obtain ⟨g0,h0,hm⟩:=c.main
 rcases hm with h | ⟨cases,sh,h,hn⟩ | ⟨h,hn⟩
 ·exact ⟨0,g0,h0,h.status⟩
 ·have hgame:=c.game
  cases hM:M.x with
  | idle=>rw [hM] at hgame;exact absurd h.status (hgame.runs g0 h0)
  | game X =>
   rw [hM] at hgame
   obtain ⟨nb,G⟩:=hgame
   obtain ⟨j,cx,hj,_,hform,hb⟩:=G.park g0 cases sh h0 h.status h.offers
   obtain ⟨s,hs,hseat⟩:=G.seat j cx hj
   obtain ⟨g,hg,hsg⟩:=c.thr _ _ hs
   have hnb:=hb g hg
   obtain ⟨fr,cs,hh,x,o,bl,O,at_,rr,a,k,rfl⟩:=hn
   replace hM:x=.game X:=hM
   subst hM
   obtain ⟨_,jm,cm,hwt,_,hjm,hcase⟩:=ki_ a
   have hseatj:∃ n,s=.act n:=by
    rcases hcase with ⟨z,s0,q,e,_,hst,_⟩ | ⟨z,q,m,f',s0,l,h',r,e,_,hst,hpl,_⟩
    ·rcases hform with ⟨z',e'⟩ | ⟨v',z',e'⟩
     ·rw [e'] at e
      have ech:cx.says=cm.says:=by simpa [rcase] using congrArg (fun a=>a.map CommCase.chan) e
      obtain ⟨rfl,_⟩:=G.dist j jm cx cm 0 0 hj hjm (by omega) (by omega) ech
      rw [hj] at hjm;cases hjm
      obtain ⟨n,hn,_⟩:=bjk hseat hst
      exact ⟨n,hn⟩
     ·rw [e'] at e;simp [rcase,scase] at e
    ·rcases hform with ⟨z',e'⟩ | ⟨v',z',e'⟩
     ·rw [e'] at e;simp [rcase,scase] at e
     ·rw [e'] at e
      have ech:cx.turn=cm.turn:=by simpa [scase] using congrArg (fun a=>a.map CommCase.chan) e
      obtain ⟨rfl,_⟩:=G.dist j jm cx cm 1 1 hj hjm (by omega) (by omega) ech
      rw [hj] at hjm;cases hjm
      obtain ⟨n,hn,_⟩:=bcm hseat hst (by rw [hpl];rfl)
      exact ⟨n,hn⟩
   obtain ⟨n,rfl⟩:=hseatj
   rcases hsg with hr | ⟨_,_,hp,_⟩
   ·exact ⟨_,g,hg,hr.status⟩
   ·exact absurd hp.status hnb
 ·have hgame:=c.game
  cases hM:M.x with
  | idle=>rw [hM] at hgame;exact absurd h.status (hgame.runs g0 h0)
  | game X =>
   rw [hM] at hgame
   obtain ⟨nb,G⟩:=hgame
   obtain ⟨hwt,hnf⟩:=G.sleep g0 h0 h.status h.offers
   have find:∀ (i k:Nat),(sl.map Slot.stage)[i]?=some k→0<k→∃ (i:Nat) (g:Goroutine),gs[i]?=some g∧g.status=.running:=by
    intro i k hi hk
    rw [List.getElem?_map] at hi
    obtain ⟨s,hs,rfl⟩:=Option.map_eq_some_iff.1 hi
    obtain ⟨g,hg,hsg⟩:=c.thr i s hs
    cases s with
    | out k' m =>
     cases k' with
     | zero=>exact absurd hk (Nat.lt_irrefl 0)
     | succ k'=>rw [hM] at hsg;exact ⟨_,g,hg,fi_ (k:=k'+1) hsg⟩
    | act n =>
     have hin:nb≤i:=Nat.le_of_not_lt fun hlt=>by obtain ⟨m',e⟩:=(G.old i _ hlt hs).out;cases e
     obtain ⟨j,rfl⟩:∃ j,i=nb+j:=⟨i-nb,by omega⟩
     rcases hsg with hr | ⟨_,_,hp,hnode⟩
     ·exact ⟨_,g,hg,hr.status⟩
     have hno:X.free=none∧X.nf=0:=by
      obtain ⟨fr,cs,hh,x,o,bl,O,at_,rr,a,k,rfl⟩:=hnode
      exact c.comm_turns hM G hs
     obtain ⟨cx,hj⟩:∃ cx:St X,X.seats[j]?=some cx:=by
      have:=G.len
      have:=(List.getElem?_eq_some_iff.1 hs).1
      exact ⟨X.seats[j]'(by omega),List.getElem?_eq_getElem _⟩
     have hsh:=(G.ads (by rw [hwt];simp)).2 j cx hj
     have hnb:=G.live j cx g hj hg hsh
     exact absurd hp.status hnb
   cases G.wg with
   | quiet v wt at_ hv late hw park b =>
    have hads:=G.ads (by rw [hwt];simp)
    have hpos:=park hwt
    have:0<((sl.map Slot.stage).filter fun k=>decide (4≤k)).length:=by omega
    obtain ⟨k,hk⟩:=List.exists_mem_of_length_pos this
    obtain ⟨hk1,hk2⟩:=List.mem_filter.1 hk
    obtain ⟨i,hi⟩:=List.getElem?_of_mem hk1
    exact find i k hi (by simp at hk2;omega)
   | late p i k hi hk at_ oth=>exact find i k hi (by omega)
   | late1 p i hi at_ oth=>exact find i 1 hi (by omega)
   | free p at_ oth=>exact absurd at_ hnf
end
end Go.PB
namespace Go.PB
open Go.Conc Go.Conc.Lib
open Go.ConcR (KK stA smA rd wr mk DC0)
variable {W0:World} {P:Program} {cv:Value} {L:WgLink} {f:FuncId} {Q:Value→Hp→Prop} {Post:Value→World→Prop}
theorem cgt {ty:TypeId} {Wg m:Nat} {g:Goroutine} {fr:Frame} {cs:List Frame} {w:World} (r:Runs g fr cs) (h:Zg P ty Wg (ZR P ty Wg) m (G fr cs) w):Zg P ty Wg (ZR P ty Wg) m g w:=by
 have stop:∀ w₁,ZR P ty Wg (G fr cs) w₁→ZR P ty Wg g w₁:=fun w₁ ⟨_,g',m,hs,hz⟩=>⟨r.status,g',m,by rw [r.step];exact hs,hz⟩
 unfold Zg at h ⊢
 cases m with
 | zero=>exact fun w₁ h₁=>stop w₁ (h w₁ h₁)
 | succ m =>
  rcases h with h | ⟨_,h⟩
  ·exact .inl fun w₁ h₁=>stop w₁ (h w₁ h₁)
  ·exact .inr ⟨r.status,fun w₁ h₁=>by rw [r.step];exact h w₁ h₁⟩
theorem EvOk.marks {M M':Mark→Prop} {h:Hp} {w:World} {n:Nat} {e:Event} (x:EvOk M h w n e) (hM:∀ m,M m→M' m):EvOk M' h w n e:=by
 unfold EvOk at x ⊢
 split at x
 ·exact x
 ·exact x
 ·exact hM _ x
 ·exact x
def EndsW (P:Program) (Post:Value→World→Prop) (gs:Array Goroutine) (w:World) (sc:Option (Nat × Nat)) (t:Trace):Prop :=
 ∃ N last o w' t',runNT P (N+1) (crowd gs w sc) t=(.ended o w',t')∧runN P N (crowd gs w sc)=.next last∧step P last=.ended o w'∧Conc.Good P Post last o w' t'
theorem EndsW.step {gs gs':Array Goroutine} {w w':World} {sc sc':Option (Nat × Nat)} {t ops:Trace} (hs:stepT P (crowd gs w sc)=(.next (crowd gs' w' sc'),ops)) (h:EndsW P Post gs' w' sc' (t++ops)):EndsW P Post gs w sc t:=by
 obtain ⟨N,last,o,w2,t',h1,h2,h3,h4⟩:=h
 exact ⟨N+1,last,o,w2,t',by rw [runNT_succ_next hs];exact h1,by rw [runN_succ_next hs];exact h2,h3,h4⟩
section
variable {gs:Array Goroutine} {w:World} {t:Trace} {sl:List (Slot P cv L)} {hp:Nat→Hp} {g:Goroutine} {sc sc':Option (Nat × Nat)} {fr:Frame} {cs:List Frame} {h:Hp} {x:MX} {d:Nat}
theorem cfd (hi:P.inits.idxOf? f=none) (hQ:∀ v h w',Q v h→After W0 w'→Post v w') {e:mEnd P f Q fr cs h x} (c:Cfg W0 gs (w.at d) t (⟨fr,cs,h,x,.fin e⟩:MN P cv L (mEnd P f Q)) sl hp) (hg:gs[0]?=some g) (hr:Runs g fr cs)
  (hst:stepT P (crowd gs w sc)=runT P (crowd gs (w.at d) sc') 0):EndsW P Post gs w sc t:=by
 obtain ⟨rfl,rfl,v,hat,hq⟩:=e
 have hh:hp 0=h:=c.hp0
 have hfit:Fits h (w.at d):=by rw [← hh];exact c.mem.fits 0
 have hidle:IdleAt t sl hp gs:=c.game
 obtain ⟨h1,h2,h3,h4,h5,fn,hf,hres⟩:=hat
 rcases qu_ _ hres (w.at d) #[] hfit with ⟨v',w',es',h',e1,gu,e2,rfl,rfl⟩ | ⟨_,_,_,_,_,_,_,hx⟩
 rotate_left
 ·exact hx.elim
 simp only [Array.empty_append] at e1
 obtain ⟨es,hes,hstep⟩:∃ es,(∀ e∈es,EvOk Still h' (w.at d) w'.heap.size e)∧stepG P true (G fr []) (w.at d)=.ended (.done v') w' es:=by
  refine ⟨seen P fr.fn es',fun e he=>(e2 e (qd_ P _ _ e he)).marks fun m hm=>hm.elim,?_⟩
  ·obtain ⟨f1,tmps,f3,f4,f5,f6,f7⟩:=fr
   simp only at h1 h2 h3 h4 h5
   subst h1;subst h2;subst h3;subst h4;subst h5
   replace e1:(results fn tmps).runT P (w.at d) #[]=(.ok v' w',es'):=e1
   have er:(results fn tmps).run P (w.at d)=.ok v' w':=by rw [← Sem.runT_fst P _ (w.at d) #[],e1]
   have ee:=congrArg Prod.snd e1
   simp only [Sem.runT_eq] at ee
   simp [stepG,G,unwind,hf,er,ee,GStep.after,doReturn,hi]
 have hst':stepG P ((0:Nat) == 0) g (w.at d)=.ended (.done v') w' es:=by rw [hr.step];exact hstep
 have hrunT:=Go.ConcN.runT_crowd_ended (sl:=sc') hg hst'
 have hstepT:=hst.trans hrunT
 have ho:=mm_ (a:=0) (fn:=g.frame.fn) (pos:=g.frame.place) gu hes
 generalize hops:MemOp.ofEvents 0 g.frame.fn g.frame.place es=ops at ho hstepT
 have ho':Own 0 (hp 0) (w.at d) w' h' ops:=by rw [hh];exact ho
 have hmem:=c.mem.own ho' c.kn0
 have haft:=c.aft.own_step ho'
 have hng:∀ i,i≠0→∀ op∈ops,op.g≠i:=fun i hi op hop e=>hi (by rw [← e,ho.g op hop])
 refine ⟨0,crowd gs w sc,.done v',w',t++ops,by rw [runNT,hstepT],rfl,by rw [← stepT_fst P _ true,hstepT],v',rfl,hQ _ _ _ hq haft.after,fun said=>hmem.nr said,?_,⟨?_,rfl⟩,?_⟩
 ·-- all is handed over
  intro i k hi hk hc
  have hlt:i<t.size:=by
   refine Nat.lt_of_not_le fun hge=>?_
   unfold Trace.g? at hi
   obtain ⟨op,hop,hopg⟩:=Option.map_eq_some_iff.1 hi
   rcases getElem?_append_cases hop with ⟨h,_⟩ | ⟨_,h⟩
   ·omega
   ·rw [ho.g op h] at hopg;exact hk hopg.symm
  rw [g?_app hlt] at hi
  rw [gv_ hlt] at hc
  obtain ⟨op,hop,hopg⟩:=Option.map_eq_some_iff.1 (show (t[i]?).map (·.g)=some k from hi)
  have htg:=c.tg i op hop
  obtain ⟨k,rfl⟩:∃ k',k=k'+1:=⟨k-1,by omega⟩
  have hkl:k<sl.length:=by omega
  obtain ⟨q,z,hq,hzg,hb⟩:=(hidle.old k _ (List.getElem?_eq_getElem hkl)).all i hi hc
  refine ⟨q,?_,?_⟩
  ·rw [g?_app (lt_size_of_getElem? hq),g?_of hq,hzg]
  ·rcases hb with rfl | hb
   ·rw [g?_of hq,hzg] at hi;cases hi
   ·exact hb_app ops hb
 ·intro g' hg'
  obtain ⟨i,hi⟩:=List.getElem?_of_mem hg'
  rw [List.getElem?_drop] at hi
  have hi':gs[i+1]?=some g':=by
   rw [← Array.getElem?_toList,Nat.add_comm i 1];exact hi
  have hlt:i<sl.length:=by have:=(Array.getElem?_eq_some_iff.1 hi').1;have:=c.size;omega
  obtain ⟨g2,e1,e2⟩:=c.thr i _ (List.getElem?_eq_getElem hlt)
  rw [hi'] at e1;cases e1
  obtain ⟨m,hm⟩:=(hidle.old i _ (List.getElem?_eq_getElem hlt)).out
  rw [hm] at e2
  exact ⟨m,QuitsD.leaves (P:=P) (n:=m) e2⟩
 ·intro i g' hg' hi0
  obtain ⟨i,rfl⟩:∃ i',i=i'+1:=⟨i-1,by omega⟩
  replace hg':gs[i+1]?=some g':=hg'
  have hlt:i<sl.length:=by have:=(Array.getElem?_eq_some_iff.1 hg').1;have:=c.size;omega
  obtain ⟨g2,e1,e2⟩:=c.thr i _ (List.getElem?_eq_getElem hlt)
  rw [hg'] at e1;cases e1
  obtain ⟨m,hm⟩:=(hidle.old i _ (List.getElem?_eq_getElem hlt)).out
  rw [hm] at e2
  refine ⟨m,?_⟩
  have hd:(t++ops).deaf (i+1) (t++ops).size=Deaf t (i+1):=dc_ (hng _ (by omega))
  rw [hd]
  exact QuitsD.hears (P:=P) _ (n:=m) e2
end
end Go.PB
namespace Go.PB
open Go.Conc Go.Conc.Lib
open Go.ConcR (KK stA smA rd wr mk DC0)
variable {W0:World} {P:Program} {cv:Value} {L:WgLink} {f:FuncId} {Q:Value→Hp→Prop} {Post:Value→World→Prop}
theorem bhj (H:WgLib P L) {gs:Array Goroutine} {w:World} {t:Trace} {M:MN P cv L (mEnd P f Q)} {sl:List (Slot P cv L)} {hp:Nat→Hp} {i:Nat} {g:Goroutine} {fr:Frame} {cs:List Frame} {h:Hp} {x:TX} {r:Run P (tHand P cv) false (tEnd P L.done) fr cs h x}
  {X:GX} {nb j:Nat} (c:Cfg W0 gs w t M sl hp) (hX:M.x=.game X) (hG:GameAt X gs w t sl hp nb) (hs:sl[nb+j]?=some (.act ⟨fr,cs,h,x,r⟩)) (hg:gs[nb+j+1]?=some g) (hr:Runs g fr cs)
  (hfree:(∃ e,r=.fin e)∨∃ O a k,r=.ghost O a k):∃ sl' hp',Cfg W0 gs w t M sl' hp'∧Falls SBel sl' sl:=by
 have hh:h=hp (nb+j+1):=(hG.know j _ hs).2.1
 have hkn:=(hG.know j _ hs).1
 have hdj:=(hG.know j _ hs).2.2
 have hseat:∀ cx:St X,X.seats[j]?=some cx→jb_ X cx (hp (nb+j+1)) (.act ⟨fr,cs,h,x,r⟩:Slot P cv L):=fun cx hj=>by
  obtain ⟨s,h1,h2⟩:=hG.seat j cx hj
  rw [hs] at h1;cases h1;exact h2
 -- whose group it is
 have hxwg:x.wg=X.wg:=by
  have hpo:=c.pool
  rw [hX] at hpo
  cases hf:X.free with
  | none =>
   have hnf:=hpo.1 hf
   obtain ⟨cx,hj⟩:∃ cx:St X,X.seats[j]?=some cx:=by
    have:=hG.len
    have:=(List.getElem?_eq_some_iff.1 hs).1
    exact ⟨X.seats[j]'(by omega),List.getElem?_eq_getElem _⟩
   obtain ⟨ph,hx,_⟩:=hseat cx hj
   replace hx:x=_:=hx
   rw [hx]
  | some d =>
   obtain ⟨e1,e2,nb',pl,s,qs,p⟩:=hpo.2 d hf
   obtain rfl:=p.nb_eq hG e1
   obtain ⟨q,_,n',hx,_⟩:=p.slot j _ hs
   replace hx:x=_:=hx
   rw [hx]
 rcases hfree with ⟨e,rfl⟩ | ⟨O,a,k,rfl⟩
 ·obtain ⟨hfr,⟨c0,cs',qt,hcs,hcm,hq⟩,q,hph,hfin⟩:=e
  subst hcs
  refine ⟨_,_,Cfg.frz1 c hX hG hs (h1:=h) (by rw [hh];exact Frz.refl) (s':=.out 6 23) (.inr rfl) ⟨g,hg,?_⟩ (.inl ⟨rfl,by rw [hh];exact hkn,hdj⟩) (fun cx hj=>?_) (fun m q' hfs=>?_),Falls.set hs trivial⟩
  ·rw [hxwg] at hfr
   subst hfr
   obtain ⟨p1,p2,e1⟩:=hG.wg.ex
   haveI:Go.ConcR.Payload:=⟨0⟩
   have hz:=bxm H (Wg:=X.wg) hcm hq w ⟨_,_,e1⟩
   rw [← bqs H] at hz
   exact cgt hr hz
  rotate_left
  ·obtain ⟨n',hx,_⟩:=hfs
   replace hx:x=_:=hx
   subst hx
   rcases hph with hph | hph | ⟨hpl,n2,hph⟩
   ·cases hph
   ·cases hph
   ·replace hph:Ph.free q' n'=Ph.free q n2:=hph
    cases hph
    exact ⟨hpl,hfin⟩
  ·obtain ⟨ph,hx,pk⟩:=hseat cx hj
   replace hx:x=_:=hx
   subst hx
   refine ⟨Nat.le_refl _,q,?_,hfin⟩
   generalize cx.st=st at pk
   rcases hph with hph | hph | ⟨_,n2,hph⟩
   rotate_right
   ·replace hph:ph=_:=hph
    rw [hph] at pk
    cases pk
   ·replace hph:ph=_:=hph
    rw [hph] at pk
    cases pk with
    | over hp=>exact .inl ⟨rfl,hp⟩
    | shutO=>exact .inr rfl
   ·replace hph:ph=_:=hph
    rw [hph] at pk
    cases pk with
    | shutC=>exact .inr rfl
 ·obtain ⟨h1,z,q⟩:=a ⟨w,by rw [show h=hp (nb+j+1) from hh];exact c.mem.fits _⟩
  refine ⟨_,_,Cfg.frz1 c hX hG hs (h1:=h1) (by rw [← hh];exact z) (s':=.act ⟨fr,cs,h1,x,k h1 x q⟩) (.inl rfl) ⟨g,hg,.inl hr⟩ ⟨?_,rfl,hdj⟩ (fun cx hj=>?_) (fun m q' hfs=>hfs),Falls.set hs (Relation.TransGen.single (Below.ghost (B:=tHand P cv) (k:=k) h1 x q))⟩
  ·have:Frz (hp (nb+j+1)) h1:=by rw [← hh];exact z
   exact this.kn hkn
  ·obtain ⟨ph,hx,pk⟩:=hseat cx hj
   exact ⟨ph,hx,pk⟩
theorem bwb (H:WgLib P L) (hi:P.inits.idxOf? f=none) (hQ:∀ v h w',Q v h→After W0 w'→Post v w') :
  ∀ (M:MN P cv L (mEnd P f Q)) (sl:List (Slot P cv L)) (n:Nat) (gs:Array Goroutine) (w:World) (t:Trace) (hp:Nat→Hp) (sc:Option (Nat × Nat)),Cfg W0 gs w t M sl hp→nrun gs=n→EndsW P Post gs w sc t:=by
 intro M
 induction M using (bmr (P:=P) (B:=mHand P cv L.done L.tWg) (main:=true) (E:=mEnd P f Q)).induction with
 | _ M ihM =>
 intro sl
 induction sl using (Falls.wf (cjn (P:=P) (cv:=cv) (L:=L))).induction with
 | _ sl ihS =>
 intro n
 induction n using Nat.strongRecOn with
 | _ n ihN =>
 intro gs w t hp sc c hn
 -- what falls,ends
 have go:∀ {d:Nat} {sc':Option (Nat × Nat)} {i:Nat},stepT P (crowd gs w sc)=runT P (crowd gs (w.at d) sc') i →
   (∃ gs' w' ops M' sl' hp',runT P (crowd gs (w.at d) sc') i=(.next (crowd gs' w' sc'),ops)∧Cfg W0 gs' w' (t++ops) M' sl' hp'∧Less gs' M' sl' gs M sl)→EndsW P Post gs w sc t:=by
  rintro d sc' i hst ⟨gs',w',ops,M',sl',hp',h1,h2,h3⟩
  refine EndsW.step (hst.trans h1) ?_
  rcases h3 with h3 | ⟨rfl,h3⟩ | ⟨rfl,rfl,h3⟩
  ·exact ihM M' h3 sl' _ gs' w' _ hp' sc' h2 rfl
  ·exact ihS sl' h3 _ gs' w' _ hp' sc' h2 rfl
  ·exact ihN _ (by omega) gs' w' _ hp' sc' h2 rfl
 obtain ⟨i,g,d,sc',hgi,hrun,hst⟩:=crowd_pick (P:=P) (w:=w) (sl:=sc) c.awake c.someone
 have c':=c.at d
 cases i with
 | zero =>
  obtain ⟨g',h0,hm⟩:=c.main
  rw [hgi] at h0;cases h0
  have hr:Runs g M.fr M.cs:=by
   rcases hm with h | ⟨_,_,h,_⟩ | ⟨h,_⟩
   ·exact h
   ·rw [h.status] at hrun;cases hrun
   ·rw [h.status] at hrun;cases hrun
  obtain ⟨fr,cs,h,x,r⟩:=M
  have hfit:Fits h (w.at d):=by
   have:hp 0=h:=c.hp0
   rw [← this];exact c'.mem.fits 0
  cases r with
  | fin e=>exact cfd hi hQ c' hgi hr hst
  | priv nx k =>
   obtain ⟨gs',ops,h1,h2⟩:=bxs (sc:=sc') c' hgi hr (nx (w.at d) hfit) (k (w.at d) hfit)
   exact go hst ⟨gs',_,ops,_,sl,_,h1,h2,.inl (.priv (w.at d) hfit)⟩
  | act o O at_ ne a k =>
   have a':=a
   obtain ⟨X,hX,ma⟩:=a'
   subst hX
   rcases cfv (sc:=sc') c' hgi hr ma with ⟨gs',w',ops,v,h',x',q,h1,h2⟩ | ⟨hp1,hb,hnf⟩ | ⟨hwt,hdf,hnq,hs,hO⟩ | ⟨j,cx,q0,hwt,hdf,had,htk,hj,hst0,hwk,hs,hO⟩
   ·exact go hst ⟨gs',w',ops,_,sl,hp,h1,h2,.inl (.act v h' x' q)⟩
   ·obtain ⟨gs',h1,h2,h3⟩:=bxq (sc:=sc') c' hgi hr hp1 hb hnf
    exact go hst ⟨gs',_,#[],_,sl,hp,h1,by rw [Array.append_empty];exact h2,.inr (.inr ⟨rfl,rfl,h3⟩)⟩
   ·obtain ⟨gs',ops,h',q,hp',h1,h2⟩:=bmm (sc:=sc') c' hgi hr hwt hdf hnq hs hO
    exact go hst ⟨gs',_,ops,_,sl,hp',h1,h2,.inl (Below.act (B:=mHand P cv L.done L.tWg) (k:=k) unit h' MX.idle q)⟩
   ·obtain ⟨gs',w',ops,h1,h2⟩:=cfq (sc:=sc') c' hgi hr hwt hdf had htk hj hst0 hwk hs hO
    exact go hst ⟨gs',w',ops,_,sl,hp,h1,h2,.inl (Below.act (B:=mHand P cv L.done L.tWg) (k:=k) unit h _ hO)⟩
  | comm o cases bl sh O at_ rr a k =>
   have a':=a
   obtain ⟨_,X,_,_,hX,_⟩:=a'
   subst hX
   obtain ⟨gs',w',ops,M',sl',hp',h1,h2,h3⟩:=bxv (sc:=sc') c' hgi hr
   exact go hst ⟨gs',w',ops,M',sl',hp',h1,h2,h3.imp id fun h=>.inr h⟩
  | spawn o dd O at_ rr a k =>
   have a':=a
   rcases a' with ⟨X,s,says,turn,fin,hc,h',s',q',hX,hrest⟩ | ⟨X,fd,hc,h',q0,hX,hf,hwt,hdf,had,hq,hsp,hd,⟨run⟩,hO⟩
   ·subst hX
    obtain ⟨gs',ops,M',sl',hp',h1,h2,h3⟩:=bxp (sc:=sc') c' hgi hr ⟨X,s,says,turn,fin,hc,h',s',q',rfl,hrest⟩
    exact go hst ⟨gs',_,ops,M',sl',hp',h1,h2,.inl h3⟩
   ·subst hX
    obtain ⟨gs',ops,M',sl',hp',h1,h2,h3⟩:=bqv (sc:=sc') c' hgi hr hf hwt hdf had hq hsp hd run hO
    exact go hst ⟨gs',_,ops,M',sl',hp',h1,h2,.inl h3⟩
  | late b tt ds todo f cap args O e a k =>
   subst e
   have a':=a
   obtain ⟨X,hX,d1,d2,d3⟩:=a'
   subst hX
   obtain ⟨gs',w',ops,h1,h2⟩:=cfs (sc:=sc') c' hgi hr d1 d2 d3
   exact go hst ⟨gs',w',ops,_,sl,hp,h1,h2,.inl (Below.late (B:=mHand P cv L.done L.tWg) (k:=k) h _ d3)⟩
  | ghost O a k =>
   have a':=a
   rcases a' ⟨w.at d,hfit⟩ with ⟨h1,z,q⟩ | ⟨hx,gm,wg,s,h1,e0,e1,e2,z,hno,q⟩ | ⟨hx,gm,fd,wg,s,h1,h2,pl,sp,hU,hob,hpw,e0,e1,e2,z,hno,hI,hφ,q⟩
   ·exact ihM _ (.ghost h1 x q) sl _ gs w t _ sc (Cfg.frz0 c z (M':=⟨fr,cs,h1,x,k h1 x q⟩) rfl rfl ⟨g,hgi,.inl hr⟩) rfl
   ·exact ihM _ (.ghost h1 _ q) sl _ gs w t _ sc (Cfg.start c hx e0 e1 e2 z hno ⟨fun _=>rfl,fun d hd=>by cases hd⟩ (M':=⟨fr,cs,h1,_,k h1 _ q⟩) rfl rfl ⟨g,hgi,.inl hr⟩) rfl
   ·exact ihM _ (.ghost h1 _ q) sl _ gs w t _ sc (Cfg.startF c hx sp hU hob hpw e0 e1 e2 z hno hI hφ (M':=⟨fr,cs,h1,_,k h1 _ q⟩) rfl rfl ⟨g,hgi,.inl hr⟩) rfl
 | succ i =>
  have hlt:i<sl.length:=by have:=(Array.getElem?_eq_some_iff.1 hgi).1;have:=c.size;omega
  obtain ⟨s,hs⟩:∃ s,sl[i]?=some s:=⟨sl[i],List.getElem?_eq_getElem hlt⟩
  obtain ⟨g',h1,hsg⟩:=c.thr i s hs
  rw [hgi] at h1;cases h1
  -- in a game,if it isn't one that only leaves
  have ingame:s.stage≠0→∃ X nb j,M.x=.game X∧GameAt X gs w t sl hp nb∧i=nb+j:=by
   intro hne
   have hgame:=c.game
   cases hM:M.x with
   | idle=>rw [hM] at hgame;obtain ⟨m,rfl⟩:=(hgame.old i s hs).out;exact absurd rfl hne
   | game X =>
    rw [hM] at hgame
    obtain ⟨nb,G⟩:=hgame
    refine ⟨X,nb,i-nb,rfl,G,?_⟩
    have hin:nb≤i:=Nat.le_of_not_lt fun hlt=>by obtain ⟨m,rfl⟩:=(G.old i s hlt hs).out;exact hne rfl
    omega
  cases s with
  | out k m =>
   cases k with
   | zero =>
    obtain ⟨gs',ops,m',h1,h2,h3⟩:=cfr (sc:=sc') c' hs hgi hrun
    exact go hst ⟨gs',_,ops,M,_,hp,h1,h3,.inr (.inl ⟨rfl,Falls.set hs (.inr ⟨rfl,h2⟩)⟩)⟩
   | succ k =>
    obtain ⟨X,nb,j,hX,G,rfl⟩:=ingame (by simp [Slot.stage])
    have hg':=c'.game
    rw [hX] at hg'
    obtain ⟨gs',w',ops,k',m',h1,h2,h3⟩:=cmk (sc:=sc') c' hX (by
     exact ⟨G.len,G.old,G.seat,G.know,G.chan,G.dist,G.noch,G.nowg,G.wg.at fun a b h=>h.of_heap rfl,G.wgt,G.deaf,G.tok0,G.tok1,G.adp,G.ads,G.adl,G.live,G.park,fun g0 h1 h2 h3=>⟨(G.sleep g0 h1 h2 h3).1,fun h=>(G.sleep g0 h1 h2 h3).2 (h.of_heap rfl)⟩,G.cht⟩:GameAt X gs (w.at d) t sl hp nb) hs hgi
    exact go hst ⟨gs',w',ops,M,_,hp,h1,h3,.inr (.inl ⟨rfl,Falls.set hs h2⟩)⟩
  | act nd =>
   obtain ⟨X,nb,j,hX,G,rfl⟩:=ingame (by simp [Slot.stage])
   have G':GameAt X gs (w.at d) t sl hp nb:=⟨G.len,G.old,G.seat,G.know,G.chan,G.dist,G.noch,G.nowg,G.wg.at fun a b h=>h.of_heap rfl,G.wgt,G.deaf,G.tok0,G.tok1,G.adp,G.ads,G.adl,G.live,G.park,fun g0 h1 h2 h3=>⟨(G.sleep g0 h1 h2 h3).1,fun h=>(G.sleep g0 h1 h2 h3).2 (h.of_heap rfl)⟩,G.cht⟩
   have hr:Runs g nd.fr nd.cs:=by
    rcases hsg with h | ⟨_,_,h,_⟩
    ·exact h
    ·rw [h.status] at hrun;cases hrun
   obtain ⟨fr,cs,h,x,r⟩:=nd
   have hfit:Fits h (w.at d):=by
    have:h=hp (nb+j+1):=(G.know j _ hs).2.1
    rw [this];exact c'.mem.fits _
   cases r with
   | fin e =>
    obtain ⟨sl',hp',h1,h2⟩:=bhj H (i:=nb+j) c hX G hs hgi hr (.inl ⟨e,rfl⟩)
    exact ihS sl' h2 _ gs w t hp' sc h1 rfl
   | ghost O a k =>
    obtain ⟨sl',hp',h1,h2⟩:=bhj H (i:=nb+j) c hX G hs hgi hr (.inr ⟨O,a,k,rfl⟩)
    exact ihS sl' h2 _ gs w t hp' sc h1 rfl
   | priv nx k =>
    obtain ⟨gs',ops,h1,h2⟩:=bxr (sc:=sc') c' hs hgi hr (nx (w.at d) hfit) (k (w.at d) hfit)
    exact go hst ⟨gs',_,ops,M,_,_,h1,h2,.inr (.inl ⟨rfl,Falls.set hs (Relation.TransGen.single (.priv (w.at d) hfit))⟩)⟩
   | act o O at_ ne a k =>
    obtain ⟨gs',w',ops,v,x',q,h1,h2⟩:=cft (sc:=sc') c' hX G' hs hgi hr
    exact go hst ⟨gs',w',ops,M,_,hp,h1,h2,.inr (.inl ⟨rfl,Falls.set hs (Relation.TransGen.single (Below.act (B:=tHand P cv) (k:=k) v h x' q))⟩)⟩
   | comm o cases bl sh O at_ rr a k=>exact go hst (bxt (sc:=sc') c' hX G' hs hgi hr)
   | spawn o dd O at_ rr a k=>exact a.elim
   | late b tt ds todo f cap args O e a k=>exact a.elim
theorem bgb {args:Array Value} {R:Value→List HProp→MX→Prop} (H:WgLib P L) (hi:P.inits.idxOf? f=none)
  (tr:Tr P (mHand P cv L.done L.tWg) f args.toList [base W0] .idle R) (hx:∀ v L' x',R v L' x'→x'=.idle) (hR:∀ v L' w',R v L' .idle→After W0 w'→Post v w') :
  ∃ M last o w' t',runNT P (M+1) (solo (G (Frame.enter P f args .normal) []) W0) #[]=(.ended o w',t')∧runN P M (solo (G (Frame.enter P f args .normal) []) W0)=.next last ∧
    step P last=.ended o w'∧Conc.Good P Post last o w' t':=by
 let Q:Value→Hp→Prop:=fun v h=>∃ L',R v L' .idle∧Star L' h
 have hst:Star [base W0] (start W0):=⟨start W0,Hp.empty,
  ⟨fun _ _ _ e=>e,fun _ _ _ e=>(by cases e),fun _ _ _ e=>e,fun _ _ _ e=>(by cases e),fun _ _=>.inl rfl,fun _ _ e=>e,fun _ _ e=>(by cases e),fun _=>.inl rfl,fun _ _ e=>e,fun _ _ e=>(by cases e)⟩,fun _ _ _ e=>e,trivial⟩
 have key:Nonempty (Run P (mHand P cv L.done L.tWg) true (mEnd P f Q) (Frame.enter P f args .normal) [] (start W0) .idle) :=
  tr (start W0) .run (fun e _ h' x'=>∃ v,e=.ret v∧x'=.idle∧Q v h') hst (fun v L' x' h' r s=>by obtain rfl:=hx _ _ _ r;exact ⟨v,rfl,rfl,L',r,s⟩) (fun _ _ _ h=>h.elim)
   true _ za_ [] (fun h=>by cases h) (by
    rintro fr e um' h' x' ha ⟨v,rfl,rfl,hq⟩
    exact ⟨.fin ⟨rfl,rfl,v,ha,hq⟩⟩)
 obtain ⟨run⟩:=key
 have hempty:∀ i,0<i→put (fun _=>Hp.empty) 0 (start W0) i=Hp.empty:=fun i hi=>dh_ (by omega)
 have c:Cfg W0 #[G (Frame.enter P f args .normal) []] W0 #[] (⟨_,_,_,_,run⟩:MN P cv L (mEnd P f Q)) [] (put (fun _=>Hp.empty) 0 (start W0)):=by
  refine ⟨rfl,⟨_,rfl,.inl ko_⟩,fun i s hi=>by simp at hi,⟨fun i=>?_,fun i j hij=>?_,fun said=>?_,fun i a ha=>?_,fun op ho=>by simp at ho⟩,⟨⟨Go.RowKit.Below.refl _ _,fun _=>rfl⟩,fun i b o v e=>?_,fun i b v e=>?_,trivial⟩,cp_,fun i hi=>hempty i (by simpa using hi),fun i op hi=>by simp at hi,⟨fun b o v e i a ha=>?_,fun b o v e i a ha=>?_,fun b v e i a ha=>?_⟩,⟨fun i s hi=>by simp at hi,rfl,fun g0 h0 hb=>?_⟩,trivial⟩
  ·by_cases h:i=0
   ·subst h;rw [cp_];exact bqp W0
   ·rw [dh_ h];exact th_
  ·by_cases h:i=0
   ·rw [dh_ (show j≠0 from fun e=>hij (h.trans e.symm))];exact mu_.symm
   ·rw [dh_ h];exact mu_
  ·rintro ⟨i,j,_,⟨a,b,ha,_⟩,_⟩
   simp [Trace.act?] at ha
  ·simp [touchAt,Trace.act?] at ha
  ·by_cases h:i=0
   ·subst h;rw [cp_] at e;cases e
   ·rw [dh_ h] at e;cases e
  ·by_cases h:i=0
   ·subst h;rw [cp_] at e;cases e
   ·rw [dh_ h] at e;cases e
  ·simp [touchAt,Trace.act?] at ha
  ·simp [touchAt,Trace.act?] at ha
  ·simp [touchAt,Trace.act?] at ha
  ·simp at h0;subst h0;cases hb
 have:=bwb (Post:=Post) H hi (fun v h w' ⟨L',r,_⟩ ha=>hR v L' w' r ha) _ [] _ _ W0 #[] _ none c rfl
 exact this
end Go.PB
namespace Go.Proofs
section
abbrev Try.link:Go.Conc.Lib.WgLink:={ add:=60,done:=62,wait:=53,relMerge:=82,disable:=70,enable:=71,inBubble:=76,associate:=83,fatal:=84,uOr:=85,uAdd:=86,raceRead:=87,uLoad:=47,uStore:=44,disassociate:=74,semrelease:=88,acquire:=72,isAssociated:=73,uCas:=48,raceWrite:=75,semacquire:=77,orU64:=91,addU64:=92,loadU64:=64,storeU64:=63,casU64:=65,tWgP:=133,tUP:=170,tAssoc:=180,tWg:=119,tAU:=99,tU64:=31,tUint:=168,tU32:=117,tPU32:=173,tPAU:=157,tPU64:=159,tNoCopy:=116,tANoCopy:=96,tAlign64:=97 }
theorem Try.wgLib:Go.Conc.Lib.WgLib Try.prog Try.link :=
 ⟨Try.func60,Try.func62,Try.func53,Try.func82,Try.func70,Try.func71,Try.func76,Try.func83,Try.func84,Try.func85,Try.func86,Try.func87,Try.func47,Try.func44,Try.func74,Try.func88,Try.func72,Try.func73,Try.func48,Try.func75,Try.func77,Try.func91,Try.func92,Try.func64,Try.func63,Try.func65,Try.underlying133,Try.runUnderlying133,Try.sizeOf133,Try.isAgg133,Try.zeroValue133,Try.underlying170,Try.runUnderlying170,Try.sizeOf170,Try.isAgg170,Try.zeroValue170,Try.underlying180,Try.runUnderlying180,Try.sizeOf180,Try.isAgg180,Try.zeroValue180,Try.underlying119,Try.runUnderlying119,Try.sizeOf119,Try.isAgg119,Try.zeroValue119,Try.underlying99,Try.runUnderlying99,Try.sizeOf99,Try.isAgg99,Try.zeroValue99,Try.underlying31,Try.runUnderlying31,Try.sizeOf31,Try.isAgg31,Try.zeroValue31,Try.underlying168,Try.runUnderlying168,Try.sizeOf168,Try.isAgg168,Try.zeroValue168,Try.underlying117,Try.runUnderlying117,Try.sizeOf117,Try.isAgg117,Try.zeroValue117,Try.underlying173,Try.runUnderlying173,Try.sizeOf173,Try.isAgg173,Try.zeroValue173,Try.underlying157,Try.runUnderlying157,Try.sizeOf157,Try.isAgg157,Try.zeroValue157,Try.underlying159,Try.runUnderlying159,Try.sizeOf159,Try.isAgg159,Try.zeroValue159,Try.underlying0,Try.runUnderlying0,Try.sizeOf0,Try.isAgg0,Try.zeroValue0,Try.underlying3,Try.runUnderlying3,Try.sizeOf3,Try.isAgg3,Try.zeroValue3,Try.underlying4,Try.runUnderlying4,Try.sizeOf4,Try.isAgg4,Try.zeroValue4,Try.underlying9,Try.runUnderlying9,Try.sizeOf9,Try.isAgg9,Try.zeroValue9,Try.underlying20,Try.runUnderlying20,Try.sizeOf20,Try.isAgg20,Try.zeroValue20,Try.underlying21,Try.runUnderlying21,Try.sizeOf21,Try.isAgg21,Try.zeroValue21,(by kernel_rfl),(by kernel_rfl)⟩
end
end Go.Proofs
namespace Go.Proofs.Ytodgemainhokjaa
open Go Go.PB Go.ChangeShapes Go.WideShapes Go.RowKit
section
theorem own:ownKnob Try.prog.godebug=none:=by kernel_rfl
theorem ckq:laidOutB Try.prog=true:=by kernel_rfl
theorem bbd {α β:Type} {l:List α} {P:Nat→β→Prop} (key:∀ (i:Nat) y,l[i]?=some y→∃ z,P i z):∃ zs:List β,zs.length=l.length∧∀ (i:Nat) z,zs[i]?=some z→P i z:=by
 have hx:∀ n,n≤l.length→∃ zs:List β,zs.length=n∧∀ (i:Nat) z,zs[i]?=some z→P i z:=fun n=>by
  induction n with
  | zero=>exact fun _=>⟨[],rfl,fun i y hy=>by simp at hy⟩
  | succ n ih =>
   intro hn
   obtain ⟨rs,hl,hr⟩:=ih (by omega)
   obtain ⟨y,hy⟩:=key n l[n] (List.getElem?_eq_getElem (by omega))
   refine ⟨rs++[y],by simp [hl],fun i z hz=>?_⟩
   by_cases hi:i<rs.length
   ·rw [List.getElem?_append_left hi] at hz
    exact hr i z hz
   ·rw [List.getElem?_append_right (by omega)] at hz
    have hlt:=(List.getElem?_eq_some_iff.1 hz).1
    simp only [List.length_cons,List.length_nil] at hlt
    obtain rfl:i=n:=by omega
    rw [show i-rs.length=0 by omega] at hz
    cases hz
    exact hy
 exact hx l.length (Nat.le_refl _)
theorem bsh {W:World} {v:Value} {l:List Nat} (h:(fe_ shU64).rel W [v] l):∃ a cap,v=.slice a l.length cap∧RdsO [base W] a l.length (l.map num)∧(∀ v∈l,v<18446744073709551616)∧l.length≤cap∧cap≤maxLen:=by
 obtain ⟨p,cap,h1,h3,h4,h2⟩:=h
 cases h1
 have key:∀ i y,l[i]?=some y→(∃ b o,p=some ⟨b,o,none⟩∧Rd [base W] b (o+i) (num y))∧y<18446744073709551616:=by
  intro i y hy
  obtain ⟨b,o,vs,rfl,h5,h6,h7,h8⟩:=h2 i y hy
  rw [h7] at h6
  have c0:=h6 0 _ rfl
  simp only [shU64,Nat.mul_one,Nat.add_zero] at c0
  exact ⟨⟨b,o,rfl,Rd.base c0⟩,h8⟩
 refine ⟨p,cap,rfl,⟨by simp,?_⟩,fun v hv=>?_,h3,h4⟩
 ·by_cases h0:0<l.length
  ·obtain ⟨⟨b,o,rfl,_⟩,_⟩:=key 0 l[0] (List.getElem?_eq_getElem h0)
   refine .inr ⟨b,o,rfl,fun i v hi=>?_⟩
   rw [List.getElem?_map] at hi
   cases hy:l[i]? with
   | none=>rw [hy] at hi;cases hi
   | some y =>
    rw [hy] at hi;cases hi
    obtain ⟨⟨b2,o2,e,r⟩,_⟩:=key i y hy
    cases e;exact r
  ·exact .inl (by omega)
 ·obtain ⟨i,hi⟩:=List.mem_iff_getElem?.1 hv
  exact (key i v hi).2
theorem zi_:Opens Try.prog 29 (fe_ shU64):=ma_ Try.underlying29 (by kernel_rfl) (bwj (by kernel_rfl) (by kernel_rfl)) (by decide)
abbrev DoU:=Bool × List Nat × Int × Unit
def shDo:Sh DoU:=jw_ yu_ (jw_ (fe_ shU64) (jw_ shI64 wd_))
theorem cdg:Opens Try.prog 71 shDo :=
 vf_ (fs:=#[_,_,_]) Try.underlying71 (by kernel_rfl) (hn_ rfl (bpw (by kernel_rfl) (by kernel_rfl)) rfl (hn_ rfl zi_ rfl (hn_ rfl (bcv (by kernel_rfl) (by kernel_rfl)) rfl zj_)))
theorem bwm:Opens Try.prog 65 (fe_ shDo):=ma_ Try.underlying65 (by kernel_rfl) cdg (by decide)
theorem cmg {W:World} {v:Value} {l:List DoU} (h:(fe_ shDo).rel W [v] l):∃ a cap,∃ es:List SE,v=.slice a es.length cap∧DoAt [base W] a es∧es.length≤cap:=by
 obtain ⟨p,cap,h1,h3c,_,h2⟩:=h
 cases h1
 have key:∀ (i:Nat) y,l[i]?=some y→∃ z:SE,(∃ b o,p=some ⟨b,o,none⟩∧Rds [base W] b (o+3*i) (seV z)∧RdsO [base W] z.a z.d.l.length (z.d.l.map num))∧(-9223372036854775808≤z.d.t∧z.d.t≤9223372036854775807)∧∀ w∈z.d.l,w<18446744073709551616:=by
  intro i y hy
  obtain ⟨b,o,vs,rfl,h3,h4,h5,h7,⟨h8,h8'⟩,h9⟩:=h2 i y hy
  obtain ⟨p7,c7,e7,_⟩:=id h7
  match vs,h3 with
  | [v0,v1,v2],_ =>
   have e0:v0=.bool y.1:=by simpa [shDo,jw_,shU64,shI64,yu_,fe_] using h5
   obtain ⟨wa,wc,e1,r1,hb,_⟩:=bsh (v:=v1) h7
   have e2:v2=.int .i64 y.2.2.1:=by simpa [shDo,jw_,shU64,shI64,yu_,fe_] using h8
   subst e0;subst e1;subst e2
   have c0:=h4 0 _ rfl
   have c1:=h4 1 _ rfl
   have c2:=h4 2 _ rfl
   simp only [shDo,jw_,shU64,shI64,yu_,wd_,fe_,Nat.add_zero] at c0 c1 c2
   rw [Nat.mul_comm i] at c0 c1 c2
   refine ⟨⟨⟨y.1,y.2.1,y.2.2.1⟩,wa,wc⟩,⟨b,o,rfl,fun q v hq=>?_,r1⟩,h8',hb⟩
   match q,hq with
   | 0,hq=>cases hq;exact Rd.base c0
   | 1,hq=>cases hq;exact Rd.base c1
   | 2,hq=>cases hq;exact Rd.base c2
 obtain ⟨es,hl,hes⟩:=bbd (P:=fun i (z:SE)=>(∃ b o,p=some ⟨b,o,none⟩∧Rds [base W] b (o+3*i) (seV z)∧RdsO [base W] z.a z.d.l.length (z.d.l.map num))∧(-9223372036854775808≤z.d.t∧z.d.t≤9223372036854775807)∧∀ w∈z.d.l,w<18446744073709551616) key
 exact ⟨p,cap,es,by rw [hl],⟨fun y hy=>by obtain ⟨i,hi⟩:=List.mem_iff_getElem?.1 hy;exact (hes i y hi).2,fun i y hi=>(hes i y hi).1⟩,by rw [hl];exact h3c⟩
theorem bpv:Opens Try.prog 22 (fe_ shI64):=ma_ Try.underlying22 (by kernel_rfl) (bcv (by kernel_rfl) (by kernel_rfl)) (by decide)
theorem cks {W:World} {v:Value} {l:List Int} (h:(fe_ shI64).rel W [v] l):∃ a cap,v=.slice a l.length cap∧RdsO [base W] a l.length (intC l)∧(∀ v∈l,-9223372036854775808≤v∧v≤9223372036854775807)∧l.length≤cap∧cap≤maxLen:=by
 obtain ⟨p,cap,h1,h3,h4,h2⟩:=h
 cases h1
 have key:∀ i y,l[i]?=some y→(∃ b o,p=some ⟨b,o,none⟩∧Rd [base W] b (o+i) (.int .i64 y))∧(-9223372036854775808≤y∧y≤9223372036854775807):=by
  intro i y hy
  obtain ⟨b,o,vs,rfl,h5,h6,h7,h8,h9⟩:=h2 i y hy
  rw [h7] at h6
  have c0:=h6 0 _ rfl
  simp only [shI64,Nat.mul_one,Nat.add_zero] at c0
  exact ⟨⟨b,o,rfl,Rd.base c0⟩,h8,h9⟩
 refine ⟨p,cap,rfl,⟨by simp [intC],?_⟩,fun v hv=>?_,h3,h4⟩
 ·by_cases h0:0<l.length
  ·obtain ⟨⟨b,o,rfl,_⟩,_⟩:=key 0 l[0] (List.getElem?_eq_getElem h0)
   refine .inr ⟨b,o,rfl,fun i v hi=>?_⟩
   unfold intC at hi;rw [List.getElem?_map] at hi
   cases hy:l[i]? with
   | none=>rw [hy] at hi;cases hi
   | some y =>
    rw [hy] at hi;cases hi
    obtain ⟨⟨b2,o2,e,r⟩,_⟩:=key i y hy
    cases e;exact r
  ·exact .inl (by omega)
 ·obtain ⟨i,hi⟩:=List.mem_iff_getElem?.1 hv
  exact (key i v hi).2
theorem bwk:Opens Try.prog 58 (fe_ (fe_ shDo)):=ma_ Try.underlying58 (by kernel_rfl) bwm (by decide)
theorem cnr {W:World} {v:Value} {l:List (List DoU)} (h:(fe_ (fe_ shDo)).rel W [v] l):∃ a cap,∃ rs:List RW,v=.slice a rs.length cap∧ThsAt [base W] a rs:=by
 obtain ⟨p,cap,h1,_,_,h2⟩:=h
 cases h1
 have key:∀ (i:Nat) (t:List DoU),l[i]?=some t→∃ y:RW,∃ b o,p=some ⟨b,o,none⟩∧Rd [base W] b (o+i) (rv y)∧DoAt [base W] y.1 y.2.2∧y.2.2.length≤y.2.1:=fun i t ht=>by
  obtain ⟨b,o,vs,rfl,h3,h4,h5⟩:=h2 i t ht
  match vs,h3 with
  | [w],_ =>
   obtain ⟨d,dc,es,rfl,h6,h7⟩:=cmg h5
   have c0:=h4 0 _ rfl
   simp only [fe_,Nat.add_zero,Nat.mul_one] at c0
   exact ⟨(d,dc,es),b,o,rfl,Rd.base c0,h6,h7⟩
 have all:∃ rs:List RW,rs.length=l.length∧ThsAt [base W] p rs:=bbd key
 obtain ⟨rs,hl,hr⟩:=all
 exact ⟨p,cap,rs,by rw [hl],hr⟩
def bfg:Sh (List Nat × List (List DoU) × List Int × Unit):=jw_ (fe_ shU64) (jw_ (fe_ (fe_ shDo)) (jw_ (fe_ shI64) wd_))
theorem bkg:Opens Try.prog 60 bfg :=
 vf_ (fs:=#[_,_,_]) Try.underlying60 (by kernel_rfl) (hn_ rfl zi_ rfl (hn_ rfl bwk rfl (hn_ rfl bpv rfl zj_)))
theorem wo_at {W:World} {cs:Array Value} {x:List Nat × List (List DoU) × List Int × Unit} (h:bfg.rel W (Value.agg cs).cells.toList x) :
  ∃ (wa ta oa:Option Addr) (wc tc oc:Nat) (ws:List Nat) (rs:List RW) (l:List Int),cs=#[.slice wa ws.length wc,.slice ta rs.length tc,.slice oa l.length oc]∧RdsO [base W] wa ws.length (ws.map num)∧ws.length≤wc∧(∀ w∈ws,w<18446744073709551616)∧ThsAt [base W] ta rs∧RdsO [base W] oa l.length (intC l)∧∀ v∈l,-9223372036854775808≤v∧v≤9223372036854775807:=by
 obtain ⟨l⟩:=cs
 replace h:bfg.rel W l x:=h
 obtain ⟨h6,h7,h8,h9⟩:=h
 obtain ⟨p6,c6,e6,_⟩:=id h6
 obtain ⟨p7,c7,e7,_⟩:=id h7
 obtain ⟨p8,c8,e8,_⟩:=id h8
 simp only [jw_,shU64,wd_,fe_] at e6 e7 e8 h9
 match l,e6,e7,e8,h9,h6,h7,h8 with
 | [v0,v1,v2],_,_,_,_,h6,h7,h8 =>
  obtain ⟨wa,wc,e2,r1,r2,r3,_⟩:=bsh (v:=v0) h6
  obtain ⟨ta,tc,rs,e3,hs⟩:=cnr (v:=v1) h7
  obtain ⟨oa,oc,e4,ho,hr,_⟩:=cks (v:=v2) h8
  exact ⟨wa,ta,oa,wc,tc,oc,x.1,rs,x.2.2.1,by rw [e2,e3,e4],r1,r3,r2,hs,ho,hr⟩
 | [],e6,_,_,_,_,_,_=>simp at e6
 | [_],_,e7,_,_,_,_,_=>simp at e7
 | [_,_],_,_,e8,_,_,_,_=>simp at e8
 | _::_::_::_::_,_,_,_,h9,_,_,_=>simp at h9
set_option maxRecDepth 100000 in
theorem xg_ (os:Os) (started:os.Started) (H:Type) (enc:TypeId × Value→H) :
  ReturnsInLeavingWide {} Try.checked os 5 .any (Rows.seqPlaysSpec.pre6 enc Try.prog Try.f5 Rows.seqPlaysRow.domain false) (Rows.seqPlaysSpec.post enc Try.prog Try.f5 false true false false):=by
 refine returnsInLeavingWide_of_change_sized (C:=Try.checked) own started Try.func5
  (ChangeSpec.witness6 (enc:=enc) (C:=Try.checked) false ⟨#[],#[.agg #[.slice none 0 0,.slice none 0 0,.slice none 0 0]],[]⟩ 8 (by kernel_rfl) (by kernel_rfl) (by kernel_rfl) (by kernel_rfl)) ?_
 intro W base args ds gs before hval0 hW hcnd hsz _
 have hval:∀ (j:Nat) t v,Try.f5.params[j]?=some t→args[j]?=some v→Value.okWide Try.prog W .any base t v:=hval0
 have hW':=hW
 obtain ⟨p,q,hA0,hV,rfl,hfz,hnd⟩:=hW
 have hA:DataW.TrodAll enc Try.prog W 0 (fun _=>true) true Try.f5.params.toList args.toList ds p:=hA0
 rw [Try.params5] at hA hval
 obtain ⟨v0,d0,rfl,rfl,h0⟩:=trodAll_one hA
 obtain ⟨a0,rfl,z0⟩:=okWide_struct Try.underlying60 (hval 0 _ v0 rfl rfl)
 obtain ⟨x0,e0⟩:=cmx bkg h0
 obtain ⟨wa0,ta0,oa0,wc0,tc0,oc0,ws0,rs0,os0,rfl,q0,r0,t0,s0,u0,y0⟩:=wo_at e0
 refine bgb (cv:=cvT) (L:=Try.link) Try.wgLib (by kernel_rfl) (bvj (bgf (by intro c hc;rw [List.mem_singleton.1 hc];exact cff)) q0 r0 t0 s0 u0 y0) (fun v L' x' h=>h.2) fun v L' w' hv ha=>?_
 obtain ⟨rfl,-⟩:=hv
 exact bvv ckq (of_decide_eq_true (by kernel_rfl)) rfl (by kernel_rfl) rfl (fun ds hd=>by match ds,hd with | [_],_=>rfl) hW' ha
theorem seqPlays:Rows.SeqPlaysSaid :=
 OpenClaim.holds_of_wide_leaving 5 Try.f5 rfl rfl rfl rfl rfl rfl rfl ⟨rfl,rfl,rfl,rfl,rfl⟩ rfl rfl rfl rfl rfl (by kernel_rfl) Try.func5 (by kernel_rfl)
  (of_decide_eq_true (by kernel_rfl)) (by unfold Func.isWrapper;first | (rw [if_pos (by decide +kernel)];kernel_rfl) | (rw [if_neg (by decide +kernel)];exact ⟨rfl,rfl⟩))
  (fun os started H enc _=>xg_ os started H enc)
end
end Go.Proofs.Ytodgemainhokjaa
