/-
  patchbaylaw02: what the row asks: TurnCut is true of every input; the input reads as it did.
-/
import Derived.Test.YtabbkjciifnehaaTgc6
import Derived.Listen
import Derived.Leaving
import Derived.Test.YtabbkjciifnehaaChecked
import Derived.Conc.WgLib
import Derived.KernelRfl
import Derived.Test.YtabbkjciifnehaaTgc5
import Derived.Test.YtabbkjciifnehaaTgc3
import Derived.Test.YtabbkjciifnehaaRows
set_option linter.unusedVariables false
set_option linter.unusedSimpArgs false
namespace Go.PB
open Go.Conc Go.Conc.Lib
open Go.ConcR (KK stA smA rd wr mk DC0)
variable {W0:World} {P:Program} {cv:Value} {L:WgLink}
def mEnd (P:Program) (f:FuncId) (Q:Value→Hp→Prop) (fr:Frame) (cs:List Frame) (h:Hp) (x:MX):Prop :=
 x=.idle∧cs=[]∧∃ v,AtEnd P fr f .normal h (.ret v)∧Q v h
theorem Mem.at {w:World} {t:Trace} {hp:Nat→Hp} (m:Mem w t hp) (d:Nat):Mem (w.at d) t hp:=⟨fun i=>⟨(m.fits i).own,(m.fits i).thaw,(m.fits i).ro,(m.fits i).disj,(m.fits i).obj,(m.fits i).objn,(m.fits i).shp⟩,m.sep,m.nr,m.low,m.norel⟩
section
variable {f:FuncId} {Q:Value→Hp→Prop} {gs:Array Goroutine} {w:World} {t:Trace} {M:MN P cv L (mEnd P f Q)} {sl:List (Slot P cv L)} {hp:Nat→Hp}
theorem Cfg.at (c:Cfg W0 gs w t M sl hp) (d:Nat):Cfg W0 gs (w.at d) t M sl hp where
 size:=c.size
 main:=c.main
 thr:=fun i s hi=>by
  obtain ⟨g,h1,h2⟩:=c.thr i s hi
  exact ⟨g,h1,slot_rely (w:=w) (w':=w.at d) rfl (fun ⟨a,b,h⟩=>⟨a,b,h.of_heap rfl⟩) h2⟩
 mem:=c.mem.at d
 aft:=⟨⟨⟨c.aft.after.1.os,c.aft.after.1.tape,c.aft.after.1.output,c.aft.after.1.size,c.aft.after.1.block⟩,c.aft.after.2⟩,c.aft.own,c.aft.obj,c.aft.game⟩
 hp0:=c.hp0
 hpn:=c.hpn
 tg:=c.tg
 kn0:=c.kn0
 game:=by
  have hg:=c.game
  cases hM:M.x with
  | idle=>rw [hM] at hg;exact hg
  | game X =>
   rw [hM] at hg
   obtain ⟨nb,G⟩:=hg
   exact ⟨nb,⟨G.len,G.old,G.seat,G.know,G.chan,G.dist,G.noch,G.nowg,G.wg.at fun a b h=>h.of_heap rfl,G.wgt,G.deaf,G.tok0,G.tok1,G.adp,G.ads,G.adl,G.live,G.park,fun g0 h1 h2 h3=>⟨(G.sleep g0 h1 h2 h3).1,fun h=>(G.sleep g0 h1 h2 h3).2 (h.of_heap rfl)⟩,G.cht⟩⟩
 pool:=by
  have:=c.pool.step (w':=w.at d) (u:=#[]) (sl':=sl) (hp':=hp) (fun pl _ h2 h3=>⟨⟨h3.own,h3.thaw,h3.ro,h3.disj,h3.obj,h3.objn,h3.shp⟩,h2,fun op ho=>by simp at ho⟩) rfl fun g wg m q i sx hi=>⟨sx,hi,id⟩
  rwa [Array.append_empty] at this
theorem Cfg.awake (c:Cfg W0 gs w t M sl hp):∀ g∈gs,awake g:=by
 intro g hg tm
 obtain ⟨i,hi⟩:=Array.mem_iff_getElem?.1 hg
 cases i with
 | zero =>
  obtain ⟨g',h1,h2⟩:=c.main
  rw [hi] at h1;cases h1
  rcases h2 with h | ⟨_,_,h,_⟩ | ⟨h,_⟩ <;> rw [h.status] <;> simp
 | succ i =>
  have hlt:i<sl.length:=by have:=(Array.getElem?_eq_some_iff.1 hi).1;have:=c.size;omega
  obtain ⟨g',h1,h2⟩:=c.thr i _ (List.getElem?_eq_getElem hlt)
  rw [hi] at h1;cases h1
  cases hs:sl[i] with
  | act n =>
   rw [hs] at h2
   rcases h2 with h | ⟨_,_,h,_⟩ <;> rw [h.status] <;> simp
  | out k m =>
   rw [hs] at h2
   cases k with
   | zero=>rcases QuitsD.status (P:=P) (n:=m) h2 with h | h <;> rw [h] <;> simp
   | succ k=>rw [zg_running (k:=k+1) h2];simp
theorem Cfg.someone (c:Cfg W0 gs w t M sl hp):∃ (i:Nat) (g:Goroutine),gs[i]?=some g∧g.status=.running:=by
 obtain ⟨g0,h0,hm⟩:=c.main
 rcases hm with h | ⟨cases,sh,h,hn⟩ | ⟨h,hn⟩
 ·exact ⟨0,g0,h0,h.status⟩
 ·have hgame:=c.game
  cases hM:M.x with
  | idle=>rw [hM] at hgame;exact absurd h.status (hgame.runs g0 h0)
  | game X =>
   rw [hM] at hgame
   obtain ⟨nb,G⟩:=hgame
   obtain ⟨j,cx,hj,_,hform,hb⟩:=G.park g0 cases sh h0 h.status h.offers
   obtain ⟨s,hs,hseat⟩:=G.seat j cx hj
   obtain ⟨g,hg,hsg⟩:=c.thr _ _ hs
   have hnb:=hb g hg
   obtain ⟨fr,cs,hh,x,o,bl,O,at_,rr,a,k,rfl⟩:=hn
   replace hM:x=.game X:=hM
   subst hM
   obtain ⟨_,jm,cm,hwt,_,hjm,hcase⟩:=main_comm a
   have hseatj:∃ n,s=.act n:=by
    rcases hcase with ⟨z,s0,q,e,_,hst,_⟩ | ⟨z,q,m,f',s0,l,h',r,e,_,hst,hpl,_⟩
    ·rcases hform with ⟨z',e'⟩ | ⟨v',z',e'⟩
     ·rw [e'] at e
      have ech:cx.says=cm.says:=by simpa [rcase] using congrArg (fun a=>a.map CommCase.chan) e
      obtain ⟨rfl,_⟩:=G.dist j jm cx cm 0 0 hj hjm (by omega) (by omega) ech
      rw [hj] at hjm;cases hjm
      obtain ⟨n,hn,_⟩:=seat_run hseat hst
      exact ⟨n,hn⟩
     ·rw [e'] at e;simp [rcase,scase] at e
    ·rcases hform with ⟨z',e'⟩ | ⟨v',z',e'⟩
     ·rw [e'] at e;simp [rcase,scase] at e
     ·rw [e'] at e
      have ech:cx.turn=cm.turn:=by simpa [scase] using congrArg (fun a=>a.map CommCase.chan) e
      obtain ⟨rfl,_⟩:=G.dist j jm cx cm 1 1 hj hjm (by omega) (by omega) ech
      rw [hj] at hjm;cases hjm
      obtain ⟨n,hn,_⟩:=seat_said hseat hst (by rw [hpl];rfl)
      exact ⟨n,hn⟩
   obtain ⟨n,rfl⟩:=hseatj
   rcases hsg with hr | ⟨_,_,hp,_⟩
   ·exact ⟨_,g,hg,hr.status⟩
   ·exact absurd hp.status hnb
 ·have hgame:=c.game
  cases hM:M.x with
  | idle=>rw [hM] at hgame;exact absurd h.status (hgame.runs g0 h0)
  | game X =>
   rw [hM] at hgame
   obtain ⟨nb,G⟩:=hgame
   obtain ⟨hwt,hnf⟩:=G.sleep g0 h0 h.status h.offers
   have find:∀ (i k:Nat),(sl.map Slot.stage)[i]?=some k→0<k→∃ (i:Nat) (g:Goroutine),gs[i]?=some g∧g.status=.running:=by
    intro i k hi hk
    rw [List.getElem?_map] at hi
    obtain ⟨s,hs,rfl⟩:=Option.map_eq_some_iff.1 hi
    obtain ⟨g,hg,hsg⟩:=c.thr i s hs
    cases s with
    | out k' m =>
     cases k' with
     | zero=>exact absurd hk (Nat.lt_irrefl 0)
     | succ k'=>rw [hM] at hsg;exact ⟨_,g,hg,zg_running (k:=k'+1) hsg⟩
    | act n =>
     have hin:nb≤i:=Nat.le_of_not_lt fun hlt=>by obtain ⟨m',e⟩:=(G.old i _ hlt hs).out;cases e
     obtain ⟨j,rfl⟩:∃ j,i=nb+j:=⟨i-nb,by omega⟩
     rcases hsg with hr | ⟨_,_,hp,hnode⟩
     ·exact ⟨_,g,hg,hr.status⟩
     have hno:X.free=none∧X.nf=0:=by
      obtain ⟨fr,cs,hh,x,o,bl,O,at_,rr,a,k,rfl⟩:=hnode
      exact c.comm_turns hM G hs
     obtain ⟨cx,hj⟩:∃ cx:St X,X.seats[j]?=some cx:=by
      have:=G.len
      have:=(List.getElem?_eq_some_iff.1 hs).1
      exact ⟨X.seats[j]'(by omega),List.getElem?_eq_getElem _⟩
     have hsh:=(G.ads (by rw [hwt];simp)).2 j cx hj
     have hnb:=G.live j cx g hj hg hsh
     exact absurd hp.status hnb
   cases G.wg with
   | quiet v wt at_ hv late hw park b =>
    have hads:=G.ads (by rw [hwt];simp)
    have hpos:=park hwt
    have:0<((sl.map Slot.stage).filter fun k=>decide (4≤k)).length:=by omega
    obtain ⟨k,hk⟩:=List.exists_mem_of_length_pos this
    obtain ⟨hk1,hk2⟩:=List.mem_filter.1 hk
    obtain ⟨i,hi⟩:=List.getElem?_of_mem hk1
    exact find i k hi (by simp at hk2;omega)
   | late p i k hi hk at_ oth=>exact find i k hi (by omega)
   | late1 p i hi at_ oth=>exact find i 1 hi (by omega)
   | free p at_ oth=>exact absurd at_ hnf
end
end Go.PB
namespace Go.PB
open Go.Conc Go.Conc.Lib
open Go.ConcR (KK stA smA rd wr mk DC0)
variable {W0:World} {P:Program} {cv:Value} {L:WgLink} {f:FuncId} {Q:Value→Hp→Prop} {Post:Value→World→Prop}
theorem zg_runs {ty:TypeId} {Wg m:Nat} {g:Goroutine} {fr:Frame} {cs:List Frame} {w:World} (r:Runs g fr cs) (h:Zg P ty Wg (ZR P ty Wg) m (G fr cs) w):Zg P ty Wg (ZR P ty Wg) m g w:=by
 have stop:∀ w₁,ZR P ty Wg (G fr cs) w₁→ZR P ty Wg g w₁:=fun w₁ ⟨_,g',m,hs,hz⟩=>⟨r.status,g',m,by rw [r.step];exact hs,hz⟩
 unfold Zg at h ⊢
 cases m with
 | zero=>exact fun w₁ h₁=>stop w₁ (h w₁ h₁)
 | succ m =>
  rcases h with h | ⟨_,h⟩
  ·exact .inl fun w₁ h₁=>stop w₁ (h w₁ h₁)
  ·exact .inr ⟨r.status,fun w₁ h₁=>by rw [r.step];exact h w₁ h₁⟩
theorem EvOk.marks {M M':Mark→Prop} {h:Hp} {w:World} {n:Nat} {e:Event} (x:EvOk M h w n e) (hM:∀ m,M m→M' m):EvOk M' h w n e:=by
 unfold EvOk at x ⊢
 split at x
 ·exact x
 ·exact x
 ·exact hM _ x
 ·exact x
def EndsW (P:Program) (Post:Value→World→Prop) (gs:Array Goroutine) (w:World) (sc:Option (Nat × Nat)) (t:Trace):Prop :=
 ∃ N last o w' t',runNT P (N+1) (crowd gs w sc) t=(.ended o w',t')∧runN P N (crowd gs w sc)=.next last∧step P last=.ended o w'∧Conc.Good P Post last o w' t'
theorem EndsW.step {gs gs':Array Goroutine} {w w':World} {sc sc':Option (Nat × Nat)} {t ops:Trace} (hs:stepT P (crowd gs w sc)=(.next (crowd gs' w' sc'),ops)) (h:EndsW P Post gs' w' sc' (t++ops)):EndsW P Post gs w sc t:=by
 obtain ⟨N,last,o,w2,t',h1,h2,h3,h4⟩:=h
 exact ⟨N+1,last,o,w2,t',by rw [runNT_succ_next hs];exact h1,by rw [runN_succ_next hs];exact h2,h3,h4⟩
section
variable {gs:Array Goroutine} {w:World} {t:Trace} {sl:List (Slot P cv L)} {hp:Nat→Hp} {g:Goroutine} {sc sc':Option (Nat × Nat)} {fr:Frame} {cs:List Frame} {h:Hp} {x:MX} {d:Nat}
theorem ends_fin (hi:P.inits.idxOf? f=none) (hQ:∀ v h w',Q v h→After W0 w'→Post v w') {e:mEnd P f Q fr cs h x} (c:Cfg W0 gs (w.at d) t (⟨fr,cs,h,x,.fin e⟩:MN P cv L (mEnd P f Q)) sl hp) (hg:gs[0]?=some g) (hr:Runs g fr cs)
  (hst:stepT P (crowd gs w sc)=runT P (crowd gs (w.at d) sc') 0):EndsW P Post gs w sc t:=by
 obtain ⟨rfl,rfl,v,hat,hq⟩:=e
 have hh:hp 0=h:=c.hp0
 have hfit:Fits h (w.at d):=by rw [← hh];exact c.mem.fits 0
 have hidle:IdleAt t sl hp gs:=c.game
 obtain ⟨h1,h2,h3,h4,h5,fn,hf,hres⟩:=hat
 rcases wpS_sound _ hres (w.at d) #[] hfit with ⟨v',w',es',h',e1,gu,e2,rfl,rfl⟩ | ⟨_,_,_,_,_,_,_,hx⟩
 rotate_left
 ·exact hx.elim
 simp only [Array.empty_append] at e1
 obtain ⟨es,hes,hstep⟩:∃ es,(∀ e∈es,EvOk Still h' (w.at d) w'.heap.size e)∧stepG P true (G fr []) (w.at d)=.ended (.done v') w' es:=by
  refine ⟨seen P fr.fn es',fun e he=>(e2 e (seen_mem P _ _ e he)).marks fun m hm=>hm.elim,?_⟩
  ·obtain ⟨f1,tmps,f3,f4,f5,f6,f7⟩:=fr
   simp only at h1 h2 h3 h4 h5
   subst h1;subst h2;subst h3;subst h4;subst h5
   replace e1:(results fn tmps).runT P (w.at d) #[]=(.ok v' w',es'):=e1
   have er:(results fn tmps).run P (w.at d)=.ok v' w':=by rw [← Sem.runT_fst P _ (w.at d) #[],e1]
   have ee:=congrArg Prod.snd e1
   simp only [Sem.runT_eq] at ee
   simp [stepG,G,unwind,hf,er,ee,GStep.after,doReturn,hi]
 have hst':stepG P ((0:Nat) == 0) g (w.at d)=.ended (.done v') w' es:=by rw [hr.step];exact hstep
 have hrunT:=Go.ConcN.runT_crowd_ended (sl:=sc') hg hst'
 have hstepT:=hst.trans hrunT
 have ho:=own_of_events (a:=0) (fn:=g.frame.fn) (pos:=g.frame.place) gu hes
 generalize hops:MemOp.ofEvents 0 g.frame.fn g.frame.place es=ops at ho hstepT
 have ho':Own 0 (hp 0) (w.at d) w' h' ops:=by rw [hh];exact ho
 have hmem:=c.mem.own ho' c.kn0
 have haft:=c.aft.own_step ho'
 have hng:∀ i,i≠0→∀ op∈ops,op.g≠i:=fun i hi op hop e=>hi (by rw [← e,ho.g op hop])
 refine ⟨0,crowd gs w sc,.done v',w',t++ops,by rw [runNT,hstepT],rfl,by rw [← stepT_fst P _ true,hstepT],v',rfl,hQ _ _ _ hq haft.after,fun said=>hmem.nr said,?_,⟨?_,rfl⟩,?_⟩
 ·-- all is handed over
  intro i k hi hk hc
  have hlt:i<t.size:=by
   refine Nat.lt_of_not_le fun hge=>?_
   unfold Trace.g? at hi
   obtain ⟨op,hop,hopg⟩:=Option.map_eq_some_iff.1 hi
   rcases getElem?_append_cases hop with ⟨h,_⟩ | ⟨_,h⟩
   ·omega
   ·rw [ho.g op h] at hopg;exact hk hopg.symm
  rw [g?_app hlt] at hi
  rw [counts_old hlt] at hc
  obtain ⟨op,hop,hopg⟩:=Option.map_eq_some_iff.1 (show (t[i]?).map (·.g)=some k from hi)
  have htg:=c.tg i op hop
  obtain ⟨k,rfl⟩:∃ k',k=k'+1:=⟨k-1,by omega⟩
  have hkl:k<sl.length:=by omega
  obtain ⟨q,z,hq,hzg,hb⟩:=(hidle.old k _ (List.getElem?_eq_getElem hkl)).all i hi hc
  refine ⟨q,?_,?_⟩
  ·rw [g?_app (lt_size_of_getElem? hq),g?_of hq,hzg]
  ·rcases hb with rfl | hb
   ·rw [g?_of hq,hzg] at hi;cases hi
   ·exact hb_app ops hb
 ·intro g' hg'
  obtain ⟨i,hi⟩:=List.getElem?_of_mem hg'
  rw [List.getElem?_drop] at hi
  have hi':gs[i+1]?=some g':=by
   rw [← Array.getElem?_toList,Nat.add_comm i 1];exact hi
  have hlt:i<sl.length:=by have:=(Array.getElem?_eq_some_iff.1 hi').1;have:=c.size;omega
  obtain ⟨g2,e1,e2⟩:=c.thr i _ (List.getElem?_eq_getElem hlt)
  rw [hi'] at e1;cases e1
  obtain ⟨m,hm⟩:=(hidle.old i _ (List.getElem?_eq_getElem hlt)).out
  rw [hm] at e2
  exact ⟨m,QuitsD.leaves (P:=P) (n:=m) e2⟩
 ·intro i g' hg' hi0
  obtain ⟨i,rfl⟩:∃ i',i=i'+1:=⟨i-1,by omega⟩
  replace hg':gs[i+1]?=some g':=hg'
  have hlt:i<sl.length:=by have:=(Array.getElem?_eq_some_iff.1 hg').1;have:=c.size;omega
  obtain ⟨g2,e1,e2⟩:=c.thr i _ (List.getElem?_eq_getElem hlt)
  rw [hg'] at e1;cases e1
  obtain ⟨m,hm⟩:=(hidle.old i _ (List.getElem?_eq_getElem hlt)).out
  rw [hm] at e2
  refine ⟨m,?_⟩
  have hd:(t++ops).deaf (i+1) (t++ops).size=Deaf t (i+1):=Deaf_others (hng _ (by omega))
  rw [hd]
  exact QuitsD.hears (P:=P) _ (n:=m) e2
end
end Go.PB
namespace Go.PB
open Go.Conc Go.Conc.Lib
open Go.ConcR (KK stA smA rd wr mk DC0)
variable {W0:World} {P:Program} {cv:Value} {L:WgLink} {f:FuncId} {Q:Value→Hp→Prop} {Post:Value→World→Prop}
theorem thr_free (H:WgLib P L) {gs:Array Goroutine} {w:World} {t:Trace} {M:MN P cv L (mEnd P f Q)} {sl:List (Slot P cv L)} {hp:Nat→Hp} {i:Nat} {g:Goroutine} {fr:Frame} {cs:List Frame} {h:Hp} {x:TX} {r:Run P (tHand P cv) false (tEnd P L.done) fr cs h x}
  {X:GX} {nb j:Nat} (c:Cfg W0 gs w t M sl hp) (hX:M.x=.game X) (hG:GameAt X gs w t sl hp nb) (hs:sl[nb+j]?=some (.act ⟨fr,cs,h,x,r⟩)) (hg:gs[nb+j+1]?=some g) (hr:Runs g fr cs)
  (hfree:(∃ e,r=.fin e)∨∃ O a k,r=.ghost O a k):∃ sl' hp',Cfg W0 gs w t M sl' hp'∧Falls SBel sl' sl:=by
 have hh:h=hp (nb+j+1):=(hG.know j _ hs).2.1
 have hkn:=(hG.know j _ hs).1
 have hdj:=(hG.know j _ hs).2.2
 have hseat:∀ cx:St X,X.seats[j]?=some cx→SeatAt X cx (hp (nb+j+1)) (.act ⟨fr,cs,h,x,r⟩:Slot P cv L):=fun cx hj=>by
  obtain ⟨s,h1,h2⟩:=hG.seat j cx hj
  rw [hs] at h1;cases h1;exact h2
 -- whose group it is
 have hxwg:x.wg=X.wg:=by
  have hpo:=c.pool
  rw [hX] at hpo
  cases hf:X.free with
  | none =>
   have hnf:=hpo.1 hf
   obtain ⟨cx,hj⟩:∃ cx:St X,X.seats[j]?=some cx:=by
    have:=hG.len
    have:=(List.getElem?_eq_some_iff.1 hs).1
    exact ⟨X.seats[j]'(by omega),List.getElem?_eq_getElem _⟩
   obtain ⟨ph,hx,_⟩:=hseat cx hj
   replace hx:x=_:=hx
   rw [hx]
  | some d =>
   obtain ⟨e1,e2,nb',pl,s,qs,p⟩:=hpo.2 d hf
   obtain rfl:=p.nb_eq hG e1
   obtain ⟨q,_,n',hx,_⟩:=p.slot j _ hs
   replace hx:x=_:=hx
   rw [hx]
 rcases hfree with ⟨e,rfl⟩ | ⟨O,a,k,rfl⟩
 ·obtain ⟨hfr,⟨c0,cs',qt,hcs,hcm,hq⟩,q,hph,hfin⟩:=e
  subst hcs
  refine ⟨_,_,Cfg.frz1 c hX hG hs (h1:=h) (by rw [hh];exact Frz.refl) (s':=.out 6 23) (.inr rfl) ⟨g,hg,?_⟩ (.inl ⟨rfl,by rw [hh];exact hkn,hdj⟩) (fun cx hj=>?_) (fun m q' hfs=>?_),Falls.set hs trivial⟩
  ·rw [hxwg] at hfr
   subst hfr
   obtain ⟨p1,p2,e1⟩:=hG.wg.ex
   haveI:Go.ConcR.Payload:=⟨0⟩
   have hz:=done_goes H (Wg:=X.wg) hcm hq w ⟨_,_,e1⟩
   rw [← done_enter H] at hz
   exact zg_runs hr hz
  rotate_left
  ·obtain ⟨n',hx,_⟩:=hfs
   replace hx:x=_:=hx
   subst hx
   rcases hph with hph | hph | ⟨hpl,n2,hph⟩
   ·cases hph
   ·cases hph
   ·replace hph:Ph.free q' n'=Ph.free q n2:=hph
    cases hph
    exact ⟨hpl,hfin⟩
  ·obtain ⟨ph,hx,pk⟩:=hseat cx hj
   replace hx:x=_:=hx
   subst hx
   refine ⟨Nat.le_refl _,q,?_,hfin⟩
   generalize cx.st=st at pk
   rcases hph with hph | hph | ⟨_,n2,hph⟩
   rotate_right
   ·replace hph:ph=_:=hph
    rw [hph] at pk
    cases pk
   ·replace hph:ph=_:=hph
    rw [hph] at pk
    cases pk with
    | over hp=>exact .inl ⟨rfl,hp⟩
    | shutO=>exact .inr rfl
   ·replace hph:ph=_:=hph
    rw [hph] at pk
    cases pk with
    | shutC=>exact .inr rfl
 ·obtain ⟨h1,z,q⟩:=a ⟨w,by rw [show h=hp (nb+j+1) from hh];exact c.mem.fits _⟩
  refine ⟨_,_,Cfg.frz1 c hX hG hs (h1:=h1) (by rw [← hh];exact z) (s':=.act ⟨fr,cs,h1,x,k h1 x q⟩) (.inl rfl) ⟨g,hg,.inl hr⟩ ⟨?_,rfl,hdj⟩ (fun cx hj=>?_) (fun m q' hfs=>hfs),Falls.set hs (Relation.TransGen.single (Below.ghost (B:=tHand P cv) (k:=k) h1 x q))⟩
  ·have:Frz (hp (nb+j+1)) h1:=by rw [← hh];exact z
   exact this.kn hkn
  ·obtain ⟨ph,hx,pk⟩:=hseat cx hj
   exact ⟨ph,hx,pk⟩
theorem play_ends (H:WgLib P L) (hi:P.inits.idxOf? f=none) (hQ:∀ v h w',Q v h→After W0 w'→Post v w') :
  ∀ (M:MN P cv L (mEnd P f Q)) (sl:List (Slot P cv L)) (n:Nat) (gs:Array Goroutine) (w:World) (t:Trace) (hp:Nat→Hp) (sc:Option (Nat × Nat)),Cfg W0 gs w t M sl hp→nrun gs=n→EndsW P Post gs w sc t:=by
 intro M
 induction M using (below_wf (P:=P) (B:=mHand P cv L.done L.tWg) (main:=true) (E:=mEnd P f Q)).induction with
 | _ M ihM =>
 intro sl
 induction sl using (Falls.wf (sbel_wf (P:=P) (cv:=cv) (L:=L))).induction with
 | _ sl ihS =>
 intro n
 induction n using Nat.strongRecOn with
 | _ n ihN =>
 intro gs w t hp sc c hn
 -- what falls,ends
 have go:∀ {d:Nat} {sc':Option (Nat × Nat)} {i:Nat},stepT P (crowd gs w sc)=runT P (crowd gs (w.at d) sc') i →
   (∃ gs' w' ops M' sl' hp',runT P (crowd gs (w.at d) sc') i=(.next (crowd gs' w' sc'),ops)∧Cfg W0 gs' w' (t++ops) M' sl' hp'∧Less gs' M' sl' gs M sl)→EndsW P Post gs w sc t:=by
  rintro d sc' i hst ⟨gs',w',ops,M',sl',hp',h1,h2,h3⟩
  refine EndsW.step (hst.trans h1) ?_
  rcases h3 with h3 | ⟨rfl,h3⟩ | ⟨rfl,rfl,h3⟩
  ·exact ihM M' h3 sl' _ gs' w' _ hp' sc' h2 rfl
  ·exact ihS sl' h3 _ gs' w' _ hp' sc' h2 rfl
  ·exact ihN _ (by omega) gs' w' _ hp' sc' h2 rfl
 obtain ⟨i,g,d,sc',hgi,hrun,hst⟩:=crowd_pick (P:=P) (w:=w) (sl:=sc) c.awake c.someone
 have c':=c.at d
 cases i with
 | zero =>
  obtain ⟨g',h0,hm⟩:=c.main
  rw [hgi] at h0;cases h0
  have hr:Runs g M.fr M.cs:=by
   rcases hm with h | ⟨_,_,h,_⟩ | ⟨h,_⟩
   ·exact h
   ·rw [h.status] at hrun;cases hrun
   ·rw [h.status] at hrun;cases hrun
  obtain ⟨fr,cs,h,x,r⟩:=M
  have hfit:Fits h (w.at d):=by
   have:hp 0=h:=c.hp0
   rw [← this];exact c'.mem.fits 0
  cases r with
  | fin e=>exact ends_fin hi hQ c' hgi hr hst
  | priv nx k =>
   obtain ⟨gs',ops,h1,h2⟩:=cfg_priv0 (sc:=sc') c' hgi hr (nx (w.at d) hfit) (k (w.at d) hfit)
   exact go hst ⟨gs',_,ops,_,sl,_,h1,h2,.inl (.priv (w.at d) hfit)⟩
  | act o O at_ ne a k =>
   have a':=a
   obtain ⟨X,hX,ma⟩:=a'
   subst hX
   rcases cfg_book (sc:=sc') c' hgi hr ma with ⟨gs',w',ops,v,h',x',q,h1,h2⟩ | ⟨hp1,hb,hnf⟩ | ⟨hwt,hdf,hnq,hs,hO⟩ | ⟨j,cx,q0,hwt,hdf,had,htk,hj,hst0,hwk,hs,hO⟩
   ·exact go hst ⟨gs',w',ops,_,sl,hp,h1,h2,.inl (.act v h' x' q)⟩
   ·obtain ⟨gs',h1,h2,h3⟩:=cfg_sleep (sc:=sc') c' hgi hr hp1 hb hnf
    exact go hst ⟨gs',_,#[],_,sl,hp,h1,by rw [Array.append_empty];exact h2,.inr (.inr ⟨rfl,rfl,h3⟩)⟩
   ·obtain ⟨gs',ops,h',q,hp',h1,h2⟩:=cfg_acquire (sc:=sc') c' hgi hr hwt hdf hnq hs hO
    exact go hst ⟨gs',_,ops,_,sl,hp',h1,h2,.inl (Below.act (B:=mHand P cv L.done L.tWg) (k:=k) unit h' MX.idle q)⟩
   ·obtain ⟨gs',w',ops,h1,h2⟩:=cfg_shut (sc:=sc') c' hgi hr hwt hdf had htk hj hst0 hwk hs hO
    exact go hst ⟨gs',w',ops,_,sl,hp,h1,h2,.inl (Below.act (B:=mHand P cv L.done L.tWg) (k:=k) unit h _ hO)⟩
  | comm o cases bl sh O at_ rr a k =>
   have a':=a
   obtain ⟨_,X,_,_,hX,_⟩:=a'
   subst hX
   obtain ⟨gs',w',ops,M',sl',hp',h1,h2,h3⟩:=cfg_comm0 (sc:=sc') c' hgi hr
   exact go hst ⟨gs',w',ops,M',sl',hp',h1,h2,h3.imp id fun h=>.inr h⟩
  | spawn o dd O at_ rr a k =>
   have a':=a
   rcases a' with ⟨X,s,says,turn,fin,hc,h',s',q',hX,hrest⟩ | ⟨X,fd,hc,h',q0,hX,hf,hwt,hdf,had,hq,hsp,hd,⟨run⟩,hO⟩
   ·subst hX
    obtain ⟨gs',ops,M',sl',hp',h1,h2,h3⟩:=cfg_spawn (sc:=sc') c' hgi hr ⟨X,s,says,turn,fin,hc,h',s',q',rfl,hrest⟩
    exact go hst ⟨gs',_,ops,M',sl',hp',h1,h2,.inl h3⟩
   ·subst hX
    obtain ⟨gs',ops,M',sl',hp',h1,h2,h3⟩:=cfg_spawnF (sc:=sc') c' hgi hr hf hwt hdf had hq hsp hd run hO
    exact go hst ⟨gs',_,ops,M',sl',hp',h1,h2,.inl h3⟩
  | late b tt ds todo f cap args O e a k =>
   subst e
   have a':=a
   obtain ⟨X,hX,d1,d2,d3⟩:=a'
   subst hX
   obtain ⟨gs',w',ops,h1,h2⟩:=cfg_late (sc:=sc') c' hgi hr d1 d2 d3
   exact go hst ⟨gs',w',ops,_,sl,hp,h1,h2,.inl (Below.late (B:=mHand P cv L.done L.tWg) (k:=k) h _ d3)⟩
  | ghost O a k =>
   have a':=a
   rcases a' ⟨w.at d,hfit⟩ with ⟨h1,z,q⟩ | ⟨hx,gm,wg,s,h1,e0,e1,e2,z,hno,q⟩ | ⟨hx,gm,fd,wg,s,h1,h2,pl,sp,hU,hob,hpw,e0,e1,e2,z,hno,hI,hφ,q⟩
   ·exact ihM _ (.ghost h1 x q) sl _ gs w t _ sc (Cfg.frz0 c z (M':=⟨fr,cs,h1,x,k h1 x q⟩) rfl rfl ⟨g,hgi,.inl hr⟩) rfl
   ·exact ihM _ (.ghost h1 _ q) sl _ gs w t _ sc (Cfg.start c hx e0 e1 e2 z hno ⟨fun _=>rfl,fun d hd=>by cases hd⟩ (M':=⟨fr,cs,h1,_,k h1 _ q⟩) rfl rfl ⟨g,hgi,.inl hr⟩) rfl
   ·exact ihM _ (.ghost h1 _ q) sl _ gs w t _ sc (Cfg.startF c hx sp hU hob hpw e0 e1 e2 z hno hI hφ (M':=⟨fr,cs,h1,_,k h1 _ q⟩) rfl rfl ⟨g,hgi,.inl hr⟩) rfl
 | succ i =>
  have hlt:i<sl.length:=by have:=(Array.getElem?_eq_some_iff.1 hgi).1;have:=c.size;omega
  obtain ⟨s,hs⟩:∃ s,sl[i]?=some s:=⟨sl[i],List.getElem?_eq_getElem hlt⟩
  obtain ⟨g',h1,hsg⟩:=c.thr i s hs
  rw [hgi] at h1;cases h1
  -- in a game,if it isn't one that only leaves
  have ingame:s.stage≠0→∃ X nb j,M.x=.game X∧GameAt X gs w t sl hp nb∧i=nb+j:=by
   intro hne
   have hgame:=c.game
   cases hM:M.x with
   | idle=>rw [hM] at hgame;obtain ⟨m,rfl⟩:=(hgame.old i s hs).out;exact absurd rfl hne
   | game X =>
    rw [hM] at hgame
    obtain ⟨nb,G⟩:=hgame
    refine ⟨X,nb,i-nb,rfl,G,?_⟩
    have hin:nb≤i:=Nat.le_of_not_lt fun hlt=>by obtain ⟨m,rfl⟩:=(G.old i s hlt hs).out;exact hne rfl
    omega
  cases s with
  | out k m =>
   cases k with
   | zero =>
    obtain ⟨gs',ops,m',h1,h2,h3⟩:=cfg_quit (sc:=sc') c' hs hgi hrun
    exact go hst ⟨gs',_,ops,M,_,hp,h1,h3,.inr (.inl ⟨rfl,Falls.set hs (.inr ⟨rfl,h2⟩)⟩)⟩
   | succ k =>
    obtain ⟨X,nb,j,hX,G,rfl⟩:=ingame (by simp [Slot.stage])
    have hg':=c'.game
    rw [hX] at hg'
    obtain ⟨gs',w',ops,k',m',h1,h2,h3⟩:=cfg_out (sc:=sc') c' hX (by
     exact ⟨G.len,G.old,G.seat,G.know,G.chan,G.dist,G.noch,G.nowg,G.wg.at fun a b h=>h.of_heap rfl,G.wgt,G.deaf,G.tok0,G.tok1,G.adp,G.ads,G.adl,G.live,G.park,fun g0 h1 h2 h3=>⟨(G.sleep g0 h1 h2 h3).1,fun h=>(G.sleep g0 h1 h2 h3).2 (h.of_heap rfl)⟩,G.cht⟩:GameAt X gs (w.at d) t sl hp nb) hs hgi
    exact go hst ⟨gs',w',ops,M,_,hp,h1,h3,.inr (.inl ⟨rfl,Falls.set hs h2⟩)⟩
  | act nd =>
   obtain ⟨X,nb,j,hX,G,rfl⟩:=ingame (by simp [Slot.stage])
   have G':GameAt X gs (w.at d) t sl hp nb:=⟨G.len,G.old,G.seat,G.know,G.chan,G.dist,G.noch,G.nowg,G.wg.at fun a b h=>h.of_heap rfl,G.wgt,G.deaf,G.tok0,G.tok1,G.adp,G.ads,G.adl,G.live,G.park,fun g0 h1 h2 h3=>⟨(G.sleep g0 h1 h2 h3).1,fun h=>(G.sleep g0 h1 h2 h3).2 (h.of_heap rfl)⟩,G.cht⟩
   have hr:Runs g nd.fr nd.cs:=by
    rcases hsg with h | ⟨_,_,h,_⟩
    ·exact h
    ·rw [h.status] at hrun;cases hrun
   obtain ⟨fr,cs,h,x,r⟩:=nd
   have hfit:Fits h (w.at d):=by
    have:h=hp (nb+j+1):=(G.know j _ hs).2.1
    rw [this];exact c'.mem.fits _
   cases r with
   | fin e =>
    obtain ⟨sl',hp',h1,h2⟩:=thr_free H (i:=nb+j) c hX G hs hgi hr (.inl ⟨e,rfl⟩)
    exact ihS sl' h2 _ gs w t hp' sc h1 rfl
   | ghost O a k =>
    obtain ⟨sl',hp',h1,h2⟩:=thr_free H (i:=nb+j) c hX G hs hgi hr (.inr ⟨O,a,k,rfl⟩)
    exact ihS sl' h2 _ gs w t hp' sc h1 rfl
   | priv nx k =>
    obtain ⟨gs',ops,h1,h2⟩:=cfg_priv1 (sc:=sc') c' hs hgi hr (nx (w.at d) hfit) (k (w.at d) hfit)
    exact go hst ⟨gs',_,ops,M,_,_,h1,h2,.inr (.inl ⟨rfl,Falls.set hs (Relation.TransGen.single (.priv (w.at d) hfit))⟩)⟩
   | act o O at_ ne a k =>
    obtain ⟨gs',w',ops,v,x',q,h1,h2⟩:=cfg_free (sc:=sc') c' hX G' hs hgi hr
    exact go hst ⟨gs',w',ops,M,_,hp,h1,h2,.inr (.inl ⟨rfl,Falls.set hs (Relation.TransGen.single (Below.act (B:=tHand P cv) (k:=k) v h x' q))⟩)⟩
   | comm o cases bl sh O at_ rr a k=>exact go hst (cfg_comm1 (sc:=sc') c' hX G' hs hgi hr)
   | spawn o dd O at_ rr a k=>exact a.elim
   | late b tt ds todo f cap args O e a k=>exact a.elim
theorem good_of_play {args:Array Value} {R:Value→List HProp→MX→Prop} (H:WgLib P L) (hi:P.inits.idxOf? f=none)
  (tr:Tr P (mHand P cv L.done L.tWg) f args.toList [base W0] .idle R) (hx:∀ v L' x',R v L' x'→x'=.idle) (hR:∀ v L' w',R v L' .idle→After W0 w'→Post v w') :
  ∃ M last o w' t',runNT P (M+1) (solo (G (Frame.enter P f args .normal) []) W0) #[]=(.ended o w',t')∧runN P M (solo (G (Frame.enter P f args .normal) []) W0)=.next last ∧
    step P last=.ended o w'∧Conc.Good P Post last o w' t':=by
 let Q:Value→Hp→Prop:=fun v h=>∃ L',R v L' .idle∧Star L' h
 have hst:Star [base W0] (start W0):=⟨start W0,Hp.empty,
  ⟨fun _ _ _ e=>e,fun _ _ _ e=>(by cases e),fun _ _ _ e=>e,fun _ _ _ e=>(by cases e),fun _ _=>.inl rfl,fun _ _ e=>e,fun _ _ e=>(by cases e),fun _=>.inl rfl,fun _ _ e=>e,fun _ _ e=>(by cases e)⟩,fun _ _ _ e=>e,trivial⟩
 have key:Nonempty (Run P (mHand P cv L.done L.tWg) true (mEnd P f Q) (Frame.enter P f args .normal) [] (start W0) .idle) :=
  tr (start W0) .run (fun e _ h' x'=>∃ v,e=.ret v∧x'=.idle∧Q v h') hst (fun v L' x' h' r s=>by obtain rfl:=hx _ _ _ r;exact ⟨v,rfl,rfl,L',r,s⟩) (fun _ _ _ h=>h.elim)
   true _ run_closed [] (fun h=>by cases h) (by
    rintro fr e um' h' x' ha ⟨v,rfl,rfl,hq⟩
    exact ⟨.fin ⟨rfl,rfl,v,ha,hq⟩⟩)
 obtain ⟨run⟩:=key
 have hempty:∀ i,0<i→put (fun _=>Hp.empty) 0 (start W0) i=Hp.empty:=fun i hi=>put_ne (by omega)
 have c:Cfg W0 #[G (Frame.enter P f args .normal) []] W0 #[] (⟨_,_,_,_,run⟩:MN P cv L (mEnd P f Q)) [] (put (fun _=>Hp.empty) 0 (start W0)):=by
  refine ⟨rfl,⟨_,rfl,.inl runs_G⟩,fun i s hi=>by simp at hi,⟨fun i=>?_,fun i j hij=>?_,fun said=>?_,fun i a ha=>?_,fun op ho=>by simp at ho⟩,⟨⟨Go.RowKit.Below.refl _ _,fun _=>rfl⟩,fun i b o v e=>?_,fun i b v e=>?_,trivial⟩,put_self,fun i hi=>hempty i (by simpa using hi),fun i op hi=>by simp at hi,⟨fun b o v e i a ha=>?_,fun b o v e i a ha=>?_,fun b v e i a ha=>?_⟩,⟨fun i s hi=>by simp at hi,rfl,fun g0 h0 hb=>?_⟩,trivial⟩
  ·by_cases h:i=0
   ·subst h;rw [put_self];exact fits_start W0
   ·rw [put_ne h];exact fits_empty
  ·by_cases h:i=0
   ·rw [put_ne (show j≠0 from fun e=>hij (h.trans e.symm))];exact sep_empty.symm
   ·rw [put_ne h];exact sep_empty
  ·rintro ⟨i,j,_,⟨a,b,ha,_⟩,_⟩
   simp [Trace.act?] at ha
  ·simp [touchAt,Trace.act?] at ha
  ·by_cases h:i=0
   ·subst h;rw [put_self] at e;cases e
   ·rw [put_ne h] at e;cases e
  ·by_cases h:i=0
   ·subst h;rw [put_self] at e;cases e
   ·rw [put_ne h] at e;cases e
  ·simp [touchAt,Trace.act?] at ha
  ·simp [touchAt,Trace.act?] at ha
  ·simp [touchAt,Trace.act?] at ha
  ·simp at h0;subst h0;cases hb
 have:=play_ends (Post:=Post) H hi (fun v h w' ⟨L',r,_⟩ ha=>hR v L' w' r ha) _ [] _ _ W0 #[] _ none c rfl
 exact this
end Go.PB
namespace Go.Proofs
section
abbrev Try.link:Go.Conc.Lib.WgLink:={ add:=52,done:=54,wait:=49,relMerge:=75,disable:=65,enable:=67,inBubble:=73,associate:=76,fatal:=77,uOr:=78,uAdd:=79,raceRead:=80,uLoad:=66,uStore:=81,disassociate:=71,semrelease:=82,acquire:=68,isAssociated:=69,uCas:=70,raceWrite:=72,semacquire:=74,orU64:=88,addU64:=89,loadU64:=86,storeU64:=90,casU64:=87,tWgP:=99,tUP:=113,tAssoc:=119,tWg:=87,tAU:=84,tU64:=82,tUint:=111,tU32:=85,tPU32:=117,tPAU:=129,tPU64:=131,tNoCopy:=79,tANoCopy:=80,tAlign64:=81 }
theorem Try.wgLib:Go.Conc.Lib.WgLib Try.prog Try.link :=
 ⟨Try.func52,Try.func54,Try.func49,Try.func75,Try.func65,Try.func67,Try.func73,Try.func76,Try.func77,Try.func78,Try.func79,Try.func80,Try.func66,Try.func81,Try.func71,Try.func82,Try.func68,Try.func69,Try.func70,Try.func72,Try.func74,Try.func88,Try.func89,Try.func86,Try.func90,Try.func87,Try.underlying99,Try.runUnderlying99,Try.sizeOf99,Try.isAgg99,Try.zeroValue99,Try.underlying113,Try.runUnderlying113,Try.sizeOf113,Try.isAgg113,Try.zeroValue113,Try.underlying119,Try.runUnderlying119,Try.sizeOf119,Try.isAgg119,Try.zeroValue119,Try.underlying87,Try.runUnderlying87,Try.sizeOf87,Try.isAgg87,Try.zeroValue87,Try.underlying84,Try.runUnderlying84,Try.sizeOf84,Try.isAgg84,Try.zeroValue84,Try.underlying82,Try.runUnderlying82,Try.sizeOf82,Try.isAgg82,Try.zeroValue82,Try.underlying111,Try.runUnderlying111,Try.sizeOf111,Try.isAgg111,Try.zeroValue111,Try.underlying85,Try.runUnderlying85,Try.sizeOf85,Try.isAgg85,Try.zeroValue85,Try.underlying117,Try.runUnderlying117,Try.sizeOf117,Try.isAgg117,Try.zeroValue117,Try.underlying129,Try.runUnderlying129,Try.sizeOf129,Try.isAgg129,Try.zeroValue129,Try.underlying131,Try.runUnderlying131,Try.sizeOf131,Try.isAgg131,Try.zeroValue131,Try.underlying0,Try.runUnderlying0,Try.sizeOf0,Try.isAgg0,Try.zeroValue0,Try.underlying3,Try.runUnderlying3,Try.sizeOf3,Try.isAgg3,Try.zeroValue3,Try.underlying4,Try.runUnderlying4,Try.sizeOf4,Try.isAgg4,Try.zeroValue4,Try.underlying9,Try.runUnderlying9,Try.sizeOf9,Try.isAgg9,Try.zeroValue9,Try.underlying20,Try.runUnderlying20,Try.sizeOf20,Try.isAgg20,Try.zeroValue20,Try.underlying21,Try.runUnderlying21,Try.sizeOf21,Try.isAgg21,Try.zeroValue21,(by kernel_rfl),(by kernel_rfl)⟩
end
end Go.Proofs
namespace Go.Proofs.Ytabbkjciifnehaa
open Go Go.PB Go.ChangeShapes Go.WideShapes Go.RowKit
section
theorem own:ownKnob Try.prog.godebug=none:=by kernel_rfl
theorem laidOut:laidOutB Try.prog=true:=by kernel_rfl
theorem opens_ints:Opens Try.prog 22 (shSlice shI64):=opens_slice Try.underlying22 (by kernel_rfl) (opens_i64 (by kernel_rfl) (by kernel_rfl)) (by decide)
theorem ints_at {W:World} {v:Value} {l:List Int} (h:(shSlice shI64).rel W [v] l):∃ a cap,v=.slice a l.length cap∧RdsO [base W] a l.length (ints l)∧(∀ v∈l,-9223372036854775808≤v∧v≤9223372036854775807)∧l.length≤cap∧cap≤maxLen:=by
 obtain ⟨p,cap,h1,h3,h4,h2⟩:=h
 cases h1
 have key:∀ i y,l[i]?=some y→(∃ b o,p=some ⟨b,o,none⟩∧Rd [base W] b (o+i) (.int .i64 y))∧(-9223372036854775808≤y∧y≤9223372036854775807):=by
  intro i y hy
  obtain ⟨b,o,vs,rfl,h5,h6,h7,h8,h9⟩:=h2 i y hy
  rw [h7] at h6
  have c0:=h6 0 _ rfl
  simp only [shI64,Nat.mul_one,Nat.add_zero] at c0
  exact ⟨⟨b,o,rfl,Rd.base c0⟩,h8,h9⟩
 refine ⟨p,cap,rfl,⟨by simp,?_⟩,fun v hv=>?_,h3,h4⟩
 ·by_cases h0:0<l.length
  ·obtain ⟨⟨b,o,rfl,_⟩,_⟩:=key 0 l[0] (List.getElem?_eq_getElem h0)
   refine .inr ⟨b,o,rfl,fun i v hi=>?_⟩
   rw [List.getElem?_map] at hi
   cases hy:l[i]? with
   | none=>rw [hy] at hi;cases hi
   | some y =>
    rw [hy] at hi;cases hi
    obtain ⟨⟨b2,o2,e,r⟩,_⟩:=key i y hy
    cases e;exact r
  ·exact .inl (by omega)
 ·obtain ⟨i,hi⟩:=List.mem_iff_getElem?.1 hv
  exact (key i v hi).2
theorem opens_bools:Opens Try.prog 51 (shSlice shBool):=opens_slice Try.underlying51 (by kernel_rfl) (opens_bool (by kernel_rfl) (by kernel_rfl)) (by decide)
theorem bools_at {W:World} {v:Value} {l:List Bool} (h:(shSlice shBool).rel W [v] l):∃ a cap,v=.slice a l.length cap∧RdsO [base W] a l.length (boolsC l)∧l.length≤9223372036854775807:=by
 obtain ⟨p,cap,h1,h3,h4,h2⟩:=h
 cases h1
 have key:∀ i y,l[i]?=some y→∃ b o,p=some ⟨b,o,none⟩∧Rd [base W] b (o+i) (.bool y):=by
  intro i y hy
  obtain ⟨b,o,vs,rfl,h5,h6,h7⟩:=h2 i y hy
  replace h7:vs=[.bool y]:=h7
  rw [h7] at h6
  have c0:=h6 0 _ rfl
  simp only [shBool,Nat.mul_one,Nat.add_zero] at c0
  exact ⟨b,o,rfl,Rd.base c0⟩
 refine ⟨p,cap,rfl,⟨by simp [boolsC],?_⟩,by unfold maxLen at h4;omega⟩
 by_cases h0:0<l.length
 ·obtain ⟨b,o,rfl,_⟩:=key 0 l[0] (List.getElem?_eq_getElem h0)
  refine .inr ⟨b,o,rfl,fun i v hi=>?_⟩
  unfold boolsC at hi;rw [List.getElem?_map] at hi
  cases hy:l[i]? with
  | none=>rw [hy] at hi;cases hi
  | some y =>
   rw [hy] at hi;cases hi
   obtain ⟨b2,o2,e,r⟩:=key i y hy
   cases e;exact r
 ·exact .inl (by omega)
set_option maxRecDepth 100000 in
theorem turnCut_lifted (os:Os) (started:os.Started) (H:Type) (enc:TypeId × Value→H) :
  ReturnsInLeavingWide {} Try.checked os 4 .any (Rows.turnCutSpec.pre6 enc Try.prog Try.f4 Rows.turnCutRow.domain false) (Rows.turnCutSpec.post enc Try.prog Try.f4 false true false false):=by
 refine returnsInLeavingWide_of_change_sized (C:=Try.checked) own started Try.func4
  (ChangeSpec.witness6 (enc:=enc) (C:=Try.checked) false ⟨#[],#[.slice none 0 0,.slice none 0 0],[]⟩ 8 (by kernel_rfl) (by kernel_rfl) (by kernel_rfl) (by kernel_rfl)) ?_
 intro W base args ds gs before hval0 hW hcnd hsz _
 have hval:∀ (j:Nat) t v,Try.f4.params[j]?=some t→args[j]?=some v→Value.okWide Try.prog W .any base t v:=hval0
 have hW':=hW
 obtain ⟨p,q,hA0,hV,rfl,hfz,hnd⟩:=hW
 have hA:DataW.TrodAll enc Try.prog W 0 (fun _=>true) true Try.f4.params.toList args.toList ds p:=hA0
 rw [Try.params4] at hA hval
 obtain ⟨v0,v1,d0,d1,p0,p1,rfl,rfl,rfl,h0,h1⟩:=trodAll_two hA
 obtain ⟨a0,l0,c0,rfl⟩:=okWide_slice Try.underlying22 (hval 0 _ v0 rfl rfl)
 obtain ⟨a1,l1,c1,rfl⟩:=okWide_slice Try.underlying51 (hval 1 _ v1 rfl rfl)
 obtain ⟨x0,e0⟩:=arg_one opens_ints h0
 obtain ⟨b0,k0,e0,s0⟩:=ints_at e0
 cases e0
 obtain ⟨x1,e1⟩:=arg_one opens_bools h1
 obtain ⟨b1,k1,e1,s1⟩:=bools_at e1
 cases e1
 refine good_of_play (cv:=cvT) (L:=Try.link) Try.wgLib (by kernel_rfl) (tCut_tr s0.1 (by have:=s0.2.2;unfold maxLen at this;omega) s0.2.2.1 s1.1 s1.2) (fun v L' x' h=>h.2) fun v L' w' hv ha=>?_
 obtain ⟨rfl,-⟩:=hv
 exact post_true laidOut (of_decide_eq_true (by kernel_rfl)) rfl (by kernel_rfl) rfl (fun ds hd=>by match ds,hd with | [_,_],_=>rfl) hW' ha
theorem turnCut:Rows.TurnCutSaid :=
 OpenClaim.holds_of_wide_leaving 4 Try.f4 rfl rfl rfl rfl rfl rfl rfl ⟨rfl,rfl,rfl,rfl,rfl⟩ rfl rfl rfl rfl rfl (by kernel_rfl) Try.func4 (by kernel_rfl)
  (of_decide_eq_true (by kernel_rfl)) (by unfold Func.isWrapper;first | (rw [if_pos (by decide +kernel)];kernel_rfl) | (rw [if_neg (by decide +kernel)];exact ⟨rfl,rfl⟩))
  (fun os started H enc _=>turnCut_lifted os started H enc)
end
end Go.Proofs.Ytabbkjciifnehaa
