/-
  patchbaylaw23: what the row asks: MirrorPlays is true of every input; the input reads as it did.
-/
import Derived.Test.YtmkkanmkjfnpdaaMq8
import Derived.Test.YtmkkanmkjfnpdaaMq7
import Derived.Listen
import Derived.Leaving
import Derived.Test.YtmkkanmkjfnpdaaChecked
import Derived.Conc.WgLib
import Derived.KernelRfl
import Derived.Test.YtmkkanmkjfnpdaaMq3
import Derived.Test.YtmkkanmkjfnpdaaRows
set_option linter.unusedVariables false
set_option linter.unusedSimpArgs false
namespace Go.PB
open Go.Conc Go.Conc.Lib
open Go.ConcR (KK stA smA rd wr mk DC0)
variable {W0:World} {P:Program} {cv:Value} {L:WgLink} {Em:Frame→List Frame→Hp→MX→Prop}
theorem seat_run {X:GX} {cx:St X} {h:Hp} {s:Slot P cv L} (k:SeatAt X cx h s) {s0:X.g.σ} {q0:X.g.θ} (h0:cx.st=.run s0 q0):∃ n,s=.act n∧∃ m,n.x=⟨X.g,cx.says,cx.turn,cx.fin,X.wg,.busy s0 q0 m⟩∧X.left≤m:=by
 cases s with
 | act n =>
  obtain ⟨ph,e,p⟩:=k
  rw [h0] at p
  cases p with
  | run h1=>exact ⟨n,rfl,_,e,h1⟩
 | out a b =>
  obtain ⟨_,q,h1 | h1,_⟩:=k
  ·rw [h0] at h1;exact absurd h1.1 (by simp)
  ·rw [h0] at h1;cases h1
theorem seat_said {X:GX} {cx:St X} {h:Hp} {s:Slot P cv L} (k:SeatAt X cx h s) {q0:X.g.θ} (h0:cx.st=.said q0) (hp:(X.g.plan q0).isSome=true):∃ n,s=.act n∧∃ m,n.x=⟨X.g,cx.says,cx.turn,cx.fin,X.wg,.said q0 m⟩∧X.left≤m:=by
 cases s with
 | act n =>
  obtain ⟨ph,e,p⟩:=k
  rw [h0] at p
  cases p with
  | said h1 h2=>exact ⟨n,rfl,_,e,h1⟩
  | over h1=>rw [h1] at hp;cases hp
 | out a b =>
  obtain ⟨_,q,⟨h1,h2⟩ | h1,_⟩:=k
  ·rw [h0] at h1;cases h1
   rw [h2] at hp;cases hp
  ·rw [h0] at h1;cases h1
section
variable {gs:Array Goroutine} {w:World} {t:Trace} {sl:List (Slot P cv L)} {hp:Nat→Hp} {g:Goroutine} {sc:Option (Nat × Nat)}
 {fr:Frame} {cs:List Frame} {h:Hp} {X:GX} {o:Oper} {cases:Array CommCase} {bl:Bool} {sh:CommShape} {O:Value→Hp→MX→Prop} {at_:AtOp fr o} {rr:∀ w,Fits h w→(execOp fr.eval o).runT P w #[]=(.ok (.comm cases bl sh) w,#[])}
 {a:(mHand P cv L.done L.tWg).comm cases bl sh h (.game X) O} {k:∀ v h' x',O v h' x'→Run P (mHand P cv L.done L.tWg) true Em (fr.finish v) cs h' x'}
theorem cfg_comm0 {rr:∀ w,Fits h w→(execOp fr.eval o).runT P w #[]=(.ok (.comm cases true sh) w,#[])} {a:(mHand P cv L.done L.tWg).comm cases true sh h (.game X) O} (c:Cfg W0 gs w t (⟨fr,cs,h,.game X,.comm o cases true sh O at_ rr a k⟩:MN P cv L Em) sl hp) (hg:gs[0]?=some g) (hr:Runs g fr cs) :
  ∃ gs' w' ops M' sl' hp',runT P (crowd gs w sc) 0=(.next (crowd gs' w' sc),ops)∧Cfg W0 gs' w' (t++ops) M' sl' hp' ∧
   (Below M' (⟨fr,cs,h,.game X,.comm o cases true sh O at_ rr a k⟩:MN P cv L Em)∨(M'=⟨fr,cs,h,.game X,.comm o cases true sh O at_ rr a k⟩∧sl'=sl∧nrun gs'<nrun gs)):=by
 obtain ⟨nb,hG⟩:∃ nb,GameAt X gs w t sl hp nb:=c.game
 have hh:hp 0=h:=c.hp0
 have hfit:Fits h w:=by rw [← hh];exact c.mem.fits 0
 have hsz:0<gs.size:=by have:=c.size;omega
 obtain ⟨_,j,cx,hwt,hdf,hj,hcase⟩:=main_comm a
 have hstep:stepG P ((0:Nat) == 0) g w=.comm (G fr cs) cases true sh w #[]:=by rw [hr.step];exact step_comm at_ (rr w hfit)
 obtain ⟨s0,hs0,hseat⟩:=hG.seat j cx hj
 obtain ⟨gj,hgj,hsj⟩:=c.thr _ _ hs0
 replace hsj:SlotG w X.wg (Deaf t (nb+j+1)) gj s0:=hsj
 have hIlt:nb+j+1<gs.size:=(Array.getElem?_eq_some_iff.1 hgj).1
 -- it waits
 have wait:∀ {c0:Nat} {b:Bool} {cc:CommCase},c0<3→cases=#[cc]→((∃ z,cases=#[rcase cx.says z])∨(∃ v z,cases=#[scase cx.turn v z]))→(partners (gs.setIfInBounds 0 ph) (cx.ch c0) b=[]→NoWays w (gs.setIfInBounds 0 ph) cc)→((c0=0∧b=true)∨(c0=1∧b=false)) →
   gj.status≠.blocked →
   ∃ gs' w' ops M' sl' hp',runT P (crowd gs w sc) 0=(.next (crowd gs' w' sc),ops)∧Cfg W0 gs' w' (t++ops) M' sl' hp' ∧
   (Below M' (⟨fr,cs,h,.game X,.comm o cases true sh O at_ rr a k⟩:MN P cv L Em)∨(M'=⟨fr,cs,h,.game X,.comm o cases true sh O at_ rr a k⟩∧sl'=sl∧nrun gs'<nrun gs)):=by
  intro c0 b cc hc0 hcc hform hnw hcb hnb
  have hp1:partners (gs.setIfInBounds 0 ph) (cx.ch c0) b=[]:=stand_nil c rfl hG hj hc0 (fun h=>absurd rfl h) fun _ _ g hg=>by
   rw [hgj] at hg;cases hg
   exact offersAt_of_not_blocked hnb _ _
  have hw:=crowd_waits (sl:=sc) hg hstep (fun c' hc'=>by rw [hcc] at hc';simp at hc';subst hc';exact hnw hp1)
  refine ⟨_,_,_,_,sl,hp,hw,?_,.inr ⟨rfl,rfl,nrun_set hg hr.status rfl⟩⟩
  rw [ofEvents_none,Array.append_empty]
  refine Cfg.stall0 c rfl hG (gp:=parked (G fr cs) cases sh) (.inr (.inl ⟨cases,sh,⟨rfl,rfl,rfl,rfl,rfl⟩,fr,cs,h,.game X,o,O,at_,rr,a,k,rfl⟩)) rfl hj hwt hform (fun g hg=>by rw [hgj] at hg;cases hg;exact hnb)
 rcases hcase with ⟨z,s,q,hcs,rfl,hst,htk,hO⟩ | ⟨z,q,m,f,s,l,h',r,hcs,rfl,hst,hpl,htk,hlf,had,hsp,hU,hO⟩
 ·-- it would hear what the thread says
  obtain ⟨n,rfl,m,hnx,hlm⟩:=seat_run hseat hst
  obtain ⟨kc,hch⟩:=hG.chan j cx hj 0 (by omega)
  replace hch:w.heap[cx.says]?=some (.chan 0 #[] false kc kc false):=hch
  rcases hsj with hrun | ⟨cases',sh',hpk,hn⟩
  ·exact wait (c0:=0) (b:=true) (by omega) hcs (.inl ⟨z,hcs⟩) (fun hp1=>ways_recv_none hch hp1) (.inl ⟨rfl,rfl⟩) (by rw [hrun.status];simp)
  ·obtain ⟨fr',cs',hh',x',o',O',at',rr',a',k',rfl⟩:=hn
   obtain ⟨_,rfl,⟨s1,q1,n1,z1,z2,h1,r,hst1,hln,rfl,hsp,hU,hO'⟩ | ⟨q1,n1,m1,f1,z1,z2,hst1,_⟩⟩:=thr_comm hseat
   ·rw [hst] at hst1;cases hst1
    have hgp:gs[nb+j+1]?=some (parked (G fr' cs') #[scase cx.says (X.g.says q) z1,rcase cx.fin z2] .select):=by rw [hgj,hpk.eq]
    have hoff:partners (gs.setIfInBounds 0 ph) cx.says true=[(nb+j+1,0)]:=by
     have:=stand_thr c rfl hG hj (a:=0) (b:=true) (i:=0) (by omega) (by omega) hgj (.inl ⟨rfl,rfl⟩)
     rw [hpk.eq,offers_sr] at this
     simpa [Seat.ch] using this
    have hhp:hp (nb+j+1)=hh':=(hG.know j _ hs0).2.1.symm
    have hspl:Split (hp (nb+j+1)) h1 r:=by rw [hhp];exact hsp
    have hsep:Sep (hp 0) r:=(hspl.frz2.sep (c.mem.sep (nb+j+1) 0 (by omega))).symm
    have hspl0:Split ((hp 0).join r) h r:=by rw [← hh];exact split_join (c.mem.fits 0) (hspl.frz2.fits (c.mem.fits _)) hsep
    have hOm:=hO r ((hp 0).join r) hU hspl0
    have hrunT:=crowd_recv_meets_sel (sl:=sc) (k:=0) (v:=X.g.says q) (zj:=z1) hg (by rw [hcs] at hstep;exact hstep) hch (by omega) hgp rfl hoff
    rw [ofEvents_none] at hrunT
    refine ⟨_,_,_,⟨fr.finish (X.g.says q),cs,(hp 0).join r,_,k _ _ _ hOm⟩,sl.set (nb+j) (.act ⟨fr'.finish (.tuple #[goInt 0,.bool false,z2]),cs',h1,_,k' _ _ _ hO'⟩),give hp (nb+j+1) 0 h1 r,hrunT,?_,.inl (.comm _ _ _ hOm)⟩
    have e:∀ u:Trace,#[]++u=u:=fun u=>by simp
    rw [e]
    refine Cfg.met (c0:=0) (kc:=kc) (ha:=h1) (r:=r) (a:=nb+j+1) (b:=0) (st':=.said q) (tk:=some s) (lf:=X.left) (ph':=X.g.next q n1) c rfl hG hj hs0 (.inr ⟨rfl,rfl⟩) (by simp) ⟨_,by rw [Array.getElem?_setIfInBounds_self_of_lt (by simpa using hsz)],⟨rfl,rfl,rfl,rfl⟩⟩
     ⟨_,by rw [Array.getElem?_setIfInBounds_ne (by omega),Array.getElem?_setIfInBounds_self_of_lt hIlt],⟨congrArg fr'.finish res_says,rfl,rfl,rfl⟩⟩
     (fun i h1 h2=>by rw [Array.getElem?_setIfInBounds_ne fun e=>h1 e.symm,Array.getElem?_setIfInBounds_ne fun e=>h2 e.symm]) (by omega) hch rfl ⟨rfl,rfl,rfl⟩ hspl rfl ?_ ?_ rfl (by rw [hst];rfl) rfl ?_ (Nat.le_refl _) (fun h=>by cases h) (fun _=>rfl) ?_ hwt ?_ hdf
    ·rw [give_b]
    ·rw [give_a (by omega)]
    ·unfold Game.next
     cases hq:X.g.plan q with
     | none=>exact .over hq
     | some y=>exact .said hln (by rw [hq];rfl)
    ·obtain ⟨j1,c1,e1,e2,e3⟩:=hG.tok0 htk
     intro j' c' hj' hne
     by_cases e:j'=j1
     ·subst e
      exfalso
      have:=e3 j cx hj fun e=>hne e.symm
      rw [hst] at this;cases this
     ·exact e3 j' c' hj' e
    ·rcases hG.adp hwt with h | ⟨_,h⟩
     ·rw [(c.turns rfl hj).2] at h;exact h
     ·rw [htk] at h;cases h
   ·rw [hst] at hst1;rcases hst1 with h | h <;> cases h
 ·-- it would let the thread have a turn
  obtain ⟨n,rfl,m',hnx,hlm⟩:=seat_said hseat hst (by rw [hpl];rfl)
  obtain ⟨kc,hch⟩:=hG.chan j cx hj 1 (by omega)
  replace hch:w.heap[cx.turn]?=some (.chan 0 #[] false kc kc false):=hch
  rcases hsj with hrun | ⟨cases',sh',hpk,hn⟩
  ·exact wait (c0:=1) (b:=false) (by omega) hcs (.inr ⟨_,z,hcs⟩) (fun hp1=>ways_send_none hch (Nat.zero_le _) hp1) (.inr ⟨rfl,rfl⟩) (by rw [hrun.status];simp)
  ·obtain ⟨fr',cs',hh',x',o',O',at',rr',a',k',rfl⟩:=hn
   obtain ⟨_,rfl,⟨s1,q1,n1,z1,z2,h1,r,hst1,_⟩ | ⟨q1,n1,m1,f1,z1,z2,hst1,hln,hpl1,rfl,hO',_⟩⟩:=thr_comm hseat
   ·rw [hst] at hst1;cases hst1
   ·have hq1:q1=q:=by
     rcases hst1 with h | h
     ·rw [hst] at h;cases h;rfl
     ·rw [hst] at h;cases h
    subst hq1
    rw [hpl] at hpl1;cases hpl1
    have hln:=hln hst
    obtain ⟨n',rfl⟩:∃ n',n1=n'+1:=⟨n1-1,by omega⟩
    have hgp:gs[nb+j+1]?=some (parked (G fr' cs') #[rcase cx.turn z1,rcase cx.fin z2] .select):=by rw [hgj,hpk.eq]
    have hdist:cx.turn≠cx.fin:=fun e=>by have:=(hG.dist j j cx cx 1 2 hj hj (by omega) (by omega) e).2;omega
    have hoff:partners (gs.setIfInBounds 0 ph) cx.turn false=[(nb+j+1,0)]:=by
     have:=stand_thr c rfl hG hj (a:=1) (b:=false) (i:=0) (by omega) (by omega) hgj (.inr ⟨rfl,rfl⟩)
     rw [hpk.eq,offers_rr] at this
     simpa [Seat.ch,hdist.symm] using this
    have hhp:hp (nb+j+1)=hh':=(hG.know j _ hs0).2.1.symm
    have hspl:Split (hp 0) h' r:=by rw [hh];exact hsp
    have hsep:Sep (hp (nb+j+1)) r:=(hspl.frz2.sep (c.mem.sep 0 (nb+j+1) (by omega))).symm
    have hspl1:Split ((hp (nb+j+1)).join r) hh' r:=by rw [← hhp];exact split_join (c.mem.fits _) (hspl.frz2.fits (c.mem.fits _)) hsep
    have hOt:=hO' n' s r ((hp (nb+j+1)).join r) rfl hU hspl1
    have hrunT:=crowd_send_meets_sel (sl:=sc) (k:=0) (v:=.agg #[]) (zj:=z1) hg (by rw [hcs] at hstep;exact hstep) hch (by omega) hgp rfl hoff
    rw [ofEvents_none] at hrunT
    refine ⟨_,_,_,⟨fr.finish undef,cs,h',_,k _ _ _ hO⟩,sl.set (nb+j) (.act ⟨fr'.finish (.tuple #[goInt 0,.bool true,.agg #[],z2]),cs',(hp (nb+j+1)).join r,_,k' _ _ _ hOt⟩),give hp 0 (nb+j+1) h' r,hrunT,?_,.inl (.comm _ _ _ hO)⟩
    have e:∀ u:Trace,#[]++u=u:=fun u=>by simp
    rw [e]
    refine Cfg.met (c0:=1) (kc:=kc) (ha:=h') (r:=r) (a:=0) (b:=nb+j+1) (st':=.run (f s).1 (f s).2) (tk:=none) (lf:=l) (ph':=.busy (f s).1 (f s).2 n') c rfl hG hj hs0 (.inl ⟨rfl,rfl⟩) (by simp) ⟨_,by rw [Array.getElem?_setIfInBounds_self_of_lt (by simpa using hsz)],⟨rfl,rfl,rfl,rfl⟩⟩
     ⟨_,by rw [Array.getElem?_setIfInBounds_ne (by omega),Array.getElem?_setIfInBounds_self_of_lt hIlt],⟨congrArg fr'.finish res_turn,rfl,rfl,rfl⟩⟩
     (fun i h1 h2=>by rw [Array.getElem?_setIfInBounds_ne fun e=>h1 e.symm,Array.getElem?_setIfInBounds_ne fun e=>h2 e.symm]) (by omega) hch rfl ⟨rfl,rfl,rfl⟩ hspl rfl ?_ ?_ rfl (by rw [hst];rfl) rfl (.run (by omega)) (by omega) (fun _=>rfl) (fun h=>by cases h) ?_ hwt had hdf
    ·rw [give_a (by omega)]
    ·rw [give_b]
    ·intro j' c' hj' _
     exact hG.tok1 (by rw [htk];rfl) j' c' hj'
end
end Go.PB
namespace Go.PB
open Go.Conc Go.Conc.Lib
open Go.ConcR (KK stA smA rd wr mk DC0)
variable {W0:World} {P:Program} {cv:Value} {L:WgLink} {Em:Frame→List Frame→Hp→MX→Prop}
def Less (gs':Array Goroutine) (M':MN P cv L Em) (sl':List (Slot P cv L)) (gs:Array Goroutine) (M:MN P cv L Em) (sl:List (Slot P cv L)):Prop :=
 Below M' M∨(M'=M∧Falls SBel sl' sl)∨(M'=M∧sl'=sl∧nrun gs'<nrun gs)
theorem gs_set {i:Nat} {gs:Array Goroutine} {g':Goroutine} (h:i<gs.size):Gs P i gs (gs.setIfInBounds i g') g' where
 size:=by simp
 self:=Array.getElem?_setIfInBounds_self_of_lt h
 other:=fun k g hk hg=>⟨default,{ (default:Goroutine) with status:=.blocked },default,by
  rw [Array.getElem?_setIfInBounds_ne fun e=>hk e.symm,hg]
  unfold woken
  simp⟩
 back:=fun k g hk hg _=>by rw [Array.getElem?_setIfInBounds_ne fun e=>hk e.symm] at hg;exact hg
section
variable {gs:Array Goroutine} {w:World} {t:Trace} {M:MN P cv L Em} {sl:List (Slot P cv L)} {hp:Nat→Hp} {g:Goroutine} {sc:Option (Nat × Nat)} {X:GX} {nb j:Nat}
 {fr:Frame} {cs:List Frame} {h:Hp} {x:TX} {o:Oper} {cases:Array CommCase} {bl:Bool} {sh:CommShape} {O:Value→Hp→TX→Prop} {at_:AtOp fr o} {rr:∀ w,Fits h w→(execOp fr.eval o).runT P w #[]=(.ok (.comm cases bl sh) w,#[])}
 {k:∀ v h' x',O v h' x'→Run P (tHand P cv) false (tEnd P L.done) (fr.finish v) cs h' x'}
section
variable {rr:∀ w,Fits h w→(execOp fr.eval o).runT P w #[]=(.ok (.comm cases true sh) w,#[])} {a:(tHand P cv).comm cases true sh h x O}
theorem Cfg.comm_turns (c:Cfg W0 gs w t M sl hp) (hX:M.x=.game X) (hG:GameAt X gs w t sl hp nb) (hs:sl[nb+j]?=some (.act ⟨fr,cs,h,x,.comm o cases true sh O at_ rr a k⟩)):X.free=none∧X.nf=0:=by
 have hpo:=c.pool
 rw [hX] at hpo
 cases hf:X.free with
 | none=>exact ⟨rfl,hpo.1 hf⟩
 | some d =>
  obtain ⟨e1,e2,nb',pl,s,qs,p⟩:=hpo.2 d hf
  have hnb:nb'=nb:=by
   have h1:=p.len
   have h2:=hG.len
   rw [e1] at h2
   simp at h2;omega
  subst hnb
  obtain ⟨q,h1,n',h2,h3⟩:=p.slot j _ hs
  replace h2:x=_:=h2
  subst h2
  rcases a with ⟨_,_,h4 | h4⟩ | a | a
  rotate_right 2
  ·cases a.1
  ·cases a.1
  ·obtain ⟨s,q,n,z1,z2,h',r,e,_⟩:=h4;cases e
  ·obtain ⟨q,n,m,f,z1,z2,e,_⟩:=h4;cases e
theorem seat_not_free {cx:St X} {h:Hp} {n:TN P cv L} (hs:SeatAt X cx h (.act n:Slot P cv L)) {g:Game} {wg m:Nat} {q:g.θ} {h':Hp} (hf:FreeSt wg m q h' (.act n:Slot P cv L)):False:=by
 obtain ⟨ph,e1,pk⟩:=hs
 obtain ⟨n',e2,_⟩:=hf
 have h1:TX.isFree n.x=false:=by
  rw [e1]
  generalize cx.st=st at pk
  cases pk <;> rfl
 rw [e2] at h1;cases h1
theorem cfg_comm1 (c:Cfg W0 gs w t M sl hp) (hX:M.x=.game X) (hG:GameAt X gs w t sl hp nb) (hs:sl[nb+j]?=some (.act ⟨fr,cs,h,x,.comm o cases true sh O at_ rr a k⟩)) (hg:gs[nb+j+1]?=some g) (hr:Runs g fr cs) :
  ∃ gs' w' ops M' sl' hp',runT P (crowd gs w sc) (nb+j+1)=(.next (crowd gs' w' sc),ops)∧Cfg W0 gs' w' (t++ops) M' sl' hp'∧Less gs' M' sl' gs M sl:=by
 have hlt:=(List.getElem?_eq_some_iff.1 hs).1
 have hIlt:nb+j+1<gs.size:=(Array.getElem?_eq_some_iff.1 hg).1
 have hh:h=hp (nb+j+1):=(hG.know j _ hs).2.1
 have hdj:Deaf t (nb+j+1)=0:=(hG.know j _ hs).2.2
 have hfit:Fits h w:=by rw [hh];exact c.mem.fits _
 have hno:=c.comm_turns hX hG hs
 obtain ⟨cx,hj⟩:∃ cx:St X,X.seats[j]?=some cx:=by
  have:=hG.len
  exact ⟨X.seats[j]'(by omega),List.getElem?_eq_getElem _⟩
 have hseat:SeatAt X cx (hp (nb+j+1)) (.act ⟨fr,cs,h,x,.comm o cases true sh O at_ rr a k⟩:Slot P cv L):=by
  obtain ⟨s,h1,h2⟩:=hG.seat j cx hj
  rw [hs] at h1;cases h1;exact h2
 have hstep:stepG P ((nb+j+1) == 0) g w=.comm (G fr cs) cases true sh w #[]:=by
  show stepG P false g w=_
  rw [hr.step];exact step_comm at_ (rr w hfit)
 obtain ⟨g0,hg0,hm⟩:=c.main
 have h0lt:0<gs.size:=(Array.getElem?_eq_some_iff.1 hg0).1
 have hfo:∀ i,partners (gs.setIfInBounds i ph) cx.fin true=[]:=fun i=>stand_nil c hX hG hj (a:=2) (b:=true) (by omega) (fun _ h=>by simp at h) (fun _ h=>by simp at h)
 obtain ⟨_,rfl,hcase⟩:=thr_comm hseat
 -- it waits
 have wait:(∀ cc∈cases,NoWays w (gs.setIfInBounds (nb+j+1) ph) cc)→cx.st.isShut=false →
   (∀ (cases:Array CommCase) (sh:CommShape),g0.status=.blocked→g0.offers=some (cases,sh)→(∀ z,cases≠#[rcase cx.says z])∧∀ v z,cases≠#[scase cx.turn v z]) →
   ∃ gs' w' ops M' sl' hp',runT P (crowd gs w sc) (nb+j+1)=(.next (crowd gs' w' sc),ops)∧Cfg W0 gs' w' (t++ops) M' sl' hp'∧Less gs' M' sl' gs M sl:=by
  intro hnw hsh hn
  have hw:=crowd_waits (sl:=sc) hg hstep hnw
  refine ⟨_,_,_,M,sl,hp,hw,?_,.inr (.inr ⟨rfl,rfl,nrun_set hg hr.status rfl⟩)⟩
  rw [ofEvents_none,Array.append_empty]
  exact Cfg.stall1 c hX hG (gp:=parked (G fr cs) cases .select) hs (.inr ⟨cases,.select,⟨rfl,rfl,rfl,rfl,rfl⟩,fr,cs,h,x,o,O,at_,rr,a,k,rfl⟩) hj hsh fun g0' cs' sh' h1=>by rw [hg0] at h1;cases h1;exact hn cs' sh'
 rcases hcase with ⟨s,q,n,z1,z2,h1,r,hst,hln,rfl,hsp,hU,hO⟩ | ⟨q,n,m,f,z1,z2,hst,hln,hpl,rfl,hO,hOc⟩
 ·-- it would say where it stands
  obtain ⟨kc,hch⟩:=hG.chan j cx hj 0 (by omega)
  replace hch:w.heap[cx.says]?=some (.chan 0 #[] false kc kc false):=hch
  obtain ⟨kf,hcf⟩:=hG.chan j cx hj 2 (by omega)
  replace hcf:w.heap[cx.fin]?=some (.chan 0 #[] false kf kf false):=by rw [hst] at hcf;exact hcf
  have hfin:NoWays w (gs.setIfInBounds (nb+j+1) ph) (rcase cx.fin z2):=ways_recv_none hcf (hfo _)
  have nomain:offersAt g0 cx.says false=[]→∀ cc∈#[scase cx.says (X.g.says q) z1,rcase cx.fin z2],NoWays w (gs.setIfInBounds (nb+j+1) ph) cc:=by
   intro hno cc hcc
   simp at hcc
   rcases hcc with rfl | rfl
   ·refine ways_send_none hch (Nat.zero_le _) ?_
    exact stand_nil c hX hG hj (a:=0) (b:=false) (by omega) (fun _ _ g hg=>by rw [hg0] at hg;cases hg;exact hno) (fun h _=>absurd rfl h)
   ·exact hfin
  rcases hm with hrun | ⟨cases0,sh0,hpk,hn⟩ | ⟨hsl,_⟩
  ·exact wait (nomain (offersAt_of_not_blocked (by rw [hrun.status];simp) _ _)) (by rw [hst];rfl) fun cs' sh' hb=>by rw [hrun.status] at hb;cases hb
  ·obtain ⟨fr',cs',hh',x',o',O',at',rr',a',k',rfl⟩:=hn
   have hpe:g0=parked (G fr' cs') cases0 sh0:=hpk.eq
   replace hX:x'=.game X:=hX
   subst hX
   obtain ⟨_,jm,cm,hwt,hdf,hjm,hcase⟩:=main_comm a'
   have notj:(∀ z,cases0≠#[rcase cx.says z])→∃ gs' w' ops M' sl' hp',runT P (crowd gs w sc) (nb+j+1)=(.next (crowd gs' w' sc),ops)∧Cfg W0 gs' w' (t++ops) M' sl' hp'∧Less gs' M' sl' gs (⟨fr',cs',hh',.game X,.comm o' cases0 true sh0 O' at' rr' a' k'⟩:MN P cv L Em) sl:=by
    intro hne
    refine wait (nomain ?_) (by rw [hst];rfl) fun cs'' sh'' _ ho=>?_
    ·refine Decidable.byContradiction fun ho=>?_
     rcases offers_at c rfl hG hj (a:=0) (b:=false) (by omega) hg0 ho with ⟨_,⟨_,_,z,sh,h⟩ | ⟨h,_⟩⟩ | ⟨h,_⟩
     ·have:=hpk.offers;rw [h.offers] at this;cases this;exact hne z rfl
     ·cases h
     ·omega
    ·rw [hpk.offers] at ho;cases ho
     refine ⟨hne,fun v z e=>?_⟩
     rcases hcase with ⟨z0,s0,q0,e0,_⟩ | ⟨z0,q0,m0,f0,s0,l0,h0',r0,e0,_,est,_⟩
     ·rw [e] at e0;simp [rcase,scase] at e0
     ·rw [e] at e0
      have ech:cx.turn=cm.turn:=by simpa [scase] using congrArg (fun a=>a.map CommCase.chan) e0
      obtain ⟨rfl,_⟩:=hG.dist jm j cm cx 1 1 hjm hj (by omega) (by omega) ech.symm
      rw [hjm] at hj;cases hj
      rw [hst] at est;cases est
   rcases hcase with ⟨z,s0,q0,hcs,hsh0,hst0,htk,hOm⟩ | ⟨z,q0,m0,f0,s0,l0,h0',r0,hcs,_⟩
   ·by_cases e:jm=j
    ·subst e
     rw [hjm] at hj;cases hj
     rw [hst] at hst0;cases hst0
     subst hsh0
     have hgp:gs[0]?=some (parked (G fr' cs') #[rcase cx.says z] (.recv false)):=by rw [hg0,hpe,hcs]
     have hoff:partners (gs.setIfInBounds (nb+jm+1) ph) cx.says false=[(0,0)]:=by
      have:=stand_main c rfl hG hjm (a:=0) (b:=false) (i:=nb+jm+1) (by omega) (by omega) hg0 (.inl ⟨rfl,rfl⟩)
      rw [hpe,hcs] at this
      simpa [Seat.ch,offersAt_parked_recv] using this
     have hhm:hp 0=hh':=c.hp0
     have hspl:Split (hp (nb+jm+1)) h1 r:=by rw [← hh];exact hsp
     have hsep:Sep (hp 0) r:=(hspl.frz2.sep (c.mem.sep (nb+jm+1) 0 (by omega))).symm
     have hspl0:Split ((hp 0).join r) hh' r:=by rw [← hhm];exact split_join (c.mem.fits 0) (hspl.frz2.fits (c.mem.fits _)) hsep
     have hOm:=hOm r ((hp 0).join r) hU hspl0
     have hrunT:=crowd_sel_send_meets (sl:=sc) (k:=0) (v:=X.g.says q) (z:=z1) hg hstep rfl (fun m' c' hm' hc'=>by
      rcases m' with _ | _ | m'
      ·exact absurd rfl hm'
      ·simp at hc';subst hc';exact hfin
      ·simp at hc') hch (by omega) hgp hoff
     rw [ofEvents_none] at hrunT
     refine ⟨_,_,_,⟨fr'.finish (X.g.says q),cs',(hp 0).join r,_,k' _ _ _ hOm⟩,sl.set (nb+jm) (.act ⟨fr.finish (.tuple #[goInt 0,.bool false,z2]),cs,h1,_,k _ _ _ hO⟩),give hp (nb+jm+1) 0 h1 r,hrunT,?_,.inl (.comm _ _ _ hOm)⟩
     have e:∀ u:Trace,#[]++u=u:=fun u=>by simp
     rw [e]
     refine Cfg.met (c0:=0) (kc:=kc) (ha:=h1) (r:=r) (a:=nb+jm+1) (b:=0) (st':=.said q) (tk:=some s) (lf:=X.left) (ph':=X.g.next q n) c rfl hG hjm hs (.inr ⟨rfl,rfl⟩) (by simp) ⟨_,by rw [Array.getElem?_setIfInBounds_ne (by omega),Array.getElem?_setIfInBounds_self_of_lt h0lt],⟨rfl,rfl,rfl,rfl⟩⟩
      ⟨_,by rw [Array.getElem?_setIfInBounds_self_of_lt (by simpa using hIlt)],⟨congrArg fr.finish res_says,rfl,rfl,rfl⟩⟩
      (fun i h1 h2=>by rw [Array.getElem?_setIfInBounds_ne fun e=>h2 e.symm,Array.getElem?_setIfInBounds_ne fun e=>h1 e.symm]) (by omega) hch rfl ⟨rfl,rfl,rfl⟩ hspl rfl ?_ ?_ rfl (by rw [hst];rfl) rfl ?_ (Nat.le_refl _) (fun h=>by cases h) (fun _=>rfl) ?_ hwt ?_ hdf
     ·rw [give_b]
     ·rw [give_a (by omega)]
     ·unfold Game.next
      cases hq:X.g.plan q with
      | none=>exact .over hq
      | some y=>exact .said hln (by rw [hq];rfl)
     ·obtain ⟨j1,c1,e1,e2,e3⟩:=hG.tok0 htk
      intro j' c' hj' hne
      by_cases e:j'=j1
      ·subst e
       exfalso
       have:=e3 jm cx hjm fun e=>hne e.symm
       rw [hst] at this;cases this
      ·exact e3 j' c' hj' e
     ·rcases hG.adp hwt with h | ⟨_,h⟩
      ·rw [hno.2] at h;exact h
      ·rw [htk] at h;cases h
    ·refine notj fun z' e'=>e ?_
     rw [e'] at hcs
     have ech:cx.says=cm.says:=by simpa [rcase] using congrArg (fun a=>a.map CommCase.chan) hcs
     exact (hG.dist jm j cm cx 0 0 hjm hj (by omega) (by omega) ech.symm).1
   ·refine notj fun z' e'=>?_
    rw [e'] at hcs
    simp [rcase,scase] at hcs
  ·exact wait (nomain (offers_none hsl.offers _ _)) (by rw [hst];rfl) fun cs' sh' hb ho=>by rw [hsl.offers] at ho;cases ho
 ·-- it would have a turn
  obtain ⟨kc,hch⟩:=hG.chan j cx hj 1 (by omega)
  replace hch:w.heap[cx.turn]?=some (.chan 0 #[] false kc kc false):=hch
  obtain ⟨kf,hcf⟩:=hG.chan j cx hj 2 (by omega)
  have nomain:offersAt g0 cx.turn true=[]→NoWays w (gs.setIfInBounds (nb+j+1) ph) (rcase cx.turn z1):=by
   intro hno
   refine ways_recv_none hch ?_
   exact stand_nil c hX hG hj (a:=1) (b:=true) (by omega) (fun _ _ g hg=>by rw [hg0] at hg;cases hg;exact hno) (fun h _=>absurd rfl h)
  rcases hst with hst | hst
  ·replace hcf:w.heap[cx.fin]?=some (.chan 0 #[] false kf kf false):=by rw [hst] at hcf;exact hcf
   have hfin:NoWays w (gs.setIfInBounds (nb+j+1) ph) (rcase cx.fin z2):=ways_recv_none hcf (hfo _)
   have both:offersAt g0 cx.turn true=[]→∀ cc∈#[rcase cx.turn z1,rcase cx.fin z2],NoWays w (gs.setIfInBounds (nb+j+1) ph) cc:=by
    intro hno cc hcc
    simp at hcc
    rcases hcc with rfl | rfl
    ·exact nomain hno
    ·exact hfin
   rcases hm with hrun | ⟨cases0,sh0,hpk,hn⟩ | ⟨hsl,_⟩
   ·exact wait (both (offersAt_of_not_blocked (by rw [hrun.status];simp) _ _)) (by rw [hst];rfl) fun cs' sh' hb=>by rw [hrun.status] at hb;cases hb
   ·obtain ⟨fr',cs',hh',x',o',O',at',rr',a',k',rfl⟩:=hn
    have hpe:g0=parked (G fr' cs') cases0 sh0:=hpk.eq
    replace hX:x'=.game X:=hX
    subst hX
    obtain ⟨_,jm,cm,hwt,hdf,hjm,hcase⟩:=main_comm a'
    have notj:(∀ v z,cases0≠#[scase cx.turn v z])→∃ gs' w' ops M' sl' hp',runT P (crowd gs w sc) (nb+j+1)=(.next (crowd gs' w' sc),ops)∧Cfg W0 gs' w' (t++ops) M' sl' hp'∧Less gs' M' sl' gs (⟨fr',cs',hh',.game X,.comm o' cases0 true sh0 O' at' rr' a' k'⟩:MN P cv L Em) sl:=by
     intro hne
     refine wait (both ?_) (by rw [hst];rfl) fun cs'' sh'' _ ho=>?_
     ·refine Decidable.byContradiction fun ho=>?_
      rcases offers_at c rfl hG hj (a:=1) (b:=true) (by omega) hg0 ho with ⟨_,⟨h,_⟩ | ⟨_,_,v,z,sh,h⟩⟩ | ⟨h,_⟩
      ·cases h
      ·have:=hpk.offers;rw [h.offers] at this;cases this;exact hne v z rfl
      ·omega
     ·rw [hpk.offers] at ho;cases ho
      refine ⟨fun z e=>?_,hne⟩
      rcases hcase with ⟨z0,s0,q0,e0,_,est,_⟩ | ⟨z0,q0,m0,f0,s0,l0,h0',r0,e0,_⟩
      ·rw [e] at e0
       have ech:cx.says=cm.says:=by simpa [rcase] using congrArg (fun a=>a.map CommCase.chan) e0
       obtain ⟨rfl,_⟩:=hG.dist jm j cm cx 0 0 hjm hj (by omega) (by omega) ech.symm
       rw [hjm] at hj;cases hj
       rw [hst] at est;cases est
      ·rw [e] at e0;simp [rcase,scase] at e0
    rcases hcase with ⟨z,s0,q0,hcs,_⟩ | ⟨z,q0,m0,f0,s0,l0,h0',r0,hcs,hsh0,hst0,hpl0,htk,hlf,had,hsp,hU,hOm⟩
    ·refine notj fun v' z' e'=>?_
     rw [e'] at hcs
     simp [rcase,scase] at hcs
    ·by_cases e:jm=j
     ·subst e
      rw [hjm] at hj;cases hj
      rw [hst] at hst0;cases hst0
      rw [hpl] at hpl0;cases hpl0
      subst hsh0
      have hln:=hln hst
      obtain ⟨n',rfl⟩:∃ n',n=n'+1:=⟨n-1,by omega⟩
      have hgp:gs[0]?=some (parked (G fr' cs') #[scase cx.turn (.agg #[]) z] .send):=by rw [hg0,hpe,hcs]
      have hoff:partners (gs.setIfInBounds (nb+jm+1) ph) cx.turn true=[(0,0)]:=by
       have:=stand_main c rfl hG hjm (a:=1) (b:=true) (i:=nb+jm+1) (by omega) (by omega) hg0 (.inr ⟨rfl,rfl⟩)
       rw [hpe,hcs] at this
       simpa [Seat.ch,offersAt_parked_send] using this
      have hhm:hp 0=hh':=c.hp0
      have hspl:Split (hp 0) h0' r0:=by rw [hhm];exact hsp
      have hsep:Sep (hp (nb+jm+1)) r0:=(hspl.frz2.sep (c.mem.sep 0 (nb+jm+1) (by omega))).symm
      have hspl1:Split ((hp (nb+jm+1)).join r0) h r0:=by rw [hh];exact split_join (c.mem.fits _) (hspl.frz2.fits (c.mem.fits _)) hsep
      have hOt:=hO n' s0 r0 ((hp (nb+jm+1)).join r0) rfl hU hspl1
      have hrunT:=crowd_sel_recv_meets (sl:=sc) (k:=0) (v:=.agg #[]) (z:=z1) hg hstep rfl (fun m' c' hm' hc'=>by
       rcases m' with _ | _ | m'
       ·exact absurd rfl hm'
       ·simp at hc';subst hc';exact hfin
       ·simp at hc') hch (by omega) hgp hoff
      rw [ofEvents_none] at hrunT
      refine ⟨_,_,_,⟨fr'.finish undef,cs',h0',_,k' _ _ _ hOm⟩,sl.set (nb+jm) (.act ⟨fr.finish (.tuple #[goInt 0,.bool true,.agg #[],z2]),cs,(hp (nb+jm+1)).join r0,_,k _ _ _ hOt⟩),give hp 0 (nb+jm+1) h0' r0,hrunT,?_,.inl (.comm _ _ _ hOm)⟩
      have e:∀ u:Trace,#[]++u=u:=fun u=>by simp
      rw [e]
      refine Cfg.met (c0:=1) (kc:=kc) (ha:=h0') (r:=r0) (a:=0) (b:=nb+jm+1) (st':=.run (f s0).1 (f s0).2) (tk:=none) (lf:=l0) (ph':=.busy (f s0).1 (f s0).2 n') c rfl hG hjm hs (.inl ⟨rfl,rfl⟩) (by simp) ⟨_,by rw [Array.getElem?_setIfInBounds_ne (by omega),Array.getElem?_setIfInBounds_self_of_lt h0lt],⟨rfl,rfl,rfl,rfl⟩⟩
       ⟨_,by rw [Array.getElem?_setIfInBounds_self_of_lt (by simpa using hIlt)],⟨congrArg fr.finish res_turn,rfl,rfl,rfl⟩⟩
       (fun i h1 h2=>by rw [Array.getElem?_setIfInBounds_ne fun e=>h2 e.symm,Array.getElem?_setIfInBounds_ne fun e=>h1 e.symm]) (by omega) hch rfl ⟨rfl,rfl,rfl⟩ hspl rfl ?_ ?_ rfl (by rw [hst];rfl) rfl (.run (by omega)) (by omega) (fun _=>rfl) (fun h=>by cases h) ?_ hwt had hdf
      ·rw [give_a (by omega)]
      ·rw [give_b]
      ·intro j' c' hj' _
       exact hG.tok1 (by rw [htk];rfl) j' c' hj'
     ·refine notj fun v' z' e'=>e ?_
      rw [e'] at hcs
      have ech:cx.turn=cm.turn:=by simpa [scase] using congrArg (fun a=>a.map CommCase.chan) hcs
      exact (hG.dist jm j cm cx 1 1 hjm hj (by omega) (by omega) ech.symm).1
   ·exact wait (both (offers_none hsl.offers _ _)) (by rw [hst];rfl) fun cs' sh' hb ho=>by rw [hsl.offers] at ho;cases ho
  ·-- it is cut off
   replace hcf:w.heap[cx.fin]?=some (.chan 0 #[] true kf kf false):=by rw [hst] at hcf;exact hcf
   have hno:offersAt g0 cx.turn true=[]:=by
    refine Decidable.byContradiction fun ho=>?_
    rcases hm with hrun | ⟨cases0,sh0,hpk,hn⟩ | ⟨hsl,_⟩
    ·exact ho (offersAt_of_not_blocked (by rw [hrun.status];simp) _ _)
    ·obtain ⟨fr',cs',hh',x',o',O',at',rr',a',k',rfl⟩:=hn
     replace hX:x'=.game X:=hX
     subst hX
     rcases offers_at c rfl hG hj (a:=1) (b:=true) (by omega) hg0 ho with ⟨_,⟨h,_⟩ | ⟨_,_,v,z,sh,h⟩⟩ | ⟨h,_⟩
     ·cases h
     ·obtain ⟨_,jm,cm,hwt,hdf,hjm,hcase⟩:=main_comm a'
      have:=hpk.offers;rw [h.offers] at this;cases this
      rcases hcase with ⟨z0,s0,q0,e0,_⟩ | ⟨z0,q0,m0,f0,s0,l0,h0',r0,e0,_,est,_⟩
      ·simp [rcase,scase] at e0
      ·have ech:cx.turn=cm.turn:=by simpa [scase] using congrArg (fun a=>a.map CommCase.chan) e0
       obtain ⟨rfl,_⟩:=hG.dist jm j cm cx 1 1 hjm hj (by omega) (by omega) ech.symm
       rw [hjm] at hj;cases hj
       rw [hst] at est;cases est
     ·omega
    ·exact ho (offers_none hsl.offers _ _)
   have hrunT:=crowd_sel_recv_closed (sl:=sc) (k:=1) (z:=z2) hg hstep rfl (fun m' c' hm' hc'=>by
    rcases m' with _ | _ | m'
    ·simp at hc';subst hc';exact nomain hno
    ·exact absurd rfl hm'
    ·simp at hc') hcf (hfo _)
   rw [ofEvents_none] at hrunT
   refine ⟨_,_,_,M,sl.set (nb+j) (.act ⟨fr.finish (.tuple #[goInt 1,.bool false,z1,z2]),cs,h,_,k _ _ _ hOc⟩),hp,hrunT,?_,.inr (.inl ⟨rfl,Falls.set hs (Relation.TransGen.single (.comm _ _ _ hOc))⟩)⟩
   have e:∀ u:Trace,#[]++u=u:=fun u=>by simp
   rw [e]
   have hst1:(sl.map Slot.stage)[nb+j]?=some 7:=by rw [List.getElem?_map,hs];rfl
   obtain ⟨u,hu⟩:∃ u:Trace,u=#[{ g:=nb+j+1,fn:=(G fr cs).frame.fn,pos:=(G fr cs).frame.place,act:=.recvClosed cx.fin }]:=⟨_,rfl⟩
   have hug:∀ op∈u,op.g=nb+j+1:=fun op ho=>by rw [hu] at ho;simp at ho;subst ho;rfl
   have hum:∀ op∈u,op.act.touch?=none:=fun op ho=>by rw [hu] at ho;simp at ho;subst ho;rfl
   have hup:∀ op∈u,Plain op:=fun op ho m hm=>by rw [hu] at ho;simp at ho;subst ho;cases hm
   rw [← hu]
   refine Cfg.slot c hX hG hs (gs_set hIlt) (by simp [Goroutine.finishComm]) Side.refl (fun b _=>rfl) rfl (hG.wg.far hst1 (by omega) (by show 4≤7;omega) fun _ _ h=>h) ⟨hug,fun op ho b hb=>(by rw [hum op ho] at hb;cases hb),fun op ho a e=>(by rcases hup op ho _ e with h | ⟨f,h⟩ <;> cases h)⟩
    (.inl ⟨congrArg fr.finish res_cut,rfl,rfl,rfl⟩) ⟨kn_mute (hG.know j _ hs).1 (fun i h=>h.app u) hum,hh,by rw [Deaf_plain hup];exact hdj⟩ (fun c' hc'=>?_) (fun _ _ _ _ _ hfs=>(seat_not_free hseat hfs).elim) (fun g1 hg1 hb1 ho1=>?_)
   ·rw [hj] at hc';cases hc'
    exact ⟨_,rfl,by rw [hst];exact .shutC⟩
   ·rw [Array.getElem?_setIfInBounds_ne (by omega)] at hg1
    exact (hG.sleep g1 hg1 hb1 ho1).2
end
theorem crowd_try_room {w₁:World} {g₂:Goroutine} {es:Array Event} {i c cap s r:Nat} {buf:Array Value} {tm:Bool} {v z:Value} {shape:CommShape} (hi:gs[i]?=some g) (h:stepG P (i == 0) g w=.comm g₂ #[scase c v z] false shape w₁ es) (hc:w₁.heap[c]?=some (.chan cap buf false s r tm))
  (hp:partners (gs.setIfInBounds i ph) c false=[]) (hlt:buf.size<cap) :
  runT P (crowd gs w sc) i=(.next (crowd (gs.setIfInBounds i (g₂.finishComm P #[scase c v z] shape 0 undef false)) (w₁.setChan c cap (buf.push v) false (s+1) r tm) sc),
   MemOp.ofEvents i g.frame.fn g.frame.place es++#[{ g:=i,fn:=g₂.frame.fn,pos:=g₂.frame.place,act:=.send c s },{ g:=i,fn:=g₂.frame.fn,pos:=g₂.frame.place,act:=.sendDone c s }]):=by
 rw [runT_crowd_comm hi h]
 simp [communicate,ways,scase,hc,hp,hlt,choose,Sem.run,Question.forced,bind,Sem.bind,pure,World.setChan,crowd,Array.setIfInBounds_setIfInBounds]
theorem crowd_try_full {w₁:World} {g₂:Goroutine} {es:Array Event} {i c cap s r:Nat} {buf:Array Value} {tm:Bool} {v z:Value} {shape:CommShape} (hi:gs[i]?=some g) (h:stepG P (i == 0) g w=.comm g₂ #[scase c v z] false shape w₁ es) (hc:w₁.heap[c]?=some (.chan cap buf false s r tm))
  (hp:partners (gs.setIfInBounds i ph) c false=[]) (hle:cap≤buf.size) :
  runT P (crowd gs w sc) i=(.next (crowd (gs.setIfInBounds i (g₂.finishComm P #[scase c v z] shape (-1) undef false)) w₁ sc),MemOp.ofEvents i g.frame.fn g.frame.place es):=by
 have hn:¬ buf.size<cap:=by omega
 rw [runT_crowd_comm hi h]
 simp [communicate,ways,scase,hc,hp,hn,crowd,Array.setIfInBounds_setIfInBounds]
theorem part_nil (c:Cfg W0 gs w t M sl hp) {ch i:Nat} {b:Bool} (hno:∀ X,M.x=.game X→∀ (j:Nat) (cx:St X) a,X.seats[j]?=some cx→a<3→cx.ch a≠ch):partners (gs.setIfInBounds i ph) ch b=[]:=by
 refine partners_nil fun k g hk=>?_
 rcases getElem?_stand gs i k g hk with ⟨_,rfl⟩ | ⟨hne,hk⟩
 ·exact offersAt_ph _ _
 have hgame:=c.game
 cases k with
 | zero =>
  obtain ⟨g',h1,h2⟩:=c.main
  rw [hk] at h1;cases h1
  rcases h2 with h | ⟨cases,sh,h,hn⟩ | ⟨h,_⟩
  ·exact offersAt_of_not_blocked (by rw [h.status];simp) _ _
  ·obtain ⟨fr,cs,hh,x,o,O,at_,rr,aa,k,rfl⟩:=hn
   cases hM:x with
   | idle =>
    subst hM
    exact absurd h.status (hgame.runs g hk)
   | game X =>
    subst hM
    obtain ⟨_,jm,cm,_,_,hm,hcase⟩:=main_comm aa
    rcases hcase with ⟨z,s,q,rfl,rfl,_⟩ | ⟨z,q,m,f,s,l,h',r,rfl,rfl,_⟩
    ·have hne:cm.says≠ch:=hno X rfl jm cm 0 hm (by omega)
     rw [h.eq]
     cases b with
     | true=>rw [offersAt_parked_recv']
     | false=>rw [offersAt_parked_recv,if_neg hne]
    ·have hne:cm.turn≠ch:=hno X rfl jm cm 1 hm (by omega)
     rw [h.eq]
     cases b with
     | true=>rw [offersAt_parked_send,if_neg hne]
     | false=>rw [offersAt_parked_send']
  ·exact offers_none h.offers _ _
 | succ k =>
  have hlt:k<sl.length:=by have:=c.size;have:=(Array.getElem?_eq_some_iff.1 hk).1;omega
  obtain ⟨s,hs⟩:∃ s,sl[k]?=some s:=⟨sl[k],List.getElem?_eq_getElem hlt⟩
  obtain ⟨g',h1,h2⟩:=c.thr k s hs
  rw [hk] at h1;cases h1
  cases s with
  | out k' m =>
   cases k' with
   | zero=>exact offersAt_of_not_blocked (fun h=>by have:=QuitsD.status (P:=P) (n:=m) h2;rw [h] at this;rcases this with h | h <;> cases h) _ _
   | succ k'=>exact offersAt_of_not_blocked (fun h=>by have:=zg_running (k:=k'+1) h2;rw [h] at this;cases this) _ _
  | act n =>
   rcases h2 with h | ⟨cases,sh,h,hn⟩
   ·exact offersAt_of_not_blocked (by rw [h.status];simp) _ _
   ·cases hM:M.x with
    | idle=>rw [hM] at hgame;obtain ⟨m',e⟩:=(hgame.old k _ hs).out;cases e
    | game X =>
     rw [hM] at hgame
     obtain ⟨nb,hG⟩:=hgame
     have hin:nb≤k:=Nat.le_of_not_lt fun hlt=>by obtain ⟨m',e⟩:=(hG.old k _ hlt hs).out;cases e
     obtain ⟨j',rfl⟩:∃ j',k=nb+j':=⟨k-nb,by omega⟩
     obtain ⟨fr,cs,hh,x,o,O,at_,rr,aa,k,rfl⟩:=hn
     have hnf:=c.comm_turns hM hG hs
     obtain ⟨c',hc'⟩:∃ c':St X,X.seats[j']?=some c':=by
      have:=hG.len
      exact ⟨X.seats[j']'(by omega),List.getElem?_eq_getElem _⟩
     obtain ⟨s',h3,h4⟩:=hG.seat j' c' hc'
     rw [hs] at h3;cases h3
     have n0:c'.says≠ch:=hno X hM j' c' 0 hc' (by omega)
     have n1:c'.turn≠ch:=hno X hM j' c' 1 hc' (by omega)
     have n2:c'.fin≠ch:=hno X hM j' c' 2 hc' (by omega)
     obtain ⟨_,rfl,⟨s,q,n,z1,z2,h1',r,_,_,rfl,_⟩ | ⟨q,n,m,f,z1,z2,_,_,_,rfl,_⟩⟩:=thr_comm h4
     ·rw [h.eq,offers_sr,if_neg n0,if_neg n2];cases b <;> rfl
     ·rw [h.eq,offers_rr,if_neg n1,if_neg n2];cases b <;> rfl
def triedU (a:Nat) (fn:FuncId) (pos:String) (c s:Nat):Trace:=#[{ g:=a,fn,pos,act:=.send c s },{ g:=a,fn,pos,act:=.sendDone c s }]
theorem triedU_mute {a:Nat} {fn:FuncId} {pos:String} {c s:Nat}:(∀ op∈triedU a fn pos c s,op.g=a)∧(∀ op∈triedU a fn pos c s,op.act.touch?=none)∧(∀ op∈triedU a fn pos c s,Plain op)∧∀ op∈triedU a fn pos c s,∀ x,op.act≠.mark (.release x):=by
 refine ⟨fun op ho=>?_,fun op ho=>?_,fun op ho m hm=>?_,fun op ho x hx=>?_⟩ <;> (simp only [triedU,List.mem_toArray,List.mem_cons,List.not_mem_nil,or_false] at ho;rcases ho with rfl | rfl) <;> first | rfl | cases hm | cases hx
theorem res_room {c:Nat} {v z:Value}:commResult #[scase c v z] .select ((0:Nat):Int) undef false=.tuple #[goInt 0,.bool false]:=by
 simp [commResult,scase]
theorem res_full {c:Nat} {v z:Value}:commResult #[scase c v z] .select (-1) undef false=.tuple #[goInt (-1),.bool false]:=by
 simp [commResult,scase]
theorem try_own {a:Nat} {h:Hp} {o:Oper} (at_:AtOp fr o) (c:Cfg W0 gs w t M sl hp) (ha:hp a=h) (hg:gs[a]?=some g) (hr:Runs g fr cs) {ch cap s r:Nat} {buf:Array Value} {tm:Bool} {v z:Value} (hob:h.obj ch=some (.chan cap buf false s r tm))
  (rr:∀ w,Fits h w→(execOp fr.eval o).runT P w #[]=(.ok (.comm #[scase ch v z] false .select) w,#[])) :
  (buf.size<cap→∃ gs' w' ops,runT P (crowd gs w sc) a=(.next (crowd gs' w' sc),ops)∧Own a (hp a) w w' (h.setObj ch (.chan cap (buf.push v) false (s+1) r tm)) ops∧Gs P a gs gs' (G (fr.finish (.tuple #[goInt 0,.bool false])) cs)) ∧
  (cap≤buf.size→∃ gs' ops,runT P (crowd gs w sc) a=(.next (crowd gs' w sc),ops)∧Own a (hp a) w w h ops∧Gs P a gs gs' (G (fr.finish (.tuple #[goInt (-1),.bool false])) cs)):=by
 have hfit:Fits h w:=by rw [← ha];exact c.mem.fits _
 have hlt:a<gs.size:=(Array.getElem?_eq_some_iff.1 hg).1
 have hc:=hfit.obj _ _ hob
 have hstep:stepG P (a == 0) g w=.comm (G fr cs) #[scase ch v z] false .select w #[]:=by rw [hr.step];exact step_comm at_ (rr w hfit)
 have hp:partners (gs.setIfInBounds a ph) ch false=[]:=part_nil c fun X hX j cx b hj hb e=>by
  have hgame:=c.game
  rw [hX] at hgame
  obtain ⟨nb,hG⟩:=hgame
  have:=hG.noch a j cx b hj hb
  rw [e,ha,hob] at this;cases this
 refine ⟨fun hl=>?_,fun hl=>?_⟩
 ·have hrunT:=crowd_try_room (sc:=sc) hg hstep hc hp hl
  rw [ofEvents_none,Array.empty_append] at hrunT
  obtain ⟨m1,m2,m3,_⟩:=triedU_mute (a:=a) (fn:=(G fr cs).frame.fn) (pos:=(G fr cs).frame.place) (c:=ch) (s:=s)
  refine ⟨_,_,_,hrunT,⟨?_,m1,fun op ho b hb=>(by rw [m2 op ho] at hb;cases hb),m3⟩,?_⟩
  ·rw [ha];exact Guar.setObj hfit (by rw [hob];rfl) (.chan cap (buf.push v) false (s+1) r tm) rfl
  ·have e:Goroutine.finishComm P (G fr cs) #[scase ch v z] .select 0 undef false=G (fr.finish (.tuple #[goInt 0,.bool false])) cs:=by
    unfold Goroutine.finishComm;rw [show (0:Int)=((0:Nat):Int) from rfl,res_room];rfl
   rw [e];exact gs_set hlt
 ·have hrunT:=crowd_try_full (sc:=sc) hg hstep hc hp hl
  rw [ofEvents_none] at hrunT
  refine ⟨_,_,hrunT,⟨(by rw [ha];exact .refl hfit),fun op ho=>(by simp at ho),fun op ho=>(by simp at ho),fun op ho=>(by simp at ho)⟩,?_⟩
  have e:Goroutine.finishComm P (G fr cs) #[scase ch v z] .select (-1) undef false=G (fr.finish (.tuple #[goInt (-1),.bool false])) cs:=by
   unfold Goroutine.finishComm;rw [res_full];rfl
  rw [e];exact gs_set hlt
end
end Go.PB
namespace Go.PB
open Go.Conc Go.Conc.Lib
open Go.ConcR (KK stA smA rd wr mk DC0)
variable {W0:World} {P:Program} {cv:Value} {L:WgLink} {Em:Frame→List Frame→Hp→MX→Prop}
theorem wakes_may {g:Goroutine} {fr:Frame} {cs:List Frame} {o:Oper} (r:Runs g fr cs) (a:AtOp fr o) (h:wakes o=true):mayWake P g=true:=by
 obtain ⟨hm,_,ops,i,l,k,htd,ho,_⟩:=a
 unfold mayWake
 rw [r.frame,hm,htd]
 simp only [ho,Option.map_some]
 unfold wakes at h
 generalize o.op=op at h ⊢
 cases op <;> first | (simp at h;done) | skip
 rename_i c
 obtain ⟨cl,_,_⟩:=c
 cases cl <;> first | rfl | simp at h
theorem seen_shut {fn:FuncId} {b:Nat}:seen P fn #[⟨.obj b,false,true⟩,⟨.obj b,true,true⟩]=#[⟨.obj b,false,true⟩,⟨.obj b,true,true⟩]:=by simp [seen]
section
variable {gs:Array Goroutine} {w:World} {t:Trace} {sl:List (Slot P cv L)} {hp:Nat→Hp} {g:Goroutine} {sc:Option (Nat × Nat)} {X:GX}
 {fr:Frame} {cs:List Frame} {h:Hp} {o:Oper} {O:Value→Hp→MX→Prop} {at_:AtOp fr o} {ne:fr.kind≠.early}
 {a:(mHand P cv L.done L.tWg).act (wakes o) (execOp fr.eval o) h (.game X) fun nx h' x'=>∃ v,nx=.value v∧O v h' x'} {k:∀ v h' x',O v h' x'→Run P (mHand P cv L.done L.tWg) true Em (fr.finish v) cs h' x'}
theorem cfg_sleep (c:Cfg W0 gs w t (⟨fr,cs,h,.game X,.act o O at_ ne a k⟩:MN P cv L Em) sl hp) (hg:gs[0]?=some g) (hr:Runs g fr cs) (hp1:X.wt=.parked) (hb:∃ es,(execOp fr.eval o).runT P w #[]=(.halt .blocked w,es)) (hn:¬ WgAt L.tWg X.wg w 0 1) :
  ∃ gs',runT P (crowd gs w sc) 0=(.next (crowd gs' w sc),#[])∧Cfg W0 gs' w t (⟨fr,cs,h,.game X,.act o O at_ ne a k⟩:MN P cv L Em) sl hp∧nrun gs'<nrun gs:=by
 obtain ⟨nb,hG⟩:∃ nb,GameAt X gs w t sl hp nb:=c.game
 obtain ⟨es,hb⟩:=hb
 have hst:stepG P ((0:Nat) == 0) g w=.go { G fr cs with status:=.blocked } w #[]:=by rw [hr.step];exact step_block at_ hb
 have hrunT:=runT_crowd_go (w:=w) (sl:=sc) hg hst
 have hid:woken P g { G fr cs with status:=.blocked } w=id:=by funext x;simp [woken]
 rw [hid,Array.map_id,ofEvents_none] at hrunT
 have hlt:0<gs.size:=(Array.getElem?_eq_some_iff.1 hg).1
 refine ⟨_,hrunT,?_,nrun_set hg hr.status rfl⟩
 generalize hgp:({ G fr cs with status:=.blocked }:Goroutine)=gp
 have hof:gp.offers=none:=by rw [← hgp];rfl
 have hoth:∀ i,i≠0→(gs.setIfInBounds 0 gp)[i]?=gs[i]?:=fun i hi=>Array.getElem?_setIfInBounds_ne fun e=>hi e.symm
 have hself:(gs.setIfInBounds 0 gp)[0]?=some gp:=Array.getElem?_setIfInBounds_self_of_lt hlt
 refine ⟨by rw [Array.size_setIfInBounds];exact c.size,⟨gp,hself,.inr (.inr ⟨by rw [← hgp];exact ⟨rfl,rfl,rfl,rfl,rfl⟩,fr,cs,h,.game X,o,O,at_,ne,a,k,rfl⟩)⟩,fun i sx hi=>by rw [hoth _ (by omega)];exact c.thr i sx hi,c.mem,c.aft,c.hp0,c.hpn,c.tg,c.kn0,?_,c.pool⟩
 exact ⟨nb,⟨hG.len,hG.old,hG.seat,hG.know,hG.chan,hG.dist,hG.noch,hG.nowg,hG.wg,hG.wgt,hG.deaf,hG.tok0,hG.tok1,hG.adp,hG.ads,hG.adl,fun k cx g hk hg=>by rw [hoth _ (by omega)] at hg;exact hG.live k cx g hk hg,fun g0 cases' shp hg hb ho'=>(by rw [hself] at hg;cases hg;rw [hof] at ho';cases ho'),fun g0 hg hb ho'=>⟨hp1,hn⟩,hG.cht⟩⟩
theorem cfg_shut (c:Cfg W0 gs w t (⟨fr,cs,h,.game X,.act o O at_ ne a k⟩:MN P cv L Em) sl hp) (hg:gs[0]?=some g) (hr:Runs g fr cs) {j:Nat} {cx:St X} {q0:X.g.θ} (hwt:X.wt=.play) (hdf:X.deaf=false) (had:X.ad=X.seats.length) (htk:X.tok.isSome=true) (hj:X.seats[j]?=some cx)
  (hst0:cx.st=.said q0) (hwk:wakes o=true) (hs:Shuts P (execOp fr.eval o) cx.fin) (hO:O unit h (.game { X with seats:=X.seats.set j { cx with st:=.shut q0 } })) :
  ∃ gs' w' ops,runT P (crowd gs w sc) 0=(.next (crowd gs' w' sc),ops)∧Cfg W0 gs' w' (t++ops) (⟨fr.finish unit,cs,h,_,k _ _ _ hO⟩:MN P cv L Em) sl hp:=by
 obtain ⟨nb,hG⟩:∃ nb,GameAt X gs w t sl hp nb:=c.game
 have hno:X.free=none∧X.nf=0:=c.turns rfl hj
 obtain ⟨kf,hcf⟩:=hG.chan j cx hj 2 (by omega)
 replace hcf:w.heap[cx.fin]?=some (.chan 0 #[] false kf kf false):=by rw [hst0] at hcf;exact hcf
 have hrun:=hs w kf kf false hcf
 generalize hw':({ w with heap:=w.heap.setIfInBounds cx.fin (.chan 0 #[] true kf kf false) }:World)=w' at hrun
 have hwh:w'.heap=w.heap.setIfInBounds cx.fin (.chan 0 #[] true kf kf false):=by rw [← hw']
 have hst:stepG P ((0:Nat) == 0) g w=.go (G (fr.finish unit) cs) w' (seen P fr.fn #[⟨.obj cx.fin,false,true⟩,⟨.obj cx.fin,true,true⟩]):=by rw [hr.step];exact step_value at_ ne hrun
 rw [seen_shut] at hst
 have hmw:mayWake P g=true:=wakes_may hr at_ hwk
 have q:=gs_go (P:=P) (g':=G (fr.finish unit) cs) (w':=w') hg
 have hrunT:=runT_crowd_go (w:=w) (sl:=sc) hg hst
 refine ⟨_,_,_,hrunT,?_⟩
 have hlive:∀ i g1,i≠0→gs[i]?=some g1→((gs.map (woken P g (G (fr.finish unit) cs) w')).setIfInBounds 0 (G (fr.finish unit) cs))[i]?=some (g1.again w'):=fun i g1 hi h1=>by
  rw [Array.getElem?_setIfInBounds_ne fun e=>hi e.symm,Array.getElem?_map,h1]
  simp [woken,hmw,G]
 generalize hgs':(gs.map (woken P g (G (fr.finish unit) cs) w')).setIfInBounds 0 (G (fr.finish unit) cs)=gs' at q hlive
 obtain ⟨u,hu⟩:∃ u,u=MemOp.ofEvents 0 g.frame.fn g.frame.place #[⟨.obj cx.fin,false,true⟩,⟨.obj cx.fin,true,true⟩]:=⟨_,rfl⟩
 have hug:∀ op∈u,op.g=0:=fun op ho=>by rw [hu] at ho;obtain ⟨e,_,rfl⟩:=ofEvents_mem ho;rfl
 have hut:∀ op∈u,∀ b,op.act.touch?=some b→b.loc=.obj cx.fin:=fun op ho b hb=>by
  rw [hu] at ho
  obtain ⟨e,h1,rfl⟩:=ofEvents_mem ho
  simp at h1
  rcases h1 with rfl | rfl
  ·have:(MemAct.ofEvent ⟨.obj cx.fin,false,true⟩).touch?=some ⟨.obj cx.fin,false,.atomic⟩:=rfl
   rw [this] at hb;cases hb;rfl
  ·have:(MemAct.ofEvent ⟨.obj cx.fin,true,true⟩).touch?=none:=rfl
   rw [this] at hb;cases hb
 have hup:∀ op∈u,Plain op:=fun op ho m hm=>by
  rw [hu] at ho
  obtain ⟨e,h1,rfl⟩:=ofEvents_mem ho
  simp at h1
  rcases h1 with rfl | rfl <;> cases hm
 rw [← hu]
 clear hu hrunT hgs'
 have hng:∀ i,i≠0→∀ op∈u,op.g≠i:=fun i hi op ho e=>hi (by rw [← e,hug op ho])
 obtain ⟨p1,p2,e1⟩:=hG.wg.ex
 have hwgne:cx.fin≠X.wg:=fun e=>by obtain ⟨_,e1,_⟩:=e1;rw [e] at hcf;rw [hcf] at e1;cases e1
 have hwg:∀ x y,WgAt L.tWg X.wg w x y→WgAt L.tWg X.wg w' x y:=fun x y h=>by
  exact h.of_heap (by rw [hwh,Array.getElem?_setIfInBounds_ne hwgne])
 have hrl:RL L.tWg X.wg w w':=fun ⟨x,y,h⟩=>⟨x,y,hwg _ _ h⟩
 have hnoch:∀ i,(hp i).obj cx.fin=none:=fun i=>hG.noch i j cx 2 hj (by omega)
 have hkn:∀ {K K':Nat→Prop} {i:Nat},Kn t K (hp i)→(∀ j,K j→K' j)→Kn (t++u) K' (hp i):=fun {K K' i} kk hK=>by
  refine ⟨fun b o v e n x hx hl=>?_,fun b o v e n x hx hl hw=>?_,fun b v e n x hx hl=>?_⟩
  ·rcases touch_split hx with hx | ⟨op,ho,_,h2⟩
   ·exact hK _ (kk.own _ _ _ e _ _ hx hl)
   ·rw [hut op ho x h2] at hl;cases hl
  ·rcases touch_split hx with hx | ⟨op,ho,_,h2⟩
   ·exact hK _ (kk.ro _ _ _ e _ _ hx hl hw)
   ·rw [hut op ho x h2] at hl;cases hl
  ·rcases touch_split hx with hx | ⟨op,ho,_,h2⟩
   ·exact hK _ (kk.obj _ _ e _ _ hx hl)
   ·rw [hut op ho x h2] at hl;cases hl
    rw [hnoch i] at e;cases e
 have hflt:cx.fin<w.heap.size:=(Array.getElem?_eq_some_iff.1 hcf).1
 have haft:Aft W0 w' hp (.game { X with seats:=X.seats.set j { cx with st:=.shut q0 } }):=by
  have hg:NewG W0 (.game X):=c.aft.game
  refine c.aft.at_block (c:=cx.fin) (hg.2 j cx 2 hj) (side_chan hcf rfl (by rw [← hw']) (by rw [← hw']) (by rw [← hw']) hwh) (fun b hb=>by rw [hwh,Array.getElem?_setIfInBounds_ne fun e=>hb e.symm]) (by rw [hwh];simp) ⟨hg.1,fun k c' d hk=>?_⟩
  obtain ⟨c1,h1,e1⟩:=seats_old hj hk
  rw [e1];exact hg.2 k c1 d h1
 refine ⟨by rw [q.size];exact c.size,⟨_,q.self,.inl runs_G⟩,fun i sx hi=>?_,⟨fun i=>fits_chan (n:=0) (n':=0) (c.mem.fits i) (hnoch i) hcf rfl rfl hwh,c.mem.sep,fun said=>noRace_append (c.mem.nr said) hug fun i b hb op ho b' hb' hc=>?_,fun i b hb=>?_,fun op ho b=>?_⟩,haft,c.hp0,c.hpn,fun i op hi=>?_,hkn (i:=0) c.kn0 fun j h=>h.app u,?_,⟨fun _=>hno.2,fun d hd=>by rw [hno.1] at hd;cases hd⟩⟩
 ·obtain ⟨g1,h1,h2⟩:=c.thr i sx hi
  obtain ⟨x,x',w2,h3⟩:=q.other (i+1) g1 (by omega) h1
  exact ⟨_,h3,slot_woken (Deaf_others (hng _ (by omega))) hrl h2⟩
 ·have h1:=hut op ho b' hb'
  obtain ⟨hl,_⟩:=hc
  exact hG.cht j cx 2 i b hj (by omega) hb (hl.trans h1)
 ·rw [hwh,Array.size_setIfInBounds]
  rcases touch_split hb with hb | ⟨op,ho,_,h2⟩
  ·exact c.mem.low i b hb
  ·have:=hut op ho b h2
   exact ⟨fun d hd=>by (rw [this] at hd;cases hd),fun r hr=>by rw [this] at hr;cases hr;exact hflt⟩
 ·rcases Array.mem_append.1 ho with ho | ho
  ·exact c.mem.norel op ho b
  ·intro e;rcases hup op ho _ e with h | ⟨f,h⟩ <;> cases h
 ·rcases getElem?_append_cases hi with ⟨_,h⟩ | ⟨_,h⟩
  ·exact c.tg i op h
  ·rw [hug op h];omega
 ·show ∃ nb,GameAt { X with seats:=X.seats.set j { cx with st:=.shut q0 } } gs' w' (t++u) sl hp nb
  refine ⟨nb,⟨by simpa using hG.len,fun i sx hi hc=>(hG.old i sx hi hc).app (hng _ (by omega)),fun k cx' hc=>?_,fun k sx hc=>(hG.know k sx hc).app (hng _ (by omega)) fun kk hK=>hkn kk hK,fun k cx' hc' d hd=>?_,fun k k' d d' x x' hk hk' hx hx' e=>?_,fun i k cx' d hk hd=>?_,hG.nowg,hG.wg.seats (by simp) hwg,fun n b o ho2 hb hl=>?_,by rw [Deaf_plain hup];exact hG.deaf,fun e=>?_,fun e k cx' hk=>?_,fun _=>.inl (by have:=hno.2;simpa [this] using had),fun h=>absurd hwt h,hG.adl,fun k cx' g1 hk hg1 hsx hb=>?_,fun g0 cases shp hg hb ho'=>?_,fun g0 hg hb ho'=>?_,fun k cx' d i x hk hd hx hl=>?_⟩⟩
  ·rcases seats_set hj hc with ⟨rfl,rfl⟩ | ⟨hk,hc⟩
   ·obtain ⟨sx,h1,h2⟩:=hG.seat k cx hj
    refine ⟨sx,h1,?_⟩
    cases sx with
    | act n =>
     obtain ⟨ph,e,p⟩:=h2
     refine ⟨ph,e,?_⟩
     rw [hst0] at p
     cases p with
     | said h hp=>exact .shutS hp
     | over hp=>exact .shutO
    | out k' m =>
     obtain ⟨h6,q',hq,hfin⟩:=h2
     refine ⟨h6,q',.inr ?_,hfin⟩
     rcases hq with ⟨hq,_⟩ | hq
     ·rw [hst0] at hq;cases hq;rfl
     ·rw [hst0] at hq;cases hq
   ·obtain ⟨sx,h1,h2⟩:=hG.seat k cx' hc
    exact ⟨sx,h1,seatAt_left (Nat.le_refl _) h2⟩
  ·obtain ⟨cq,hcq,hch⟩:=seats_old hj hc'
   rw [hch d]
   by_cases e:cq.ch d=cx.fin
   ·obtain ⟨rfl,rfl⟩:=hG.dist k j cq cx d 2 hcq hj hd (by omega) e
    rcases seats_set hj hc' with ⟨_,rfl⟩ | ⟨h,_⟩
    ·refine ⟨kf,?_⟩
     rw [e,hwh,Array.getElem?_setIfInBounds_self_of_lt hflt];rfl
    ·exact absurd rfl h
   ·obtain ⟨m,hm⟩:=hG.chan k cq hcq d hd
    refine ⟨m,?_⟩
    rw [hwh,Array.getElem?_setIfInBounds_ne fun h=>e h.symm]
    rcases seats_set hj hc' with ⟨rfl,rfl⟩ | ⟨_,h⟩
    ·rw [hj] at hcq;cases hcq
     have hd2:d≠2:=fun h=>by subst h;exact e rfl
     rw [hm];simp [hd2]
    ·rw [hcq] at h;cases h;exact hm
  ·obtain ⟨c1,h1,e1⟩:=seats_old hj hk
   obtain ⟨c2,h2,e2⟩:=seats_old hj hk'
   rw [e1,e2] at e
   exact hG.dist k k' c1 c2 x x' h1 h2 hx hx' e
  ·obtain ⟨c1,h1,e1⟩:=seats_old hj hk
   rw [e1];exact hG.noch i k c1 d h1 hd
  ·rcases touch_split hb with hb | ⟨op,ho,hi,h2⟩
   ·rcases hG.wgt n b o ho2 hb hl with this | ⟨k0,k1⟩
    ·refine .inl ⟨this.1,fun hsd=>?_⟩
     have h1:=this.2 hsd
     rw [g?_app (g?_lt h1)];exact h1
    ·exact .inr ⟨k0.app u,fun j' hj'=>(k1 j' (by simpa using hj')).app u⟩
   ·rw [hut op ho b h2] at hl;cases hl
  ·replace e:X.tok=none:=e
   rw [e] at htk;cases htk
  ·rcases seats_set hj hk with ⟨rfl,rfl⟩ | ⟨h,hk⟩
   ·rfl
   ·exact hG.tok1 htk k cx' hk
  ·rcases seats_set hj hk with ⟨rfl,rfl⟩ | ⟨h,hk⟩
   ·-- it's woken
    have hgj:=q.back _ _ (by omega) hg1 hb
    have hag:=hlive _ _ (by omega) hgj
    replace hag:=Option.some.inj (hg1.symm.trans hag)
    obtain ⟨sx,h1,h2⟩:=hG.seat k cx hj
    obtain ⟨g2,h3,h4⟩:=c.thr _ _ h1
    rw [hgj] at h3;cases h3
    cases sx with
    | out k' m =>
     cases k' with
     | zero=>have:=QuitsD.status (P:=P) (n:=m) h4;rw [hb] at this;rcases this with h | h <;> cases h
     | succ k'=>have:=zg_running (k:=k'+1) h4;rw [hb] at this;cases this
    | act n =>
     rcases h4 with h4 | ⟨cases,sh,h4,hn⟩
     ·rw [h4.status] at hb;cases hb
     ·obtain ⟨fr',cs',hh',x',o',O',at',rr',a',k',rfl⟩:=hn
      obtain ⟨_,rfl,⟨s1,q1,n1,z1,z2,h1',r,hst1,_⟩ | ⟨q1,n1,m1,f1,z1,z2,_,_,_,rfl,_⟩⟩:=thr_comm h2
      ·rw [hst0] at hst1;cases hst1
      ·have hcl:w'.heap[cx.fin]?=some (.chan 0 #[] true kf kf false):=by rw [hwh,Array.getElem?_setIfInBounds_self_of_lt hflt]
       have heq:=h4.eq
       have:=again_some_closed (g:=G fr' cs') (sh:=.select) (cs:=#[rcase cx.turn z1,rcase cx.fin z2]) (k:=1) (z:=z2) (w:=w') rfl hcl
       have e2:(g1.again w').status=.running:=by rw [heq,this]
       rw [← hag,hb] at e2
       cases e2
   ·exact hG.live k cx' g1 hk (q.back _ _ (by omega) hg1 hb) hsx hb
  ·rw [q.self] at hg;cases hg;cases hb
  ·rw [q.self] at hg;cases hg;cases hb
  ·obtain ⟨c1,h1,e1⟩:=seats_old hj hk
   rw [e1] at hl
   rcases touch_split hx with hx | ⟨op,ho,hi,h2⟩
   ·exact (hG.cht k c1 d i x h1 hd hx hl).app u
   ·have:=knows_own hi;rwa [hug op ho] at this
end
end Go.PB
namespace Go.PB
open Go.Conc Go.Conc.Lib
open Go.ConcR (KK stA smA rd wr mk DC0)
variable {W0:World} {P:Program} {cv:Value} {L:WgLink} {Em:Frame→List Frame→Hp→MX→Prop}
theorem star_join1 {c:HProp} {M:List HProp} {h h1 h2:Hp} (s1:Star [c] h1) (s2:Star M h2) (s:Split h h1 h2):Star (c::M) h:=by
 obtain ⟨a,b,sa,hc,_⟩:=s1
 refine ⟨a,h2,⟨fun b o v e=>s.r1 _ _ _ (sa.r1 _ _ _ e),s.r2,fun b o v e=>s.o1 _ _ _ (sa.o1 _ _ _ e),s.o2,fun b o=>?_,fun b v e=>s.b1 _ _ (sa.b1 _ _ e),s.b2,fun b=>?_,fun b y e=>s.s1 _ _ (sa.s1 _ _ e),s.s2⟩,hc,s2⟩
 ·rcases s.od b o with h | h
  ·exact .inl (none_of fun v e=>by rw [sa.o1 _ _ _ e] at h;cases h)
  ·exact .inr h
 ·rcases s.bd b with h | h
  ·exact .inl (none_of fun v e=>by rw [sa.b1 _ _ e] at h;cases h)
  ·exact .inr h
def parts (hp:Nat→Hp):Nat→Nat→Hp
 | _,0=>Hp.empty
 | i,n+1=>(hp i).join (parts hp (i+1) n)
section
variable {w:World} {t:Trace} {K:Nat→Prop} {hp:Nat→Hp}
theorem parts_sep {k:Hp}:∀ {n i:Nat},(∀ j,i≤j→j<i+n→Sep (hp j) k)→Sep (parts hp i n) k
 | 0,i,h=>sep_empty
 | n+1,i,h=>sep_join (h i (Nat.le_refl _) (by omega)) (parts_sep fun j h1 h2=>h j (by omega) (by omega))
theorem parts_fits (hf:∀ i,Fits (hp i) w) (hs:∀ i j,i≠j→Sep (hp i) (hp j)):∀ {n i:Nat},Fits (parts hp i n) w
 | 0,i=>fits_empty
 | n+1,i=>fits_join (hf i) (parts_fits hf hs) (parts_sep (n:=n) (i:=i+1) fun j h1 h2=>hs j i (by omega)).symm
theorem parts_kn:∀ {n i:Nat},(∀ j,i≤j→j<i+n→Kn t K (hp j))→Kn t K (parts hp i n)
 | 0,i,h=>kn_empty
 | n+1,i,h=>kn_join (h i (Nat.le_refl _) (by omega)) (parts_kn fun j h1 h2=>h j (by omega) (by omega))
theorem parts_own:∀ {n i:Nat} {b o:Nat} {v:Value},(parts hp i n).own b o=some v→∃ k,(hp k).own b o=some v
 | 0,i,_,_,_,e=>by cases e
 | n+1,i,_,_,_,e=>by
  rcases or_some e with e | ⟨_,e⟩
  ·exact ⟨i,e⟩
  ·exact parts_own e
theorem parts_obj:∀ {n i:Nat} {b:Nat} {v:Obj},(parts hp i n).obj b=some v→∃ k,(hp k).obj b=some v
 | 0,i,_,_,e=>by cases e
 | n+1,i,_,_,e=>by
  rcases or_some e with e | ⟨_,e⟩
  ·exact ⟨i,e⟩
  ·exact parts_obj e
theorem parts_star {σ:Type} {f:σ→HProp} (hf:∀ i,Fits (hp i) w) (hs:∀ i j,i≠j→Sep (hp i) (hp j)):∀ {l:List σ} {i:Nat},(∀ j c,l[j]?=some c→Star [f c] (hp (i+j)))→Star (l.map f) (parts hp i l.length)
 | [],i,h=>trivial
 | c::l,i,h=>by
  refine star_join1 (h 0 c rfl) (parts_star (l:=l) (i:=i+1) hf hs fun j c' hc=>?_) (split_join (hf i) (parts_fits hf hs) (parts_sep (n:=l.length) (i:=i+1) fun j h1 h2=>hs j i (by omega)).symm)
  have:=h (j+1) c' (by simpa using hc)
  rwa [show i+(j+1)=i+1+j by omega] at this
end
section
variable {gs:Array Goroutine} {w:World} {t:Trace} {sl:List (Slot P cv L)} {hp:Nat→Hp} {g:Goroutine} {sc:Option (Nat × Nat)} {X:GX}
 {fr:Frame} {cs:List Frame} {h:Hp} {o:Oper} {O:Value→Hp→MX→Prop} {at_:AtOp fr o} {ne:fr.kind≠.early}
 {a:(mHand P cv L.done L.tWg).act (wakes o) (execOp fr.eval o) h (.game X) fun nx h' x'=>∃ v,nx=.value v∧O v h' x'} {k:∀ v h' x',O v h' x'→Run P (mHand P cv L.done L.tWg) true Em (fr.finish v) cs h' x'}
theorem cfg_acquire (c:Cfg W0 gs w t (⟨fr,cs,h,.game X,.act o O at_ ne a k⟩:MN P cv L Em) sl hp) (hg:gs[0]?=some g) (hr:Runs g fr cs) (hwt:X.wt=.zero) (hdf:X.deaf=false) (hnq:∀ d,X.free=some d→X.nf=d.q0.length) (hs:Says P (execOp fr.eval o) (.acquire ⟨X.wg,0,none⟩))
  (hO:∀ r h',X.ends r→Split h' h r→O unit h' .idle) :
  ∃ gs' ops h' q hp',runT P (crowd gs w sc) 0=(.next (crowd gs' w sc),ops)∧Cfg W0 gs' w (t++ops) (⟨fr.finish unit,cs,h',.idle,k unit h' .idle q⟩:MN P cv L Em) sl hp':=by
 obtain ⟨nb,hG⟩:∃ nb,GameAt X gs w t sl hp nb:=c.game
 obtain ⟨f,hf⟩:=hs
 have hst:stepG P ((0:Nat) == 0) g w=.go (G (fr.finish unit) cs) w #[⟨.mark (.acquire ⟨X.wg,0,none⟩),false,true⟩]:=by
  rw [hr.step]
  have:=step_value (cs:=cs) (main:=((0:Nat) == 0)) at_ ne (hf w)
  rw [seen_one (by simp)] at this
  exact this
 have q:=gs_go (P:=P) (g':=G (fr.finish unit) cs) (w':=w) hg
 have hrunT:=runT_crowd_go (w:=w) (sl:=sc) hg hst
 obtain ⟨u,hu⟩:∃ u,u=MemOp.ofEvents 0 g.frame.fn g.frame.place #[⟨.mark (.acquire ⟨X.wg,0,none⟩),false,true⟩]:=⟨_,rfl⟩
 have hh:hp 0=h:=c.hp0
 have hads:=hG.ads (by rw [hwt];simp)
 have hlen:=hG.len
 -- all are out
 obtain ⟨v,hat,hv,hlate,hb⟩:=hG.wg.quiet0 (by rw [hwt];simp)
 rw [hwt] at hb
 replace hb:v=0:=hb
 subst hb
 have hcnt:((sl.map Slot.stage).filter fun k=>decide (4≤k)).length=0:=by omega
 have hout:∀ (i:Nat) (s:Slot P cv L),sl[i]?=some s→∃ m,s=.out 0 m:=by
  intro i s hi
  have h1:(sl.map Slot.stage)[i]?=some s.stage:=by rw [List.getElem?_map,hi];rfl
  have h2:=hlate _ (List.mem_of_getElem? h1)
  have h3:¬ 4≤s.stage:=fun h4=>by
   have:=count_pos (p:=fun k=>decide (4≤k)) h1 (by simpa using h4)
   omega
  cases s with
  | act n=>exact absurd (show 4≤7 by omega) h3
  | out k m =>
   have:k=0:=by
    rcases h2 with h2 | h2
    ·exact h2
    ·exact absurd h2 h3
   subst this;exact ⟨m,rfl⟩
 have hug:∀ op∈u,op.g=0:=fun op ho=>by rw [hu] at ho;obtain ⟨e,_,rfl⟩:=ofEvents_mem ho;rfl
 have hum:∀ op∈u,op.act.touch?=none:=fun op ho=>by
  rw [hu] at ho
  obtain ⟨e,h1,rfl⟩:=ofEvents_mem ho
  simp at h1;subst h1;rfl
 have hur:∀ op∈u,∀ a,op.act≠.mark (.release a):=fun op ho a=>by
  rw [hu] at ho
  obtain ⟨e,h1,rfl⟩:=ofEvents_mem ho
  simp at h1;subst h1;intro e;cases e
 have hd0:Deaf t 0=0:=by rw [hG.deaf,hdf];rfl
 have hd0':Deaf (t++u) 0=0:=by rw [hu,Deaf_own,hd0];rfl
 have e0:(t++u)[t.size]?=some { g:=0,fn:=g.frame.fn,pos:=g.frame.place,act:=.mark (.acquire ⟨X.wg,0,none⟩) }:=by
  rw [hu,ofEvents_eq,Array.getElem?_append_right (Nat.le_refl _)];simp;rfl
 have hknow:∀ i p,Rel t X.wg i p→Knows (t++u) 0 p:=by
  intro i p hr
  have hp:=g?_lt hr.g
  have hr':=hr.app u
  refine ⟨t.size,_,e0,rfl,.inr (Relation.TransGen.single (.inr ⟨.marked hp (.inr hr'.act) (act?_of e0) (fun k h1 h2 hk=>?_),hr'.heard,⟨0,g?_of e0,by rw [deaf_old (Nat.le_refl _)];exact hd0⟩⟩))⟩
  rw [act?_old h2] at hk
  obtain ⟨op,ho,hx⟩:=Option.map_eq_some_iff.1 hk
  exact c.mem.norel op (Array.mem_of_getElem? ho) _ hx
 have hng:∀ i,i≠0→∀ op∈u,op.g≠i:=fun i hi op ho e=>hi (by rw [← e,hug op ho])
 have hknj:∀ j,j<X.seats.length+X.nf→Kn (t++u) (Knows (t++u) 0) (hp (nb+1+j))∧AllK (t++u) (nb+1+j) (Knows (t++u) 0):=by
  intro j hj
  obtain ⟨s,h1⟩:∃ s,sl[nb+j]?=some s:=⟨_,List.getElem?_eq_getElem (by omega)⟩
  have hkn:=hG.know j s h1
  obtain ⟨m,rfl⟩:=hout _ s h1
  rw [show nb+1+j=nb+j+1 by omega]
  obtain ⟨h6,_⟩ | ⟨_,⟨p,hr,hk,hall⟩,_⟩:=hkn
  ·omega
  have hK:∀ i,Before t i p→Knows (t++u) 0 i:=fun i hi=>Knows.of_before (hi.app u) (hknow _ p hr)
  exact ⟨kn_mute hk hK hum,hall.app hK (hng _ (by omega))⟩
 have hpool:∃ r,X.ends r∧Fits r w∧Sep r (hp 0)∧Kn (t++u) (Knows (t++u) 0) r∧(∀ b o v,r.own b o=some v→W0.heap.size≤b)∧(∀ b v,r.obj b=some v→W0.heap.size≤b):=by
  have hpo:PoolOk W0 (.game X) w t sl hp:=c.pool
  have hsepP:∀ n,Sep (parts hp (nb+1) n) (hp 0):=fun n=>parts_sep fun j h1 h2=>c.mem.sep j 0 (by omega)
  have hfitP:∀ n,Fits (parts hp (nb+1) n) w:=fun n=>parts_fits c.mem.fits c.mem.sep
  have hownP:∀ n b o v,(parts hp (nb+1) n).own b o=some v→W0.heap.size≤b:=fun n b o v e=>by obtain ⟨k,e⟩:=parts_own e;exact c.aft.own k b o v e
  have hobjP:∀ n b v,(parts hp (nb+1) n).obj b=some v→W0.heap.size≤b:=fun n b v e=>by obtain ⟨k,e⟩:=parts_obj e;exact c.aft.obj k b v e
  have hknP:∀ n,n≤X.seats.length+X.nf→Kn (t++u) (Knows (t++u) 0) (parts hp (nb+1) n):=fun n hn=>parts_kn fun j h1 h2=>by
   have:=(hknj (j-(nb+1)) (by omega)).1
   rwa [show nb+1+(j-(nb+1))=j by omega] at this
  cases hfr:X.free with
  | none =>
   refine ⟨parts hp (nb+1) X.seats.length,?_,hfitP _,hsepP _,hknP _ (by omega),hownP _,hobjP _⟩
   unfold GX.ends
   rw [hfr]
   show Star (X.seats.map Seat.fins) _
   refine parts_star c.mem.fits c.mem.sep fun j cx hj=>?_
   obtain ⟨s,h1,h2⟩:=hG.seat j cx hj
   obtain ⟨m,rfl⟩:=hout _ s h1
   rw [show nb+1+j=nb+j+1 by omega]
   obtain ⟨_,q',hq,hstar⟩:=h2
   have hsh:=hads.2 j cx hj
   unfold Seat.fins
   cases hst:cx.st with
   | run s q=>rw [hst] at hsh;cases hsh
   | said q=>rw [hst] at hsh;cases hsh
   | shut q =>
    rw [hst] at hq
    rcases hq with ⟨hq,_⟩ | hq
    ·cases hq
    ·cases hq;exact hstar
  | some d =>
   obtain ⟨e1,e2,nb',pl,s,qs,p⟩:=hpo.2 d hfr
   have hnb:nb'=nb:=by
    have h1:=p.len
    have h2:=hG.len
    rw [e1] at h2
    simp at h2;omega
   subst hnb
   have hnf:X.nf=qs.length:=(hnq d hfr).trans p.qlen.symm
   have hall:∀ (j:Nat) (q:X.g.θ),qs[j]?=some q→X.g.plan q=none∧Star [X.g.Fin q] (hp (nb'+1+j)):=fun j q hq=>by
    have hlt:=(List.getElem?_eq_some_iff.1 hq).1
    have hl:=p.len
    obtain ⟨sx,h1⟩:∃ sx,sl[nb'+j]?=some sx:=⟨_,List.getElem?_eq_getElem (by omega)⟩
    obtain ⟨q',h2,h3⟩:=p.slot j sx h1
    rw [hq] at h2;cases h2
    obtain ⟨m,rfl⟩:=hout _ sx h1
    rw [show nb'+1+j=nb'+j+1 by omega]
    exact h3
   have hsepL:Sep (parts hp (nb'+1) qs.length) pl:=parts_sep fun j _ _=>p.sep j
   refine ⟨pl.join (parts hp (nb'+1) qs.length),?_,fits_join p.fits (hfitP _) hsepL.symm,sep_join (p.sep 0).symm (hsepP _),kn_join ⟨fun b o v e i a ha hl=>?_,fun b o v e i a ha hl hw=>?_,fun b v e i a ha hl=>?_⟩ (hknP _ (by omega)),fun b o v e=>?_,fun b v e=>?_⟩
   ·unfold GX.ends
    rw [hfr]
    exact ⟨s,qs,p.inv,fun q hq=>(by obtain ⟨j,hj⟩:=List.getElem?_of_mem hq;exact (hall j q hj).1),p.qlen,pl,_,split_join p.fits (hfitP _) hsepL.symm,p.u,parts_star c.mem.fits c.mem.sep fun j q hj=>(hall j q hj).2⟩
   ·rcases touch_split ha with ha | ⟨op,ho,_,h2⟩
    ·rcases p.kno b o v e i a ha hl with ⟨_,h2,j,h3,h4⟩ | ⟨h1,_⟩
     ·refine (hknj j (by omega)).2 i ?_ ((counts_old (touchAt_lt ha)).2 h2)
      rw [g?_app (touchAt_lt ha),show nb'+1+j=nb'+j+1 by omega];exact h4
     ·exact h1.app u
    ·rw [hum op ho] at h2;cases h2
   ·rcases touch_split ha with ha | ⟨op,ho,_,h2⟩
    ·exact (p.knr b o v e i a ha hl hw).1.app u
    ·rw [hum op ho] at h2;cases h2
   ·rcases touch_split ha with ha | ⟨op,ho,_,h2⟩
    ·exact ((p.obj b v e).2 i a ha hl).app u
    ·rw [hum op ho] at h2;cases h2
   ·rcases or_some e with e | ⟨_,e⟩
    ·exact p.new b o v e
    ·exact hownP _ b o v e
   ·rcases or_some e with e | ⟨_,e⟩
    ·exact (p.obj b v e).1
    ·exact hobjP _ b v e
 obtain ⟨r,hends,hfitP,hsepP,hknP,hownP,hobjP⟩:=hpool
 have hspl:Split ((hp 0).join r) h r:=by rw [← hh];exact split_join (c.mem.fits 0) hfitP hsepP.symm
 refine ⟨_,u,_,hO _ _ hends hspl,fun i=>if i=0 then (hp 0).join r else Hp.empty,by rw [hu];exact hrunT,?_⟩
 clear hu hrunT
 have haft:Aft W0 w (fun i=>if i=0 then (hp 0).join r else Hp.empty) .idle:=by
  refine ⟨c.aft.after,fun i b o v e=>?_,fun i b v e=>?_,trivial⟩
  ·by_cases hi:i=0
   ·simp only [hi,if_true] at e
    rcases or_some e with e | ⟨_,e⟩
    ·exact c.aft.own 0 b o v e
    ·exact hownP b o v e
   ·simp only [hi,if_false] at e;cases e
  ·by_cases hi:i=0
   ·simp only [hi,if_true] at e
    rcases or_some e with e | ⟨_,e⟩
    ·exact c.aft.obj 0 b v e
    ·exact hobjP b v e
   ·simp only [hi,if_false] at e;cases e
 refine ⟨by rw [q.size];exact c.size,⟨_,q.self,.inl runs_G⟩,fun i sx hi=>?_,⟨fun i=>?_,fun i j hij=>?_,fun said=>race_mute (c.mem.nr said) hum,low_mute c.mem.low hum,fun op ho b=>(Array.mem_append.1 ho).elim (fun ho=>c.mem.norel op ho b) (fun ho=>hur op ho b)⟩,haft,rfl,fun i hi=>if_neg (by omega),fun i op hi=>?_,?_,?_,trivial⟩
 ·obtain ⟨g1,h1,h2⟩:=c.thr i sx hi
  obtain ⟨x,x',w2,h3⟩:=q.other (i+1) g1 (by omega) h1
  obtain ⟨m,rfl⟩:=hout i sx hi
  have:=slot_woken (d':=Deaf (t++u) (i+1)) (w':=w) (g:=x) (g':=x') (w2:=w2) (Deaf_others (hng _ (by omega))) (fun h=>h) h2
  exact ⟨_,h3,this⟩
 ·by_cases hi:i=0
  ·simp only [hi,if_true];exact fits_join (c.mem.fits 0) hfitP hsepP.symm
  ·simp only [hi,if_false];exact fits_empty
 ·by_cases hi:i=0
  ·have hj:j≠0:=fun h=>hij (hi.trans h.symm)
   simp only [hj,if_false];exact sep_empty.symm
  ·simp only [hi,if_false];exact sep_empty
 ·rcases getElem?_append_cases hi with ⟨_,h⟩ | ⟨_,h⟩
  ·exact c.tg i op h
  ·rw [hug op h];omega
 ·simp only [if_true]
  exact kn_join (kn_mute c.kn0 (fun j h=>h.app u) hum) hknP
 ·refine ⟨fun i s hi=>⟨hout i s hi,if_neg (by omega),?_⟩,hd0',fun g0 h0 hb=>by rw [q.self] at h0;cases h0;cases hb⟩
  by_cases hin:i<nb
  ·exact (hG.old i s hin hi).all.app (fun j h=>h.app u) (hng _ (by omega))
  ·have hlt:=(List.getElem?_eq_some_iff.1 hi).1
   have:=(hknj (i-nb) (by omega)).2
   rwa [show nb+1+(i-nb)=i+1 by omega] at this
end
end Go.PB
namespace Go.PB
open Go.Conc Go.Conc.Lib
open Go.ConcR (KK stA smA rd wr mk DC0)
variable {W0:World} {P:Program} {cv:Value} {L:WgLink} {Em:Frame→List Frame→Hp→MX→Prop}
theorem WgPh.more {X:GX} {cn:St X} {st:List Nat} {w:World} (p:WgPh L X st w) (hwt:X.wt=.play) (had:X.ad=X.seats.length+X.nf+1):WgPh L { X with tok:=none,seats:=X.seats++[cn] } (st++[7]) w:=by
 cases p with
 | quiet v wt a hv late hw park b =>
  refine .quiet v wt a ?_ (fun k hk=>?_) hw park b
  ·simp only [List.filter_append,List.length_append,List.length_cons,List.length_nil]
   have:(List.filter (fun k=>decide (4≤k)) [7]).length=1:=rfl
   omega
  ·rcases List.mem_append.1 hk with hk | hk
   ·exact late k hk
   ·simp at hk;omega
 | late p=>rw [hwt] at p;cases p
 | late1 p=>rw [hwt] at p;cases p
 | free p=>rw [hwt] at p;cases p
theorem empty_join {r:Hp}:Hp.empty.join r=r:=by
 cases r
 simp [Hp.join,Hp.empty]
section
variable {gs:Array Goroutine} {w:World} {t:Trace} {sl:List (Slot P cv L)} {hp:Nat→Hp} {g:Goroutine} {sc:Option (Nat × Nat)} {X:GX}
 {fr:Frame} {cs:List Frame} {h:Hp} {o:Oper} {d:Deferred} {O:Hp→MX→Prop} {at_:AtOp fr o} {rr:∀ w,Fits h w→(execOp fr.eval o).runT P w #[]=(.ok (.spawn d) w,#[])}
 {a:(mHand P cv L.done L.tWg).spawn d h (.game X) O} {k:∀ h' x',O h' x'→Run P (mHand P cv L.done L.tWg) true Em (fr.finish undef) cs h' x'}
theorem cfg_spawn (c:Cfg W0 gs w t (⟨fr,cs,h,.game X,.spawn o d O at_ rr a k⟩:MN P cv L Em) sl hp) (hg:gs[0]?=some g) (hr:Runs g fr cs)
  (hturn:∃ (X':GX) (s:X'.g.σ) (says turn fin:Nat) (hc h':Hp) (s':X'.g.σ) (q':X'.g.θ),MX.game X=.game X'∧X'.free=none∧X'.wt=.play∧X'.deaf=false∧X'.tok=some s∧X'.ad=X'.seats.length+1 ∧
   says≠turn∧says≠fin∧turn≠fin∧h.obj says=some newChan∧h.obj turn=some newChan∧h.obj fin=some newChan ∧
   Split h hc h'∧(∀ b,b=says∨b=turn∨b=fin→hc.obj b=none∧h'.obj b=none)∧(∃ f cap,d.target=.fn f cap) ∧
   Nonempty (Run P (tHand P cv) false (tEnd P L.done) (goFr P d) [] hc ⟨X'.g,says,turn,fin,X'.wg,.busy s' q' X'.left⟩)∧O h' (.game { X' with tok:=none,seats:=X'.seats++[⟨says,turn,fin,.run s' q'⟩] })) :
  ∃ gs' ops M' sl' hp',runT P (crowd gs w sc) 0=(.next (crowd gs' w sc),ops)∧Cfg W0 gs' w (t++ops) M' sl' hp'∧Below M' (⟨fr,cs,h,.game X,.spawn o d O at_ rr a k⟩:MN P cv L Em):=by
 obtain ⟨nb,hG⟩:∃ nb,GameAt X gs w t sl hp nb:=c.game
 have hh:hp 0=h:=c.hp0
 have hfit:Fits h w:=by rw [← hh];exact c.mem.fits 0
 obtain ⟨X',s,says,turn,fin,hc,h',s',q',eX,hfr,hwt,hdf,htk,had,n1,n2,n3,o1,o2,o3,hsp,hno,⟨f,cap,hd⟩,⟨run⟩,hO⟩:=hturn
 cases eX
 have hnf:X.nf=0:=c.pool.1 hfr
 replace had:X.ad=X.seats.length+X.nf+1:=by rw [hnf];exact had
 have hst:stepG P ((0:Nat) == 0) g w=.spawn (G (fr.finish undef) cs) (G (goFr P d) []) w #[]:=by rw [hr.step];exact step_spawn hd at_ (rr w hfit)
 have hrunT:=runT_crowd_spawn (w:=w) (sl:=sc) hg hst
 have hsize:=c.size
 have hlen:=hG.len
 have h0lt:0<gs.size:=by omega
 obtain ⟨u,hu⟩:∃ u:Trace,u=#[{ g:=0,fn:=g.frame.fn,pos:=g.frame.place,act:=.go gs.size },{ g:=gs.size,fn:=(G (goFr P d) []).frame.fn,pos:=g.frame.place,act:=.start }]:=⟨_,rfl⟩
 have hops:((MemOp.ofEvents 0 g.frame.fn g.frame.place #[]).push { g:=0,fn:=g.frame.fn,pos:=g.frame.place,act:=.go gs.size }).push { g:=gs.size,fn:=(G (goFr P d) []).frame.fn,pos:=g.frame.place,act:=.start }=u:=by
  rw [hu,ofEvents_none];simp
 rw [hops] at hrunT
 have hum:∀ op∈u,op.act.touch?=none:=fun op ho=>by rw [hu] at ho;simp at ho;rcases ho with rfl | rfl <;> rfl
 have hur:∀ op∈u,∀ x,op.act≠.mark (.release x):=fun op ho x=>by rw [hu] at ho;simp at ho;rcases ho with rfl | rfl <;> simp
 have hup:∀ op∈u,Plain op:=fun op ho m hm=>by rw [hu] at ho;simp at ho;rcases ho with rfl | rfl <;> cases hm
 have hug:∀ op∈u,op.g=0∨op.g=gs.size:=fun op ho=>by rw [hu] at ho;simp at ho;rcases ho with rfl | rfl <;> simp
 have hd0:Deaf t 0=0:=by rw [hG.deaf,hdf];rfl
 have hdI:Deaf t gs.size=0:=Go.ConcN.Deaf_absent fun i op ho e=>by have:=c.tg i op ho;omega
 have hknow:∀ i,Knows t 0 i→Knows (t++u) gs.size i:=fun i h=>by
  rw [hu]
  exact Go.ConcN.fork_knows ⟨rfl,rfl⟩ ⟨rfl,rfl⟩ hd0 hdI h
 have hng:∀ i,i≠0→i≠gs.size→∀ op∈u,op.g≠i:=fun i h1 h2 op ho e=>by rcases hug op ho with h | h <;> omega
 have hempty:hp gs.size=Hp.empty:=c.hpn _ (by omega)
 have hne:(0:Nat)≠gs.size:=by omega
 have hspl:Split (hp 0) h' hc:=by rw [hh];exact hsp.swap
 have hgI:give hp 0 gs.size h' hc gs.size=hc:=by rw [give_b,hempty,empty_join]
 have hgn:∀ i,i≠0→i≠gs.size→give hp 0 gs.size h' hc i=hp i:=fun i h1 h2=>give_ne h1 h2
 -- the new channels
 have hnew:∀ b,b=says∨b=turn∨b=fin→h.obj b=some newChan:=fun b hb=>by rcases hb with rfl | rfl | rfl <;> assumption
 have hnewno:∀ b,b=says∨b=turn∨b=fin→∀ i,(give hp 0 gs.size h' hc i).obj b=none:=by
  intro b hb i
  by_cases i1:i=0
  ·subst i1;rw [give_a hne];exact (hno b hb).2
  ·by_cases i2:i=gs.size
   ·subst i2;rw [hgI];exact (hno b hb).1
   ·rw [hgn i i1 i2]
    exact (c.mem.sep 0 i fun e=>i1 e.symm).bb _ _ (by rw [hh];exact hnew b hb)
 have hapart:∀ (j:Nat) (cx:St X) (x:Nat) (b:Nat),X.seats[j]?=some cx→x<3→(b=says∨b=turn∨b=fin)→cx.ch x≠b:=fun j cx x b hj hx hb e=>by
  have h1:=hG.noch 0 j cx x hj hx
  rw [hh,e,hnew b hb] at h1;cases h1
 have hch:∀ (x:Nat),(⟨says,turn,fin,.run s' q'⟩:St X).ch x=says∨(⟨says,turn,fin,.run s' q'⟩:St X).ch x=turn∨(⟨says,turn,fin,.run s' q'⟩:St X).ch x=fin:=fun x=>by
  unfold Seat.ch;split
  ·exact .inl rfl
  ·exact .inr (.inl rfl)
  ·exact .inr (.inr rfl)
 have hseats:∀ (j:Nat) (cx:St X),(X.seats++[(⟨says,turn,fin,.run s' q'⟩:St X)])[j]?=some cx→(j<X.seats.length∧X.seats[j]?=some cx)∨(j=X.seats.length∧cx=⟨says,turn,fin,.run s' q'⟩):=fun j cx hj=>by
  rcases Nat.lt_or_ge j X.seats.length with hlt | hge
  ·rw [List.getElem?_append_left hlt] at hj;exact .inl ⟨hlt,hj⟩
  ·rw [List.getElem?_append_right hge] at hj
   have:j-X.seats.length=0:=by
    have:=(List.getElem?_eq_some_iff.1 hj).1
    simp at this;omega
   rw [this] at hj;simp at hj
   exact .inr ⟨by omega,hj.symm⟩
 have hslots:∀ (i:Nat) (x:Slot P cv L) (z:Slot P cv L),(sl++[z])[i]?=some x→(i<sl.length∧sl[i]?=some x)∨(i=sl.length∧x=z):=fun i x z hi=>by
  rcases Nat.lt_or_ge i sl.length with hlt | hge
  ·rw [List.getElem?_append_left hlt] at hi;exact .inl ⟨hlt,hi⟩
  ·rw [List.getElem?_append_right hge] at hi
   have:i-sl.length=0:=by
    have:=(List.getElem?_eq_some_iff.1 hi).1
    simp at this;omega
   rw [this] at hi;simp at hi
   exact .inr ⟨by omega,hi.symm⟩
 have hgs0:((gs.setIfInBounds 0 (G (fr.finish undef) cs)).push (G (goFr P d) []))[0]?=some (G (fr.finish undef) cs):=by
  rw [Array.getElem?_push_lt (by simpa using h0lt),← Array.getElem?_eq_getElem]
  exact Array.getElem?_setIfInBounds_self_of_lt h0lt
 have hgsI:((gs.setIfInBounds 0 (G (fr.finish undef) cs)).push (G (goFr P d) []))[gs.size]?=some (G (goFr P d) []):=by
  have:=Array.getElem?_push_size (xs:=gs.setIfInBounds 0 (G (fr.finish undef) cs)) (x:=G (goFr P d) [])
  simpa using this
 have hgso:∀ i,i≠0→i<gs.size→((gs.setIfInBounds 0 (G (fr.finish undef) cs)).push (G (goFr P d) []))[i]?=gs[i]?:=fun i h1 h2=>by
  rw [Array.getElem?_push_lt (by simpa using h2),← Array.getElem?_eq_getElem]
  exact Array.getElem?_setIfInBounds_ne fun e=>h1 e.symm
 have hgsz:((gs.setIfInBounds 0 (G (fr.finish undef) cs)).push (G (goFr P d) [])).size=gs.size+1:=by simp
 generalize hgg:(gs.setIfInBounds 0 (G (fr.finish undef) cs)).push (G (goFr P d) [])=gs' at hgs0 hgsI hgso hgsz hrunT
 refine ⟨gs',u,⟨fr.finish undef,cs,h',_,k _ _ hO⟩,sl++[.act ⟨goFr P d,[],hc,_,run⟩],give hp 0 gs.size h' hc,hrunT,?_,.spawn _ _ hO⟩
 clear hu hrunT hops
 have hfits:=give_fits hne c.mem.fits c.mem.sep hspl
 have haft:Aft W0 w (give hp 0 gs.size h' hc) (.game { X with tok:=none,seats:=X.seats++[⟨says,turn,fin,.run s' q'⟩] }):=by
  have hg:NewG W0 (.game X):=c.aft.game
  refine c.aft.parts' (fun i b o v e=>?_) (fun i b v e=>?_) ⟨hg.1,fun j cx d hj=>?_⟩
  ·by_cases i1:i=0
   ·subst i1;rw [give_a hne] at e;exact ⟨0,hspl.o1 _ _ _ e⟩
   ·by_cases i2:i=gs.size
    ·subst i2;rw [hgI] at e;exact ⟨0,hspl.o2 _ _ _ e⟩
    ·rw [hgn i i1 i2] at e;exact ⟨i,e⟩
  ·by_cases i1:i=0
   ·subst i1;rw [give_a hne] at e;exact ⟨0,hspl.b1 _ _ e⟩
   ·by_cases i2:i=gs.size
    ·subst i2;rw [hgI] at e;exact ⟨0,hspl.b2 _ _ e⟩
    ·rw [hgn i i1 i2] at e;exact ⟨i,e⟩
  ·rcases hseats j cx hj with ⟨_,hj⟩ | ⟨_,rfl⟩
   ·exact hg.2 j cx d hj
   ·exact c.aft.obj 0 _ _ (by rw [hh];exact hnew _ (hch d))
 refine ⟨by rw [hgsz];simp;omega,⟨_,hgs0,.inl runs_G⟩,fun i sx hi=>?_,⟨hfits,give_sep hne c.mem.fits c.mem.sep hspl,fun said=>race_mute (c.mem.nr said) hum,low_mute c.mem.low hum,fun op ho b=>(Array.mem_append.1 ho).elim (fun ho=>c.mem.norel op ho b) (fun ho=>hur op ho b)⟩,haft,by rw [give_a hne],fun i hi=>?_,fun i op hi=>?_,?_,?_,?_⟩
 ·rcases hslots i sx _ hi with ⟨hlt,hi⟩ | ⟨rfl,rfl⟩
  ·obtain ⟨g1,h1,h2⟩:=c.thr i sx hi
   exact ⟨g1,by rw [hgso _ (by omega) (by omega)];exact h1,slot_rely (Deaf_others (hng _ (by omega) (by omega))) (fun h=>h) h2⟩
  ·exact ⟨_,by rw [← hsize];exact hgsI,.inl runs_G⟩
 ·simp at hi
  rw [hgn _ (by omega) (by omega)];exact c.hpn i (by omega)
 ·simp
  rcases getElem?_append_cases hi with ⟨_,h⟩ | ⟨_,h⟩
  ·have:=c.tg i op h;omega
  ·rcases hug op h with h | h <;> omega
 rotate_right
 ·exact ⟨fun _=>hnf,fun d hd=>by replace hd:X.free=some d:=hd;rw [hfr] at hd;cases hd⟩
 ·rw [give_a hne];exact kn_mute (hspl.frz1.kn c.kn0) (fun j h=>h.app u) hum
 ·show ∃ nb,GameAt { X with tok:=none,seats:=X.seats++[⟨says,turn,fin,.run s' q'⟩] } gs' w (t++u) _ _ nb
  refine ⟨nb,⟨by simp;omega,fun i sx hi hc=>?_,fun j cx hj=>?_,fun j sx hs=>?_,fun j cx hj x hx=>?_,fun j j' cx cx' x x' hj hj' hx hx' e=>?_,fun i j cx x hj hx=>?_,fun i o=>give_own hne hspl (fun i=>hG.nowg i o) i,by rw [List.map_append];exact hG.wg.more hwt had,fun i b o ho2 hb hl=>?_,by rw [Deaf_plain hup];exact hG.deaf,fun e=>?_,fun e=>(by cases e),fun _=>.inl (by simp;omega),fun h=>absurd hwt h,hG.adl,fun j cx g1 hj hg1 hsx hb=>?_,fun g0 cases shp hg hb ho'=>?_,fun g0 hg hb ho'=>?_,fun j cx x i b hj hx hb hl=>?_⟩⟩
  ·rcases hslots i sx _ hc with ⟨_,hc⟩ | ⟨h,_⟩
   ·rw [hgn _ (by omega) (by omega)]
    exact (hG.old i sx hi hc).app (hng _ (by omega) (by omega))
   ·omega
  ·rcases hseats j cx hj with ⟨hlt,hj⟩ | ⟨rfl,rfl⟩
   ·obtain ⟨sx,h1,h2⟩:=hG.seat j cx hj
    refine ⟨sx,by rw [List.getElem?_append_left (by omega)];exact h1,?_⟩
    rw [hgn _ (by omega) (by omega)]
    exact seatAt_left (Nat.le_refl _) h2
   ·exact ⟨.act ⟨goFr P d,[],hc,_,run⟩,by rw [List.getElem?_append_right (by omega),show nb+X.seats.length-sl.length=0 by omega];rfl,_,rfl,.run (Nat.le_refl _)⟩
  ·rcases hslots _ sx _ hs with ⟨hlt,hs⟩ | ⟨he,rfl⟩
   ·rw [hgn _ (by omega) (by omega)]
    exact (hG.know j sx hs).app (hng _ (by omega) (by omega)) fun kk hK=>kn_mute kk hK hum
   ·rw [show nb+j+1=gs.size by omega,hgI]
    exact ⟨kn_mute (hspl.frz2.kn c.kn0) hknow hum,rfl,by rw [Deaf_plain hup];exact hdI⟩
  ·rcases hseats j cx hj with ⟨hlt,hj⟩ | ⟨rfl,rfl⟩
   ·exact hG.chan j cx hj x hx
   ·refine ⟨0,?_⟩
    rw [hfit.obj _ _ (hnew _ (hch x))]
    show some newChan=some (Obj.chan 0 #[] (decide (x=2)&&false) 0 0 false)
    rw [Bool.and_false];rfl
  ·rcases hseats j cx hj with ⟨hlt,hj⟩ | ⟨rfl,rfl⟩
   ·rcases hseats j' cx' hj' with ⟨hlt',hj'⟩ | ⟨rfl,rfl⟩
    ·exact hG.dist j j' cx cx' x x' hj hj' hx hx' e
    ·exact absurd e (hapart j cx x _ hj hx (hch x'))
   ·rcases hseats j' cx' hj' with ⟨hlt',hj'⟩ | ⟨rfl,rfl⟩
    ·exact absurd e.symm (hapart j' cx' x' _ hj' hx' (hch x))
    ·refine ⟨rfl,?_⟩
     rcases x with _ | _ | _ | x <;> rcases x' with _ | _ | _ | x' <;> first | rfl | omega | (exact absurd e n1) | (exact absurd e n2) | (exact absurd e n3) | (exact absurd e.symm n1) | (exact absurd e.symm n2) | (exact absurd e.symm n3)
  ·rcases hseats j cx hj with ⟨hlt,hj⟩ | ⟨rfl,rfl⟩
   ·exact give_obj hne hspl (fun i=>hG.noch i j cx x hj hx) i
   ·exact hnewno _ (hch x) i
  ·rcases touch_split hb with hb | ⟨op,ho,hi,h2⟩
   ·rcases hG.wgt i b o ho2 hb hl with this | ⟨k0,k1⟩
    ·refine .inl ⟨this.1,fun hsd=>?_⟩
     have h1:=this.2 hsd
     rw [g?_app (g?_lt h1)];exact h1
    ·refine .inr ⟨k0.app u,fun j' hj'=>?_⟩
     simp only [List.length_append,List.length_cons,List.length_nil] at hj'
     rcases Nat.lt_or_ge j' (X.seats.length+X.nf) with hlt | hge
     ·exact (k1 j' hlt).app u
     ·rw [show nb+j'+1=gs.size by omega];exact hknow i k0
   ·rw [hum op ho] at h2;cases h2
  ·refine ⟨X.seats.length,⟨says,turn,fin,.run s' q'⟩,by simp,rfl,fun j' c' hj' hne'=>?_⟩
   rcases hseats j' c' hj' with ⟨hlt,hj'⟩ | ⟨rfl,rfl⟩
   ·exact hG.tok1 (by rw [htk];rfl) j' c' hj'
   ·exact absurd rfl hne'
  ·rcases hseats j cx hj with ⟨hlt,hj⟩ | ⟨rfl,rfl⟩
   ·rw [hgso _ (by omega) (by omega)] at hg1
    exact hG.live j cx g1 hj hg1 hsx hb
   ·cases hsx
  ·rw [hgs0] at hg;cases hg;cases hb
  ·rw [hgs0] at hg;cases hg;cases hb
  ·rcases touch_split hb with hb | ⟨op,ho,hi,h2⟩
   ·rcases hseats j cx hj with ⟨hlt,hj⟩ | ⟨rfl,rfl⟩
    ·exact (hG.cht j cx x i b hj hx hb hl).app u
    ·exact (c.kn0.obj _ _ (by rw [hh];exact hnew _ (hch x)) i b hb hl).app u
   ·rw [hum op ho] at h2;cases h2
end
end Go.PB
namespace Go.PB
open Go.Conc Go.Conc.Lib
open Go.ConcR (KK stA smA rd wr mk DC0)
variable {W0:World} {P:Program} {cv:Value} {L:WgLink} {Em:Frame→List Frame→Hp→MX→Prop}
section
variable {w:World} {t:Trace} {hp:Nat→Hp} {a:Nat} {h1:Hp}
theorem Mem.frz (m:Mem w t hp) (z:Frz (hp a) h1):Mem w t (put hp a h1) where
 fits:=fun i=>by
  by_cases hi:i=a
  ·subst hi;rw [put_self];exact z.fits (m.fits i)
  ·rw [put_ne hi];exact m.fits i
 sep:=fun i j hij=>by
  by_cases hi:i=a
  ·subst hi;rw [put_self,put_ne fun e=>hij e.symm];exact z.sep (m.sep _ _ hij)
  ·by_cases hj:j=a
   ·subst hj;rw [put_self,put_ne hi];exact (z.sep (m.sep _ _ fun e=>hij e.symm)).symm
   ·rw [put_ne hi,put_ne hj];exact m.sep _ _ hij
 nr:=m.nr
 low:=m.low
 norel:=m.norel
theorem Aft.frz {W0:World} {x x':MX} (A:Aft W0 w hp x) (z:Frz (hp a) h1) (hx:NewG W0 x'):Aft W0 w (put hp a h1) x':=by
 refine A.parts' (fun i b o v e=>?_) (fun i b v e=>?_) hx
 ·by_cases hi:i=a
  ·subst hi;rw [put_self] at e;exact ⟨i,z.own _ _ _ e⟩
  ·rw [put_ne hi] at e;exact ⟨i,e⟩
 ·by_cases hi:i=a
  ·subst hi;rw [put_self] at e;exact ⟨i,z.obj _ _ e⟩
  ·rw [put_ne hi] at e;exact ⟨i,e⟩
theorem frz_obj (z:Frz (hp a) h1) {x:Nat} (h:∀ i,(hp i).obj x=none) (i:Nat):(put hp a h1 i).obj x=none:=by
 by_cases hi:i=a
 ·subst hi;rw [put_self];exact none_of fun v e=>by have:=z.obj _ _ e;rw [h i] at this;cases this
 ·rw [put_ne hi];exact h i
theorem frz_own (z:Frz (hp a) h1) {x o:Nat} (h:∀ i,(hp i).own x o=none∧(hp i).ro x o=none) (i:Nat):(put hp a h1 i).own x o=none∧(put hp a h1 i).ro x o=none:=by
 by_cases hi:i=a
 ·subst hi;rw [put_self]
  refine ⟨none_of fun v e=>(by have:=z.own _ _ _ e;rw [(h i).1] at this;cases this),none_of fun v e=>?_⟩
  rcases z.ro _ _ _ e with e | ⟨e,_⟩
  ·rw [(h i).2] at e;cases e
  ·rw [(h i).1] at e;cases e
 ·rw [put_ne hi];exact h i
end
section
variable {gs:Array Goroutine} {w:World} {t:Trace} {M:MN P cv L Em} {sl:List (Slot P cv L)} {hp:Nat→Hp}
theorem Cfg.frz0 (c:Cfg W0 gs w t M sl hp) {h1:Hp} (z:Frz M.h h1) {M':MN P cv L Em} (hx:M'.x=M.x) (hh:M'.h=h1) (hm:∃ g,gs[0]?=some g∧MainG g M'):Cfg W0 gs w t M' sl (put hp 0 h1):=by
 have z0:Frz (hp 0) h1:=by rw [c.hp0];exact z
 have hpn:∀ i,i≠0→put hp 0 h1 i=hp i:=fun i hi=>put_ne hi
 have hfz:∀ i,Frz (hp i) (put hp 0 h1 i):=fun i=>by
  by_cases hi:i=0
  ·subst hi;rw [put_self];exact z0
  ·rw [hpn i hi];exact Frz.refl
 refine ⟨c.size,hm,fun i s hi=>by rw [hx];exact c.thr i s hi,c.mem.frz z0,c.aft.frz z0 (by rw [hx];exact c.aft.game),by rw [put_self,hh],fun i hi=>by rw [hpn _ (by omega)];exact c.hpn i hi,c.tg,by rw [put_self];exact z0.kn c.kn0,?_,by rw [hx];exact c.pool.same hfz hpn⟩
 have hgame:=c.game
 rw [hx]
 cases hM:M.x with
 | idle =>
  rw [hM] at hgame
  exact ⟨fun i s hi=>by have:=hgame.old i s hi;rw [show put hp 0 h1 (i+1)=hp (i+1) from hpn _ (by omega)];exact this,hgame.deaf,hgame.runs⟩
 | game X =>
  rw [hM] at hgame
  obtain ⟨nb,hG⟩:=hgame
  exact ⟨nb,⟨hG.len,fun i s h1' h2=>by rw [hpn _ (by omega)];exact hG.old i s h1' h2,fun j c hj=>by rw [hpn _ (by omega)];exact hG.seat j c hj,fun j s hs=>by rw [hpn _ (by omega)];exact hG.know j s hs,hG.chan,hG.dist,fun i j c a hj ha=>frz_obj z0 (fun i=>hG.noch i j c a hj ha) i,fun i o=>frz_own z0 (fun i=>hG.nowg i o) i,hG.wg,hG.wgt,hG.deaf,hG.tok0,hG.tok1,hG.adp,hG.ads,hG.adl,hG.live,hG.park,hG.sleep,hG.cht⟩⟩
theorem Cfg.frz1 (c:Cfg W0 gs w t M sl hp) {X:GX} {nb j:Nat} (hX:M.x=.game X) (hG:GameAt X gs w t sl hp nb) {n:TN P cv L} (hs:sl[nb+j]?=some (.act n)) {h1:Hp} (z:Frz (hp (nb+j+1)) h1) {s':Slot P cv L}
  (hst:s'.stage=7∨s'.stage=6) (hsg:∃ g,gs[nb+j+1]?=some g∧SlotG w X.wg (Deaf t (nb+j+1)) g s') (hkn:SlotKn t X.wg (nb+j+1) h1 s') (hsa:∀ c:St X,X.seats[j]?=some c→SeatAt X c h1 s') (hsp:∀ (m:Nat) (q:X.g.θ),FreeSt X.wg m q (hp (nb+j+1)) (.act n:Slot P cv L)→FreeSt X.wg m q h1 s') :
  Cfg W0 gs w t M (sl.set (nb+j) s') (put hp (nb+j+1) h1):=by
 have hlt:nb+j<sl.length:=(List.getElem?_eq_some_iff.1 hs).1
 have hpn:∀ i,i≠nb+j+1→put hp (nb+j+1) h1 i=hp i:=fun i hi=>put_ne hi
 have hstg:(sl.map Slot.stage)[nb+j]?=some 7:=by rw [List.getElem?_map,hs];rfl
 refine ⟨by rw [List.length_set];exact c.size,c.main,fun i s hi=>?_,c.mem.frz z,c.aft.frz z c.aft.game,by rw [hpn _ (by omega)];exact c.hp0,fun i hi=>by rw [List.length_set] at hi;rw [hpn _ (by omega)];exact c.hpn i hi,fun i op hi=>by rw [List.length_set];exact c.tg i op hi,by rw [hpn _ (by omega)];exact c.kn0,?_,?_⟩
 rotate_right
 ·have hpo:=c.pool
  rw [hX] at hpo ⊢
  refine ⟨hpo.1,fun d hd=>?_⟩
  obtain ⟨e1,e2,nb',pl,s,qs,p⟩:=hpo.2 d hd
  refine ⟨e1,e2,nb',pl,s,qs,?_⟩
  have:=p.step (u:=#[]) (sl':=sl.set (nb+j) s') (hp':=put hp (nb+j+1) h1) p.fits (fun i=>?_) (fun op ho=>by simp at ho) (by rw [List.length_set]) fun m q i sx hi=>?_
  ·rwa [Array.append_empty] at this
  ·by_cases hi:i=nb+j+1
   ·subst hi;rw [put_self];exact z.sep (p.sep _)
   ·rw [hpn i hi];exact p.sep i
  ·by_cases hij:i=nb+j
   ·subst hij
    simp [hlt] at hi
    subst hi
    exact ⟨_,hs,fun h=>by rw [put_self];exact hsp m q h⟩
   ·rw [List.getElem?_set_ne fun e=>hij e.symm] at hi
    exact ⟨sx,hi,fun h=>by rw [hpn _ (by omega)];exact h⟩
 ·by_cases hij:i=nb+j
  ·subst hij
   simp [hlt] at hi
   subst hi
   rw [hX];exact hsg
  ·rw [List.getElem?_set_ne fun e=>hij e.symm] at hi
   exact c.thr i s hi
 ·rw [hX]
  refine ⟨nb,⟨by rw [List.length_set];exact hG.len,fun i s h1' h2=>?_,fun k cx hj=>?_,fun k s hs'=>?_,hG.chan,hG.dist,fun i k c a hj ha=>frz_obj z (fun i=>hG.noch i k c a hj ha) i,fun i o=>frz_own z (fun i=>hG.nowg i o) i,?_,hG.wgt,hG.deaf,hG.tok0,hG.tok1,hG.adp,hG.ads,hG.adl,hG.live,hG.park,hG.sleep,hG.cht⟩⟩
  ·rw [List.getElem?_set_ne (by omega)] at h2
   rw [hpn _ (by omega)];exact hG.old i s h1' h2
  ·by_cases hkj:k=j
   ·subst hkj
    exact ⟨s',by simp [hlt],by rw [put_self];exact hsa cx hj⟩
   ·obtain ⟨sx,h1',h2⟩:=hG.seat k cx hj
    exact ⟨sx,by rw [List.getElem?_set_ne (by omega)];exact h1',by rw [hpn _ (by omega)];exact h2⟩
  ·by_cases hkj:k=j
   ·subst hkj
    simp [hlt] at hs'
    subst hs'
    rw [put_self];exact hkn
   ·rw [List.getElem?_set_ne (by omega)] at hs'
    rw [hpn _ (by omega)];exact hG.know k s hs'
  ·rw [List.map_set]
   rcases hst with h | h
   ·rw [h];exact hG.wg.far hstg (by omega) (by omega) fun _ _ h=>h
   ·rw [h];exact hG.wg.far hstg (by omega) (by omega) fun _ _ h=>h
theorem Cfg.start (c:Cfg W0 gs w t M sl hp) (hX:M.x=.idle) {g:Game} {wg lf:Nat} {s:g.σ} {h1:Hp} {fd:Option (FreeD g)} (e0:M.h.own wg 0=some (.int .u64 0)) (e1:M.h.own wg 1=some (.int .u32 0)) (e2:M.h.shp wg=some (L.tWg,2)) (z:Frz M.h h1) (hn:∀ o,h1.own wg o=none∧h1.ro wg o=none)
  {M':MN P cv L Em} (hpo:PoolOk W0 (.game ⟨g,wg,[],some s,lf,0,false,.play,fd,0⟩) w t sl (put hp 0 h1)) (hx:M'.x=.game ⟨g,wg,[],some s,lf,0,false,.play,fd,0⟩) (hh:M'.h=h1) (hm:∃ g,gs[0]?=some g∧MainG g M'):Cfg W0 gs w t M' sl (put hp 0 h1):=by
 have z0:Frz (hp 0) h1:=by rw [c.hp0];exact z
 have hpn:∀ i,i≠0→put hp 0 h1 i=hp i:=fun i hi=>put_ne hi
 have hgame:=c.game
 rw [hX] at hgame
 have hfit:Fits M.h w:=by rw [← c.hp0];exact c.mem.fits 0
 have hat:WgAt L.tWg wg w 0 0:=by
  have f0:=hfit.own _ _ _ e0
  have f1:=hfit.own _ _ _ e1
  have fz:=hfit.thaw _ _ _ e0
  have fz1:=hfit.thaw _ _ _ e1
  have f2:=hfit.shp _ _ e2
  unfold World.shape? at f2
  cases hb:w.heap[wg]? with
  | none=>rw [hb] at f2;cases f2
  | some o =>
   rw [hb] at f2
   cases o with
   | cells cs ty frz =>
    simp at f2
    obtain ⟨rfl,f2⟩:=f2
    refine ⟨frz,?_,fz,fz1⟩
    rw [hb]
    simp only [World.cell?,hb] at f0 f1
    congr 2
    apply Array.ext_getElem?
    intro i
    rcases i with _ | _ | i
    ·simpa using f0
    ·simpa using f1
    ·rw [Array.getElem?_eq_none (by omega),Array.getElem?_eq_none (by simp)]
   | _=>cases f2
 have hold:∀ i s,sl[i]?=some s→Old t (i+1) (hp (i+1)) s:=hgame.old
 refine ⟨c.size,hm,fun i s hi=>?_,c.mem.frz z0,c.aft.frz z0 (by rw [hx];exact ⟨c.aft.own 0 _ _ _ (by rw [c.hp0];exact e0),fun j c a hj=>by simp at hj⟩),by rw [put_self,hh],fun i hi=>by rw [hpn _ (by omega)];exact c.hpn i hi,c.tg,by rw [put_self];exact z0.kn c.kn0,?_,by rw [hx];exact hpo⟩
 ·obtain ⟨g1,h1',h2⟩:=c.thr i s hi
  obtain ⟨m,rfl⟩:=(hold i s hi).out
  exact ⟨g1,h1',h2⟩
 ·rw [hx]
  have hnil:∀ {j:Nat} {c:Seat g.σ g.θ},([]:List (Seat g.σ g.θ))[j]?=some c→False:=fun h=>by simp at h
  refine ⟨sl.length,⟨rfl,fun i s hi hs=>by rw [hpn _ (by omega)];exact hold i s hs,fun j c hj=>(hnil hj).elim,fun j s hs=>?_,fun j c hj=>(hnil hj).elim,fun j j' c c' a a' hj=>(hnil hj).elim,fun i j c a hj=>(hnil hj).elim,fun i o=>?_,?_,fun i a o ho2 ha hl=>?_,hgame.deaf,fun e=>(by cases e),fun _ j c hj=>(hnil hj).elim,fun _=>.inl rfl,fun h=>absurd rfl h,by show 0≤1000;omega,fun j c g hj=>(hnil hj).elim,fun g0 cases sh hg hb=>absurd hb (hgame.runs g0 hg),fun g0 hg hb=>absurd hb (hgame.runs g0 hg),fun j c a i b hj=>(hnil hj).elim⟩⟩
  ·have:=(List.getElem?_eq_some_iff.1 hs).1;omega
  ·by_cases hi:i=0
   ·subst hi;rw [put_self];exact hn o
   ·rw [hpn _ hi]
    obtain ⟨i,rfl⟩:∃ i',i=i'+1:=⟨i-1,by omega⟩
    rcases Nat.lt_or_ge i sl.length with hlt | hge
    ·rw [(hold i _ (List.getElem?_eq_getElem hlt)).empty];exact ⟨rfl,rfl⟩
    ·rw [c.hpn _ (by omega)];exact ⟨rfl,rfl⟩
  ·have hz:∀ k∈sl.map Slot.stage,k=0:=fun k hk=>by
    obtain ⟨s,hs,rfl⟩:=List.mem_map.1 hk
    obtain ⟨i,hi⟩:=List.getElem?_of_mem hs
    obtain ⟨m,rfl⟩:=(hold i s hi).out
    rfl
   refine .quiet 0 0 (by simpa using hat) ?_ (fun k hk=>.inl (hz k hk)) rfl (fun h=>by cases h) trivial
   have:((sl.map Slot.stage).filter fun k=>decide (4≤k))=[]:=List.filter_eq_nil_iff.2 fun k hk=>by simp [hz k hk]
   rw [this];rfl
  ·refine .inr ⟨?_,fun j hj=>by simp at hj⟩
   have hk:=c.kn0
   rw [c.hp0] at hk
   rcases o with _ | _ | o
   ·exact hk.own _ _ _ e0 i a ha hl
   ·exact hk.own _ _ _ e1 i a ha hl
   ·omega
end
end Go.PB
namespace Go.PB
open Go.Conc Go.Conc.Lib
open Go.ConcR (KK stA smA rd wr mk DC0)
section
variable {W0:World} {P:Program} {cv:Value} {L:WgLink} {Em:Frame→List Frame→Hp→MX→Prop}
section
variable {w:World} {b o:Nat} {old:Value} {new:Option Value} {h k:Hp}
theorem side_lay:Side w (World.lay w b o new):=by
 cases new with
 | none=>exact Side.refl
 | some v=>exact side_setCell
theorem lay_ne {c:Nat} (h:c≠b):(World.lay w b o new).heap[c]?=w.heap[c]?:=by
 cases new with
 | none=>rfl
 | some v=>exact setCell_ne h
theorem lay_size:(World.lay w b o new).heap.size=w.heap.size:=by
 cases new with
 | none=>rfl
 | some v=>exact setCell_size
theorem lay_shape (c:Nat):(World.lay w b o new).shape? c=w.shape? c:=by
 cases new with
 | none=>rfl
 | some v=>exact shape_setCell ..
theorem lay_cell (hc:w.cell? ⟨b,o,none⟩=some old) {b' o':Nat} (hn:¬ (b'=b∧o'=o)):(World.lay w b o new).cell? ⟨b',o',none⟩=w.cell? ⟨b',o',none⟩:=by
 cases new with
 | none=>rfl
 | some v =>
  have:=cell_setCell (v:=v) (b':=b') (o':=o') hc
  show (w.setCell ⟨b,o,none⟩ v).cell? ⟨b',o',none⟩=_
  rw [this,if_neg hn]
theorem lay_self {v:Value} (hc:w.cell? ⟨b,o,none⟩=some old):(World.lay w b o (some v)).cell? ⟨b,o,none⟩=some v:=by
 have:=cell_setCell (v:=v) (b':=b) (o':=o) hc
 show (w.setCell ⟨b,o,none⟩ v).cell? ⟨b,o,none⟩=_
 rw [this,if_pos ⟨rfl,rfl⟩]
theorem cell_heap (hc:w.cell? ⟨b,o,none⟩=some old):∃ ob,w.heap[b]?=some ob∧isCells ob=true:=by
 unfold World.cell? at hc
 cases hb:w.heap[b]? with
 | none=>simp [hb] at hc
 | some ob =>
  refine ⟨ob,rfl,?_⟩
  simp only [hb] at hc
  cases ob <;> first | rfl | (simp at hc;done)
theorem fits_lay (f:Fits k w) (hc:w.cell? ⟨b,o,none⟩=some old) (h1:k.own b o=none) (h2:k.ro b o=none):Fits k (World.lay w b o new) where
 own:=fun b' o' v e=>by
  rw [lay_cell hc fun h=>by rw [h.1,h.2,h1] at e;cases e];exact f.own _ _ _ e
 thaw:=fun b' o' v e=>by rw [side_lay.frz];exact f.thaw _ _ _ e
 ro:=fun b' o' v e=>by
  rw [lay_cell hc fun h=>by rw [h.1,h.2,h2] at e;cases e];exact f.ro _ _ _ e
 disj:=f.disj
 obj:=fun b' ob e=>by
  have hb:=f.obj _ _ e
  have hn:=f.objn _ _ e
  rw [lay_ne fun h=>by obtain ⟨ob',e1,e2⟩:=cell_heap hc;rw [h,e1] at hb;cases hb;rw [e2] at hn;cases hn]
  exact hb
 objn:=f.objn
 shp:=fun b' y e=>by rw [lay_shape];exact f.shp _ _ e
theorem lay_own {b' o':Nat} {v:Value} (h1:k.own b o=some old) (e:(k.lay b o new).own b' o'=some v):∃ u,k.own b' o'=some u:=by
 cases new with
 | none=>exact ⟨v,e⟩
 | some n =>
  by_cases h:b'=b∧o'=o
  ·exact ⟨old,by rw [h.1,h.2];exact h1⟩
  ·have:(k.lay b o (some n)).own b' o'=k.own b' o':=by simp [Hp.lay,h]
   exact ⟨v,by rw [← this];exact e⟩
theorem lay_ro {b' o':Nat}:(k.lay b o new).ro b' o'=k.ro b' o':=by cases new <;> rfl
theorem lay_obj {b':Nat}:(k.lay b o new).obj b'=k.obj b':=by cases new <;> rfl
theorem lay_none {b' o':Nat} (h1:k.own b o=some old) (e:k.own b' o'=none):(k.lay b o new).own b' o'=none:=none_of fun v hv=>by
 obtain ⟨u,hu⟩:=lay_own h1 hv
 rw [e] at hu;cases hu
theorem fits_laid (f:Fits k w) (h1:k.own b o=some old):Fits (k.lay b o new) (World.lay w b o new):=by
 have hc:=f.own _ _ _ h1
 cases new with
 | none=>exact f
 | some n =>
  refine ⟨fun b' o' v e=>?_,fun b' o' v e=>?_,fun b' o' v e=>?_,fun b' o' v e=>?_,fun b' ob e=>?_,f.objn,fun b' y e=>by rw [lay_shape];exact f.shp _ _ e⟩
  ·by_cases h:b'=b∧o'=o
   ·obtain ⟨rfl,rfl⟩:=h
    have:(k.lay b' o' (some n)).own b' o'=some n:=by simp [Hp.lay]
    rw [this] at e;cases e
    exact lay_self hc
   ·have:(k.lay b o (some n)).own b' o'=k.own b' o':=by simp [Hp.lay,h]
    rw [this] at e
    rw [lay_cell hc h];exact f.own _ _ _ e
  ·obtain ⟨u,hu⟩:=lay_own (new:=some n) h1 e
   rw [side_lay.frz];exact f.thaw _ _ _ hu
  ·rw [lay_ro] at e
   rw [lay_cell hc fun h=>by rw [h.1,h.2,f.disj _ _ _ h1] at e;cases e];exact f.ro _ _ _ e
  ·obtain ⟨u,hu⟩:=lay_own (new:=some n) h1 e
   rw [lay_ro];exact f.disj _ _ _ hu
  ·rw [lay_obj] at e
   have hb:=f.obj _ _ e
   have hn:=f.objn _ _ e
   rw [lay_ne fun h=>by obtain ⟨ob',e1,e2⟩:=cell_heap hc;rw [h,e1] at hb;cases hb;rw [e2] at hn;cases hn]
   exact hb
theorem sep_laid (s:Sep h k) (h1:k.own b o=some old):Sep h (k.lay b o new) where
 oo:=fun b' o' v e=>lay_none h1 (s.oo _ _ _ e)
 wr:=fun b' o' v e=>by rw [lay_ro];exact s.wr _ _ _ e
 rw:=fun b' o' v e=>lay_none h1 (s.rw _ _ _ e)
 bb:=fun b' v e=>by rw [lay_obj];exact s.bb _ _ e
end
structure One (b o a:Nat) (u:Trace):Prop where
 g:∀ op∈u,op.g=a
 touch:∀ op∈u,∀ x,op.act.touch?=some x→x.loc=.cell ⟨b,o,none⟩∧x.kind=.atomic
 plain:∀ op∈u,Plain op
theorem one_of {b o a:Nat} {fn:FuncId} {pos:String} {es:Array Event} (h:∀ e∈es,(∃ f,e=⟨.mark (.extern f),false,true⟩)∨∃ z,e=⟨.cell ⟨b,o,none⟩,z,true⟩):One b o a (MemOp.ofEvents a fn pos es) where
 g:=fun op ho=>by obtain ⟨e,_,rfl⟩:=ofEvents_mem ho;rfl
 touch:=fun op ho x hx=>by
  obtain ⟨e,h1,rfl⟩:=ofEvents_mem ho
  rcases h e h1 with ⟨f,rfl⟩ | ⟨z,rfl⟩
  ·have:(MemAct.ofEvent ⟨.mark (.extern f),false,true⟩).touch?=none:=rfl
   rw [this] at hx;cases hx
  ·have:(MemAct.ofEvent ⟨.cell ⟨b,o,none⟩,z,true⟩).touch?=some ⟨.cell ⟨b,o,none⟩,z,.atomic⟩:=by cases z <;> rfl
   rw [this] at hx;cases hx;exact ⟨rfl,rfl⟩
 plain:=fun op ho m hm=>by
  obtain ⟨e,h1,rfl⟩:=ofEvents_mem ho
  rcases h e h1 with ⟨f,rfl⟩ | ⟨z,rfl⟩
  ·have:MemAct.ofEvent ⟨.mark (.extern f),false,true⟩=.mark (.extern f):=rfl
   rw [this] at hm;cases hm;exact .inr ⟨f,rfl⟩
  ·cases z <;> cases hm
theorem one_kn {t u:Trace} {K K':Nat→Prop} {h:Hp} {b o a:Nat} (kn:Kn t K h) (hK:∀ j,K j→K' j) (s:One b o a u) (h1:h.own b o=none) (h2:h.ro b o=none):Kn (t++u) K' h where
 own:=fun b' o' v e i x hx hl=>by
  rcases touch_split hx with hx | ⟨op,ho,_,h3⟩
  ·exact hK _ (kn.own _ _ _ e _ _ hx hl)
  ·rw [(s.touch op ho x h3).1] at hl;cases hl;rw [h1] at e;cases e
 ro:=fun b' o' v e i x hx hl hw=>by
  rcases touch_split hx with hx | ⟨op,ho,_,h3⟩
  ·exact hK _ (kn.ro _ _ _ e _ _ hx hl hw)
  ·rw [(s.touch op ho x h3).1] at hl;cases hl;rw [h2] at e;cases e
 obj:=fun b' v e i x hx hl=>by
  rcases touch_split hx with hx | ⟨op,ho,_,h3⟩
  ·exact hK _ (kn.obj _ _ e _ _ hx hl)
  ·rw [(s.touch op ho x h3).1] at hl;cases hl
theorem heard_plain {t u:Trace} {a i:Nat} {op:MemOp} (hd:Deaf t a=0) (hu:∀ op∈u,Plain op) (hi:(t++u)[i]?=some op) (hg:op.g=a) (hge:t.size≤i):(t++u).heard i:=by
 refine ⟨a,by rw [g?_of hi,hg],?_⟩
 have hlt:=lt_size_of_getElem? hi
 obtain ⟨u1,u2,e1,e2⟩:∃ u1 u2:Trace,u=u1++u2∧u1.size=i-t.size:=by
  refine ⟨u.extract 0 (i-t.size),u.extract (i-t.size) u.size,?_,?_⟩
  ·simp only [Array.size_append] at hlt
   rw [Array.extract_append_extract,Nat.min_eq_left (Nat.zero_le _),Nat.max_eq_right (by omega)]
   simp
  ·simp only [Array.size_append] at hlt
   simp;omega
 have e3:t++u=(t++u1)++u2:=by rw [e1];simp [Array.append_assoc]
 have e4:i=(t++u1).size:=by simp only [Array.size_append];omega
 rw [e3,e4,deaf_old (Nat.le_refl _)]
 show Deaf (t++u1) a=0
 rw [Deaf_plain fun op ho=>hu op (by rw [e1];exact Array.mem_append.2 (.inl ho))]
 exact hd
section
variable {gs:Array Goroutine} {w:World} {t:Trace} {M:MN P cv L Em} {sl:List (Slot P cv L)} {hp:Nat→Hp} {g:Goroutine} {sc:Option (Nat × Nat)} {X:GX} {nb j:Nat}
theorem Pool.nb_eq {d:FreeD X.g} {nb':Nat} {pl:Hp} {s:X.g.σ} {qs:List X.g.θ} (p:Pool W0 X.g X.wg X.nf d w t sl hp nb' pl s qs) (hG:GameAt X gs w t sl hp nb) (e:X.seats=[]):nb'=nb:=by
 have h1:=p.len
 have h2:=hG.len
 rw [e] at h2
 simp at h2;omega
theorem FreeSt.mono {g:Game} {wg m m':Nat} {q:g.θ} {h:Hp} {s:Slot P cv L} (k:FreeSt wg m q h s) (hm:m'≤m):FreeSt wg m' q h s:=by
 cases s with
 | act n=>obtain ⟨n',e,h⟩:=k;exact ⟨n',e,Nat.le_trans hm h⟩
 | out a b=>exact k
theorem pool_slot {d:FreeD X.g} {pl:Hp} {s:X.g.σ} {qs:List X.g.θ} {n:TN P cv L} (p:Pool W0 X.g X.wg X.nf d w t sl hp nb pl s qs) (hs:sl[nb+j]?=some (.act n)):∃ q0 n0,qs[j]?=some q0∧n.x=⟨X.g,0,0,0,X.wg,.free q0 n0⟩∧d.φ s qs≤n0:=by
 obtain ⟨q0,hq0,n0,hx0,hle⟩:=p.slot j _ hs
 exact ⟨q0,n0,hq0,hx0,hle⟩
theorem cfg_pool {d:FreeD X.g} {pl pl':Hp} {s s':X.g.σ} {qs:List X.g.θ} {q':X.g.θ} {n n':TN P cv L} {n2 bk:Nat} {gs':Array Goroutine} {w':World} {u:Trace}
  (c:Cfg W0 gs w t M sl hp) (hX:M.x=.game X) (hG:GameAt X gs w t sl hp nb) (hs:sl[nb+j]?=some (.act n)) (hd:X.free=some d) (hse:X.seats=[]) (htk:X.tok.isSome=true) (p:Pool W0 X.g X.wg X.nf d w t sl hp nb pl s qs)
  (q:Gs P (nb+j+1) gs gs' (G n'.fr n'.cs)) (hx':n'.x=⟨X.g,0,0,0,X.wg,.free q' n2⟩) (hle:d.φ s' (qs.set j q')≤n2) (hinv:d.I s' (qs.set j q')) (hphi:d.φ s' (qs.set j q')≤d.φ s qs)
  (hmem:Mem w' (t++u) (put hp (nb+j+1) n'.h)) (hug:∀ op∈u,op.g=nb+j+1) (hup:∀ op∈u,Plain op)
  (hko:∀ i,i≠nb+j+1→∀ {K K':Nat→Prop},Kn t K (hp i)→(∀ j,K j→K' j)→Kn (t++u) K' (hp i)) (hks:Kn (t++u) (Knows (t++u) (nb+j+1)) n'.h)
  (hsd:Side w w') (hsz:w'.heap.size=w.heap.size) (hw:∀ c,c≠bk→w'.heap[c]?=w.heap[c]?) (hbk:bk≠X.wg) (hbn:W0.heap.size≤bk) (hho:∀ b o v,n'.h.own b o=some v→W0.heap.size≤b) (hhb:∀ b v,n'.h.obj b=some v→W0.heap.size≤b) (hhw:∀ o,n'.h.own X.wg o=none∧n'.h.ro X.wg o=none)
  (hut:∀ op∈u,∀ y,op.act.touch?=some y→∀ o,y.loc≠.cell ⟨X.wg,o,none⟩)
  (hU:X.g.U s' pl') (hfp:Fits pl' w') (hsp:∀ i,Sep (put hp (nb+j+1) n'.h i) pl') (hnw:∀ o,pl'.own X.wg o=none∧pl'.ro X.wg o=none) (hnew:∀ b o v,pl'.own b o=some v→W0.heap.size≤b)
  (hobj:∀ b ob,pl'.obj b=some ob→W0.heap.size≤b∧∀ i a,touchAt (t++u) i=some a→a.loc=.obj b→Knows (t++u) 0 i)
  (hkno:∀ b o v,pl'.own b o=some v→∀ i a,touchAt (t++u) i=some a→a.loc=.cell ⟨b,o,none⟩→(a.kind=.atomic∧(t++u).counts i∧∃ j,j<X.nf∧(t++u).g? i=some (nb+j+1))∨(Knows (t++u) 0 i∧∀ j,j<X.nf→Knows (t++u) (nb+j+1) i))
  (hknr:∀ b o v,pl'.ro b o=some v→∀ i a,touchAt (t++u) i=some a→a.loc=.cell ⟨b,o,none⟩→a.write=true→Knows (t++u) 0 i∧∀ j,j<X.nf→Knows (t++u) (nb+j+1) i) :
  Cfg W0 gs' w' (t++u) M (sl.set (nb+j) (.act n')) (put hp (nb+j+1) n'.h):=by
 have hlt:nb+j<sl.length:=(List.getElem?_eq_some_iff.1 hs).1
 have hdj:Deaf t (nb+j+1)=0:=(hG.know j _ hs).2.2
 have hng:∀ i,i≠nb+j+1→∀ op∈u,op.g≠i:=fun i hi op ho e=>hi (by rw [← e,hug op ho])
 have hwg:∀ y z,WgAt L.tWg X.wg w y z→WgAt L.tWg X.wg w' y z:=fun y z h=>h.of_heap (hw _ fun e=>hbk e.symm)
 have hrl:RL L.tWg X.wg w w':=fun ⟨y,z,h⟩=>⟨y,z,hwg _ _ h⟩
 have hstg:∀ n',(sl.set (nb+j) (.act n')).map Slot.stage=sl.map Slot.stage:=fun n'=>by
  apply List.ext_getElem?
  intro k
  rw [List.getElem?_map,List.getElem?_map]
  by_cases hki:nb+j=k
  ·subst hki;rw [List.getElem?_set_self hlt,hs];rfl
  ·rw [List.getElem?_set_ne hki]
 have hpo:=c.pool
 rw [hX] at hpo
 obtain ⟨qj,hqj,_⟩:=p.slot j _ hs
 have h0:put hp (nb+j+1) n'.h 0=hp 0:=put_ne (by omega)
 have haft:Aft W0 w' (put hp (nb+j+1) n'.h) M.x:=by
  have hA:=c.aft.at_block hbn hsd hw hsz c.aft.game
  refine ⟨hA.after,fun i b o v e=>?_,fun i b v e=>?_,hA.game⟩
  ·by_cases hi:i=nb+j+1
   ·subst hi;rw [put_self] at e;exact hho b o v e
   ·rw [put_ne hi] at e;exact hA.own i b o v e
  ·by_cases hi:i=nb+j+1
   ·subst hi;rw [put_self] at e;exact hhb b v e
   ·rw [put_ne hi] at e;exact hA.obj i b v e
 refine ⟨by rw [q.size,List.length_set];exact c.size,?_,fun i sx hi=>?_,hmem,haft,by rw [h0];exact c.hp0,fun i hi=>?_,fun i op hi=>?_,by rw [h0];exact hko 0 (by omega) c.kn0 fun j h=>h.app u,?_,?_⟩
 ·obtain ⟨g,h1,h2⟩:=c.main
  obtain ⟨y,y',w2,h3⟩:=q.other 0 g (by omega) h1
  exact ⟨_,h3,h2.woken⟩
 ·rw [hX]
  by_cases hij:i=nb+j
  ·subst hij
   simp [hlt] at hi
   subst hi
   exact ⟨_,q.self,.inl runs_G⟩
  ·rw [List.getElem?_set_ne fun e=>hij e.symm] at hi
   obtain ⟨g,h1,h2⟩:=c.thr i sx hi
   rw [hX] at h2
   obtain ⟨y,y',w2,h3⟩:=q.other (i+1) g (by omega) h1
   exact ⟨_,h3,slot_woken (Deaf_others (hng _ (by omega))) hrl h2⟩
 ·rw [List.length_set] at hi
  rw [put_ne (by omega)];exact c.hpn i hi
 ·simp only [List.length_set]
  rcases getElem?_append_cases hi with ⟨_,h⟩ | ⟨_,h⟩
  ·exact c.tg i op h
  ·rw [hug op h];omega
 ·rw [hX]
  have hnil:∀ {k:Nat} {cx:St X},X.seats[k]?=some cx→False:=fun h=>by rw [hse] at h;simp at h
  refine ⟨nb,⟨by rw [List.length_set];exact hG.len,fun i sx hi hc=>?_,fun k cx hk=>(hnil hk).elim,fun k sx hk=>?_,fun k cx hk=>(hnil hk).elim,fun k k' cx cx' y y' hk=>(hnil hk).elim,fun i k cx y hk=>(hnil hk).elim,fun i o=>?_,by rw [hstg];exact hG.wg.at hwg,fun i y o' ho2 hy hl=>?_,by rw [Deaf_others (hng 0 (by omega))];exact hG.deaf,fun e=>(by rw [e] at htk;cases htk),fun _ k cx hk=>(hnil hk).elim,hG.adp,hG.ads,hG.adl,fun k cx g hk=>(hnil hk).elim,fun g0 cases shp hg0 hb0 ho=>?_,fun g0 hg0 hb0 ho=>?_,fun k cx y i z hk=>(hnil hk).elim⟩⟩
  ·rw [List.getElem?_set_ne (by omega)] at hc
   rw [put_ne (by omega)]
   exact (hG.old i sx hi hc).app (hng _ (by omega))
  ·by_cases hkj:k=j
   ·subst hkj
    simp [hlt] at hk
    subst hk
    rw [put_self]
    exact ⟨hks,rfl,by rw [Deaf_plain hup];exact hdj⟩
   ·rw [List.getElem?_set_ne (by omega)] at hk
    rw [put_ne (by omega)]
    exact (hG.know k sx hk).app (hng _ (by omega)) fun kk hK=>hko _ (by omega) kk hK
  ·by_cases hi:i=nb+j+1
   ·subst hi;rw [put_self];exact hhw o
   ·rw [put_ne hi];exact hG.nowg i o
  ·rcases touch_split hy with hy | ⟨op,ho,_,h2⟩
   ·rcases hG.wgt i y o' ho2 hy hl with this | ⟨k0,k1⟩
    ·refine .inl ⟨this.1,fun hsd=>?_⟩
     have h1:=this.2 hsd
     rw [g?_app (g?_lt h1)];exact h1
    ·exact .inr ⟨k0.app u,fun j' hj'=>(k1 j' hj').app u⟩
   ·exact absurd hl (hut op ho y h2 _)
  ·obtain ⟨k,cx,h1,_⟩:=hG.park g0 cases shp (q.back _ _ (by omega) hg0 hb0) hb0 ho
   exact (hnil h1).elim
  ·have hsl:=hG.sleep g0 (q.back _ _ (by omega) hg0 hb0) hb0 ho
   refine ⟨hsl.1,fun hx=>hsl.2 ?_⟩
   obtain ⟨wa,wb,hwa⟩:=hG.wg.ex
   have:=WgAt.unique (hwg _ _ hwa) hx
   rw [this.1,this.2] at hwa;exact hwa
 ·rw [hX]
  refine ⟨hpo.1,fun d' hd'=>?_⟩
  rw [hd] at hd';cases hd'
  refine ⟨hse,htk,nb,pl',s',qs.set j q',⟨by rw [List.length_set];exact p.len,hU,hfp,hobj,hsp,hnw,hnew,hkno,hknr,hinv,by have:=p.pot;omega,by rw [List.length_set];exact p.qlen,fun k sx hk=>?_,fun k hk=>?_⟩⟩
  ·by_cases hkj:k=j
   ·subst hkj
    simp [hlt] at hk
    subst hk
    exact ⟨_,by rw [List.getElem?_set_self (List.getElem?_eq_some_iff.1 hqj).1],n2,hx',hle⟩
   ·rw [List.getElem?_set_ne (by omega)] at hk
    obtain ⟨q',h1,h2⟩:=p.slot k sx hk
    rw [put_ne (by omega)]
    exact ⟨q',by rw [List.getElem?_set_ne fun e=>hkj e.symm];exact h1,h2.mono (by omega)⟩
  ·have:=p.len
   rw [List.getElem?_set_ne (by omega)];exact p.rest k hk
theorem free_of {n:TN P cv L} (c:Cfg W0 gs w t M sl hp) (hX:M.x=.game X) (hG:GameAt X gs w t sl hp nb) (hs:sl[nb+j]?=some (.act n)) (hf:TX.isFree n.x=true) :
  ∃ d pl s qs q0 n0,X.free=some d∧X.seats=[]∧X.tok.isSome=true∧Pool W0 X.g X.wg X.nf d w t sl hp nb pl s qs∧j<X.nf∧qs[j]?=some q0∧n.x=⟨X.g,0,0,0,X.wg,.free q0 n0⟩∧d.φ s qs≤n0:=by
 have hlt:nb+j<sl.length:=(List.getElem?_eq_some_iff.1 hs).1
 have hpo:=c.pool
 rw [hX] at hpo
 cases hfr:X.free with
 | some d =>
  obtain ⟨e1,e2,nb',pl,s,qs,p⟩:=hpo.2 d hfr
  obtain rfl:=p.nb_eq hG e1
  obtain ⟨q0,n0,h1,h2,h3⟩:=pool_slot p hs
  exact ⟨d,pl,s,qs,q0,n0,rfl,e1,e2,p,by have:=p.len;omega,h1,h2,h3⟩
 | none =>
  exfalso
  have hnf:=hpo.1 hfr
  obtain ⟨cx,hj⟩:∃ cx:St X,X.seats[j]?=some cx:=by
   have:=hG.len
   exact ⟨X.seats[j]'(by omega),List.getElem?_eq_getElem _⟩
  obtain ⟨s,h1,h2⟩:=hG.seat j cx hj
  rw [hs] at h1;cases h1
  obtain ⟨ph,e,pk⟩:=h2
  rw [e] at hf
  generalize cx.st=st at pk
  cases pk <;> cases hf
theorem cfg_free {fr:Frame} {cs:List Frame} {h:Hp} {x:TX} {o:Oper} {O:Value→Hp→TX→Prop} {at_:AtOp fr o} {ne:fr.kind≠.early}
  {a:(tHand P cv).act (wakes o) (execOp fr.eval o) h x fun nx h' x'=>∃ v,nx=.value v∧O v h' x'} {k:∀ v h' x',O v h' x'→Run P (tHand P cv) false (tEnd P L.done) (fr.finish v) cs h' x'}
  (c:Cfg W0 gs w t M sl hp) (hX:M.x=.game X) (hG:GameAt X gs w t sl hp nb) (hs:sl[nb+j]?=some (.act ⟨fr,cs,h,x,.act o O at_ ne a k⟩)) (hg:gs[nb+j+1]?=some g) (hr:Runs g fr cs) :
  ∃ gs' w' ops v x' q,runT P (crowd gs w sc) (nb+j+1)=(.next (crowd gs' w' sc),ops)∧Cfg W0 gs' w' (t++ops) M (sl.set (nb+j) (.act ⟨fr.finish v,cs,h,x',k v h x' q⟩)) hp:=by
 have hlt:nb+j<sl.length:=(List.getElem?_eq_some_iff.1 hs).1
 have hh:h=hp (nb+j+1):=(hG.know j _ hs).2.1
 have hdj:Deaf t (nb+j+1)=0:=(hG.know j _ hs).2.2
 obtain ⟨d,pl,s,qs,q0,n0,hd,e1,e2,p,hjn,hq0,hx0,hle⟩:=free_of c hX hG hs (by
  obtain ⟨q,n,m,f,e3,_⟩:=a
  show TX.isFree x=true
  unfold TX.isFree;rw [e3])
 replace hx0:x=_:=hx0
 subst hx0
 have a':=a
 obtain ⟨q1,n1,m,f,eph,hpl,hact⟩:=a'
 replace eph:Ph.free q0 n0=Ph.free q1 n1:=eph
 cases eph
 obtain ⟨hinv,hphi⟩:=d.step s qs j q0 m f p.inv hq0 hpl
 obtain ⟨n2,rfl⟩:∃ n2,n0=n2+1:=⟨n0-1,by omega⟩
 obtain ⟨b,oo,old,v,new,hown,hatom,hU,v',hv',hO⟩:=hact n2 s pl rfl (d.ok s qs p.inv) p.u
 cases hv'
 obtain ⟨es,hes,hrun⟩:=hatom
 have hc:=p.fits.own _ _ _ hown
 replace hrun:=hrun w hc (p.fits.thaw _ _ _ hown)
 obtain ⟨w',hw'⟩:∃ w',w'=World.lay w b oo new:=⟨_,rfl⟩
 have hst:stepG P (nb+j+1 == 0) g w=.go (G (fr.finish v) cs) w' (seen P fr.fn es):=by
  rw [hw']
  show stepG P false g w=_
  rw [hr.step];exact step_value at_ ne hrun
 refine ⟨_,w',_,v,_,hO,runT_crowd_go hg hst,?_⟩
 have q:=gs_go (P:=P) (g':=G (fr.finish v) cs) (w':=w') hg
 generalize hgs':(gs.map (woken P g (G (fr.finish v) cs) w')).setIfInBounds (nb+j+1) (G (fr.finish v) cs)=gs' at q
 have on:One b oo (nb+j+1) (MemOp.ofEvents (nb+j+1) g.frame.fn g.frame.place (seen P fr.fn es)):=one_of fun e he=>hes e (seen_mem P _ _ e he)
 generalize MemOp.ofEvents (nb+j+1) g.frame.fn g.frame.place (seen P fr.fn es)=u at on
 have hno:∀ i,(hp i).own b oo=none∧(hp i).ro b oo=none:=fun i=>⟨(p.sep i).symm.oo _ _ _ hown,(p.sep i).symm.wr _ _ _ hown⟩
 have hbw:b≠X.wg:=fun e=>by rw [e,(p.nowg oo).1] at hown;cases hown
 have hsz:w'.heap.size=w.heap.size:=by rw [hw'];exact lay_size
 have hblt:b<w.heap.size:=cell_lt hc
 have hknj:∀ i y,touchAt t i=some y→y.loc=.cell ⟨b,oo,none⟩→y.kind=.atomic∨Knows t (nb+j+1) i:=fun i y hy hl=>(p.kno b oo old hown i y hy hl).imp (·.1) fun k=>k.2 j hjn
 have hput:put hp (nb+j+1) h=hp:=by
  funext i
  by_cases hi:i=nb+j+1
  ·subst hi;rw [put_self,hh]
  ·rw [put_ne hi]
 have hmem:Mem w' (t++u) hp:={
  fits:=fun i=>by rw [hw'];exact fits_lay (c.mem.fits i) hc (hno i).1 (hno i).2
  sep:=c.mem.sep
  nr:=fun said=>noRace_append (c.mem.nr said) on.g fun i y hy op ho y' hy' hcf=>by
   obtain ⟨h1,h2⟩:=on.touch op ho y' hy'
   obtain ⟨hl,_,_,h3⟩:=hcf
   rw [h1] at hl
   rcases hknj i y hy hl with hk | hk
   ·rcases h3 with h3 | h3 | ⟨_,_,h3⟩
    ·rw [hk] at h3;cases h3
    ·rw [h2] at h3;cases h3
    ·rw [h2] at h3;cases h3
   ·exact hk
  low:=fun i y hy=>by
   rw [hsz]
   rcases touch_split hy with hy | ⟨op,ho,_,h2⟩
   ·exact c.mem.low i y hy
   ·have h1:=(on.touch op ho y h2).1
    exact ⟨fun d hd=>(by rw [h1] at hd;cases hd;exact hblt),fun r hr=>by rw [h1] at hr;cases hr⟩
  norel:=fun op ho y=>by
   rcases Array.mem_append.1 ho with ho | ho
   ·exact c.mem.norel op ho y
   ·intro e;rcases on.plain op ho _ e with h | ⟨f,h⟩ <;> cases h }
 have fin:=cfg_pool (n':=⟨fr.finish v,cs,h,_,k v h _ hO⟩) (n2:=n2) (bk:=b) (u:=u) (pl':=pl.lay b oo new) c hX hG hs hd e1 e2 p q rfl (by omega) hinv (by omega) (by show Mem w' (t++u) (put hp (nb+j+1) h);rw [hput];exact hmem) on.g on.plain
  (fun i _=>fun kk hK=>one_kn kk hK on (hno i).1 (hno i).2) (by show Kn _ _ h;rw [hh];exact one_kn (hG.know j _ hs).1 (fun i h=>h.app u) on (hno _).1 (hno _).2)
  (by rw [hw'];exact side_lay) hsz (fun c hc=>by rw [hw'];exact lay_ne hc) hbw (p.new _ _ _ hown) (fun b' o' v' e=>c.aft.own (nb+j+1) b' o' v' (by rw [← hh];exact e)) (fun b' v' e=>c.aft.obj (nb+j+1) b' v' (by rw [← hh];exact e)) (fun o=>by show h.own _ _=_∧h.ro _ _=_;rw [hh];exact hG.nowg _ o)
  (fun op ho y hy o e=>by rw [(on.touch op ho y hy).1] at e;cases e;exact hbw rfl) hU (by rw [hw'];exact fits_laid p.fits hown) (fun i=>by show Sep (put hp (nb+j+1) h i) _;rw [hput];exact sep_laid (p.sep i) hown) (fun o'=>⟨lay_none hown (p.nowg o').1,by rw [lay_ro];exact (p.nowg o').2⟩)
  (fun b' o' v' e=>by obtain ⟨u',hu'⟩:=lay_own hown e;exact p.new _ _ _ hu') (fun b' ob e=>by
   rw [lay_obj] at e
   refine ⟨(p.obj b' ob e).1,fun i y hy hl=>?_⟩
   rcases touch_split hy with hy | ⟨op,ho,_,h2⟩
   ·exact ((p.obj b' ob e).2 i y hy hl).app u
   ·rw [(on.touch op ho y h2).1] at hl;cases hl) (fun b' o' v' e i y hy hl=>by
   obtain ⟨u',hu'⟩:=lay_own hown e
   obtain ⟨op,hi,h2⟩:=touch_of hy
   rcases getElem?_append_cases hi with ⟨_,ho⟩ | ⟨hge,ho⟩
   ·have hy':touchAt t i=some y:=by rw [touchAt_of ho];exact h2
    rcases p.kno b' o' u' hu' i y hy' hl with ⟨h1,h2,k,h3,h4⟩ | ⟨h1,h2⟩
    ·exact .inl ⟨h1,(counts_old (touchAt_lt hy')).2 h2,k,h3,by rw [g?_app (touchAt_lt hy')];exact h4⟩
    ·exact .inr ⟨h1.app u,fun k hk=>(h2 k hk).app u⟩
   ·exact .inl ⟨(on.touch op ho y h2).2,⟨y,hy,by rw [hl];rfl,.inr (heard_plain hdj on.plain hi (on.g op ho) hge)⟩,j,hjn,by rw [g?_of hi,on.g op ho]⟩) (fun b' o' v' e i y hy hl hwr=>by
   rw [lay_ro] at e
   rcases touch_split hy with hy | ⟨op,ho,_,h2⟩
   ·obtain ⟨h1,h2⟩:=p.knr b' o' v' e i y hy hl hwr
    exact ⟨h1.app u,fun k hk=>(h2 k hk).app u⟩
   ·rw [(on.touch op ho y h2).1] at hl;cases hl
    rw [p.fits.disj _ _ _ hown] at e;cases e)
 rw [show put hp (nb+j+1) (⟨fr.finish v,cs,h,_,k v h _ hO⟩:TN P cv L).h=hp from hput] at fin
 exact fin
theorem fits_setChan {k:Hp} {w:World} {ch cap s r s':Nat} {buf buf':Array Value} {tm:Bool} (f:Fits k w) (hn:k.obj ch=none) (hc:w.heap[ch]?=some (.chan cap buf false s r tm)):Fits k (w.setChan ch cap buf' false s' r tm) :=
 fits_chan (n:=0) (n':=0) f hn hc rfl rfl rfl
theorem cfg_tryF {fr:Frame} {cs:List Frame} {h:Hp} {x:TX} {o:Oper} {cases:Array CommCase} {bl:Bool} {sh:CommShape} {O:Value→Hp→TX→Prop} {at_:AtOp fr o} {rr:∀ w,Fits h w→(execOp fr.eval o).runT P w #[]=(.ok (.comm cases bl sh) w,#[])}
  {a:(tHand P cv).comm cases bl sh h x O} {k:∀ v h' x',O v h' x'→Run P (tHand P cv) false (tEnd P L.done) (fr.finish v) cs h' x'}
  (c:Cfg W0 gs w t M sl hp) (hX:M.x=.game X) (hG:GameAt X gs w t sl hp nb) (hs:sl[nb+j]?=some (.act ⟨fr,cs,h,x,.comm o cases bl sh O at_ rr a k⟩)) (hg:gs[nb+j+1]?=some g) (hr:Runs g fr cs) (ht:TriesF cases bl sh h x O) :
  ∃ gs' w' ops M' sl' hp',runT P (crowd gs w sc) (nb+j+1)=(.next (crowd gs' w' sc),ops)∧Cfg W0 gs' w' (t++ops) M' sl' hp'∧Less gs' M' sl' gs M sl:=by
 have hlt:nb+j<sl.length:=(List.getElem?_eq_some_iff.1 hs).1
 have hglt:nb+j+1<gs.size:=(Array.getElem?_eq_some_iff.1 hg).1
 have hh:h=hp (nb+j+1):=(hG.know j _ hs).2.1
 have hdj:Deaf t (nb+j+1)=0:=(hG.know j _ hs).2.2
 have hfit:Fits h w:=by rw [hh];exact c.mem.fits _
 obtain ⟨rfl,rfl,q1,n1,m,f,eph,hpl,ch,v,z,rfl,hact⟩:=ht
 obtain ⟨d,pl,s,qs,q0,n0,hd,e1,e2,p,hjn,hq0,hx0,hle⟩:=free_of c hX hG hs (by
  show TX.isFree x=true
  unfold TX.isFree;rw [eph])
 replace hx0:x=_:=hx0
 subst hx0
 replace eph:Ph.free q0 n0=Ph.free q1 n1:=eph
 cases eph
 obtain ⟨hinv,hphi⟩:=d.step s qs j q0 m f p.inv hq0 hpl
 obtain ⟨n2,rfl⟩:∃ n2,n1=n2+1:=⟨n1-1,by omega⟩
 obtain ⟨cap,buf,sn,rn,tm,hob,hroom,hfull⟩:=hact n2 s pl rfl (d.ok s qs p.inv) p.u
 have hc:=p.fits.obj _ _ hob
 have hstep:stepG P (nb+j+1 == 0) g w=.comm (G fr cs) #[scase ch v z] false .select w #[]:=by
  show stepG P false g w=_
  rw [hr.step];exact step_comm at_ (rr w hfit)
 have hnil:∀ {k:Nat} {cx:St X},X.seats[k]?=some cx→False:=fun h=>by rw [e1] at h;simp at h
 have hprt:partners (gs.setIfInBounds (nb+j+1) ph) ch false=[]:=part_nil c fun X' hX' j cx b hj=>by
  rw [hX] at hX';cases hX';exact (hnil hj).elim
 have hno:∀ i,(hp i).obj ch=none:=fun i=>(p.sep i).symm.bb _ _ hob
 have hput:put hp (nb+j+1) h=hp:=by
  funext i
  by_cases hi:i=nb+j+1
  ·subst hi;rw [put_self,hh]
  ·rw [put_ne hi]
 have hchw:ch≠X.wg:=fun e=>by
  obtain ⟨wa,wb,fz,hwa,_⟩:=hG.wg.ex
  rw [← e,hc] at hwa;cases hwa
 by_cases hl:buf.size<cap
 ·obtain ⟨hU,hO⟩:=hroom hl
  have hrunT:=crowd_try_room (sc:=sc) hg hstep hc hprt hl
  rw [ofEvents_none,Array.empty_append] at hrunT
  have e:Goroutine.finishComm P (G fr cs) #[scase ch v z] .select 0 undef false=G (fr.finish (.tuple #[goInt 0,.bool false])) cs:=by
   unfold Goroutine.finishComm;rw [show (0:Int)=((0:Nat):Int) from rfl,res_room];rfl
  rw [e] at hrunT
  refine ⟨_,_,_,M,sl.set (nb+j) (.act ⟨fr.finish (.tuple #[goInt 0,.bool false]),cs,h,_,k _ _ _ hO⟩),hp,hrunT,?_,.inr (.inl ⟨rfl,Falls.set hs (Relation.TransGen.single (Below.comm (B:=tHand P cv) (k:=k) _ _ _ hO))⟩)⟩
  have q:=gs_set (P:=P) (g':=G (fr.finish (.tuple #[goInt 0,.bool false])) cs) hglt
  obtain ⟨m1,m2,m3,m4⟩:=triedU_mute (a:=nb+j+1) (fn:=(G fr cs).frame.fn) (pos:=(G fr cs).frame.place) (c:=ch) (s:=sn)
  obtain ⟨u,hu⟩:∃ u,u=triedU (nb+j+1) (G fr cs).frame.fn (G fr cs).frame.place ch sn:=⟨_,rfl⟩
  rw [← hu] at m1 m2 m3 m4
  show Cfg W0 _ _ (t++triedU (nb+j+1) (G fr cs).frame.fn (G fr cs).frame.place ch sn) _ _ _
  rw [← hu]
  obtain ⟨w',hw'⟩:∃ w',w'=w.setChan ch cap (buf.push v) false (sn+1) rn tm:=⟨_,rfl⟩
  rw [← hw']
  have hG2:=Guar.setObj p.fits (by rw [hob];rfl:(pl.obj ch).isSome=true) (.chan cap (buf.push v) false (sn+1) rn tm) rfl
  have hG3:Guar pl w w' (pl.setObj ch (.chan cap (buf.push v) false (sn+1) rn tm)):=by rw [hw'];exact hG2
  have hsz:w'.heap.size=w.heap.size:=by rw [hw'];simp [World.setChan]
  have fin:=cfg_pool (n':=⟨fr.finish (.tuple #[goInt 0,.bool false]),cs,h,_,k _ _ _ hO⟩) (n2:=n2) (bk:=ch) (u:=u) c hX hG hs hd e1 e2 p q rfl (by omega) hinv (by omega)
   (by show Mem w' (t++u) (put hp (nb+j+1) h);rw [hput];exact c.mem.mute (fun i=>by rw [hw'];exact fits_setChan (c.mem.fits i) (hno i) hc) (Nat.le_of_eq hsz.symm) m2 m4) m1 m3
   (fun i _=>fun kk hK=>kn_mute kk hK m2) (by show Kn _ _ h;rw [hh];exact kn_mute (hG.know j _ hs).1 (fun i h=>h.app u) m2)
   (by rw [hw'];exact side_chan hc rfl rfl rfl rfl rfl) hsz (fun c hcc=>by rw [hw'];exact Array.getElem?_setIfInBounds_ne fun e=>hcc e.symm) hchw (p.obj _ _ hob).1
   (fun b' o' v' e=>c.aft.own (nb+j+1) b' o' v' (by rw [← hh];exact e)) (fun b' v' e=>c.aft.obj (nb+j+1) b' v' (by rw [← hh];exact e)) (fun o=>by show h.own _ _=_∧h.ro _ _=_;rw [hh];exact hG.nowg _ o)
   (fun op ho y hy=>by rw [m2 op ho] at hy;cases hy) hU hG3.fits (fun i=>by show Sep (put hp (nb+j+1) h i) _;rw [hput];exact (sep_other hG3 (p.sep i).symm (c.mem.fits i)).symm) (fun o'=>p.nowg o')
   (fun b' o' v' e=>p.new _ _ _ e) (fun b' ob e=>by
    have hsome:∃ ob',pl.obj b'=some ob':=by
     by_cases hb:b'=ch
     ·exact ⟨_,by rw [hb];exact hob⟩
     ·exact ⟨ob,by simpa [Hp.setObj,hb] using e⟩
    obtain ⟨ob',e'⟩:=hsome
    refine ⟨(p.obj b' ob' e').1,fun i y hy hl=>?_⟩
    rcases touch_split hy with hy | ⟨op,ho,_,h2⟩
    ·exact ((p.obj b' ob' e').2 i y hy hl).app u
    ·rw [m2 op ho] at h2;cases h2) (fun b' o' v' e i y hy hl=>by
    rcases touch_split hy with hy | ⟨op,ho,_,h2⟩
    ·rcases p.kno b' o' v' e i y hy hl with ⟨h1,h2,k,h3,h4⟩ | ⟨h1,h2⟩
     ·exact .inl ⟨h1,(counts_old (touchAt_lt hy)).2 h2,k,h3,by rw [g?_app (touchAt_lt hy)];exact h4⟩
     ·exact .inr ⟨h1.app u,fun k hk=>(h2 k hk).app u⟩
    ·rw [m2 op ho] at h2;cases h2) (fun b' o' v' e i y hy hl hwr=>by
    rcases touch_split hy with hy | ⟨op,ho,_,h2⟩
    ·obtain ⟨h1,h2⟩:=p.knr b' o' v' e i y hy hl hwr
     exact ⟨h1.app u,fun k hk=>(h2 k hk).app u⟩
    ·rw [m2 op ho] at h2;cases h2)
  rw [show put hp (nb+j+1) (⟨fr.finish (.tuple #[goInt 0,.bool false]),cs,h,_,k _ _ _ hO⟩:TN P cv L).h=hp from hput] at fin
  exact fin
 ·obtain ⟨hU,hO⟩:=hfull (by omega)
  have hrunT:=crowd_try_full (sc:=sc) hg hstep hc hprt (by omega)
  rw [ofEvents_none] at hrunT
  have e:Goroutine.finishComm P (G fr cs) #[scase ch v z] .select (-1) undef false=G (fr.finish (.tuple #[goInt (-1),.bool false])) cs:=by
   unfold Goroutine.finishComm;rw [res_full];rfl
  rw [e] at hrunT
  refine ⟨_,_,_,M,sl.set (nb+j) (.act ⟨fr.finish (.tuple #[goInt (-1),.bool false]),cs,h,_,k _ _ _ hO⟩),hp,hrunT,?_,.inr (.inl ⟨rfl,Falls.set hs (Relation.TransGen.single (Below.comm (B:=tHand P cv) (k:=k) _ _ _ hO))⟩)⟩
  have q:=gs_set (P:=P) (g':=G (fr.finish (.tuple #[goInt (-1),.bool false])) cs) hglt
  have hn0:∀ op∈(#[]:Trace),False:=fun op ho=>by simp at ho
  have fin:=cfg_pool (n':=⟨fr.finish (.tuple #[goInt (-1),.bool false]),cs,h,_,k _ _ _ hO⟩) (n2:=n2) (bk:=ch) (u:=#[]) (w':=w) c hX hG hs hd e1 e2 p q rfl (by omega) hinv (by omega)
   (by show Mem w (t++#[]) (put hp (nb+j+1) h);rw [hput,Array.append_empty];exact c.mem) (fun op ho=>(hn0 op ho).elim) (fun op ho=>(hn0 op ho).elim)
   (fun i _=>fun kk hK=>kn_mute kk hK fun op ho=>(hn0 op ho).elim) (by show Kn _ _ h;rw [hh];exact kn_mute (hG.know j _ hs).1 (fun i h=>h.app #[]) fun op ho=>(hn0 op ho).elim)
   Side.refl rfl (fun c hcc=>rfl) hchw (p.obj _ _ hob).1
   (fun b' o' v' e=>c.aft.own (nb+j+1) b' o' v' (by rw [← hh];exact e)) (fun b' v' e=>c.aft.obj (nb+j+1) b' v' (by rw [← hh];exact e)) (fun o=>by show h.own _ _=_∧h.ro _ _=_;rw [hh];exact hG.nowg _ o)
   (fun op ho=>(hn0 op ho).elim) hU p.fits (fun i=>by show Sep (put hp (nb+j+1) h i) _;rw [hput];exact p.sep i) p.nowg
   p.new (fun b' ob e=>by rw [Array.append_empty];exact p.obj b' ob e) (fun b' o' v' e=>by rw [Array.append_empty];exact p.kno b' o' v' e) (fun b' o' v' e=>by rw [Array.append_empty];exact p.knr b' o' v' e)
  rw [show put hp (nb+j+1) (⟨fr.finish (.tuple #[goInt (-1),.bool false]),cs,h,_,k _ _ _ hO⟩:TN P cv L).h=hp from hput] at fin
  exact fin
section
variable {fr:Frame} {cs:List Frame} {h:Hp} {o:Oper} {cases:Array CommCase} {bl:Bool} {sh:CommShape} {at_:AtOp fr o} {rr:∀ w,Fits h w→(execOp fr.eval o).runT P w #[]=(.ok (.comm cases bl sh) w,#[])}
theorem cfg_try0 {x:MX} {O:Value→Hp→MX→Prop} {a:(mHand P cv L.done L.tWg).comm cases bl sh h x O} {k:∀ v h' x',O v h' x'→Run P (mHand P cv L.done L.tWg) true Em (fr.finish v) cs h' x'}
  (c:Cfg W0 gs w t (⟨fr,cs,h,x,.comm o cases bl sh O at_ rr a k⟩:MN P cv L Em) sl hp) (hg:gs[0]?=some g) (hr:Runs g fr cs) (ht:Tries cases bl sh h x O) :
  ∃ gs' w' ops M' hp',runT P (crowd gs w sc) 0=(.next (crowd gs' w' sc),ops)∧Cfg W0 gs' w' (t++ops) M' sl hp'∧Below M' (⟨fr,cs,h,x,.comm o cases bl sh O at_ rr a k⟩:MN P cv L Em):=by
 obtain ⟨rfl,rfl,ch,v,z,cap,buf,s,r,tm,rfl,hob,h1,h2⟩:=ht
 have key:=try_own (sc:=sc) at_ c c.hp0 hg hr hob rr
 by_cases hl:buf.size<cap
 ·obtain ⟨gs',w',ops,e1,e2,e3⟩:=key.1 hl
  exact ⟨gs',w',ops,⟨_,cs,_,x,k _ _ _ (h1 hl)⟩,_,e1,Cfg.own c (Nat.zero_le _) e2 c.kn0 e3 ⟨rfl,fun j _=>rfl,fun j hj=>by omega⟩ rfl (by rw [put_self]) (fun e=>absurd rfl e) (fun _=>⟨rfl,rfl⟩) (fun j n' hj=>by omega),.comm _ _ _ _⟩
 ·obtain ⟨gs',ops,e1,e2,e3⟩:=key.2 (by omega)
  exact ⟨gs',w,ops,⟨_,cs,_,x,k _ _ _ (h2 (by omega))⟩,_,e1,Cfg.own c (Nat.zero_le _) e2 c.kn0 e3 ⟨rfl,fun j _=>rfl,fun j hj=>by omega⟩ rfl (by rw [put_self]) (fun e=>absurd rfl e) (fun _=>⟨rfl,rfl⟩) (fun j n' hj=>by omega),.comm _ _ _ _⟩
theorem cfg_try1 {x:TX} {O:Value→Hp→TX→Prop} {a:(tHand P cv).comm cases bl sh h x O} {k:∀ v h' x',O v h' x'→Run P (tHand P cv) false (tEnd P L.done) (fr.finish v) cs h' x'}
  (c:Cfg W0 gs w t M sl hp) (hG:GameAt X gs w t sl hp nb) (hs:sl[nb+j]?=some (.act ⟨fr,cs,h,x,.comm o cases bl sh O at_ rr a k⟩)) (hg:gs[nb+j+1]?=some g) (hr:Runs g fr cs) (ht:Tries cases bl sh h x O) :
  ∃ gs' w' ops M' sl' hp',runT P (crowd gs w sc) (nb+j+1)=(.next (crowd gs' w' sc),ops)∧Cfg W0 gs' w' (t++ops) M' sl' hp'∧Less gs' M' sl' gs M sl:=by
 have hlt:nb+j<sl.length:=(List.getElem?_eq_some_iff.1 hs).1
 have hh:hp (nb+j+1)=h:=(hG.know j _ hs).2.1.symm
 have kn:Kn t (Knows t (nb+j+1)) (hp (nb+j+1)):=(hG.know j _ hs).1
 obtain ⟨rfl,rfl,ch,v,z,cap,buf,s,r,tm,rfl,hob,h1,h2⟩:=ht
 have key:=try_own (sc:=sc) at_ c hh hg hr hob rr
 have done:∀ {v:Value} {h':Hp} {gs':Array Goroutine} {w':World} {ops:Trace} (hO:O v h' x),runT P (crowd gs w sc) (nb+j+1)=(.next (crowd gs' w' sc),ops)→Own (nb+j+1) (hp (nb+j+1)) w w' h' ops→Gs P (nb+j+1) gs gs' (G (fr.finish v) cs) →
   ∃ gs' w' ops M' sl' hp',runT P (crowd gs w sc) (nb+j+1)=(.next (crowd gs' w' sc),ops)∧Cfg W0 gs' w' (t++ops) M' sl' hp'∧Less gs' M' sl' gs M sl:=by
  intro v h' gs' w' ops hO e1 e2 e3
  refine ⟨gs',w',ops,M,sl.set (nb+j) (.act ⟨fr.finish v,cs,h',x,k v h' x hO⟩),put hp (nb+j+1) h',e1,?_,.inr (.inl ⟨rfl,Falls.set hs (Relation.TransGen.single (Below.comm (B:=tHand P cv) (k:=k) v h' x hO))⟩)⟩
  refine Cfg.own c (by omega) e2 kn e3 ⟨by simp,fun j' hj'=>by rw [List.getElem?_set_ne (by omega)],fun j' hj'=>?_⟩ rfl (by rw [put_ne (by omega)];exact c.hp0.symm) (fun _=>rfl) (fun e=>by omega) (fun j' n' hj' hn=>?_)
  ·obtain rfl:j'=nb+j:=by omega
   exact ⟨_,⟨fr.finish v,cs,h',x,k v h' x hO⟩,hs,by simp [hlt],rfl,rfl⟩
  ·obtain rfl:j'=nb+j:=by omega
   simp [hlt] at hn
   subst hn
   exact ⟨rfl,rfl⟩
 by_cases hl:buf.size<cap
 ·obtain ⟨gs',w',ops,e1,e2,e3⟩:=key.1 hl
  exact done (h1 hl) e1 e2 e3
 ·obtain ⟨gs',ops,e1,e2,e3⟩:=key.2 (by omega)
  exact done (h2 (by omega)) e1 e2 e3
end
theorem Frz.trans {h h1 h2:Hp} (a:Frz h h1) (b:Frz h1 h2):Frz h h2 where
 own:=fun x o v e=>a.own _ _ _ (b.own _ _ _ e)
 ro:=fun x o v e=>by
  rcases b.ro _ _ _ e with e | ⟨e1,e2⟩
  ·rcases a.ro _ _ _ e with e | ⟨e1,e2⟩
   ·exact .inl e
   ·exact .inr ⟨e1,none_of fun u hu=>by rw [b.own _ _ _ hu] at e2;cases e2⟩
  ·exact .inr ⟨a.own _ _ _ e1,e2⟩
 obj:=fun x v e=>a.obj _ _ (b.obj _ _ e)
 shp:=fun x v e=>a.shp _ _ (b.shp _ _ e)
theorem Cfg.startF (c:Cfg W0 gs w t M sl hp) (hX:M.x=.idle) {g:Game} {fd:FreeD g} {wg:Nat} {s:g.σ} {h1 h2 pl:Hp} (sp:Split M.h h2 pl) (hU:g.U s pl) (hpw:∀ o,pl.own wg o=none∧pl.ro wg o=none)
  (e0:h2.own wg 0=some (.int .u64 0)) (e1:h2.own wg 1=some (.int .u32 0)) (e2:h2.shp wg=some (L.tWg,2)) (z:Frz h2 h1) (hn:∀ o,h1.own wg o=none∧h1.ro wg o=none) (hI:fd.I s fd.q0) (hφ:fd.φ s fd.q0≤fd.N)
  {M':MN P cv L Em} (hx:M'.x=.game ⟨g,wg,[],some s,0,0,false,.play,some fd,0⟩) (hh:M'.h=h1) (hm:∃ g,gs[0]?=some g∧MainG g M'):Cfg W0 gs w t M' sl (put hp 0 h1):=by
 have hfit:Fits M.h w:=by rw [← c.hp0];exact c.mem.fits 0
 refine Cfg.start c hX (sp.o1 _ _ _ e0) (sp.o1 _ _ _ e1) (sp.s1 _ _ e2) (sp.frz1.trans z) hn ⟨fun e=>(by cases e),fun d hd=>?_⟩ hx hh hm
 cases hd
 have hk:=c.kn0
 rw [c.hp0] at hk
 refine ⟨rfl,rfl,sl.length,pl,s,fd.q0,⟨rfl,hU,sp.frz2.fits hfit,fun b ob e=>⟨c.aft.obj 0 b ob (by rw [c.hp0];exact sp.b2 _ _ e),fun i a ha hl=>(sp.frz2.kn hk).obj b ob e i a ha hl⟩,fun i=>?_,hpw,fun b o v e=>c.aft.own 0 b o v (by rw [c.hp0];exact sp.o2 _ _ _ e),fun b o v e i a ha hl=>.inr ⟨(sp.frz2.kn hk).own b o v e i a ha hl,fun j hj=>absurd hj (Nat.not_lt_zero j)⟩,
  fun b o v e i a ha hl hw=>⟨(sp.frz2.kn hk).ro b o v e i a ha hl hw,fun j hj=>absurd hj (Nat.not_lt_zero j)⟩,hI,hφ,rfl,fun j sx hj=>?_,fun j _=>rfl⟩⟩
 ·by_cases hi:i=0
  ·subst hi;rw [put_self];exact z.sep (sp.sep hfit)
  ·rw [put_ne hi]
   have:=c.mem.sep 0 i fun e=>hi e.symm
   rw [c.hp0] at this
   exact (sp.frz2.sep this).symm
 ·have:=(List.getElem?_eq_some_iff.1 hj).1;omega
theorem WgPh.moreF {st:List Nat} (p:WgPh L X st w) (hwt:X.wt=.play):WgPh L { X with nf:=X.nf+1 } (st++[7]) w:=by
 cases p with
 | quiet v wt a hv late hw park b =>
  refine .quiet v wt a ?_ (fun k hk=>?_) hw park b
  ·simp only [List.filter_append,List.length_append]
   have:(List.filter (fun k=>decide (4≤k)) [7]).length=1:=rfl
   omega
  ·rcases List.mem_append.1 hk with hk | hk
   ·exact late k hk
   ·simp at hk;omega
 | late p=>rw [hwt] at p;cases p
 | late1 p=>rw [hwt] at p;cases p
 | free p=>rw [hwt] at p;cases p
theorem cfg_spawnF {fr:Frame} {cs:List Frame} {h:Hp} {o:Oper} {d:Deferred} {O:Hp→MX→Prop} {at_:AtOp fr o} {rr:∀ w,Fits h w→(execOp fr.eval o).runT P w #[]=(.ok (.spawn d) w,#[])}
  {a:(mHand P cv L.done L.tWg).spawn d h (.game X) O} {k:∀ h' x',O h' x'→Run P (mHand P cv L.done L.tWg) true Em (fr.finish undef) cs h' x'}
  (c:Cfg W0 gs w t (⟨fr,cs,h,.game X,.spawn o d O at_ rr a k⟩:MN P cv L Em) sl hp) (hg:gs[0]?=some g) (hr:Runs g fr cs) {fd:FreeD X.g} {hc h':Hp} {q0:X.g.θ} (hf:X.free=some fd) (hwt:X.wt=.play) (hdf:X.deaf=false) (had:X.ad=X.seats.length+X.nf+1) (hq:fd.q0[X.nf]?=some q0)
  (hsp:Split h hc h') (hd:∃ f cap,d.target=.fn f cap) (run:Run P (tHand P cv) false (tEnd P L.done) (goFr P d) [] hc ⟨X.g,0,0,0,X.wg,.free q0 fd.N⟩) (hO:O h' (.game { X with nf:=X.nf+1 })) :
  ∃ gs' ops M' sl' hp',runT P (crowd gs w sc) 0=(.next (crowd gs' w sc),ops)∧Cfg W0 gs' w (t++ops) M' sl' hp'∧Below M' (⟨fr,cs,h,.game X,.spawn o d O at_ rr a k⟩:MN P cv L Em):=by
 obtain ⟨nb,hG⟩:∃ nb,GameAt X gs w t sl hp nb:=c.game
 obtain ⟨f,cap,hd⟩:=hd
 have hpo:PoolOk W0 (.game X) w t sl hp:=c.pool
 obtain ⟨e1,e2,nb',pl,s,qs,p⟩:=hpo.2 fd hf
 obtain rfl:=p.nb_eq hG e1
 have hsl:X.seats.length=0:=by rw [e1];rfl
 have hh:hp 0=h:=c.hp0
 have hfit:Fits h w:=by rw [← hh];exact c.mem.fits 0
 have hst:stepG P ((0:Nat) == 0) g w=.spawn (G (fr.finish undef) cs) (G (goFr P d) []) w #[]:=by rw [hr.step];exact step_spawn hd at_ (rr w hfit)
 have hrunT:=runT_crowd_spawn (w:=w) (sl:=sc) hg hst
 have hsize:=c.size
 have hlen:=hG.len
 have h0lt:0<gs.size:=by omega
 obtain ⟨u,hu⟩:∃ u:Trace,u=#[{ g:=0,fn:=g.frame.fn,pos:=g.frame.place,act:=.go gs.size },{ g:=gs.size,fn:=(G (goFr P d) []).frame.fn,pos:=g.frame.place,act:=.start }]:=⟨_,rfl⟩
 have hops:((MemOp.ofEvents 0 g.frame.fn g.frame.place #[]).push { g:=0,fn:=g.frame.fn,pos:=g.frame.place,act:=.go gs.size }).push { g:=gs.size,fn:=(G (goFr P d) []).frame.fn,pos:=g.frame.place,act:=.start }=u:=by
  rw [hu,ofEvents_none];simp
 rw [hops] at hrunT
 have hum:∀ op∈u,op.act.touch?=none:=fun op ho=>by rw [hu] at ho;simp at ho;rcases ho with rfl | rfl <;> rfl
 have hur:∀ op∈u,∀ x,op.act≠.mark (.release x):=fun op ho x=>by rw [hu] at ho;simp at ho;rcases ho with rfl | rfl <;> simp
 have hup:∀ op∈u,Plain op:=fun op ho m hm=>by rw [hu] at ho;simp at ho;rcases ho with rfl | rfl <;> cases hm
 have hug:∀ op∈u,op.g=0∨op.g=gs.size:=fun op ho=>by rw [hu] at ho;simp at ho;rcases ho with rfl | rfl <;> simp
 have hd0:Deaf t 0=0:=by rw [hG.deaf,hdf];rfl
 have hdI:Deaf t gs.size=0:=Go.ConcN.Deaf_absent fun i op ho e=>by have:=c.tg i op ho;omega
 have hknow:∀ i,Knows t 0 i→Knows (t++u) gs.size i:=fun i h=>by
  rw [hu]
  exact Go.ConcN.fork_knows ⟨rfl,rfl⟩ ⟨rfl,rfl⟩ hd0 hdI h
 have hng:∀ i,i≠0→i≠gs.size→∀ op∈u,op.g≠i:=fun i h1 h2 op ho e=>by rcases hug op ho with h | h <;> omega
 have hempty:hp gs.size=Hp.empty:=c.hpn _ (by omega)
 have hne:(0:Nat)≠gs.size:=by omega
 have hspl:Split (hp 0) h' hc:=by rw [hh];exact hsp.swap
 have hgI:give hp 0 gs.size h' hc gs.size=hc:=by rw [give_b,hempty,empty_join]
 have hgn:∀ i,i≠0→i≠gs.size→give hp 0 gs.size h' hc i=hp i:=fun i h1 h2=>give_ne h1 h2
 have hslots:∀ (i:Nat) (x:Slot P cv L) (z:Slot P cv L),(sl++[z])[i]?=some x→(i<sl.length∧sl[i]?=some x)∨(i=sl.length∧x=z):=fun i x z hi=>by
  rcases Nat.lt_or_ge i sl.length with hlt | hge
  ·rw [List.getElem?_append_left hlt] at hi;exact .inl ⟨hlt,hi⟩
  ·rw [List.getElem?_append_right hge] at hi
   have:i-sl.length=0:=by
    have:=(List.getElem?_eq_some_iff.1 hi).1
    simp at this;omega
   rw [this] at hi;simp at hi
   exact .inr ⟨by omega,hi.symm⟩
 have hgs0:((gs.setIfInBounds 0 (G (fr.finish undef) cs)).push (G (goFr P d) []))[0]?=some (G (fr.finish undef) cs):=by
  rw [Array.getElem?_push_lt (by simpa using h0lt),← Array.getElem?_eq_getElem]
  exact Array.getElem?_setIfInBounds_self_of_lt h0lt
 have hgsI:((gs.setIfInBounds 0 (G (fr.finish undef) cs)).push (G (goFr P d) []))[gs.size]?=some (G (goFr P d) []):=by
  have:=Array.getElem?_push_size (xs:=gs.setIfInBounds 0 (G (fr.finish undef) cs)) (x:=G (goFr P d) [])
  simpa using this
 have hgso:∀ i,i≠0→i<gs.size→((gs.setIfInBounds 0 (G (fr.finish undef) cs)).push (G (goFr P d) []))[i]?=gs[i]?:=fun i h1 h2=>by
  rw [Array.getElem?_push_lt (by simpa using h2),← Array.getElem?_eq_getElem]
  exact Array.getElem?_setIfInBounds_ne fun e=>h1 e.symm
 have hgsz:((gs.setIfInBounds 0 (G (fr.finish undef) cs)).push (G (goFr P d) [])).size=gs.size+1:=by simp
 generalize hgg:(gs.setIfInBounds 0 (G (fr.finish undef) cs)).push (G (goFr P d) [])=gs' at hgs0 hgsI hgso hgsz hrunT
 refine ⟨gs',u,⟨fr.finish undef,cs,h',_,k _ _ hO⟩,sl++[.act ⟨goFr P d,[],hc,_,run⟩],give hp 0 gs.size h' hc,hrunT,?_,.spawn _ _ hO⟩
 clear hu hrunT hops
 have hfits:=give_fits hne c.mem.fits c.mem.sep hspl
 have haft:Aft W0 w (give hp 0 gs.size h' hc) (.game { X with nf:=X.nf+1 }):=by
  have hg:NewG W0 (.game X):=c.aft.game
  refine c.aft.parts' (fun i b o v e=>?_) (fun i b v e=>?_) ⟨hg.1,hg.2⟩
  ·by_cases i1:i=0
   ·subst i1;rw [give_a hne] at e;exact ⟨0,hspl.o1 _ _ _ e⟩
   ·by_cases i2:i=gs.size
    ·subst i2;rw [hgI] at e;exact ⟨0,hspl.o2 _ _ _ e⟩
    ·rw [hgn i i1 i2] at e;exact ⟨i,e⟩
  ·by_cases i1:i=0
   ·subst i1;rw [give_a hne] at e;exact ⟨0,hspl.b1 _ _ e⟩
   ·by_cases i2:i=gs.size
    ·subst i2;rw [hgI] at e;exact ⟨0,hspl.b2 _ _ e⟩
    ·rw [hgn i i1 i2] at e;exact ⟨i,e⟩
 have hnil:∀ {k:Nat} {cx:St X},X.seats[k]?=some cx→False:=fun h=>by rw [e1] at h;simp at h
 refine ⟨by rw [hgsz];simp;omega,⟨_,hgs0,.inl runs_G⟩,fun i sx hi=>?_,⟨hfits,give_sep hne c.mem.fits c.mem.sep hspl,fun said=>race_mute (c.mem.nr said) hum,low_mute c.mem.low hum,fun op ho b=>(Array.mem_append.1 ho).elim (fun ho=>c.mem.norel op ho b) (fun ho=>hur op ho b)⟩,haft,by rw [give_a hne],fun i hi=>?_,fun i op hi=>?_,?_,?_,?_⟩
 ·rcases hslots i sx _ hi with ⟨hlt,hi⟩ | ⟨rfl,rfl⟩
  ·obtain ⟨g1,h1,h2⟩:=c.thr i sx hi
   exact ⟨g1,by rw [hgso _ (by omega) (by omega)];exact h1,slot_rely (Deaf_others (hng _ (by omega) (by omega))) (fun h=>h) h2⟩
  ·exact ⟨_,by rw [← hsize];exact hgsI,.inl runs_G⟩
 ·simp at hi
  rw [hgn _ (by omega) (by omega)];exact c.hpn i (by omega)
 ·simp
  rcases getElem?_append_cases hi with ⟨_,h⟩ | ⟨_,h⟩
  ·have:=c.tg i op h;omega
  ·rcases hug op h with h | h <;> omega
 ·rw [give_a hne];exact kn_mute (hspl.frz1.kn c.kn0) (fun j h=>h.app u) hum
 ·show ∃ nb,GameAt { X with nf:=X.nf+1 } gs' w (t++u) _ _ nb
  refine ⟨nb',⟨by simp;omega,fun i sx hi hc=>?_,fun j cx hj=>(hnil hj).elim,fun j sx hs=>?_,fun j cx hj=>(hnil hj).elim,fun j j' cx cx' x x' hj=>(hnil hj).elim,fun i j cx x hj=>(hnil hj).elim,fun i o=>give_own hne hspl (fun i=>hG.nowg i o) i,by rw [List.map_append];exact hG.wg.moreF hwt,fun i b o ho2 hb hl=>?_,by rw [Deaf_plain hup];exact hG.deaf,fun e=>(by replace e:X.tok=none:=e;rw [e] at e2;cases e2),fun _ j cx hj=>(hnil hj).elim,fun _=>.inl (by simp only;omega),fun h=>absurd hwt h,hG.adl,fun j cx g1 hj=>(hnil hj).elim,fun g0 cases shp hg hb ho'=>?_,fun g0 hg hb ho'=>?_,fun j cx x i b hj=>(hnil hj).elim⟩⟩
  ·rcases hslots i sx _ hc with ⟨_,hc⟩ | ⟨h,_⟩
   ·rw [hgn _ (by omega) (by omega)]
    exact (hG.old i sx hi hc).app (hng _ (by omega) (by omega))
   ·omega
  ·rcases hslots _ sx _ hs with ⟨hlt,hs⟩ | ⟨he,rfl⟩
   ·rw [hgn _ (by omega) (by omega)]
    exact (hG.know j sx hs).app (hng _ (by omega) (by omega)) fun kk hK=>kn_mute kk hK hum
   ·rw [show nb'+j+1=gs.size by omega,hgI]
    exact ⟨kn_mute (hspl.frz2.kn c.kn0) hknow hum,rfl,by rw [Deaf_plain hup];exact hdI⟩
  ·rcases touch_split hb with hb | ⟨op,ho,hi,h2⟩
   ·rcases hG.wgt i b o ho2 hb hl with this | ⟨k0,k1⟩
    ·refine .inl ⟨this.1,fun hsd=>?_⟩
     have h1:=this.2 hsd
     rw [g?_app (g?_lt h1)];exact h1
    ·refine .inr ⟨k0.app u,fun j' hj'=>?_⟩
     rcases Nat.lt_or_ge j' (X.seats.length+X.nf) with hlt | hge
     ·exact (k1 j' hlt).app u
     ·rw [show nb'+j'+1=gs.size by simp only at hj';omega];exact hknow i k0
   ·rw [hum op ho] at h2;cases h2
  ·rw [hgs0] at hg;cases hg;cases hb
  ·rw [hgs0] at hg;cases hg;cases hb
 ·refine ⟨fun e=>(by replace e:X.free=none:=e;rw [hf] at e;cases e),fun fd' hf'=>?_⟩
  replace hf':X.free=some fd':=hf'
  rw [hf] at hf';cases hf'
  have hlp:=p.len
  refine ⟨e1,e2,nb',pl,s,qs,⟨by simp;omega,p.u,p.fits,fun b ob e=>⟨(p.obj b ob e).1,fun i a ha hl=>(by
   rcases touch_split ha with ha | ⟨op,ho,_,h2⟩
   ·exact ((p.obj b ob e).2 i a ha hl).app u
   ·rw [hum op ho] at h2;cases h2)⟩,fun i=>?_,p.nowg,p.new,fun b o v e i a ha hl=>?_,fun b o v e i a ha hl hw=>?_,p.inv,p.pot,p.qlen,fun j sx hj=>?_,fun j hj=>p.rest j (by simp only at hj;omega)⟩⟩
  ·by_cases i1:i=0
   ·subst i1;rw [give_a hne];exact hspl.frz1.sep (p.sep 0)
   ·by_cases i2:i=gs.size
    ·subst i2;rw [hgI];exact hspl.frz2.sep (p.sep 0)
    ·rw [hgn i i1 i2];exact p.sep i
  ·have hall:Knows t 0 i→(∀ j,j<X.nf→Knows t (nb'+j+1) i)→Knows (t++u) 0 i∧∀ j,j<X.nf+1→Knows (t++u) (nb'+j+1) i:=fun k0 k1=>by
    refine ⟨k0.app u,fun j hj=>?_⟩
    rcases Nat.lt_or_ge j X.nf with hlt | hge
    ·exact (k1 j hlt).app u
    ·rw [show nb'+j+1=gs.size by omega];exact hknow i k0
   rcases touch_split ha with ha | ⟨op,ho,_,h2⟩
   ·rcases p.kno b o v e i a ha hl with ⟨h1,h2,j,h3,h4⟩ | ⟨h1,h2⟩
    ·exact .inl ⟨h1,(counts_old (touchAt_lt ha)).2 h2,j,by simp only;omega,by rw [g?_app (touchAt_lt ha)];exact h4⟩
    ·exact .inr (hall h1 h2)
   ·rw [hum op ho] at h2;cases h2
  ·rcases touch_split ha with ha | ⟨op,ho,_,h2⟩
   ·obtain ⟨k0,k1⟩:=p.knr b o v e i a ha hl hw
    refine ⟨k0.app u,fun j hj=>?_⟩
    rcases Nat.lt_or_ge j X.nf with hlt | hge
    ·exact (k1 j hlt).app u
    ·rw [show nb'+j+1=gs.size by simp only at hj;omega];exact hknow i k0
   ·rw [hum op ho] at h2;cases h2
  ·rcases hslots _ sx _ hj with ⟨hlt,hj⟩ | ⟨he,rfl⟩
   ·rw [hgn _ (by omega) (by omega)]
    exact p.slot j sx hj
   ·obtain rfl:j=X.nf:=by omega
    exact ⟨q0,by rw [p.rest _ (Nat.le_refl _)];exact hq,fd.N,rfl,p.pot⟩
end
end
end Go.PB
namespace Go.PB
open Go.Conc Go.Conc.Lib
open Go.ConcR (KK stA smA rd wr mk DC0)
variable {W0:World} {P:Program} {cv:Value} {L:WgLink}
def mEnd (P:Program) (f:FuncId) (Q:Value→Hp→Prop) (fr:Frame) (cs:List Frame) (h:Hp) (x:MX):Prop :=
 x=.idle∧cs=[]∧∃ v,AtEnd P fr f .normal h (.ret v)∧Q v h
theorem Mem.at {w:World} {t:Trace} {hp:Nat→Hp} (m:Mem w t hp) (d:Nat):Mem (w.at d) t hp:=⟨fun i=>⟨(m.fits i).own,(m.fits i).thaw,(m.fits i).ro,(m.fits i).disj,(m.fits i).obj,(m.fits i).objn,(m.fits i).shp⟩,m.sep,m.nr,m.low,m.norel⟩
section
variable {f:FuncId} {Q:Value→Hp→Prop} {gs:Array Goroutine} {w:World} {t:Trace} {M:MN P cv L (mEnd P f Q)} {sl:List (Slot P cv L)} {hp:Nat→Hp}
theorem Cfg.at (c:Cfg W0 gs w t M sl hp) (d:Nat):Cfg W0 gs (w.at d) t M sl hp where
 size:=c.size
 main:=c.main
 thr:=fun i s hi=>by
  obtain ⟨g,h1,h2⟩:=c.thr i s hi
  exact ⟨g,h1,slot_rely (w:=w) (w':=w.at d) rfl (fun ⟨a,b,h⟩=>⟨a,b,h.of_heap rfl⟩) h2⟩
 mem:=c.mem.at d
 aft:=⟨⟨⟨c.aft.after.1.os,c.aft.after.1.tape,c.aft.after.1.output,c.aft.after.1.size,c.aft.after.1.block⟩,c.aft.after.2⟩,c.aft.own,c.aft.obj,c.aft.game⟩
 hp0:=c.hp0
 hpn:=c.hpn
 tg:=c.tg
 kn0:=c.kn0
 game:=by
  have hg:=c.game
  cases hM:M.x with
  | idle=>rw [hM] at hg;exact hg
  | game X =>
   rw [hM] at hg
   obtain ⟨nb,G⟩:=hg
   exact ⟨nb,⟨G.len,G.old,G.seat,G.know,G.chan,G.dist,G.noch,G.nowg,G.wg.at fun a b h=>h.of_heap rfl,G.wgt,G.deaf,G.tok0,G.tok1,G.adp,G.ads,G.adl,G.live,G.park,fun g0 h1 h2 h3=>⟨(G.sleep g0 h1 h2 h3).1,fun h=>(G.sleep g0 h1 h2 h3).2 (h.of_heap rfl)⟩,G.cht⟩⟩
 pool:=by
  have:=c.pool.step (w':=w.at d) (u:=#[]) (sl':=sl) (hp':=hp) (fun pl _ h2 h3=>⟨⟨h3.own,h3.thaw,h3.ro,h3.disj,h3.obj,h3.objn,h3.shp⟩,h2,fun op ho=>by simp at ho⟩) rfl fun g wg m q i sx hi=>⟨sx,hi,id⟩
  rwa [Array.append_empty] at this
theorem Cfg.awake (c:Cfg W0 gs w t M sl hp):∀ g∈gs,awake g:=by
 intro g hg tm
 obtain ⟨i,hi⟩:=Array.mem_iff_getElem?.1 hg
 cases i with
 | zero =>
  obtain ⟨g',h1,h2⟩:=c.main
  rw [hi] at h1;cases h1
  rcases h2 with h | ⟨_,_,h,_⟩ | ⟨h,_⟩ <;> rw [h.status] <;> simp
 | succ i =>
  have hlt:i<sl.length:=by have:=(Array.getElem?_eq_some_iff.1 hi).1;have:=c.size;omega
  obtain ⟨g',h1,h2⟩:=c.thr i _ (List.getElem?_eq_getElem hlt)
  rw [hi] at h1;cases h1
  cases hs:sl[i] with
  | act n =>
   rw [hs] at h2
   rcases h2 with h | ⟨_,_,h,_⟩ <;> rw [h.status] <;> simp
  | out k m =>
   rw [hs] at h2
   cases k with
   | zero=>rcases QuitsD.status (P:=P) (n:=m) h2 with h | h <;> rw [h] <;> simp
   | succ k=>rw [zg_running (k:=k+1) h2];simp
theorem Cfg.someone (c:Cfg W0 gs w t M sl hp):∃ (i:Nat) (g:Goroutine),gs[i]?=some g∧g.status=.running:=by
 obtain ⟨g0,h0,hm⟩:=c.main
 rcases hm with h | ⟨cases,sh,h,hn⟩ | ⟨h,hn⟩
 ·exact ⟨0,g0,h0,h.status⟩
 ·have hgame:=c.game
  cases hM:M.x with
  | idle=>rw [hM] at hgame;exact absurd h.status (hgame.runs g0 h0)
  | game X =>
   rw [hM] at hgame
   obtain ⟨nb,G⟩:=hgame
   obtain ⟨j,cx,hj,_,hform,hb⟩:=G.park g0 cases sh h0 h.status h.offers
   obtain ⟨s,hs,hseat⟩:=G.seat j cx hj
   obtain ⟨g,hg,hsg⟩:=c.thr _ _ hs
   have hnb:=hb g hg
   obtain ⟨fr,cs,hh,x,o,O,at_,rr,a,k,rfl⟩:=hn
   replace hM:x=.game X:=hM
   subst hM
   obtain ⟨_,jm,cm,hwt,_,hjm,hcase⟩:=main_comm a
   have hseatj:∃ n,s=.act n:=by
    rcases hcase with ⟨z,s0,q,e,_,hst,_⟩ | ⟨z,q,m,f',s0,l,h',r,e,_,hst,hpl,_⟩
    ·rcases hform with ⟨z',e'⟩ | ⟨v',z',e'⟩
     ·rw [e'] at e
      have ech:cx.says=cm.says:=by simpa [rcase] using congrArg (fun a=>a.map CommCase.chan) e
      obtain ⟨rfl,_⟩:=G.dist j jm cx cm 0 0 hj hjm (by omega) (by omega) ech
      rw [hj] at hjm;cases hjm
      obtain ⟨n,hn,_⟩:=seat_run hseat hst
      exact ⟨n,hn⟩
     ·rw [e'] at e;simp [rcase,scase] at e
    ·rcases hform with ⟨z',e'⟩ | ⟨v',z',e'⟩
     ·rw [e'] at e;simp [rcase,scase] at e
     ·rw [e'] at e
      have ech:cx.turn=cm.turn:=by simpa [scase] using congrArg (fun a=>a.map CommCase.chan) e
      obtain ⟨rfl,_⟩:=G.dist j jm cx cm 1 1 hj hjm (by omega) (by omega) ech
      rw [hj] at hjm;cases hjm
      obtain ⟨n,hn,_⟩:=seat_said hseat hst (by rw [hpl];rfl)
      exact ⟨n,hn⟩
   obtain ⟨n,rfl⟩:=hseatj
   rcases hsg with hr | ⟨_,_,hp,_⟩
   ·exact ⟨_,g,hg,hr.status⟩
   ·exact absurd hp.status hnb
 ·have hgame:=c.game
  cases hM:M.x with
  | idle=>rw [hM] at hgame;exact absurd h.status (hgame.runs g0 h0)
  | game X =>
   rw [hM] at hgame
   obtain ⟨nb,G⟩:=hgame
   obtain ⟨hwt,hnf⟩:=G.sleep g0 h0 h.status h.offers
   have find:∀ (i k:Nat),(sl.map Slot.stage)[i]?=some k→0<k→∃ (i:Nat) (g:Goroutine),gs[i]?=some g∧g.status=.running:=by
    intro i k hi hk
    rw [List.getElem?_map] at hi
    obtain ⟨s,hs,rfl⟩:=Option.map_eq_some_iff.1 hi
    obtain ⟨g,hg,hsg⟩:=c.thr i s hs
    cases s with
    | out k' m =>
     cases k' with
     | zero=>exact absurd hk (Nat.lt_irrefl 0)
     | succ k'=>rw [hM] at hsg;exact ⟨_,g,hg,zg_running (k:=k'+1) hsg⟩
    | act n =>
     have hin:nb≤i:=Nat.le_of_not_lt fun hlt=>by obtain ⟨m',e⟩:=(G.old i _ hlt hs).out;cases e
     obtain ⟨j,rfl⟩:∃ j,i=nb+j:=⟨i-nb,by omega⟩
     rcases hsg with hr | ⟨_,_,hp,hnode⟩
     ·exact ⟨_,g,hg,hr.status⟩
     have hno:X.free=none∧X.nf=0:=by
      obtain ⟨fr,cs,hh,x,o,O,at_,rr,a,k,rfl⟩:=hnode
      exact c.comm_turns hM G hs
     obtain ⟨cx,hj⟩:∃ cx:St X,X.seats[j]?=some cx:=by
      have:=G.len
      have:=(List.getElem?_eq_some_iff.1 hs).1
      exact ⟨X.seats[j]'(by omega),List.getElem?_eq_getElem _⟩
     have hsh:=(G.ads (by rw [hwt];simp)).2 j cx hj
     have hnb:=G.live j cx g hj hg hsh
     exact absurd hp.status hnb
   cases G.wg with
   | quiet v wt at_ hv late hw park b =>
    have hads:=G.ads (by rw [hwt];simp)
    have hpos:=park hwt
    have:0<((sl.map Slot.stage).filter fun k=>decide (4≤k)).length:=by omega
    obtain ⟨k,hk⟩:=List.exists_mem_of_length_pos this
    obtain ⟨hk1,hk2⟩:=List.mem_filter.1 hk
    obtain ⟨i,hi⟩:=List.getElem?_of_mem hk1
    exact find i k hi (by simp at hk2;omega)
   | late p i k hi hk at_ oth=>exact find i k hi (by omega)
   | late1 p i hi at_ oth=>exact find i 1 hi (by omega)
   | free p at_ oth=>exact absurd at_ hnf
end
end Go.PB
namespace Go.PB
open Go.Conc Go.Conc.Lib
open Go.ConcR (KK stA smA rd wr mk DC0)
variable {W0:World} {P:Program} {cv:Value} {L:WgLink} {f:FuncId} {Q:Value→Hp→Prop} {Post:Value→World→Prop}
theorem zg_runs {ty:TypeId} {Wg m:Nat} {g:Goroutine} {fr:Frame} {cs:List Frame} {w:World} (r:Runs g fr cs) (h:Zg P ty Wg (ZR P ty Wg) m (G fr cs) w):Zg P ty Wg (ZR P ty Wg) m g w:=by
 have stop:∀ w₁,ZR P ty Wg (G fr cs) w₁→ZR P ty Wg g w₁:=fun w₁ ⟨_,g',m,hs,hz⟩=>⟨r.status,g',m,by rw [r.step];exact hs,hz⟩
 unfold Zg at h ⊢
 cases m with
 | zero=>exact fun w₁ h₁=>stop w₁ (h w₁ h₁)
 | succ m =>
  rcases h with h | ⟨_,h⟩
  ·exact .inl fun w₁ h₁=>stop w₁ (h w₁ h₁)
  ·exact .inr ⟨r.status,fun w₁ h₁=>by rw [r.step];exact h w₁ h₁⟩
theorem EvOk.marks {M M':Mark→Prop} {h:Hp} {w:World} {n:Nat} {e:Event} (x:EvOk M h w n e) (hM:∀ m,M m→M' m):EvOk M' h w n e:=by
 unfold EvOk at x ⊢
 split at x
 ·exact x
 ·exact x
 ·exact hM _ x
 ·exact x
def EndsW (P:Program) (Post:Value→World→Prop) (gs:Array Goroutine) (w:World) (sc:Option (Nat × Nat)) (t:Trace):Prop :=
 ∃ N last o w' t',runNT P (N+1) (crowd gs w sc) t=(.ended o w',t')∧runN P N (crowd gs w sc)=.next last∧step P last=.ended o w'∧Conc.Good P Post last o w' t'
theorem EndsW.step {gs gs':Array Goroutine} {w w':World} {sc sc':Option (Nat × Nat)} {t ops:Trace} (hs:stepT P (crowd gs w sc)=(.next (crowd gs' w' sc'),ops)) (h:EndsW P Post gs' w' sc' (t++ops)):EndsW P Post gs w sc t:=by
 obtain ⟨N,last,o,w2,t',h1,h2,h3,h4⟩:=h
 exact ⟨N+1,last,o,w2,t',by rw [runNT_succ_next hs];exact h1,by rw [runN_succ_next hs];exact h2,h3,h4⟩
section
variable {gs:Array Goroutine} {w:World} {t:Trace} {sl:List (Slot P cv L)} {hp:Nat→Hp} {g:Goroutine} {sc sc':Option (Nat × Nat)} {fr:Frame} {cs:List Frame} {h:Hp} {x:MX} {d:Nat}
theorem ends_fin (hi:P.inits.idxOf? f=none) (hQ:∀ v h w',Q v h→After W0 w'→Post v w') {e:mEnd P f Q fr cs h x} (c:Cfg W0 gs (w.at d) t (⟨fr,cs,h,x,.fin e⟩:MN P cv L (mEnd P f Q)) sl hp) (hg:gs[0]?=some g) (hr:Runs g fr cs)
  (hst:stepT P (crowd gs w sc)=runT P (crowd gs (w.at d) sc') 0):EndsW P Post gs w sc t:=by
 obtain ⟨rfl,rfl,v,hat,hq⟩:=e
 have hh:hp 0=h:=c.hp0
 have hfit:Fits h (w.at d):=by rw [← hh];exact c.mem.fits 0
 have hidle:IdleAt t sl hp gs:=c.game
 obtain ⟨h1,h2,h3,h4,h5,fn,hf,hres⟩:=hat
 rcases wpS_sound _ hres (w.at d) #[] hfit with ⟨v',w',es',h',e1,gu,e2,rfl,rfl⟩ | ⟨_,_,_,_,_,_,_,hx⟩
 rotate_left
 ·exact hx.elim
 simp only [Array.empty_append] at e1
 obtain ⟨es,hes,hstep⟩:∃ es,(∀ e∈es,EvOk Still h' (w.at d) w'.heap.size e)∧stepG P true (G fr []) (w.at d)=.ended (.done v') w' es:=by
  refine ⟨seen P fr.fn es',fun e he=>(e2 e (seen_mem P _ _ e he)).marks fun m hm=>hm.elim,?_⟩
  ·obtain ⟨f1,tmps,f3,f4,f5,f6,f7⟩:=fr
   simp only at h1 h2 h3 h4 h5
   subst h1;subst h2;subst h3;subst h4;subst h5
   replace e1:(results fn tmps).runT P (w.at d) #[]=(.ok v' w',es'):=e1
   have er:(results fn tmps).run P (w.at d)=.ok v' w':=by rw [← Sem.runT_fst P _ (w.at d) #[],e1]
   have ee:=congrArg Prod.snd e1
   simp only [Sem.runT_eq] at ee
   simp [stepG,G,unwind,hf,er,ee,GStep.after,doReturn,hi]
 have hst':stepG P ((0:Nat) == 0) g (w.at d)=.ended (.done v') w' es:=by rw [hr.step];exact hstep
 have hrunT:=Go.ConcN.runT_crowd_ended (sl:=sc') hg hst'
 have hstepT:=hst.trans hrunT
 have ho:=own_of_events (a:=0) (fn:=g.frame.fn) (pos:=g.frame.place) gu hes
 generalize hops:MemOp.ofEvents 0 g.frame.fn g.frame.place es=ops at ho hstepT
 have ho':Own 0 (hp 0) (w.at d) w' h' ops:=by rw [hh];exact ho
 have hmem:=c.mem.own ho' c.kn0
 have haft:=c.aft.own_step ho'
 have hng:∀ i,i≠0→∀ op∈ops,op.g≠i:=fun i hi op hop e=>hi (by rw [← e,ho.g op hop])
 refine ⟨0,crowd gs w sc,.done v',w',t++ops,by rw [runNT,hstepT],rfl,by rw [← stepT_fst P _ true,hstepT],v',rfl,hQ _ _ _ hq haft.after,fun said=>hmem.nr said,?_,⟨?_,rfl⟩,?_⟩
 ·-- all is handed over
  intro i k hi hk hc
  have hlt:i<t.size:=by
   refine Nat.lt_of_not_le fun hge=>?_
   unfold Trace.g? at hi
   obtain ⟨op,hop,hopg⟩:=Option.map_eq_some_iff.1 hi
   rcases getElem?_append_cases hop with ⟨h,_⟩ | ⟨_,h⟩
   ·omega
   ·rw [ho.g op h] at hopg;exact hk hopg.symm
  rw [g?_app hlt] at hi
  rw [counts_old hlt] at hc
  obtain ⟨op,hop,hopg⟩:=Option.map_eq_some_iff.1 (show (t[i]?).map (·.g)=some k from hi)
  have htg:=c.tg i op hop
  obtain ⟨k,rfl⟩:∃ k',k=k'+1:=⟨k-1,by omega⟩
  have hkl:k<sl.length:=by omega
  obtain ⟨q,z,hq,hzg,hb⟩:=(hidle.old k _ (List.getElem?_eq_getElem hkl)).all i hi hc
  refine ⟨q,?_,?_⟩
  ·rw [g?_app (lt_size_of_getElem? hq),g?_of hq,hzg]
  ·rcases hb with rfl | hb
   ·rw [g?_of hq,hzg] at hi;cases hi
   ·exact hb_app ops hb
 ·intro g' hg'
  obtain ⟨i,hi⟩:=List.getElem?_of_mem hg'
  rw [List.getElem?_drop] at hi
  have hi':gs[i+1]?=some g':=by
   rw [← Array.getElem?_toList,Nat.add_comm i 1];exact hi
  have hlt:i<sl.length:=by have:=(Array.getElem?_eq_some_iff.1 hi').1;have:=c.size;omega
  obtain ⟨g2,e1,e2⟩:=c.thr i _ (List.getElem?_eq_getElem hlt)
  rw [hi'] at e1;cases e1
  obtain ⟨m,hm⟩:=(hidle.old i _ (List.getElem?_eq_getElem hlt)).out
  rw [hm] at e2
  exact ⟨m,QuitsD.leaves (P:=P) (n:=m) e2⟩
 ·intro i g' hg' hi0
  obtain ⟨i,rfl⟩:∃ i',i=i'+1:=⟨i-1,by omega⟩
  replace hg':gs[i+1]?=some g':=hg'
  have hlt:i<sl.length:=by have:=(Array.getElem?_eq_some_iff.1 hg').1;have:=c.size;omega
  obtain ⟨g2,e1,e2⟩:=c.thr i _ (List.getElem?_eq_getElem hlt)
  rw [hg'] at e1;cases e1
  obtain ⟨m,hm⟩:=(hidle.old i _ (List.getElem?_eq_getElem hlt)).out
  rw [hm] at e2
  refine ⟨m,?_⟩
  have hd:(t++ops).deaf (i+1) (t++ops).size=Deaf t (i+1):=Deaf_others (hng _ (by omega))
  rw [hd]
  exact QuitsD.hears (P:=P) _ (n:=m) e2
end
end Go.PB
namespace Go.PB
open Go.Conc Go.Conc.Lib
open Go.ConcR (KK stA smA rd wr mk DC0)
variable {W0:World} {P:Program} {cv:Value} {L:WgLink} {f:FuncId} {Q:Value→Hp→Prop} {Post:Value→World→Prop}
theorem thr_free (H:WgLib P L) {gs:Array Goroutine} {w:World} {t:Trace} {M:MN P cv L (mEnd P f Q)} {sl:List (Slot P cv L)} {hp:Nat→Hp} {i:Nat} {g:Goroutine} {fr:Frame} {cs:List Frame} {h:Hp} {x:TX} {r:Run P (tHand P cv) false (tEnd P L.done) fr cs h x}
  {X:GX} {nb j:Nat} (c:Cfg W0 gs w t M sl hp) (hX:M.x=.game X) (hG:GameAt X gs w t sl hp nb) (hs:sl[nb+j]?=some (.act ⟨fr,cs,h,x,r⟩)) (hg:gs[nb+j+1]?=some g) (hr:Runs g fr cs)
  (hfree:(∃ e,r=.fin e)∨∃ O a k,r=.ghost O a k):∃ sl' hp',Cfg W0 gs w t M sl' hp'∧Falls SBel sl' sl:=by
 have hh:h=hp (nb+j+1):=(hG.know j _ hs).2.1
 have hkn:=(hG.know j _ hs).1
 have hdj:=(hG.know j _ hs).2.2
 have hseat:∀ cx:St X,X.seats[j]?=some cx→SeatAt X cx (hp (nb+j+1)) (.act ⟨fr,cs,h,x,r⟩:Slot P cv L):=fun cx hj=>by
  obtain ⟨s,h1,h2⟩:=hG.seat j cx hj
  rw [hs] at h1;cases h1;exact h2
 -- whose group it is
 have hxwg:x.wg=X.wg:=by
  have hpo:=c.pool
  rw [hX] at hpo
  cases hf:X.free with
  | none =>
   have hnf:=hpo.1 hf
   obtain ⟨cx,hj⟩:∃ cx:St X,X.seats[j]?=some cx:=by
    have:=hG.len
    have:=(List.getElem?_eq_some_iff.1 hs).1
    exact ⟨X.seats[j]'(by omega),List.getElem?_eq_getElem _⟩
   obtain ⟨ph,hx,_⟩:=hseat cx hj
   replace hx:x=_:=hx
   rw [hx]
  | some d =>
   obtain ⟨e1,e2,nb',pl,s,qs,p⟩:=hpo.2 d hf
   obtain rfl:=p.nb_eq hG e1
   obtain ⟨q,_,n',hx,_⟩:=p.slot j _ hs
   replace hx:x=_:=hx
   rw [hx]
 rcases hfree with ⟨e,rfl⟩ | ⟨O,a,k,rfl⟩
 ·obtain ⟨hfr,⟨c0,cs',qt,hcs,hcm,hq⟩,q,hph,hfin⟩:=e
  subst hcs
  refine ⟨_,_,Cfg.frz1 c hX hG hs (h1:=h) (by rw [hh];exact Frz.refl) (s':=.out 6 23) (.inr rfl) ⟨g,hg,?_⟩ (.inl ⟨rfl,by rw [hh];exact hkn,hdj⟩) (fun cx hj=>?_) (fun m q' hfs=>?_),Falls.set hs trivial⟩
  ·rw [hxwg] at hfr
   subst hfr
   obtain ⟨p1,p2,e1⟩:=hG.wg.ex
   haveI:Go.ConcR.Payload:=⟨0⟩
   have hz:=done_goes H (Wg:=X.wg) hcm hq w ⟨_,_,e1⟩
   rw [← done_enter H] at hz
   exact zg_runs hr hz
  rotate_left
  ·obtain ⟨n',hx,_⟩:=hfs
   replace hx:x=_:=hx
   subst hx
   rcases hph with hph | hph | ⟨hpl,n2,hph⟩
   ·cases hph
   ·cases hph
   ·replace hph:Ph.free q' n'=Ph.free q n2:=hph
    cases hph
    exact ⟨hpl,hfin⟩
  ·obtain ⟨ph,hx,pk⟩:=hseat cx hj
   replace hx:x=_:=hx
   subst hx
   refine ⟨Nat.le_refl _,q,?_,hfin⟩
   generalize cx.st=st at pk
   rcases hph with hph | hph | ⟨_,n2,hph⟩
   rotate_right
   ·replace hph:ph=_:=hph
    rw [hph] at pk
    cases pk
   ·replace hph:ph=_:=hph
    rw [hph] at pk
    cases pk with
    | over hp=>exact .inl ⟨rfl,hp⟩
    | shutO=>exact .inr rfl
   ·replace hph:ph=_:=hph
    rw [hph] at pk
    cases pk with
    | shutC=>exact .inr rfl
 ·obtain ⟨h1,z,q⟩:=a ⟨w,by rw [show h=hp (nb+j+1) from hh];exact c.mem.fits _⟩
  refine ⟨_,_,Cfg.frz1 c hX hG hs (h1:=h1) (by rw [← hh];exact z) (s':=.act ⟨fr,cs,h1,x,k h1 x q⟩) (.inl rfl) ⟨g,hg,.inl hr⟩ ⟨?_,rfl,hdj⟩ (fun cx hj=>?_) (fun m q' hfs=>hfs),Falls.set hs (Relation.TransGen.single (Below.ghost (B:=tHand P cv) (k:=k) h1 x q))⟩
  ·have:Frz (hp (nb+j+1)) h1:=by rw [← hh];exact z
   exact this.kn hkn
  ·obtain ⟨ph,hx,pk⟩:=hseat cx hj
   exact ⟨ph,hx,pk⟩
theorem play_ends (H:WgLib P L) (hi:P.inits.idxOf? f=none) (hQ:∀ v h w',Q v h→After W0 w'→Post v w') :
  ∀ (M:MN P cv L (mEnd P f Q)) (sl:List (Slot P cv L)) (n:Nat) (gs:Array Goroutine) (w:World) (t:Trace) (hp:Nat→Hp) (sc:Option (Nat × Nat)),Cfg W0 gs w t M sl hp→nrun gs=n→EndsW P Post gs w sc t:=by
 intro M
 induction M using (below_wf (P:=P) (B:=mHand P cv L.done L.tWg) (main:=true) (E:=mEnd P f Q)).induction with
 | _ M ihM =>
 intro sl
 induction sl using (Falls.wf (sbel_wf (P:=P) (cv:=cv) (L:=L))).induction with
 | _ sl ihS =>
 intro n
 induction n using Nat.strongRecOn with
 | _ n ihN =>
 intro gs w t hp sc c hn
 -- what falls,ends
 have go:∀ {d:Nat} {sc':Option (Nat × Nat)} {i:Nat},stepT P (crowd gs w sc)=runT P (crowd gs (w.at d) sc') i →
   (∃ gs' w' ops M' sl' hp',runT P (crowd gs (w.at d) sc') i=(.next (crowd gs' w' sc'),ops)∧Cfg W0 gs' w' (t++ops) M' sl' hp'∧Less gs' M' sl' gs M sl)→EndsW P Post gs w sc t:=by
  rintro d sc' i hst ⟨gs',w',ops,M',sl',hp',h1,h2,h3⟩
  refine EndsW.step (hst.trans h1) ?_
  rcases h3 with h3 | ⟨rfl,h3⟩ | ⟨rfl,rfl,h3⟩
  ·exact ihM M' h3 sl' _ gs' w' _ hp' sc' h2 rfl
  ·exact ihS sl' h3 _ gs' w' _ hp' sc' h2 rfl
  ·exact ihN _ (by omega) gs' w' _ hp' sc' h2 rfl
 obtain ⟨i,g,d,sc',hgi,hrun,hst⟩:=crowd_pick (P:=P) (w:=w) (sl:=sc) c.awake c.someone
 have c':=c.at d
 cases i with
 | zero =>
  obtain ⟨g',h0,hm⟩:=c.main
  rw [hgi] at h0;cases h0
  have hr:Runs g M.fr M.cs:=by
   rcases hm with h | ⟨_,_,h,_⟩ | ⟨h,_⟩
   ·exact h
   ·rw [h.status] at hrun;cases hrun
   ·rw [h.status] at hrun;cases hrun
  obtain ⟨fr,cs,h,x,r⟩:=M
  have hfit:Fits h (w.at d):=by
   have:hp 0=h:=c.hp0
   rw [← this];exact c'.mem.fits 0
  cases r with
  | fin e=>exact ends_fin hi hQ c' hgi hr hst
  | priv nx k =>
   obtain ⟨gs',ops,h1,h2⟩:=cfg_priv0 (sc:=sc') c' hgi hr (nx (w.at d) hfit) (k (w.at d) hfit)
   exact go hst ⟨gs',_,ops,_,sl,_,h1,h2,.inl (.priv (w.at d) hfit)⟩
  | act o O at_ ne a k =>
   have a':=a
   obtain ⟨X,hX,ma⟩:=a'
   subst hX
   rcases cfg_book (sc:=sc') c' hgi hr ma with ⟨gs',w',ops,v,h',x',q,h1,h2⟩ | ⟨hp1,hb,hnf⟩ | ⟨hwt,hdf,hnq,hs,hO⟩ | ⟨j,cx,q0,hwt,hdf,had,htk,hj,hst0,hwk,hs,hO⟩
   ·exact go hst ⟨gs',w',ops,_,sl,hp,h1,h2,.inl (.act v h' x' q)⟩
   ·obtain ⟨gs',h1,h2,h3⟩:=cfg_sleep (sc:=sc') c' hgi hr hp1 hb hnf
    exact go hst ⟨gs',_,#[],_,sl,hp,h1,by rw [Array.append_empty];exact h2,.inr (.inr ⟨rfl,rfl,h3⟩)⟩
   ·obtain ⟨gs',ops,h',q,hp',h1,h2⟩:=cfg_acquire (sc:=sc') c' hgi hr hwt hdf hnq hs hO
    exact go hst ⟨gs',_,ops,_,sl,hp',h1,h2,.inl (Below.act (B:=mHand P cv L.done L.tWg) (k:=k) unit h' MX.idle q)⟩
   ·obtain ⟨gs',w',ops,h1,h2⟩:=cfg_shut (sc:=sc') c' hgi hr hwt hdf had htk hj hst0 hwk hs hO
    exact go hst ⟨gs',w',ops,_,sl,hp,h1,h2,.inl (Below.act (B:=mHand P cv L.done L.tWg) (k:=k) unit h _ hO)⟩
  | comm o cases bl sh O at_ rr a k =>
   have a':=a
   rcases a' with ⟨hbl,X,_,_,hX,_⟩ | ht
   ·subst hX
    subst hbl
    obtain ⟨gs',w',ops,M',sl',hp',h1,h2,h3⟩:=cfg_comm0 (sc:=sc') c' hgi hr
    exact go hst ⟨gs',w',ops,M',sl',hp',h1,h2,h3.imp id fun h=>.inr h⟩
   ·obtain ⟨gs',w',ops,M',hp',h1,h2,h3⟩:=cfg_try0 (sc:=sc') c' hgi hr ht
    exact go hst ⟨gs',w',ops,M',sl,hp',h1,h2,.inl h3⟩
  | spawn o dd O at_ rr a k =>
   have a':=a
   rcases a' with ⟨X,s,says,turn,fin,hc,h',s',q',hX,hrest⟩ | ⟨X,fd,hc,h',q0,hX,hf,hwt,hdf,had,hq,hsp,hd,⟨run⟩,hO⟩
   ·subst hX
    obtain ⟨gs',ops,M',sl',hp',h1,h2,h3⟩:=cfg_spawn (sc:=sc') c' hgi hr ⟨X,s,says,turn,fin,hc,h',s',q',rfl,hrest⟩
    exact go hst ⟨gs',_,ops,M',sl',hp',h1,h2,.inl h3⟩
   ·subst hX
    obtain ⟨gs',ops,M',sl',hp',h1,h2,h3⟩:=cfg_spawnF (sc:=sc') c' hgi hr hf hwt hdf had hq hsp hd run hO
    exact go hst ⟨gs',_,ops,M',sl',hp',h1,h2,.inl h3⟩
  | late b tt ds todo f cap args O e a k =>
   subst e
   have a':=a
   obtain ⟨X,hX,d1,d2,d3⟩:=a'
   subst hX
   obtain ⟨gs',w',ops,h1,h2⟩:=cfg_late (sc:=sc') c' hgi hr d1 d2 d3
   exact go hst ⟨gs',w',ops,_,sl,hp,h1,h2,.inl (Below.late (B:=mHand P cv L.done L.tWg) (k:=k) h _ d3)⟩
  | ghost O a k =>
   have a':=a
   rcases a' ⟨w.at d,hfit⟩ with ⟨h1,z,q⟩ | ⟨hx,gm,wg,s,h1,e0,e1,e2,z,hno,q⟩ | ⟨hx,gm,fd,wg,s,h1,h2,pl,sp,hU,hpw,e0,e1,e2,z,hno,hI,hφ,q⟩
   ·exact ihM _ (.ghost h1 x q) sl _ gs w t _ sc (Cfg.frz0 c z (M':=⟨fr,cs,h1,x,k h1 x q⟩) rfl rfl ⟨g,hgi,.inl hr⟩) rfl
   ·exact ihM _ (.ghost h1 _ q) sl _ gs w t _ sc (Cfg.start c hx e0 e1 e2 z hno ⟨fun _=>rfl,fun d hd=>by cases hd⟩ (M':=⟨fr,cs,h1,_,k h1 _ q⟩) rfl rfl ⟨g,hgi,.inl hr⟩) rfl
   ·exact ihM _ (.ghost h1 _ q) sl _ gs w t _ sc (Cfg.startF c hx sp hU hpw e0 e1 e2 z hno hI hφ (M':=⟨fr,cs,h1,_,k h1 _ q⟩) rfl rfl ⟨g,hgi,.inl hr⟩) rfl
 | succ i =>
  have hlt:i<sl.length:=by have:=(Array.getElem?_eq_some_iff.1 hgi).1;have:=c.size;omega
  obtain ⟨s,hs⟩:∃ s,sl[i]?=some s:=⟨sl[i],List.getElem?_eq_getElem hlt⟩
  obtain ⟨g',h1,hsg⟩:=c.thr i s hs
  rw [hgi] at h1;cases h1
  -- in a game,if it isn't one that only leaves
  have ingame:s.stage≠0→∃ X nb j,M.x=.game X∧GameAt X gs w t sl hp nb∧i=nb+j:=by
   intro hne
   have hgame:=c.game
   cases hM:M.x with
   | idle=>rw [hM] at hgame;obtain ⟨m,rfl⟩:=(hgame.old i s hs).out;exact absurd rfl hne
   | game X =>
    rw [hM] at hgame
    obtain ⟨nb,G⟩:=hgame
    refine ⟨X,nb,i-nb,rfl,G,?_⟩
    have hin:nb≤i:=Nat.le_of_not_lt fun hlt=>by obtain ⟨m,rfl⟩:=(G.old i s hlt hs).out;exact hne rfl
    omega
  cases s with
  | out k m =>
   cases k with
   | zero =>
    obtain ⟨gs',ops,m',h1,h2,h3⟩:=cfg_quit (sc:=sc') c' hs hgi hrun
    exact go hst ⟨gs',_,ops,M,_,hp,h1,h3,.inr (.inl ⟨rfl,Falls.set hs (.inr ⟨rfl,h2⟩)⟩)⟩
   | succ k =>
    obtain ⟨X,nb,j,hX,G,rfl⟩:=ingame (by simp [Slot.stage])
    have hg':=c'.game
    rw [hX] at hg'
    obtain ⟨gs',w',ops,k',m',h1,h2,h3⟩:=cfg_out (sc:=sc') c' hX (by
     exact ⟨G.len,G.old,G.seat,G.know,G.chan,G.dist,G.noch,G.nowg,G.wg.at fun a b h=>h.of_heap rfl,G.wgt,G.deaf,G.tok0,G.tok1,G.adp,G.ads,G.adl,G.live,G.park,fun g0 h1 h2 h3=>⟨(G.sleep g0 h1 h2 h3).1,fun h=>(G.sleep g0 h1 h2 h3).2 (h.of_heap rfl)⟩,G.cht⟩:GameAt X gs (w.at d) t sl hp nb) hs hgi
    exact go hst ⟨gs',w',ops,M,_,hp,h1,h3,.inr (.inl ⟨rfl,Falls.set hs h2⟩)⟩
  | act nd =>
   obtain ⟨X,nb,j,hX,G,rfl⟩:=ingame (by simp [Slot.stage])
   have G':GameAt X gs (w.at d) t sl hp nb:=⟨G.len,G.old,G.seat,G.know,G.chan,G.dist,G.noch,G.nowg,G.wg.at fun a b h=>h.of_heap rfl,G.wgt,G.deaf,G.tok0,G.tok1,G.adp,G.ads,G.adl,G.live,G.park,fun g0 h1 h2 h3=>⟨(G.sleep g0 h1 h2 h3).1,fun h=>(G.sleep g0 h1 h2 h3).2 (h.of_heap rfl)⟩,G.cht⟩
   have hr:Runs g nd.fr nd.cs:=by
    rcases hsg with h | ⟨_,_,h,_⟩
    ·exact h
    ·rw [h.status] at hrun;cases hrun
   obtain ⟨fr,cs,h,x,r⟩:=nd
   have hfit:Fits h (w.at d):=by
    have:h=hp (nb+j+1):=(G.know j _ hs).2.1
    rw [this];exact c'.mem.fits _
   cases r with
   | fin e =>
    obtain ⟨sl',hp',h1,h2⟩:=thr_free H (i:=nb+j) c hX G hs hgi hr (.inl ⟨e,rfl⟩)
    exact ihS sl' h2 _ gs w t hp' sc h1 rfl
   | ghost O a k =>
    obtain ⟨sl',hp',h1,h2⟩:=thr_free H (i:=nb+j) c hX G hs hgi hr (.inr ⟨O,a,k,rfl⟩)
    exact ihS sl' h2 _ gs w t hp' sc h1 rfl
   | priv nx k =>
    obtain ⟨gs',ops,h1,h2⟩:=cfg_priv1 (sc:=sc') c' hs hgi hr (nx (w.at d) hfit) (k (w.at d) hfit)
    exact go hst ⟨gs',_,ops,M,_,_,h1,h2,.inr (.inl ⟨rfl,Falls.set hs (Relation.TransGen.single (.priv (w.at d) hfit))⟩)⟩
   | act o O at_ ne a k =>
    obtain ⟨gs',w',ops,v,x',q,h1,h2⟩:=cfg_free (sc:=sc') c' hX G' hs hgi hr
    exact go hst ⟨gs',w',ops,M,_,hp,h1,h2,.inr (.inl ⟨rfl,Falls.set hs (Relation.TransGen.single (Below.act (B:=tHand P cv) (k:=k) v h x' q))⟩)⟩
   | comm o cases bl sh O at_ rr a k =>
    have a':=a
    rcases a' with ⟨hbl,_⟩ | ht | ht
    ·subst hbl
     exact go hst (cfg_comm1 (sc:=sc') c' hX G' hs hgi hr)
    ·exact go hst (cfg_try1 (sc:=sc') c' G' hs hgi hr ht)
    ·exact go hst (cfg_tryF (sc:=sc') c' hX G' hs hgi hr ht)
   | spawn o dd O at_ rr a k=>exact a.elim
   | late b tt ds todo f cap args O e a k=>exact a.elim
theorem good_of_play {args:Array Value} {R:Value→List HProp→MX→Prop} (H:WgLib P L) (hi:P.inits.idxOf? f=none)
  (tr:Tr P (mHand P cv L.done L.tWg) f args.toList [base W0] .idle R) (hx:∀ v L' x',R v L' x'→x'=.idle) (hR:∀ v L' w',R v L' .idle→After W0 w'→Post v w') :
  ∃ M last o w' t',runNT P (M+1) (solo (G (Frame.enter P f args .normal) []) W0) #[]=(.ended o w',t')∧runN P M (solo (G (Frame.enter P f args .normal) []) W0)=.next last ∧
    step P last=.ended o w'∧Conc.Good P Post last o w' t':=by
 let Q:Value→Hp→Prop:=fun v h=>∃ L',R v L' .idle∧Star L' h
 have hst:Star [base W0] (start W0):=⟨start W0,Hp.empty,
  ⟨fun _ _ _ e=>e,fun _ _ _ e=>(by cases e),fun _ _ _ e=>e,fun _ _ _ e=>(by cases e),fun _ _=>.inl rfl,fun _ _ e=>e,fun _ _ e=>(by cases e),fun _=>.inl rfl,fun _ _ e=>e,fun _ _ e=>(by cases e)⟩,fun _ _ _ e=>e,trivial⟩
 have key:Nonempty (Run P (mHand P cv L.done L.tWg) true (mEnd P f Q) (Frame.enter P f args .normal) [] (start W0) .idle) :=
  tr (start W0) .run (fun e _ h' x'=>∃ v,e=.ret v∧x'=.idle∧Q v h') hst (fun v L' x' h' r s=>by obtain rfl:=hx _ _ _ r;exact ⟨v,rfl,rfl,L',r,s⟩) (fun _ _ _ h=>h.elim)
   true _ run_closed [] (fun h=>by cases h) (by
    rintro fr e um' h' x' ha ⟨v,rfl,rfl,hq⟩
    exact ⟨.fin ⟨rfl,rfl,v,ha,hq⟩⟩)
 obtain ⟨run⟩:=key
 have hempty:∀ i,0<i→put (fun _=>Hp.empty) 0 (start W0) i=Hp.empty:=fun i hi=>put_ne (by omega)
 have c:Cfg W0 #[G (Frame.enter P f args .normal) []] W0 #[] (⟨_,_,_,_,run⟩:MN P cv L (mEnd P f Q)) [] (put (fun _=>Hp.empty) 0 (start W0)):=by
  refine ⟨rfl,⟨_,rfl,.inl runs_G⟩,fun i s hi=>by simp at hi,⟨fun i=>?_,fun i j hij=>?_,fun said=>?_,fun i a ha=>?_,fun op ho=>by simp at ho⟩,⟨⟨Go.RowKit.Below.refl _ _,fun _=>rfl⟩,fun i b o v e=>?_,fun i b v e=>?_,trivial⟩,put_self,fun i hi=>hempty i (by simpa using hi),fun i op hi=>by simp at hi,⟨fun b o v e i a ha=>?_,fun b o v e i a ha=>?_,fun b v e i a ha=>?_⟩,⟨fun i s hi=>by simp at hi,rfl,fun g0 h0 hb=>?_⟩,trivial⟩
  ·by_cases h:i=0
   ·subst h;rw [put_self];exact fits_start W0
   ·rw [put_ne h];exact fits_empty
  ·by_cases h:i=0
   ·rw [put_ne (show j≠0 from fun e=>hij (h.trans e.symm))];exact sep_empty.symm
   ·rw [put_ne h];exact sep_empty
  ·rintro ⟨i,j,_,⟨a,b,ha,_⟩,_⟩
   simp [Trace.act?] at ha
  ·simp [touchAt,Trace.act?] at ha
  ·by_cases h:i=0
   ·subst h;rw [put_self] at e;cases e
   ·rw [put_ne h] at e;cases e
  ·by_cases h:i=0
   ·subst h;rw [put_self] at e;cases e
   ·rw [put_ne h] at e;cases e
  ·simp [touchAt,Trace.act?] at ha
  ·simp [touchAt,Trace.act?] at ha
  ·simp [touchAt,Trace.act?] at ha
  ·simp at h0;subst h0;cases hb
 have:=play_ends (Post:=Post) H hi (fun v h w' ⟨L',r,_⟩ ha=>hR v L' w' r ha) _ [] _ _ W0 #[] _ none c rfl
 exact this
end Go.PB
namespace Go.Proofs
section
abbrev Try.link:Go.Conc.Lib.WgLink:={ add:=53,done:=55,wait:=56,relMerge:=72,disable:=73,enable:=74,inBubble:=75,associate:=76,fatal:=77,uOr:=78,uAdd:=65,raceRead:=79,uLoad:=48,uStore:=62,disassociate:=80,semrelease:=81,acquire:=82,isAssociated:=83,uCas:=84,raceWrite:=85,semacquire:=86,orU64:=98,addU64:=96,loadU64:=69,storeU64:=94,casU64:=99,tWgP:=144,tUP:=177,tAssoc:=178,tWg:=132,tAU:=57,tU64:=39,tUint:=126,tU32:=130,tPU32:=181,tPAU:=166,tPU64:=169,tNoCopy:=129,tANoCopy:=54,tAlign64:=55 }
theorem Try.wgLib:Go.Conc.Lib.WgLib Try.prog Try.link :=
 ⟨Try.func53,Try.func55,Try.func56,Try.func72,Try.func73,Try.func74,Try.func75,Try.func76,Try.func77,Try.func78,Try.func65,Try.func79,Try.func48,Try.func62,Try.func80,Try.func81,Try.func82,Try.func83,Try.func84,Try.func85,Try.func86,Try.func98,Try.func96,Try.func69,Try.func94,Try.func99,Try.underlying144,Try.runUnderlying144,Try.sizeOf144,Try.isAgg144,Try.zeroValue144,Try.underlying177,Try.runUnderlying177,Try.sizeOf177,Try.isAgg177,Try.zeroValue177,Try.underlying178,Try.runUnderlying178,Try.sizeOf178,Try.isAgg178,Try.zeroValue178,Try.underlying132,Try.runUnderlying132,Try.sizeOf132,Try.isAgg132,Try.zeroValue132,Try.underlying57,Try.runUnderlying57,Try.sizeOf57,Try.isAgg57,Try.zeroValue57,Try.underlying39,Try.runUnderlying39,Try.sizeOf39,Try.isAgg39,Try.zeroValue39,Try.underlying126,Try.runUnderlying126,Try.sizeOf126,Try.isAgg126,Try.zeroValue126,Try.underlying130,Try.runUnderlying130,Try.sizeOf130,Try.isAgg130,Try.zeroValue130,Try.underlying181,Try.runUnderlying181,Try.sizeOf181,Try.isAgg181,Try.zeroValue181,Try.underlying166,Try.runUnderlying166,Try.sizeOf166,Try.isAgg166,Try.zeroValue166,Try.underlying169,Try.runUnderlying169,Try.sizeOf169,Try.isAgg169,Try.zeroValue169,Try.underlying0,Try.runUnderlying0,Try.sizeOf0,Try.isAgg0,Try.zeroValue0,Try.underlying3,Try.runUnderlying3,Try.sizeOf3,Try.isAgg3,Try.zeroValue3,Try.underlying4,Try.runUnderlying4,Try.sizeOf4,Try.isAgg4,Try.zeroValue4,Try.underlying9,Try.runUnderlying9,Try.sizeOf9,Try.isAgg9,Try.zeroValue9,Try.underlying20,Try.runUnderlying20,Try.sizeOf20,Try.isAgg20,Try.zeroValue20,Try.underlying21,Try.runUnderlying21,Try.sizeOf21,Try.isAgg21,Try.zeroValue21,(by kernel_rfl),(by kernel_rfl)⟩
end
end Go.Proofs
namespace Go.Proofs.Ytmkkanmkjfnpdaa
open Go Go.PB Go.ChangeShapes Go.WideShapes Go.RowKit
section
theorem own:ownKnob Try.prog.godebug=none:=by kernel_rfl
theorem laidOut:laidOutB Try.prog=true:=by kernel_rfl
def shDo:Sh (Int × Nat × Unit):=shPair shI64 (shPair shU64 shUnit)
theorem opens_do:Opens Try.prog 41 shDo :=
 opens_struct (fs:=#[_,_]) Try.underlying41 (by kernel_rfl) (opensF_cons rfl (opens_i64 (by kernel_rfl) (by kernel_rfl)) rfl (opensF_cons rfl (opens_u64 (by kernel_rfl) (by kernel_rfl)) rfl opensF_nil))
theorem opens_dos:Opens Try.prog 22 (shSlice shDo):=opens_slice Try.underlying22 (by kernel_rfl) opens_do (by decide)
theorem do_at {W:World} {v:Value} {l:List (Int × Nat × Unit)} (h:(shSlice shDo).rel W [v] l):∃ a cap,v=.slice a (l.map fun y=>(y.1,y.2.1)).length cap∧DoAt [base W] a (l.map fun y=>(y.1,y.2.1)):=by
 obtain ⟨p,cap,h1,_,_,h2⟩:=h
 cases h1
 have key:∀ i y,(l.map fun y=>(y.1,y.2.1))[i]?=some y→(∃ b o,p=some ⟨b,o,none⟩∧Rd [base W] b (o+2*i) (.int .i64 y.1)∧Rd [base W] b (o+2*i+1) (.int .u64 y.2))∧(-9223372036854775808≤y.1∧y.1≤9223372036854775807)∧y.2<18446744073709551616:=by
  intro i y hy
  simp only [List.getElem?_map,Option.map_eq_some_iff] at hy
  obtain ⟨y,hy,rfl⟩:=hy
  obtain ⟨b,o,vs,rfl,h3,h4,⟨h5,h6⟩,⟨h7,h7'⟩,h9⟩:=h2 i y hy
  match vs,h3 with
  | [v0,v1],_ =>
   have e0:v0=.int .i64 y.1:=by simpa [shDo,shPair,shU64,shI64] using h5
   have e1:v1=.int .u64 (y.2.1:Nat):=by simpa [shDo,shPair,shU64,shI64] using h7
   subst e0;subst e1
   have c0:=h4 0 _ rfl
   have c1:=h4 1 _ rfl
   simp only [shDo,shPair,shU64,shI64,shUnit,Nat.add_zero] at c0 c1
   rw [Nat.mul_comm i] at c0 c1
   exact ⟨⟨b,o,rfl,Rd.base c0,Rd.base c1⟩,h6,h7'⟩
 exact ⟨p,cap,by simp,⟨fun y hy=>by obtain ⟨i,hi⟩:=List.mem_iff_getElem?.1 hy;exact (key i y hi).2,fun i y hi=>(key i y hi).1⟩⟩
theorem opens_ints:Opens Try.prog 71 (shSlice shI64):=opens_slice Try.underlying71 (by kernel_rfl) (opens_i64 (by kernel_rfl) (by kernel_rfl)) (by decide)
theorem ints_at {W:World} {v:Value} {l:List Int} (h:(shSlice shI64).rel W [v] l):∃ a cap,v=.slice a l.length cap∧RdsO [base W] a l.length (intC l)∧(∀ v∈l,-9223372036854775808≤v∧v≤9223372036854775807)∧l.length≤cap∧cap≤maxLen:=by
 obtain ⟨p,cap,h1,h3,h4,h2⟩:=h
 cases h1
 have key:∀ i y,l[i]?=some y→(∃ b o,p=some ⟨b,o,none⟩∧Rd [base W] b (o+i) (.int .i64 y))∧(-9223372036854775808≤y∧y≤9223372036854775807):=by
  intro i y hy
  obtain ⟨b,o,vs,rfl,h5,h6,h7,h8,h9⟩:=h2 i y hy
  rw [h7] at h6
  have c0:=h6 0 _ rfl
  simp only [shI64,Nat.mul_one,Nat.add_zero] at c0
  exact ⟨⟨b,o,rfl,Rd.base c0⟩,h8,h9⟩
 refine ⟨p,cap,rfl,⟨by simp [intC],?_⟩,fun v hv=>?_,h3,h4⟩
 ·by_cases h0:0<l.length
  ·obtain ⟨⟨b,o,rfl,_⟩,_⟩:=key 0 l[0] (List.getElem?_eq_getElem h0)
   refine .inr ⟨b,o,rfl,fun i v hi=>?_⟩
   unfold intC at hi;rw [List.getElem?_map] at hi
   cases hy:l[i]? with
   | none=>rw [hy] at hi;cases hi
   | some y =>
    rw [hy] at hi;cases hi
    obtain ⟨⟨b2,o2,e,r⟩,_⟩:=key i y hy
    cases e;exact r
  ·exact .inl (by omega)
 ·obtain ⟨i,hi⟩:=List.mem_iff_getElem?.1 hv
  exact (key i v hi).2
abbrev DoU:=Int × Nat × Unit
def doU (y:DoU):Int × Nat:=(y.1,y.2.1)
theorem opens_ths:Opens Try.prog 79 (shSlice (shSlice shDo)):=opens_slice Try.underlying79 (by kernel_rfl) opens_dos (by decide)
theorem do_room {W:World} {v:Value} {l:List DoU} (h:(shSlice shDo).rel W [v] l):∃ a cap,v=.slice a (l.map doU).length cap∧DoAt [base W] a (l.map doU)∧(l.map doU).length≤cap:=by
 obtain ⟨a,cap,e,hd⟩:=do_at h
 obtain ⟨p,cap',h1,h3,_⟩:=h
 cases h1
 simp only [Value.slice.injEq] at e
 obtain ⟨rfl,_,rfl⟩:=e
 exact ⟨p,cap',by simp,hd,by simpa using h3⟩
theorem ths_at {W:World} {v:Value} {l:List (List DoU)} (h:(shSlice (shSlice shDo)).rel W [v] l):∃ a cap,∃ rs:List RW,v=.slice a rs.length cap∧ThsAt [base W] a rs:=by
 obtain ⟨p,cap,h1,_,_,h2⟩:=h
 cases h1
 have key:∀ (i:Nat) (t:List DoU),l[i]?=some t→∃ y:RW,∃ b o,p=some ⟨b,o,none⟩∧Rd [base W] b (o+i) (rv y)∧DoAt [base W] y.1 y.2.2∧y.2.2.length≤y.2.1:=fun i t ht=>by
  obtain ⟨b,o,vs,rfl,h3,h4,h5⟩:=h2 i t ht
  match vs,h3 with
  | [w],_ =>
   obtain ⟨d,dc,rfl,h6,h7⟩:=do_room h5
   have c0:=h4 0 _ rfl
   simp only [shSlice,Nat.add_zero,Nat.mul_one] at c0
   exact ⟨(d,dc,t.map doU),b,o,rfl,Rd.base c0,h6,h7⟩
 have all:∃ rs:List RW,rs.length=l.length∧ThsAt [base W] p rs:=by
  have hx:∀ n,n≤l.length→∃ rs:List RW,rs.length=n∧ThsAt [base W] p rs:=fun n=>by
   induction n with
   | zero=>exact fun _=>⟨[],rfl,fun i y hy=>by simp at hy⟩
   | succ n ih =>
    intro hn
    obtain ⟨rs,hl,hr⟩:=ih (by omega)
    obtain ⟨y,hy⟩:=key n l[n] (List.getElem?_eq_getElem (by omega))
    refine ⟨rs++[y],by simp [hl],fun i z hz=>?_⟩
    by_cases hi:i<rs.length
    ·rw [List.getElem?_append_left hi] at hz
     exact hr i z hz
    ·rw [List.getElem?_append_right (by omega)] at hz
     have hlt:=(List.getElem?_eq_some_iff.1 hz).1
     simp only [List.length_cons,List.length_nil] at hlt
     obtain rfl:i=n:=by omega
     rw [show i-rs.length=0 by omega] at hz
     cases hz
     exact hy
  exact hx l.length (Nat.le_refl _)
 obtain ⟨rs,hl,hr⟩:=all
 exact ⟨p,cap,rs,by rw [hl],hr⟩
set_option maxRecDepth 100000 in
theorem mirrorPlays_lifted (os:Os) (started:os.Started) (H:Type) (enc:TypeId × Value→H) :
  ReturnsInLeavingWide {} Try.checked os 6 .any (Rows.mirrorPlaysSpec.pre6 enc Try.prog Try.f6 Rows.mirrorPlaysRow.domain false) (Rows.mirrorPlaysSpec.post enc Try.prog Try.f6 false true false false):=by
 refine returnsInLeavingWide_of_change_sized (C:=Try.checked) own started Try.func6
  (ChangeSpec.witness6 (enc:=enc) (C:=Try.checked) false ⟨#[],#[.int .i64 0,.slice none 0 0,.slice none 0 0],[]⟩ 8 (by kernel_rfl) (by kernel_rfl) (by kernel_rfl) (by kernel_rfl)) ?_
 intro W base args ds gs before hval0 hW hcnd hsz _
 have hval:∀ (j:Nat) t v,Try.f6.params[j]?=some t→args[j]?=some v→Value.okWide Try.prog W .any base t v:=hval0
 have hW':=hW
 obtain ⟨p,q,hA0,hV,rfl,hfz,hnd⟩:=hW
 have hA:DataW.TrodAll enc Try.prog W 0 (fun _=>true) true Try.f6.params.toList args.toList ds p:=hA0
 rw [Try.params6] at hA hval
 obtain ⟨v0,v1,v2,d0,d1,d2,p0,p1,p2,rfl,rfl,rfl,h0,h1,h2⟩:=trodAll_three hA
 obtain ⟨n0,rfl⟩:=okWide_int (k:=.i64) (by kernel_rfl) (hval 0 _ v0 rfl rfl)
 obtain ⟨a1,l1,c1,rfl⟩:=okWide_slice Try.underlying79 (hval 1 _ v1 rfl rfl)
 obtain ⟨a2,l2,c2,rfl⟩:=okWide_slice Try.underlying71 (hval 2 _ v2 rfl rfl)
 obtain ⟨x0,e0,r0⟩:=arg_one (opens_i64 (by kernel_rfl) (by kernel_rfl)) h0
 cases e0
 obtain ⟨x1,e1⟩:=arg_one opens_ths h1
 obtain ⟨b1,k1,w1,e1,s1⟩:=ths_at e1
 cases e1
 obtain ⟨x2,e2⟩:=arg_one opens_ints h2
 obtain ⟨b2,k2,e2,s2⟩:=ints_at e2
 cases e2
 refine good_of_play (cv:=cvT) (L:=Try.link) Try.wgLib (by kernel_rfl) (rplays_tr (dup_all (by intro c hc;rw [List.mem_singleton.1 hc];exact dup_base)) r0 s1 s2.1 s2.2.1) (fun v L' x' h=>h.2) fun v L' w' hv ha=>?_
 obtain ⟨rfl,-⟩:=hv
 exact post_true laidOut (of_decide_eq_true (by kernel_rfl)) rfl (by kernel_rfl) rfl (fun ds hd=>by match ds,hd with | [_,_,_],_=>rfl) hW' ha
theorem mirrorPlays:Rows.MirrorPlaysSaid :=
 OpenClaim.holds_of_wide_leaving 6 Try.f6 rfl rfl rfl rfl rfl rfl rfl ⟨rfl,rfl,rfl,rfl,rfl⟩ rfl rfl rfl rfl rfl (by kernel_rfl) Try.func6 (by kernel_rfl)
  (of_decide_eq_true (by kernel_rfl)) (by unfold Func.isWrapper;first | (rw [if_pos (by decide +kernel)];kernel_rfl) | (rw [if_neg (by decide +kernel)];exact ⟨rfl,rfl⟩))
  (fun os started H enc _=>mirrorPlays_lifted os started H enc)
set_option maxRecDepth 100000 in
theorem mirrorPlaysUpto:Rows.MirrorPlaysUptoSaid :=
 upto_of (c:=Rows.mirrorPlaysRow) (k:=Rows.uptoSmall) rfl rfl rfl rfl rfl mirrorPlays (fun f fn h1 h2 os st H enc=>by
  obtain rfl:f=6:=Option.some.inj (h1.symm.trans (show Try.prog.funcNamed "patchbay/patchbaylaw23.MirrorPlays" = some 6 by kernel_rfl))
  obtain rfl:fn=Try.f6:=Option.some.inj (h2.symm.trans Try.func6)
  exact OpenSpec.witness (enc:=enc) (C:=Try.checked) (s:=Rows.OpenSpec.upto Rows.mirrorPlaysSpec) (k:=Rows.uptoSmall) rfl false ⟨#[],#[.int .i64 0,.slice none 0 0,.slice none 0 0],[]⟩ 8 (by kernel_rfl) (by kernel_rfl) (by kernel_rfl) (x:=([.lit (.int .i64 0),.nil,.nil],[],[])) (by kernel_rfl) rfl (by kernel_rfl))
end
end Go.Proofs.Ytmkkanmkjfnpdaa
