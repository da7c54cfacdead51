/-
  Part 7 of 8.
-/
import Derived.Test.YtmkkanmkjfnpdaaMt6
set_option linter.unusedVariables false
set_option linter.unusedSimpArgs false
namespace Go.PB
open Go.Conc Go.Conc.Lib
open Go.ConcR (KK stA smA rd wr mk DC0)
variable {W0:World} {P:Program} {cv:Value} {L:WgLink} {Em:Frame→List Frame→Hp→MX→Prop}
theorem allK_mute {t u:Trace} {i:Nat} {K K':Nat→Prop} (h:AllK t i K) (hK:∀ j,K j→K' j) (hm:∀ op∈u,op.act.touch?=none):AllK (t++u) i K':=by
 intro j hj hc
 rcases Nat.lt_or_ge j t.size with hlt | hge
 ·exact hK _ (h j (by rw [← g?_app hlt];exact hj) ((counts_old hlt).1 hc))
 ·exfalso
  obtain ⟨x,h1,_⟩:=hc
  obtain ⟨op,ho,hx⟩:=touch_of h1
  rcases getElem?_append_cases ho with ⟨h2,_⟩ | ⟨_,h2⟩
  ·omega
  ·rw [hm op h2] at hx;cases hx
theorem slotKn_mute {t u:Trace} {wg i m m':Nat} {h:Hp} (k:SlotKn t wg i h (.out 0 m:Slot P cv L)) (hm:∀ op∈u,op.act.touch?=none):SlotKn (t++u) wg i h (.out 0 m':Slot P cv L):=by
 obtain ⟨h6,_⟩ | ⟨_,⟨p,h1,h2,h3⟩,_⟩:=k
 ·omega
 ·exact .inr ⟨by omega,⟨p,h1.app u,kn_mute h2 (fun j h=>h.app u) hm,allK_mute h3 (fun j h=>h.app u) hm⟩,fun h=>by omega,fun h=>by omega⟩
section
variable {gs:Array Goroutine} {w:World} {t:Trace} {M:MN P cv L Em} {sl:List (Slot P cv L)} {hp:Nat→Hp} {X:GX} {nb i k m:Nat} {g:Goroutine} {sc:Option (Nat × Nat)}
theorem mute_act {e:Event} (h:e.mute=true):(MemAct.ofEvent e).touch?=none∧∀ a,MemAct.ofEvent e≠.mark (.release a):=by
 obtain ⟨loc,wr,sy⟩:=e
 cases loc with
 | mark m=>cases m <;> first | (simp [Event.mute] at h;done) | (cases wr <;> cases sy <;> exact ⟨rfl,fun a h=>by cases h⟩)
 | _=>simp [Event.mute] at h
theorem cfg_quit (c:Cfg W0 gs w t M sl hp) (hs:sl[i]?=some (.out 0 m)) (hg:gs[i+1]?=some g) (hr:g.status=.running) :
  ∃ gs' ops m',runT P (crowd gs w sc) (i+1)=(.next (crowd gs' w sc),ops)∧m'<m∧Cfg W0 gs' w (t++ops) M (sl.set i (.out 0 m')) hp:=by
 obtain ⟨g0,hg0,hz⟩:=c.thr _ _ hs
 rw [hg] at hg0;cases hg0
 replace hz:QuitsD P m (Deaf t (i+1)) g:=hz
 have hlt:=(List.getElem?_eq_some_iff.1 hs).1
 cases m with
 | zero=>have:=hz.1;rw [hr] at this;cases this
 | succ m =>
  rcases hz with ⟨hf,_⟩ | ⟨_,g',es,hes,hstep,hq⟩
  ·rw [hr] at hf;cases hf
  have hst':stepG P (i+1 == 0) g w=.go g' w es:=hstep w
  refine ⟨_,_,m,runT_crowd_go hg hst',Nat.lt_succ_self _,?_⟩
  have q:=gs_go (P:=P) (g':=g') (w':=w) hg
  have hnb:g'.status≠.blocked:=fun h=>by have:=QuitsD.status hq;rw [h] at this;rcases this with h | h <;> cases h
  generalize hgs':(gs.map (woken P g g' w)).setIfInBounds (i+1) g'=gs' at q
  obtain ⟨u,hu⟩:∃ u,u=MemOp.ofEvents (i+1) g.frame.fn g.frame.place es:=⟨_,rfl⟩
  have hdf:Deaf (t++u) (i+1)=deafBehind (Deaf t (i+1)) es:=by rw [hu];exact Deaf_own ..
  have hug:∀ op∈u,op.g=i+1:=fun op ho=>by rw [hu] at ho;obtain ⟨e,_,rfl⟩:=ofEvents_mem ho;rfl
  have hum:∀ op∈u,op.act.touch?=none:=fun op ho=>by rw [hu] at ho;obtain ⟨e,h1,rfl⟩:=ofEvents_mem ho;exact (mute_act (hes e h1)).1
  have hur:∀ op∈u,∀ a,op.act≠.mark (.release a):=fun op ho=>by rw [hu] at ho;obtain ⟨e,h1,rfl⟩:=ofEvents_mem ho;exact (mute_act (hes e h1)).2
  rw [← hu]
  clear hu
  have hng:∀ k,k≠i+1→∀ op∈u,op.g≠k:=fun k hk op ho e=>hk (by rw [← e,hug op ho])
  refine ⟨by rw [q.size,List.length_set];exact c.size,?_,fun k sx hk=>?_,c.mem.mute c.mem.fits (Nat.le_refl _) hum hur,c.aft,c.hp0,fun k hk=>c.hpn k (by simpa using hk),fun k op hk=>?_,kn_mute c.kn0 (fun j h=>h.app u) hum,?_,c.pool.step (fun pl _ h2 h3=>⟨h3,h2,fun op ho b hb=>by rw [hum op ho] at hb;cases hb⟩) (by rw [List.length_set]) fun g wg m q k sx hk=>?_⟩
  rotate_right
  ·by_cases hki:k=i
   ·subst hki
    simp [hlt] at hk
    subst hk
    exact ⟨_,hs,id⟩
   ·rw [List.getElem?_set_ne fun e=>hki e.symm] at hk
    exact ⟨sx,hk,id⟩
  ·obtain ⟨g,h1,h2⟩:=c.main
   obtain ⟨x,x',w2,h3⟩:=q.other 0 g (by omega) h1
   exact ⟨_,h3,h2.woken⟩
  ·by_cases hki:k=i
   ·subst hki
    simp [hlt] at hk
    subst hk
    exact ⟨_,q.self,show QuitsD P m _ g' by rw [hdf];exact hq⟩
   ·rw [List.getElem?_set_ne fun e=>hki e.symm] at hk
    obtain ⟨g,h1,h2⟩:=c.thr k sx hk
    obtain ⟨x,x',w2,h3⟩:=q.other (k+1) g (by omega) h1
    exact ⟨_,h3,slot_woken (Deaf_others (hng _ (by omega))) (fun h=>h) h2⟩
  ·simp only [List.length_set]
   rcases getElem?_append_cases hk with ⟨_,h⟩ | ⟨_,h⟩
   ·exact c.tg k op h
   ·rw [hug op h];omega
  ·have hgame:=c.game
   cases hM:M.x with
   | idle =>
    rw [hM] at hgame
    refine ⟨fun k sx hk=>?_,by rw [Deaf_others (hng 0 (by omega))];exact hgame.deaf,fun g0 h0 hb=>hgame.runs g0 (q.back _ _ (by omega) h0 hb) hb⟩
    by_cases hki:k=i
    ·subst hki
     simp [hlt] at hk
     subst hk
     have ho:=hgame.old k _ hs
     exact ⟨⟨m,rfl⟩,ho.empty,allK_mute ho.all (fun j h=>h.app u) hum⟩
    ·rw [List.getElem?_set_ne fun e=>hki e.symm] at hk
     exact (hgame.old k sx hk).app (hng _ (by omega))
   | game X =>
    rw [hM] at hgame
    obtain ⟨nb,hG⟩:=hgame
    have hstg:(sl.set i (.out 0 m)).map Slot.stage=sl.map Slot.stage:=by
     apply List.ext_getElem?
     intro k
     rw [List.getElem?_map,List.getElem?_map]
     by_cases hki:i=k
     ·subst hki;rw [List.getElem?_set_self hlt,hs];rfl
     ·rw [List.getElem?_set_ne hki]
    refine ⟨nb,⟨by rw [List.length_set];exact hG.len,fun k sx hk hc=>?_,fun k cx hc=>?_,fun k sx hc=>?_,hG.chan,hG.dist,hG.noch,hG.nowg,by rw [hstg];exact hG.wg,fun k b o ho2 hb hl=>?_,?_,hG.tok0,hG.tok1,hG.adp,hG.ads,hG.adl,fun k cx gx hc hgx hsx hb=>?_,fun g0 cases shp hg hb ho=>?_,fun g0 hg hb ho=>hG.sleep g0 (q.back _ _ (by omega) hg hb) hb ho,fun k cx b i x hc hb hx hl=>?_⟩⟩
    ·by_cases hki:k=i
     ·subst hki
      simp [hlt] at hc
      subst hc
      have ho:=hG.old k _ hk hs
      exact ⟨⟨m,rfl⟩,ho.empty,allK_mute ho.all (fun j h=>h.app u) hum⟩
     ·rw [List.getElem?_set_ne fun e=>hki e.symm] at hc
      exact (hG.old k sx hk hc).app (hng _ (by omega))
    ·obtain ⟨sx,h1,h2⟩:=hG.seat k cx hc
     by_cases hki:nb+k=i
     ·subst hki
      rw [hs] at h1;cases h1
      exact ⟨.out 0 m,by simp [hlt],h2⟩
     ·exact ⟨sx,by rw [List.getElem?_set_ne fun e=>hki e.symm];exact h1,h2⟩
    ·by_cases hki:nb+k=i
     ·subst hki
      simp [hlt] at hc
      subst hc
      exact slotKn_mute (hG.know k _ hs) hum
     ·rw [List.getElem?_set_ne fun e=>hki e.symm] at hc
      exact (hG.know k sx hc).app (hng _ (by omega)) fun kk hK=>kn_mute kk hK hum
    ·rcases touch_split hb with hb | ⟨op,ho,hi,h2⟩
     ·rcases hG.wgt k b o ho2 hb hl with this | ⟨k0,k1⟩
      ·refine .inl ⟨this.1,fun hsd=>?_⟩
       have h1:=this.2 hsd
       rw [g?_app (g?_lt h1)];exact h1
      ·exact .inr ⟨k0.app u,fun j hj=>(k1 j hj).app u⟩
     ·rw [hum op ho] at h2;cases h2
    ·rw [Deaf_others (hng 0 (by omega))];exact hG.deaf
    ·by_cases hki:nb+k=i
     ·subst hki;rw [q.self] at hgx;cases hgx;exact hnb hb
     ·exact hG.live k cx gx hc (q.back _ _ (by omega) hgx hb) hsx hb
    ·obtain ⟨k,cx,h1,h2,h3,h4⟩:=hG.park g0 cases shp (q.back _ _ (by omega) hg hb) hb ho
     refine ⟨k,cx,h1,h2,h3,fun g hg2 hb2=>?_⟩
     by_cases hki:nb+k=i
     ·subst hki;rw [q.self] at hg2;cases hg2;exact hnb hb2
     ·exact h4 g (q.back _ _ (by omega) hg2 hb2) hb2
    ·rcases touch_split hx with hx | ⟨op,ho,_,h2⟩
     ·exact (hG.cht k cx b i x hc hb hx hl).app u
     ·rw [hum op ho] at h2;cases h2
end
end Go.PB
namespace Go.PB
open Go.Conc Go.Conc.Lib
open Go.ConcR (KK stA smA rd wr mk DC0)
variable {W0:World} {P:Program} {cv:Value} {L:WgLink} {Em:Frame→List Frame→Hp→MX→Prop}
structure Shy0 (wg:Nat) (u:Trace):Prop where
 g:∀ op∈u,op.g=0
 touch:∀ op∈u,∀ b,op.act.touch?=some b→(∃ o,o<2∧b.loc=.cell ⟨wg,o,none⟩)∧b.kind≠.plain
 norel:∀ op∈u,∀ a,op.act≠.mark (.release a)
def EvShy0 (wg:Nat) (e:Event):Prop:=EvShy wg e∨∃ o,o<2∧(e=⟨.mark (.read ⟨wg,o,none⟩),false,true⟩∨e=⟨.mark (.write ⟨wg,o,none⟩),false,true⟩)
theorem shy0_of {wg:Nat} {fn:FuncId} {pos:String} {es:Array Event} (h:∀ e∈es,EvShy0 wg e):Shy0 wg (MemOp.ofEvents 0 fn pos es) where
 g:=fun op ho=>by obtain ⟨e,_,rfl⟩:=ofEvents_mem ho;rfl
 touch:=fun op ho b hb=>by
  obtain ⟨e,h1,rfl⟩:=ofEvents_mem ho
  rcases h e h1 with h2 | ⟨o,ho2,rfl | rfl⟩
  ·have:=(evShy_act h2).1 b hb
   exact ⟨this.1,by rw [this.2];simp⟩
  ·have:(MemAct.ofEvent ⟨.mark (.read ⟨wg,o,none⟩),false,true⟩).touch?=some ⟨.cell ⟨wg,o,none⟩,false,.said⟩:=rfl
   rw [this] at hb;cases hb;exact ⟨⟨o,ho2,rfl⟩,by simp⟩
  ·have:(MemAct.ofEvent ⟨.mark (.write ⟨wg,o,none⟩),false,true⟩).touch?=some ⟨.cell ⟨wg,o,none⟩,true,.said⟩:=rfl
   rw [this] at hb;cases hb;exact ⟨⟨o,ho2,rfl⟩,by simp⟩
 norel:=fun op ho b=>by
  obtain ⟨e,h1,rfl⟩:=ofEvents_mem ho
  rcases h e h1 with h2 | ⟨o,ho2,rfl | rfl⟩
  ·exact (evShy_act h2).2 b
  ·intro e;cases e
  ·intro e;cases e
theorem shy0_kn {t u:Trace} {K K':Nat→Prop} {h:Hp} {wg:Nat} (kn:Kn t K h) (hK:∀ j,K j→K' j) (s:Shy0 wg u) (hn:∀ o,h.own wg o=none∧h.ro wg o=none):Kn (t++u) K' h where
 own:=fun b o v e i b' hb hl=>by
  rcases touch_split hb with hb | ⟨op,ho,_,h2⟩
  ·exact hK _ (kn.own _ _ _ e _ _ hb hl)
  ·obtain ⟨⟨o',_,h1⟩,_⟩:=s.touch op ho b' h2
   rw [h1] at hl;cases hl;rw [(hn o).1] at e;cases e
 ro:=fun b o v e i b' hb hl hw=>by
  rcases touch_split hb with hb | ⟨op,ho,_,h2⟩
  ·exact hK _ (kn.ro _ _ _ e _ _ hb hl hw)
  ·obtain ⟨⟨o',_,h1⟩,_⟩:=s.touch op ho b' h2
   rw [h1] at hl;cases hl;rw [(hn o).2] at e;cases e
 obj:=fun b v e i b' hb hl=>by
  rcases touch_split hb with hb | ⟨op,ho,_,h2⟩
  ·exact hK _ (kn.obj _ _ e _ _ hb hl)
  ·obtain ⟨⟨o',_,h1⟩,_⟩:=s.touch op ho b' h2
   rw [h1] at hl;cases hl
theorem Mem.shy0 {w w':World} {t u:Trace} {hp:Nat→Hp} {wg:Nat} {ty:TypeId} {p q p' q':Int} (m:Mem w t hp) (s:Shy0 wg u) (hn:∀ i o,(hp i).own wg o=none∧(hp i).ro wg o=none)
  (h:∀ i b o,o<2→touchAt t i=some b→b.loc=.cell ⟨wg,o,none⟩→(b.kind≠.plain∧(b.kind=.said→t.g? i=some 0))∨Knows t 0 i) (e:WgAt ty wg w p q) (e':WgAt ty wg w' p' q') (hw:∀ c,c≠wg→w'.heap[c]?=w.heap[c]?) (hs:w'.heap.size=w.heap.size):Mem w' (t++u) hp where
 fits:=fun i=>fits_wg (m.fits i) (hn i) e e' hw
 sep:=m.sep
 nr:=fun said=>noRace_append (m.nr said) s.g fun i b hb op ho b' hb' hc=>by
  obtain ⟨⟨o,ho2,h1⟩,h2⟩:=s.touch op ho b' hb'
  obtain ⟨hl,_,_,h3⟩:=hc
  rw [h1] at hl
  rcases h i b o ho2 hb hl with h4 | hk
  rotate_left
  ·exact hk
  rcases h3 with h3 | h3 | ⟨_,h3,_⟩
  ·exact absurd h3 h4.1
  ·exact absurd h3 h2
  ·obtain ⟨op',ho',hog⟩:=Option.map_eq_some_iff.1 (show (t[i]?).map (·.g)=some 0 from h4.2 h3)
   have:=knows_own ho';rwa [hog] at this
 low:=fun i b hb=>by
  rw [hs]
  rcases touch_split hb with hb | ⟨op,ho,_,h2⟩
  ·exact m.low i b hb
  ·obtain ⟨⟨o',_,h1⟩,_⟩:=s.touch op ho b h2
   exact ⟨fun d hd=>(by rw [h1] at hd;cases hd;exact wgAt_lt e),fun r hr=>by rw [h1] at hr;cases hr⟩
 norel:=fun op ho b=>(Array.mem_append.1 ho).elim (fun ho=>m.norel op ho b) (fun ho=>s.norel op ho b)
theorem seatAt_book {X:GX} {df:Bool} {ad:Nat} {wt:Wst} {c:St X} {h:Hp} {s:Slot P cv L} (k:SeatAt X c h s):SeatAt { X with deaf:=df,ad:=ad,wt:=wt } c h s:=by
 cases s with
 | act n=>exact k
 | out a b=>exact k
theorem Cfg.book {gs gs':Array Goroutine} {w w':World} {t u:Trace} {M M':MN P cv L Em} {sl:List (Slot P cv L)} {hp:Nat→Hp} {X:GX} {nb:Nat} {df:Bool} {ad:Nat} {wt:Wst}
  (c:Cfg W0 gs w t M sl hp) (hX:M.x=.game X) (hG:GameAt X gs w t sl hp nb) (q:Gs P 0 gs gs' (G M'.fr M'.cs))
  (hx:M'.x=.game { X with deaf:=df,ad:=ad,wt:=wt }) (hh:M'.h=M.h)
  (hsd:Side w w') (hw:∀ b,b≠X.wg→w'.heap[b]?=w.heap[b]?) (hsz:w'.heap.size=w.heap.size) (sh:Shy0 X.wg u)
  (ph:WgPh L { X with deaf:=df,ad:=ad,wt:=wt } (sl.map Slot.stage) w') (hdf:Deaf (t++u) 0=if df then 1 else 0)
  (adp:wt=.play→ad=X.seats.length+X.nf∨(ad=X.seats.length+X.nf+1∧X.tok.isSome=true))
  (ads:wt≠.play→ad=X.seats.length+X.nf∧∀ (j:Nat) (c:St X),X.seats[j]?=some c→c.st.isShut=true) (adl:ad≤1000):Cfg W0 gs' w' (t++u) M' sl hp:=by
 obtain ⟨p1,p2,e1⟩:=hG.wg.ex
 obtain ⟨p3,p4,e2⟩:=ph.ex
 replace e2:WgAt L.tWg X.wg w' p3 p4:=e2
 have hng:∀ i,i≠0→∀ op∈u,op.g≠i:=fun i hi op ho e=>hi (by rw [← e,sh.g op ho])
 have hrl:RL L.tWg X.wg w w':=fun _=>⟨_,_,e2⟩
 have hmem:=c.mem.shy0 sh hG.nowg (fun i b o ho2 hb hl=>(hG.wgt i b o ho2 hb hl).imp id fun k=>k.1) e1 e2 hw hsz
 refine ⟨by rw [q.size];exact c.size,⟨_,q.self,.inl runs_G⟩,fun i sx hi=>?_,hmem,(by rw [hx];have hg:=c.aft.game;rw [hX] at hg;exact c.aft.at_block hg.1 hsd hw hsz hg),by rw [hh];exact c.hp0,c.hpn,fun i op hi=>?_,?_,?_,?_⟩
 rotate_right
 ·rw [hx]
  have hp:=c.pool
  rw [hX] at hp
  refine PoolOk.step (x:=.game X) hp (fun pl hw' hs' hf=>⟨fits_wg hf (hw' X rfl) e1 e2 hw,hs',fun op ho b hb=>⟨fun x y hl=>?_,fun x hl=>by rw [(sh.touch op ho b hb).1.choose_spec.2] at hl;cases hl⟩⟩) rfl fun g wg m q i sx hi=>⟨sx,hi,id⟩
  obtain ⟨⟨o',_,h1⟩,_⟩:=sh.touch op ho b hb
  rw [h1] at hl;cases hl
  exact ⟨(hw' X rfl _).1,fun _=>(hw' X rfl _).2⟩
 ·rw [hx]
  obtain ⟨g,h1,h2⟩:=c.thr i sx hi
  rw [hX] at h2
  obtain ⟨x,x',w2,h3⟩:=q.other (i+1) g (by omega) h1
  exact ⟨_,h3,slot_woken (Deaf_others (hng _ (by omega))) hrl h2⟩
 ·rcases getElem?_append_cases hi with ⟨_,h⟩ | ⟨_,h⟩
  ·exact c.tg i op h
  ·rw [sh.g op h];omega
 ·exact shy0_kn c.kn0 (fun j h=>h.app u) sh (hG.nowg 0)
 ·rw [hx]
  refine ⟨nb,⟨hG.len,fun i sx hi hc=>(hG.old i sx hi hc).app (hng _ (by omega)),fun k cx hc=>?_,fun k sx hc=>?_,fun k cx hc b hb=>?_,hG.dist,hG.noch,hG.nowg,ph,fun i b o ho2 hb hl=>?_,hdf,hG.tok0,hG.tok1,adp,ads,adl,fun k cx g hc hg hsx hb=>?_,fun g0 cases shp hg hb ho=>?_,fun g0 hg hb ho=>?_,fun k cx b i x hc hb hx hl=>?_⟩⟩
  ·obtain ⟨sx,h1,h2⟩:=hG.seat k cx hc
   exact ⟨sx,h1,seatAt_book h2⟩
  ·exact (hG.know k sx hc).app (hng _ (by omega)) fun kk hK=>shy0_kn kk hK sh (hG.nowg _)
  ·obtain ⟨n,e⟩:=hG.chan k cx hc b hb
   refine ⟨n,?_⟩
   rw [hw _ fun he=>?_]
   ·exact e
   ·obtain ⟨_,e1,_⟩:=e1;rw [he] at e;rw [e1] at e;cases e
  ·rcases touch_split hb with hb | ⟨op,ho,hi,h2⟩
   ·rcases hG.wgt i b o ho2 hb hl with this | ⟨k0,k1⟩
    ·refine .inl ⟨this.1,fun hsd=>?_⟩
     have h1:=this.2 hsd
     rw [g?_app (g?_lt h1)];exact h1
    ·exact .inr ⟨k0.app u,fun j hj=>(k1 j hj).app u⟩
   ·exact .inl ⟨(sh.touch op ho b h2).2,fun _=>by rw [g?_of hi,sh.g op ho]⟩
  ·exact hG.live k cx g hc (q.back _ _ (by omega) hg hb) hsx hb
  ·rw [q.self] at hg;cases hg;cases hb
  ·rw [q.self] at hg;cases hg;cases hb
  ·rcases touch_split hx with hx | ⟨op,ho,_,h2⟩
   ·exact (hG.cht k cx b i x hc hb hx hl).app u
   ·obtain ⟨⟨o',_,h1⟩,_⟩:=sh.touch op ho x h2
    rw [h1] at hl;cases hl
end Go.PB
namespace Go.PB
open Go.Conc Go.Conc.Lib
open Go.ConcR (KK stA smA rd wr mk DC0)
variable {W0:World} {P:Program} {cv:Value} {L:WgLink} {Em:Frame→List Frame→Hp→MX→Prop}
theorem seen_one {fn:FuncId} {f:FuncId} {m:Mark} (hm:∀ f,m≠.extern f):seen P fn #[⟨.mark (.extern f),false,true⟩,⟨.mark m,false,true⟩]=#[⟨.mark m,false,true⟩]:=by
 cases m <;> first | (exact absurd rfl (hm _)) | simp [seen]
theorem seen_rd {fn:FuncId} {f:FuncId} {a:Addr}:seen P fn #[⟨.mark (.extern f),false,true⟩,⟨.cell a,false,true⟩]=#[rd a]:=by simp [seen,rd]
theorem seen_rw {fn:FuncId} {f:FuncId} {a:Addr}:seen P fn #[⟨.mark (.extern f),false,true⟩,⟨.cell a,false,true⟩,⟨.cell a,true,true⟩]=#[rd a,wr a]:=by simp [seen,rd,wr]
theorem seen_sem {fn:FuncId} {f:FuncId} {a:Addr}:seen P fn #[⟨.mark (.extern f),false,true⟩,⟨.mark .disable,false,true⟩,⟨.cell a,false,true⟩,⟨.cell a,true,true⟩,⟨.mark .enable,false,true⟩]=semEvents a:=by simp [seen,semEvents]
theorem WgPh.quiet0 {X:GX} {st:List Nat} {w:World} (p:WgPh L X st w) (h:X.wt≠.parked):∃ v:Nat,WgAt L.tWg X.wg w (v*KK+0) 0∧v+(X.seats.length+X.nf)=(st.filter fun k=>decide (4≤k)).length+X.ad∧(∀ k∈st,k=0∨4≤k) ∧
  (match X.wt with | .wait b=>v≤b | .seen v0=>v≤v0 | .woken=>v=0 | .zero=>v=0 | _=>True):=by
 cases p with
 | quiet v wt at_ hv late hw park bb =>
  have:wt=0:=by
   rw [hw]
   split
   ·rename_i e;exact absurd e h
   ·rfl
  subst this
  exact ⟨v,by simpa using at_,hv,late,bb⟩
 | late p=>exact absurd p h
 | late1 p=>exact absurd p h
 | free p=>exact absurd p h
theorem count_le {X:GX} {gs:Array Goroutine} {w:World} {t:Trace} {sl:List (Slot P cv L)} {hp:Nat→Hp} {nb:Nat} (hG:GameAt X gs w t sl hp nb):((sl.map Slot.stage).filter fun k=>decide (4≤k)).length≤X.seats.length+X.nf:=by
 have htail:=count_tail (p:=fun k=>decide (4≤k)) rfl (l:=sl.map Slot.stage) (n:=nb) fun i k hi hk=>by
  rw [List.getElem?_map] at hk
  obtain ⟨s,e1,e2⟩:=Option.map_eq_some_iff.1 hk
  obtain ⟨m',rfl⟩:=(hG.old i s hi e1).out
  exact e2.symm
 have hlen:=hG.len
 simp only [List.length_map] at htail
 omega
theorem cfg_book {gs:Array Goroutine} {w:World} {t:Trace} {fr:Frame} {cs:List Frame} {h:Hp} {X:GX} {o:Oper} {O:Value→Hp→MX→Prop} {at_:AtOp fr o} {ne:fr.kind≠.early}
  {a:(mHand P cv L.done L.tWg).act (wakes o) (execOp fr.eval o) h (.game X) fun nx h' x'=>∃ v,nx=.value v∧O v h' x'} {k:∀ v h' x',O v h' x'→Run P (mHand P cv L.done L.tWg) true Em (fr.finish v) cs h' x'}
  {sl:List (Slot P cv L)} {hp:Nat→Hp} {g:Goroutine} {sc:Option (Nat × Nat)}
  (c:Cfg W0 gs w t (⟨fr,cs,h,.game X,.act o O at_ ne a k⟩:MN P cv L Em) sl hp) (hg:gs[0]?=some g) (hr:Runs g fr cs)
  (ma:MAct P (wakes o) (execOp fr.eval o) h X fun nx h' x'=>∃ v,nx=.value v∧O v h' x') :
  (∃ gs' w' ops v h' x' q,runT P (crowd gs w sc) 0=(.next (crowd gs' w' sc),ops)∧Cfg W0 gs' w' (t++ops) (⟨fr.finish v,cs,h',x',k v h' x' q⟩:MN P cv L Em) sl hp) ∨
  (X.wt=.parked∧(∃ es,(execOp fr.eval o).runT P w #[]=(.halt .blocked w,es))∧¬ WgAt L.tWg X.wg w 0 1) ∨
  (X.wt=.zero∧X.deaf=false∧(∀ d,X.free=some d→X.nf=d.q0.length)∧Says P (execOp fr.eval o) (.acquire ⟨X.wg,0,none⟩)∧∀ r h',X.ends r→Split h' h r→O unit h' .idle) ∨
  (∃ (j:Nat) (c:St X) (q0:X.g.θ),X.wt=.play∧X.deaf=false∧X.ad=X.seats.length∧X.tok.isSome=true∧X.seats[j]?=some c∧c.st=.said q0∧wakes o=true∧Shuts P (execOp fr.eval o) c.fin ∧
   O unit h (.game { X with seats:=X.seats.set j { c with st:=.shut q0 } })):=by
 obtain ⟨nb,hG⟩:∃ nb,GameAt X gs w t sl hp nb:=c.game
 have hdeaf:=hG.deaf
 have key:∀ {v:Value} {w':World} {es:Array Event} {df:Bool} {ad:Nat} {wt:Wst},(execOp fr.eval o).runT P w #[]=(.ok (.value v) w',es)→O v h (.game { X with deaf:=df,ad:=ad,wt:=wt })→(∀ e∈seen P fr.fn es,EvShy0 X.wg e) →
   Side w w'→(∀ b,b≠X.wg→w'.heap[b]?=w.heap[b]?)→w'.heap.size=w.heap.size→WgPh L { X with deaf:=df,ad:=ad,wt:=wt } (sl.map Slot.stage) w'→deafBehind (Deaf t 0) (seen P fr.fn es)=(if df then 1 else 0) →
   (wt=.play→ad=X.seats.length+X.nf∨(ad=X.seats.length+X.nf+1∧X.tok.isSome=true))→(wt≠.play→ad=X.seats.length+X.nf∧∀ (j:Nat) (c:St X),X.seats[j]?=some c→c.st.isShut=true)→ad≤1000 →
   (∃ gs' w' ops v h' x' q,runT P (crowd gs w sc) 0=(.next (crowd gs' w' sc),ops)∧Cfg W0 gs' w' (t++ops) (⟨fr.finish v,cs,h',x',k v h' x' q⟩:MN P cv L Em) sl hp):=by
  intro v w' es df ad wt hrun hO hes hsd hw hsz ph hd adp ads adl
  have hst:stepG P ((0:Nat) == 0) g w=.go (G (fr.finish v) cs) w' (seen P fr.fn es):=by rw [hr.step];exact step_value at_ ne hrun
  exact ⟨_,_,_,v,h,_,hO,runT_crowd_go hg hst,Cfg.book c rfl hG (gs_go hg) rfl rfl hsd hw hsz (shy0_of hes) ph (by rw [Deaf_own];exact hd) adp ads adl⟩
 have same:∀ {df:Bool},WgPh L { X with deaf:=df } (sl.map Slot.stage) w:=fun {df}=>by
  cases hG.wg with
  | quiet v wt at_ hv late hw park bb=>exact .quiet v wt at_ hv late hw park bb
  | late p i k hik hk at_ oth=>exact .late p i k hik hk at_ oth
  | late1 p i hik at_ oth=>exact .late1 p i hik at_ oth
  | free p at_ oth=>exact .free p at_ oth
 have e1:∀ e:Event,e∈#[rd (stA X.wg)]→EvShy0 X.wg e:=fun e he=>by simp at he;subst he;exact .inl (.inr ⟨_,_,rfl,by decide⟩)
 have e2:∀ e:Event,e∈#[rd (stA X.wg),wr (stA X.wg)]→EvShy0 X.wg e:=fun e he=>by simp at he;rcases he with rfl | rfl <;> exact .inl (.inr ⟨_,_,rfl,by decide⟩)
 cases ma with
 | disable d a q =>
  obtain ⟨v,hv,q⟩:=q;cases hv
  obtain ⟨f,hf⟩:=a
  have hs:=seen_one (P:=P) (fn:=fr.fn) (f:=f) (m:=.disable) (fun _=>by simp)
  exact .inl (key (hf w) q (by rw [hs];intro e he;simp at he;subst he;exact .inl (.inl ⟨_,rfl,rfl,fun a h=>by cases h⟩)) Side.refl (fun b _=>rfl) rfl same (by rw [hs,hdeaf,d];rfl) hG.adp hG.ads hG.adl)
 | enable d a q =>
  obtain ⟨v,hv,q⟩:=q;cases hv
  obtain ⟨f,hf⟩:=a
  have hs:=seen_one (P:=P) (fn:=fr.fn) (f:=f) (m:=.enable) (fun _=>by simp)
  exact .inl (key (hf w) q (by rw [hs];intro e he;simp at he;subst he;exact .inl (.inl ⟨_,rfl,rfl,fun a h=>by cases h⟩)) Side.refl (fun b _=>rfl) rfl same (by rw [hs,hdeaf,d];rfl) hG.adp hG.ads hG.adl)
 | read m hm a q =>
  obtain ⟨v,hv,q⟩:=q;cases hv
  obtain ⟨f,hf⟩:=a
  have hs:=seen_one (P:=P) (fn:=fr.fn) (f:=f) (m:=m) (fun _=>by rcases hm with rfl | rfl <;> simp)
  refine .inl (key (df:=X.deaf) (hf w) q ?_ Side.refl (fun b _=>rfl) rfl same ?_ hG.adp hG.ads hG.adl)
  ·rw [hs];intro e he;simp at he;subst he
   rcases hm with rfl | rfl
   ·exact .inr ⟨1,by decide,.inl rfl⟩
   ·exact .inr ⟨1,by decide,.inr rfl⟩
  ·rw [hs,hdeaf]
   rcases hm with rfl | rfl <;> cases X.deaf <;> rfl
 | add p hd ha tk d a q =>
  obtain ⟨v,hat,hv,hlate,_⟩:=hG.wg.quiet0 (by rw [p];simp)
  have hcl:=count_le hG
  obtain ⟨v',hv',q⟩:=q v (by omega);cases hv'
  obtain ⟨f,hf⟩:=a
  have hrun:=hf w _ hat.cellSt (hat.thaw 0)
  have ew:IntKind.u64.wrap ((v:Int)*KK+0+kk)=((v+1:Nat):Int)*KK:=by
   rw [IntKind.wrap_u64];simp only [KK,kk];push_cast;omega
  rw [ew] at hrun
  refine .inl (key hrun (by exact q) (by rw [seen_rw];exact e2) side_setCell (fun b hb=>setCell_ne hb) setCell_size (.quiet (v+1) 0 (by simpa [stA,KK,kk] using hat.setSt _) (by simp only;omega) hlate (by simp only [p]) (by simp only [p];intro h;cases h) (by simp only [p])) (by rw [seen_rw,hdeaf,d];rfl) (fun _=>.inr ⟨by omega,tk⟩) (fun h=>absurd p h) (by omega))
 | look b p d a q q0 =>
  obtain ⟨v,hat,hv,hlate,hb⟩:=hG.wg.quiet0 (by rcases p with p | p <;> simp [p])
  have hcl:=count_le hG
  have hvb:v≤b:=by
   rcases p with p | ⟨p,p2,p3,_⟩
   ·rw [p] at hb;exact hb
   ·omega
  have hads:X.ad=X.seats.length+X.nf∧∀ (j:Nat) (c:St X),X.seats[j]?=some c→c.st.isShut=true:=by
   rcases p with p | ⟨p,p2,p3,p4⟩
   ·exact hG.ads (by rw [p];simp)
   ·refine ⟨p3,fun j c hc=>?_⟩
    have:=p4 c (List.mem_of_getElem? hc)
    unfold Seat.closed at this
    unfold SeatSt.isShut
    cases hcs:c.st <;> simp [hcs] at this ⊢
  obtain ⟨f,hf⟩:=a
  have hrun:=hf w _ hat.cellSt
  rcases Nat.eq_zero_or_pos v with rfl | hpos
  ·obtain ⟨v',hv',q⟩:=q0;cases hv'
   have ez:(((0:Nat):Int)*KK+0)=0:=by simp
   rw [ez] at hrun
   exact .inl (key hrun q (by rw [seen_rd];exact e1) Side.refl (fun b _=>rfl) rfl (.quiet 0 0 (by simpa using hat) hv hlate rfl (fun h=>by cases h) rfl) (by rw [seen_rd,hdeaf,d];rfl) (fun h=>by cases h) (fun _=>hads) hG.adl)
  ·obtain ⟨v',hv',q⟩:=q v hpos hvb;cases hv'
   have ez:((v:Int)*KK+0)=(v:Int)*kk:=by simp [KK,kk]
   rw [ez] at hrun
   exact .inl (key hrun q (by rw [seen_rd];exact e1) Side.refl (fun b _=>rfl) rfl (.quiet v 0 (by simpa using hat) hv hlate rfl (fun h=>by cases h) (Nat.le_refl _)) (by rw [seen_rd,hdeaf,d];rfl) (fun h=>by cases h) (fun _=>hads) hG.adl)
 | swap v hpos p d a q q0 =>
  obtain ⟨v',hat,hv,hlate,hb⟩:=hG.wg.quiet0 (by rw [p];simp)
  rw [p] at hb
  have hads:=hG.ads (by rw [p];simp)
  obtain ⟨f,hf⟩:=a
  have hrun:=hf w _ hat.cellSt (hat.thaw 0)
  by_cases he:v'=v
  ·subst he
   obtain ⟨v'',hv',q⟩:=q;cases hv'
   have hrun:=hrun.1 (by simp [KK,kk])
   refine .inl (key hrun q (by rw [seen_rw];exact e2) side_setCell (fun b hb=>setCell_ne hb) setCell_size (.quiet v' 1 (by simpa [stA,KK,kk] using hat.setSt _) hv hlate rfl (fun _=>hpos) trivial) (by rw [seen_rw,hdeaf,d];rfl) (fun h=>by cases h) (fun _=>hads) hG.adl)
  ·obtain ⟨v'',hv',q⟩:=q0 v' (by simp only at hb;omega);cases hv'
   have hrun:=hrun.2 (by simp only [KK,kk];omega)
   exact .inl (key hrun q (by rw [seen_rd];exact e1) Side.refl (fun b _=>rfl) rfl (.quiet v' 0 (by simpa using hat) hv hlate rfl (fun h=>by cases h) (Nat.le_refl _)) (by rw [seen_rd,hdeaf,d];rfl) (fun h=>by cases h) (fun _=>hads) hG.adl)
 | sem p d a q =>
  obtain ⟨f,hf⟩:=a
  have hads:=hG.ads (by rw [p];simp)
  have stay:∀ {x:Int},WgAt L.tWg X.wg w x 0→X.wt=.parked∧(∃ es,(execOp fr.eval o).runT P w #[]=(.halt .blocked w,es))∧¬ WgAt L.tWg X.wg w 0 1:=fun hat =>
   ⟨p,(hf w 0 hat.cellSm (hat.thaw 1)).1 rfl,fun hx=>absurd (hat.unique hx).2 (by decide)⟩
  cases hG.wg with
  | quiet v wt at_ hv late hw park bb=>exact .inr (.inl (stay at_))
  | late p i k hik hk at_ oth=>exact .inr (.inl (stay at_))
  | late1 p i hik at_ oth=>exact .inr (.inl (stay at_))
  | free p at_ oth =>
   obtain ⟨v',hv',q⟩:=q;cases hv'
   have hrun:=(hf w 1 at_.cellSm (at_.thaw 1)).2 rfl
   have hcnt:((sl.map Slot.stage).filter fun k=>decide (4≤k))=[]:=List.filter_eq_nil_iff.2 fun k hk=>by simp [oth k hk]
   refine .inl (key hrun q ?_ side_setCell (fun b hb=>setCell_ne hb) setCell_size (.quiet 0 0 (by simpa [smA] using at_.setSm 0) (by rw [hcnt];simp [hads.1]) (fun k hk=>.inl (oth k hk)) rfl (fun h=>by cases h) rfl) ?_ (fun h=>by cases h) (fun _=>hads) hG.adl)
   ·rw [seen_sem]
    intro e he
    simp only [semEvents,List.mem_toArray,List.mem_cons,List.not_mem_nil,or_false] at he
    rcases he with rfl | rfl | rfl | rfl
    ·exact .inl (.inl ⟨_,rfl,rfl,fun a h=>by cases h⟩)
    ·exact .inl (.inr ⟨_,_,rfl,by decide⟩)
    ·exact .inl (.inr ⟨_,_,rfl,by decide⟩)
    ·exact .inl (.inl ⟨_,rfl,rfl,fun a h=>by cases h⟩)
   ·rw [seen_sem,hdeaf,d];rfl
 | last p d a q =>
  obtain ⟨v,hat,hv,hlate,hb⟩:=hG.wg.quiet0 (by rw [p];simp)
  rw [p] at hb
  replace hb:v=0:=hb
  subst hb
  have hads:=hG.ads (by rw [p];simp)
  obtain ⟨f,hf⟩:=a
  have hrun:=hf w _ hat.cellSt
  obtain ⟨v',hv',q⟩:=q;cases hv'
  have ez:(((0:Nat):Int)*KK+0)=0:=by simp
  rw [ez] at hrun
  exact .inl (key hrun q (by rw [seen_rd];exact e1) Side.refl (fun b _=>rfl) rfl (.quiet 0 0 (by simpa using hat) hv hlate rfl (fun h=>by cases h) rfl) (by rw [seen_rd,hdeaf,d];rfl) (fun h=>by cases h) (fun _=>hads) hG.adl)
 | acquire p d hn a q=>exact .inr (.inr (.inl ⟨p,d,hn,a,fun r h' h1 h2=>by obtain ⟨v,hv,q⟩:=q r h' h1 h2;cases hv;exact q⟩))
 | shut j cx q0 p d ad tk hj st hw a q=>exact .inr (.inr (.inr ⟨j,cx,q0,p,d,ad,tk,hj,st,hw,a,by obtain ⟨v,hv,q⟩:=q;cases hv;exact q⟩))
theorem step_late {main:Bool} {b:Base} {tt:Array Value} {ds:List Deferred} {todo:List Item} {f:Fn} {cap args:Array Value} {cs:List Frame} {w w':World} {v:Value} {es:Array Event} (hr:(invoke (.fn f cap) args).runT P w #[]=(.ok (.value v) w',es)) :
  stepG P main (G (endFr b tt ({ target:=.fn f cap,args }::ds) todo .returning) cs) w=.go (G (endFr b tt ds todo .returning) cs) w' (seen P b.fn es):=by
 simp only [stepG,G,endFr,unwind,callDeferred,Bool.false_and,Bool.false_eq_true,if_false,hr,GStep.after]
 simp
theorem cfg_late {gs:Array Goroutine} {w:World} {t:Trace} {b:Base} {tt:Array Value} {ds:List Deferred} {todo:List Item} {f:Fn} {cap args:Array Value} {cs:List Frame} {h:Hp} {X:GX} {O:Hp→MX→Prop}
  {a:(mHand P cv L.done L.tWg).late (invoke (.fn f cap) args) h (.game X) O} {k:∀ h' x',O h' x'→Run P (mHand P cv L.done L.tWg) true Em (endFr b tt ds todo .returning) cs h' x'}
  {sl:List (Slot P cv L)} {hp:Nat→Hp} {g:Goroutine} {sc:Option (Nat × Nat)}
  (c:Cfg W0 gs w t (⟨_,cs,h,.game X,.late b tt ds todo f cap args O rfl a k⟩:MN P cv L Em) sl hp) (hg:gs[0]?=some g) (hr:Runs g (endFr b tt ({ target:=.fn f cap,args }::ds) todo .returning) cs)
  (d:X.deaf=true) (sy:Says P (invoke (.fn f cap) args) .enable) (q:O h (.game { X with deaf:=false })) :
  ∃ gs' w' ops,runT P (crowd gs w sc) 0=(.next (crowd gs' w' sc),ops)∧Cfg W0 gs' w' (t++ops) (⟨_,cs,h,_,k h _ q⟩:MN P cv L Em) sl hp:=by
 obtain ⟨nb,hG⟩:∃ nb,GameAt X gs w t sl hp nb:=c.game
 have hdeaf:=hG.deaf
 obtain ⟨f',hf⟩:=sy
 have hs:=seen_one (P:=P) (fn:=b.fn) (f:=f') (m:=.enable) (fun _=>by simp)
 have same:WgPh L { X with deaf:=false } (sl.map Slot.stage) w:=by
  cases hG.wg with
  | quiet v wt at_ hv late hw park bb=>exact .quiet v wt at_ hv late hw park bb
  | late p i k hik hk at_ oth=>exact .late p i k hik hk at_ oth
  | late1 p i hik at_ oth=>exact .late1 p i hik at_ oth
  | free p at_ oth=>exact .free p at_ oth
 have hst:stepG P ((0:Nat) == 0) g w=.go (G (endFr b tt ds todo .returning) cs) w (seen P b.fn #[⟨.mark (.extern f'),false,true⟩,⟨.mark .enable,false,true⟩]):=by rw [hr.step];exact step_late (hf w)
 exact ⟨_,_,_,runT_crowd_go hg hst,Cfg.book c rfl hG (gs_go hg) rfl rfl Side.refl (fun b _=>rfl) rfl (shy0_of (by rw [hs];intro e he;simp at he;subst he;exact .inl (.inl ⟨_,rfl,rfl,fun a h=>by cases h⟩))) same (by rw [Deaf_own,hs,hdeaf,d];rfl) hG.adp hG.ads hG.adl⟩
end Go.PB
namespace Go.PB
open Go.Conc
section
variable {P:Program} {gs:Array Goroutine} {w w₁:World} {sl:Option (Nat × Nat)} {i j k:Nat} {g g₂ gj:Goroutine} {es:Array Event} {c cap s r:Nat} {buf:Array Value} {tm closed:Bool} {v z zj:Value}
 {blocking:Bool} {shape shj:CommShape} {cs cases:Array CommCase}
theorem crowd_sel_send_meets (hi:gs[i]?=some g) (h:stepG P (i == 0) g w=.comm g₂ cases blocking shape w₁ es) (hk:cases[k]?=some (scase c v z))
  (ho:∀ (m:Nat) (c':CommCase),m≠k→cases[m]?=some c'→NoWays w₁ (gs.setIfInBounds i ph) c')
  (hc:w₁.heap[c]?=some (.chan cap buf false s r tm)) (hij:j≠i) (hj:gs[j]?=some (parked gj #[rcase c zj] shj)) (hp:partners (gs.setIfInBounds i ph) c false=[(j,0)]) :
  runT P (crowd gs w sl) i=(.next (crowd ((gs.setIfInBounds j (gj.finishComm P #[rcase c zj] shj 0 v true)).setIfInBounds i (g₂.finishComm P cases shape k undef false)) (w₁.setChan c cap buf false (s+1) (r+1) tm) sl),
   MemOp.ofEvents i g.frame.fn g.frame.place es++#[{ g:=i,fn:=g₂.frame.fn,pos:=g₂.frame.place,act:=.send c s },{ g:=j,fn:=gj.frame.fn,pos:=gj.frame.place,act:=.recv c r cap },
    { g:=i,fn:=g₂.frame.fn,pos:=g₂.frame.place,act:=.sendDone c s },{ g:=j,fn:=gj.frame.fn,pos:=gj.frame.place,act:=.recvDone c r }]):=by
 have hw:ways w₁ (gs.setIfInBounds i ph) (scase c v z)=[.partner j 0]:=by simp [ways,scase,hc,hp]
 have hj':=stand_get (i:=i) hij hj
 have hfp:=finishPartner_at P (gs.setIfInBounds i ph) hj' (cs:=#[rcase c zj]) (sh:=shj) rfl 0 v
 have hgd:(gs.setIfInBounds i ph).getD j default=parked gj #[rcase c zj] shj:=by rw [Array.getD_eq_getD_getElem?,hj'];rfl
 rw [runT_crowd_comm hi h]
 unfold communicate
 simp only [ready_one hk (by rw [hw];simp) ho,hw]
 rw [if_neg]
 ·simp [choose,Sem.run,Question.forced,bind,Sem.bind,pure,rcase,crowd,hc,hfp,hgd,set_stand2,finishComm_parked,scase,parked,World.setChan]
  rfl
 ·rw [Bool.not_eq_true];exact any_ill (made_of_one hk (made_send v z hc) ho)
theorem crowd_recv_meets_sel (hi:gs[i]?=some g) (h:stepG P (i == 0) g w=.comm g₂ #[rcase c z] blocking shape w₁ es) (hc:w₁.heap[c]?=some (.chan cap #[] closed s r tm))
  (hij:j≠i) (hj:gs[j]?=some (parked gj cs shj)) (hk:cs[k]?=some (scase c v zj)) (hp:partners (gs.setIfInBounds i ph) c true=[(j,k)]) :
  runT P (crowd gs w sl) i=(.next (crowd ((gs.setIfInBounds j (gj.finishComm P cs shj k undef false)).setIfInBounds i (g₂.finishComm P #[rcase c z] shape 0 v true)) (w₁.setChan c cap #[] closed (s+1) (r+1) tm) sl),
   MemOp.ofEvents i g.frame.fn g.frame.place es++#[{ g:=j,fn:=gj.frame.fn,pos:=gj.frame.place,act:=.send c s },{ g:=i,fn:=g₂.frame.fn,pos:=g₂.frame.place,act:=.recv c r cap },
    { g:=j,fn:=gj.frame.fn,pos:=gj.frame.place,act:=.sendDone c s },{ g:=i,fn:=g₂.frame.fn,pos:=g₂.frame.place,act:=.recvDone c r }]):=by
 rw [runT_crowd_comm hi h]
 have hj':=stand_get (i:=i) hij hj
 have hfp:=finishPartner_at P (gs.setIfInBounds i ph) hj' (cs:=cs) (sh:=shj) rfl k undef
 have hgd:(gs.setIfInBounds i ph).getD j default=parked gj cs shj:=by rw [Array.getD_eq_getD_getElem?,hj'];rfl
 have hov:offeredValue (gs.setIfInBounds i ph) j k=v:=by simp [offeredValue,hj',parked,hk,scase]
 simp [communicate,ways,rcase,hc,hp,choose,Sem.run,Question.forced,bind,Sem.bind,pure,World.setChan,crowd,hfp,hgd,hov,set_stand2,finishComm_parked,scase,parked,hk]
 rfl
end
def meet (a b:Nat) (fa:FuncId) (pa:String) (fb:FuncId) (pb:String) (c k:Nat):Trace :=
 #[{ g:=a,fn:=fa,pos:=pa,act:=.send c k },{ g:=b,fn:=fb,pos:=pb,act:=.recv c k 0 },{ g:=a,fn:=fa,pos:=pa,act:=.sendDone c k },{ g:=b,fn:=fb,pos:=pb,act:=.recvDone c k }]
section
variable {a b c k:Nat} {fa fb:FuncId} {pa pb:String} {t:Trace}
theorem meet_mute:∀ op∈meet a b fa pa fb pb c k,op.act.touch?=none:=by
 intro op hop
 simp only [meet,List.mem_toArray,List.mem_cons,List.not_mem_nil,or_false] at hop
 rcases hop with rfl | rfl | rfl | rfl <;> rfl
theorem meet_norel:∀ op∈meet a b fa pa fb pb c k,∀ x,op.act≠.mark (.release x):=by
 intro op hop x
 simp only [meet,List.mem_toArray,List.mem_cons,List.not_mem_nil,or_false] at hop
 rcases hop with rfl | rfl | rfl | rfl <;> simp
theorem meet_g:∀ op∈meet a b fa pa fb pb c k,op.g=a∨op.g=b:=by
 intro op hop
 simp only [meet,List.mem_toArray,List.mem_cons,List.not_mem_nil,or_false] at hop
 rcases hop with rfl | rfl | rfl | rfl <;> simp
theorem meet_plain:∀ op∈meet a b fa pa fb pb c k,Plain op:=by
 intro op hop m hm
 simp only [meet,List.mem_toArray,List.mem_cons,List.not_mem_nil,or_false] at hop
 rcases hop with rfl | rfl | rfl | rfl <;> cases hm
theorem meet_knows (ha:Deaf t a=0) (hb:Deaf t b=0) {i:Nat} (h:Knows t a i):Knows (t++meet a b fa pa fb pb c k) b i:=by
 have e0:(t++meet a b fa pa fb pb c k)[t.size]?=some { g:=a,fn:=fa,pos:=pa,act:=.send c k }:=by simp [meet]
 have e3:(t++meet a b fa pa fb pb c k)[t.size+3]?=some { g:=b,fn:=fb,pos:=pb,act:=.recvDone c k }:=by simp [meet]
 have hd:(t++meet a b fa pa fb pb c k).deaf b (t.size+3)=0:=by
  have e1:(t++meet a b fa pa fb pb c k)[t.size+1]?=some { g:=b,fn:=fb,pos:=pb,act:=.recv c k 0 }:=by simp [meet]
  have e2:(t++meet a b fa pa fb pb c k)[t.size+2]?=some { g:=a,fn:=fa,pos:=pa,act:=.sendDone c k }:=by simp [meet]
  rw [deaf_succ e2,deaf_succ e1,deaf_succ e0,deaf_old (Nat.le_refl _)]
  exact hb
 have edge:HappensBefore (t++meet a b fa pa fb pb c k) t.size (t.size+3) :=
  Relation.TransGen.single (.inr ⟨.handOver (act?_of e0) (act?_of e3),⟨a,g?_of e0,by rw [deaf_old (Nat.le_refl _)];exact ha⟩,⟨b,g?_of e3,hd⟩⟩)
 exact ⟨t.size+3,_,e3,rfl,.inr ((h.hb_new (Nat.le_refl _) e0 rfl).trans edge)⟩
end
end Go.PB
namespace Go.PB
open Go.Conc Go.Conc.Lib
open Go.ConcR (KK stA smA rd wr mk DC0)
variable {W0:World} {P:Program} {cv:Value} {L:WgLink} {Em:Frame→List Frame→Hp→MX→Prop}
theorem offers_sr {g:Goroutine} {c d ch:Nat} {v z1 z2:Value} {sh:CommShape} (b:Bool):offersAt (parked g #[scase c v z1,rcase d z2] sh) ch b=if b then (if c=ch then [0] else []) else (if d=ch then [1] else []):=by
 cases b <;> by_cases h1:c=ch <;> by_cases h2:d=ch <;> simp [offersAt,parked,scase,rcase,h1,h2]
theorem offers_rr {g:Goroutine} {c d ch:Nat} {z1 z2:Value} {sh:CommShape} (b:Bool):offersAt (parked g #[rcase c z1,rcase d z2] sh) ch b=if b then [] else (if c=ch then [0] else [])++(if d=ch then [1] else []):=by
 cases b <;> by_cases h1:c=ch <;> by_cases h2:d=ch <;> simp [offersAt,parked,scase,rcase,h1,h2]
theorem offers_none {g:Goroutine} (h:g.offers=none) (c:Nat) (b:Bool):offersAt g c b=[]:=by
 unfold offersAt
 rw [h]
 cases g.status <;> rfl
section
variable {fr:Frame} {cs:List Frame} {h h':Hp} {o:Oper} {cases:Array CommCase} {bl:Bool} {sh:CommShape} {at_:AtOp fr o} {rr:∀ w,Fits h w→(execOp fr.eval o).runT P w #[]=(.ok (.comm cases bl sh) w,#[])}
theorem thr_comm {rr:∀ w,Fits h w→(execOp fr.eval o).runT P w #[]=(.ok (.comm cases true sh) w,#[])} {X:GX} {cx:St X} {x:TX} {O:Value→Hp→TX→Prop} {a:(tHand P cv).comm cases true sh h x O} {k:∀ v h' x',O v h' x'→Run P (tHand P cv) false (tEnd P L.done) (fr.finish v) cs h' x'}
  (sa:SeatAt X cx h' (.act ⟨fr,cs,h,x,.comm o cases true sh O at_ rr a k⟩:Slot P cv L)) :
  True∧sh=.select ∧
  ((∃ s q n z1 z2 h1 r,cx.st=.run s q∧X.left≤n∧cases=#[scase cx.says (X.g.says q) z1,rcase cx.fin z2]∧Split h h1 r∧X.g.U s r ∧
    O (.tuple #[goInt 0,.bool false,z2]) h1 ⟨X.g,cx.says,cx.turn,cx.fin,X.wg,X.g.next q n⟩) ∨
   (∃ q n m f z1 z2,(cx.st=.said q∨cx.st=.shut q)∧(cx.st=.said q→X.left≤n)∧X.g.plan q=some (m,f)∧cases=#[rcase cx.turn z1,rcase cx.fin z2] ∧
    (∀ n' s r h',n=n'+1→X.g.W s r→Split h' h r→O (.tuple #[goInt 0,.bool true,.agg #[],z2]) h' ⟨X.g,cx.says,cx.turn,cx.fin,X.wg,.busy (f s).1 (f s).2 n'⟩) ∧
    O (.tuple #[goInt 1,.bool false,z1,z2]) h ⟨X.g,cx.says,cx.turn,cx.fin,X.wg,.cut q⟩)):=by
 obtain ⟨ph,e,p⟩:=sa
 replace e:x=_:=e
 subst e
 have a':(true=true∧sh=.select ∧
   ((∃ (s:X.g.σ) (q:X.g.θ) (n:Nat) (z1 z2:Value) (h' r:Hp),ph=.busy s q n∧cases=#[scase cx.says (X.g.says q) z1,rcase cx.fin z2]∧Split h h' r∧X.g.U s r ∧
     O (.tuple #[goInt 0,.bool false,z2]) h' ⟨X.g,cx.says,cx.turn,cx.fin,X.wg,X.g.next q n⟩) ∨
    (∃ (q:X.g.θ) (n:Nat) (m:Int × Int) (f:X.g.σ→X.g.σ × X.g.θ) (z1 z2:Value),ph=.said q n∧X.g.plan q=some (m,f)∧cases=#[rcase cx.turn z1,rcase cx.fin z2] ∧
     (∀ n' s r h',n=n'+1→X.g.W s r→Split h' h r→O (.tuple #[goInt 0,.bool true,.agg #[],z2]) h' ⟨X.g,cx.says,cx.turn,cx.fin,X.wg,.busy (f s).1 (f s).2 n'⟩) ∧
     O (.tuple #[goInt 1,.bool false,z1,z2]) h ⟨X.g,cx.says,cx.turn,cx.fin,X.wg,.cut q⟩)))∨Tries cases true sh h (⟨X.g,cx.says,cx.turn,cx.fin,X.wg,ph⟩:TX) O∨TriesF cases true sh h (⟨X.g,cx.says,cx.turn,cx.fin,X.wg,ph⟩:TX) O:=a
 rcases a' with a' | a' | a'
 rotate_left
 ·cases a'.1
 ·cases a'.1
 have b1:True:=trivial
 obtain ⟨_,b2,⟨s,q,n,z1,z2,h1,r,e1,e2,e3,e4,e5⟩ | ⟨q,n,m,f,z1,z2,e1,e2,e3,e4,e5⟩⟩:=a'
 ·refine ⟨b1,b2,.inl ⟨s,q,n,z1,z2,h1,r,?_,?_,e2,e3,e4,e5⟩⟩
  ·rw [e1] at p
   generalize cx.st=st at p
   cases p;rfl
  ·rw [e1] at p
   generalize cx.st=st at p
   cases p;assumption
 ·rw [e1] at p
  refine ⟨b1,b2,.inr ⟨q,n,m,f,z1,z2,?_,?_,e2,e3,e4,e5⟩⟩
  ·generalize cx.st=st at p
   cases p
   ·exact .inl rfl
   ·exact .inr rfl
  ·intro hst
   rw [hst] at p
   cases p;assumption
theorem main_comm {X:GX} {O:Value→Hp→MX→Prop} (a:(mHand P cv L.done L.tWg).comm cases true sh h (.game X) O) :
  True∧∃ (j:Nat) (c:St X),X.wt=.play∧X.deaf=false∧X.seats[j]?=some c ∧
  ((∃ z s q,cases=#[rcase c.says z]∧sh=.recv false∧c.st=.run s q∧X.tok=none∧∀ r h',X.g.U s r→Split h' h r →
    O (X.g.says q) h' (.game { X with tok:=some s,seats:=X.seats.set j { c with st:=.said q } })) ∨
   (∃ z q m f s l h' r,cases=#[scase c.turn (.agg #[]) z]∧sh=.send∧c.st=.said q∧X.g.plan q=some (m,f)∧X.tok=some s∧X.left=l+1∧X.ad=X.seats.length∧Split h h' r∧X.g.W s r ∧
    O undef h' (.game { X with tok:=none,left:=l,seats:=X.seats.set j { c with st:=.run (f s).1 (f s).2 } }))):=by
 rcases a with ⟨_,X',j,c,e,e2,e3,e4,e5⟩ | a
 ·cases e
  exact ⟨trivial,j,c,e2,e3,e4,e5⟩
 ·cases a.1
end
section
variable {gs:Array Goroutine} {w:World} {t:Trace} {M:MN P cv L Em} {sl:List (Slot P cv L)} {hp:Nat→Hp} {X:GX} {nb:Nat}
theorem offers_at (c:Cfg W0 gs w t M sl hp) (hX:M.x=.game X) (hG:GameAt X gs w t sl hp nb) {j:Nat} {cx:St X} (hj:X.seats[j]?=some cx) {a:Nat} (ha:a<3) {b:Bool} {i:Nat} {g:Goroutine} (hg:gs[i]?=some g) (ho:offersAt g (cx.ch a) b≠[]) :
  (i=0∧((a=0∧b=false∧∃ z sh,Parks g M.fr M.cs #[rcase cx.says z] sh)∨(a=1∧b=true∧∃ v z sh,Parks g M.fr M.cs #[scase cx.turn v z] sh))) ∨
  (i=nb+j+1∧∃ n,sl[nb+j]?=some (.act n)∧((a=0∧b=true∧∃ v z1 z2,Parks g n.fr n.cs #[scase cx.says v z1,rcase cx.fin z2] .select)∨(a=2∧b=false)∨(a=1∧b=false∧∃ z1 z2,Parks g n.fr n.cs #[rcase cx.turn z1,rcase cx.fin z2] .select))):=by
 cases i with
 | zero =>
  left
  obtain ⟨g',h1,h2⟩:=c.main
  rw [hg] at h1;cases h1
  refine ⟨rfl,?_⟩
  rcases h2 with h | ⟨cases,sh,h,hn⟩ | ⟨h,_⟩
  ·exact absurd (offersAt_of_not_blocked (by rw [h.status];simp) _ _) ho
  ·obtain ⟨fr,cs,hh,x,o,O,at_,rr,aa,k,rfl⟩:=hn
   replace hX:x=.game X:=hX
   subst hX
   obtain ⟨_,jm,cm,_,_,hm,hcase⟩:=main_comm aa
   rcases hcase with ⟨z,s,q,rfl,rfl,_⟩ | ⟨z,q,m,f,s,l,h',r,rfl,rfl,_⟩
   ·rw [h.eq] at ho
    left
    cases b with
    | true=>rw [offersAt_parked_recv'] at ho;exact absurd rfl ho
    | false =>
     rw [offersAt_parked_recv] at ho
     have e:cm.says=cx.ch a:=Decidable.byContradiction fun hne=>ho (by rw [if_neg hne])
     obtain ⟨rfl,rfl⟩:=hG.dist jm j cm cx 0 a hm hj (by omega) ha e
     rw [hm] at hj;cases hj
     exact ⟨rfl,rfl,z,_,h⟩
   ·rw [h.eq] at ho
    right
    cases b with
    | false=>rw [offersAt_parked_send'] at ho;exact absurd rfl ho
    | true =>
     rw [offersAt_parked_send] at ho
     have e:cm.turn=cx.ch a:=Decidable.byContradiction fun hne=>ho (by rw [if_neg hne])
     obtain ⟨rfl,rfl⟩:=hG.dist jm j cm cx 1 a hm hj (by omega) ha e
     rw [hm] at hj;cases hj
     exact ⟨rfl,rfl,_,z,_,h⟩
  ·exact absurd (offers_none h.offers _ _) ho
 | succ i =>
  right
  have hlt:i<sl.length:=by have:=c.size;have:=(Array.getElem?_eq_some_iff.1 hg).1;omega
  obtain ⟨s,hs⟩:∃ s,sl[i]?=some s:=⟨sl[i],List.getElem?_eq_getElem hlt⟩
  obtain ⟨g',h1,h2⟩:=c.thr i s hs
  rw [hg] at h1;cases h1
  have nb_of:g.status≠.blocked→False:=fun h=>ho (offersAt_of_not_blocked h _ _)
  cases s with
  | out k m =>
   exfalso
   cases k with
   | zero=>exact nb_of fun h=>by have:=QuitsD.status (P:=P) (n:=m) h2;rw [h] at this;rcases this with h | h <;> cases h
   | succ k=>exact nb_of fun h=>by have:=zg_running (k:=k+1) h2;rw [h] at this;cases this
  | act n =>
   have hin:nb≤i:=Nat.le_of_not_lt fun hlt=>by obtain ⟨m',e⟩:=(hG.old i _ hlt hs).out;cases e
   obtain ⟨j',rfl⟩:∃ j',i=nb+j':=⟨i-nb,by omega⟩
   obtain ⟨c',hc'⟩:∃ c':St X,X.seats[j']?=some c':=by
    have:=hG.len
    have:=(c.turns hX hj).2
    exact ⟨X.seats[j']'(by omega),List.getElem?_eq_getElem _⟩
   obtain ⟨s',h3,h4⟩:=hG.seat j' c' hc'
   rw [hs] at h3;cases h3
   rcases h2 with h | ⟨cases,sh,h,hn⟩
   ·exact (nb_of (by rw [h.status];simp)).elim
   ·obtain ⟨fr,cs,hh,x,o,O,at_,rr,aa,k,rfl⟩:=hn
    obtain ⟨_,rfl,⟨s,q,n,z1,z2,h1',r,_,_,rfl,_⟩ | ⟨q,n,m,f,z1,z2,_,_,_,rfl,_⟩⟩:=thr_comm h4
    ·rw [h.eq,offers_sr] at ho
     cases b with
     | true =>
      simp only [if_true] at ho
      have e:c'.says=cx.ch a:=Decidable.byContradiction fun hne=>ho (by rw [if_neg hne])
      obtain ⟨rfl,rfl⟩:=hG.dist j' j c' cx 0 a hc' hj (by omega) ha e
      rw [hc'] at hj;cases hj
      exact ⟨rfl,_,hs,.inl ⟨rfl,rfl,_,z1,z2,h⟩⟩
     | false =>
      simp only [Bool.false_eq_true,if_false] at ho
      have e:c'.fin=cx.ch a:=Decidable.byContradiction fun hne=>ho (by rw [if_neg hne])
      obtain ⟨rfl,rfl⟩:=hG.dist j' j c' cx 2 a hc' hj (by omega) ha e
      exact ⟨rfl,_,hs,.inr (.inl ⟨rfl,rfl⟩)⟩
    ·rw [h.eq,offers_rr] at ho
     cases b with
     | true=>simp at ho
     | false =>
      simp only [Bool.false_eq_true,if_false] at ho
      by_cases e:c'.turn=cx.ch a
      ·obtain ⟨rfl,rfl⟩:=hG.dist j' j c' cx 1 a hc' hj (by omega) ha e
       rw [hc'] at hj;cases hj
       exact ⟨rfl,_,hs,.inr (.inr ⟨rfl,rfl,z1,z2,h⟩)⟩
      ·rw [if_neg e] at ho
       have e:c'.fin=cx.ch a:=Decidable.byContradiction fun hne=>ho (by rw [if_neg hne];rfl)
       obtain ⟨rfl,rfl⟩:=hG.dist j' j c' cx 2 a hc' hj (by omega) ha e
       exact ⟨rfl,_,hs,.inr (.inl ⟨rfl,rfl⟩)⟩
theorem stand_nil (c:Cfg W0 gs w t M sl hp) (hX:M.x=.game X) (hG:GameAt X gs w t sl hp nb) {j:Nat} {cx:St X} (hj:X.seats[j]?=some cx) {a:Nat} (ha:a<3) {b:Bool} {i:Nat}
  (h0:i≠0→((a=0∧b=false)∨(a=1∧b=true))→∀ g,gs[0]?=some g→offersAt g (cx.ch a) b=[])
  (h1:i≠nb+j+1→((a=0∧b=true)∨(a=2∧b=false)∨(a=1∧b=false))→∀ g,gs[nb+j+1]?=some g→offersAt g (cx.ch a) b=[]):partners (gs.setIfInBounds i ph) (cx.ch a) b=[]:=by
 refine partners_nil fun k g hk=>?_
 rcases getElem?_stand gs i k g hk with ⟨_,rfl⟩ | ⟨hne,hk⟩
 ·exact offersAt_ph _ _
 ·refine Decidable.byContradiction fun ho=>?_
  rcases offers_at c hX hG hj ha hk ho with ⟨rfl,h⟩ | ⟨rfl,n,_,h⟩
  ·exact ho (h0 (fun e=>hne e.symm) (h.imp (fun h=>⟨h.1,h.2.1⟩) fun h=>⟨h.1,h.2.1⟩) g hk)
  ·refine ho (h1 (fun e=>hne e.symm) ?_ g hk)
   rcases h with h | h | h
   ·exact .inl ⟨h.1,h.2.1⟩
   ·exact .inr (.inl h)
   ·exact .inr (.inr ⟨h.1,h.2.1⟩)
theorem stand_main (c:Cfg W0 gs w t M sl hp) (hX:M.x=.game X) (hG:GameAt X gs w t sl hp nb) {j:Nat} {cx:St X} (hj:X.seats[j]?=some cx) {a:Nat} (ha:a<3) {b:Bool} {i:Nat} (hi:i≠0) {g:Goroutine} (hg:gs[0]?=some g) (hb:(a=0∧b=false)∨(a=1∧b=true)) :
  partners (gs.setIfInBounds i ph) (cx.ch a) b=(offersAt g (cx.ch a) b).map fun k=>(0,k):=by
 refine partners_one (by rw [Array.getElem?_setIfInBounds_ne hi];exact hg) fun k x hk hx=>?_
 rcases getElem?_stand gs i k x hx with ⟨_,rfl⟩ | ⟨hne,hx⟩
 ·exact offersAt_ph _ _
 ·refine Decidable.byContradiction fun ho=>?_
  rcases offers_at c hX hG hj ha hx ho with ⟨rfl,h⟩ | ⟨rfl,n,_,h⟩
  ·exact hk rfl
  ·rcases h with h | h | h <;> rcases hb with hb | hb <;> (obtain ⟨h1,h2⟩:=hb;simp_all)
theorem stand_thr (c:Cfg W0 gs w t M sl hp) (hX:M.x=.game X) (hG:GameAt X gs w t sl hp nb) {j:Nat} {cx:St X} (hj:X.seats[j]?=some cx) {a:Nat} (ha:a<3) {b:Bool} {i:Nat} (hi:i≠nb+j+1) {g:Goroutine} (hg:gs[nb+j+1]?=some g)
  (hb:(a=0∧b=true)∨(a=1∧b=false)):partners (gs.setIfInBounds i ph) (cx.ch a) b=(offersAt g (cx.ch a) b).map fun k=>(nb+j+1,k):=by
 refine partners_one (by rw [Array.getElem?_setIfInBounds_ne hi];exact hg) fun k x hk hx=>?_
 rcases getElem?_stand gs i k x hx with ⟨_,rfl⟩ | ⟨hne,hx⟩
 ·exact offersAt_ph _ _
 ·refine Decidable.byContradiction fun ho=>?_
  rcases offers_at c hX hG hj ha hx ho with ⟨rfl,h⟩ | ⟨rfl,n,_,h⟩
  ·rcases h with h | h <;> rcases hb with hb | hb <;> (obtain ⟨h1,h2⟩:=hb;simp_all)
  ·exact hk rfl
end
end Go.PB
namespace Go.PB
open Go.Conc Go.Conc.Lib
open Go.ConcR (KK stA smA rd wr mk DC0)
variable {W0:World} {P:Program} {cv:Value} {L:WgLink} {Em:Frame→List Frame→Hp→MX→Prop}
theorem fits_chan {h:Hp} {w w':World} {ch n n':Nat} {o o':Obj} (f:Fits h w) (hn:h.obj ch=none) (e:w.heap[ch]?=some o) (ho:isCells o=false) (ho':isCells o'=false) (hw:w'.heap=w.heap.setIfInBounds ch o'):Fits h w':=by
 have hne:∀ c,c≠ch→w'.heap[c]?=w.heap[c]?:=fun c hc=>by rw [hw,Array.getElem?_setIfInBounds_ne fun e=>hc e.symm]
 have hc:∀ c x,c≠ch→w'.cell? ⟨c,x,none⟩=w.cell? ⟨c,x,none⟩:=fun c x hne'=>by unfold World.cell?;rw [hne c hne']
 have hfz:∀ c x,c≠ch→w'.frozen? ⟨c,x,none⟩=w.frozen? ⟨c,x,none⟩:=fun c x hne'=>by unfold World.frozen?;rw [hne c hne']
 have no:∀ c x v,w.cell? ⟨c,x,none⟩=some v→c≠ch:=fun c x v hv he=>by
  subst he
  unfold World.cell? at hv
  simp only [e] at hv
  cases o <;> simp [isCells] at ho hv
 refine ⟨fun c x v hv=>by rw [hc _ _ (no _ _ _ (f.own _ _ _ hv))];exact f.own _ _ _ hv,fun c x v hv=>by rw [hfz _ _ (no _ _ _ (f.own _ _ _ hv))];exact f.thaw _ _ _ hv,fun c x v hv=>by rw [hc _ _ (no _ _ _ (f.ro _ _ _ hv))];exact f.ro _ _ _ hv,f.disj,fun c ob hv=>?_,f.objn,fun c y hv=>?_⟩
 ·rw [hne c fun e=>by rw [e,hn] at hv;cases hv];exact f.obj _ _ hv
 ·have h1:=f.shp _ _ hv
  have hcc:c≠ch:=fun he=>by
   subst he
   unfold World.shape? at h1
   simp only [e] at h1
   cases o <;> simp [isCells] at ho h1
  unfold World.shape? at h1 ⊢
  rw [hne c hcc];exact h1
theorem slot_rely {w w':World} {wg d d':Nat} {o:Goroutine} {s:Slot P cv L} (hd:d'=d) (r:RL L.tWg wg w w') (hs:SlotG w wg d o s):SlotG w' wg d' o s:=by
 subst hd
 cases s with
 | act n=>exact hs
 | out k m =>
  cases k with
  | zero=>exact hs
  | succ k=>exact zg_rely hs r
def give (hp:Nat→Hp) (a b:Nat) (ha r:Hp):Nat→Hp:=put (put hp a ha) b ((hp b).join r)
section
variable {w w':World} {t u:Trace} {hp:Nat→Hp} {a b:Nat} {ha r:Hp}
theorem give_a (hab:a≠b):give hp a b ha r a=ha:=by unfold give;rw [put_ne hab,put_self]
theorem give_b:give hp a b ha r b=(hp b).join r:=by unfold give;rw [put_self]
theorem give_ne {i:Nat} (h1:i≠a) (h2:i≠b):give hp a b ha r i=hp i:=by unfold give;rw [put_ne h2,put_ne h1]
theorem give_sep (hab:a≠b) (hf:∀ i,Fits (hp i) w) (hs:∀ i j,i≠j→Sep (hp i) (hp j)) (s:Split (hp a) ha r):∀ i j,i≠j→Sep (give hp a b ha r i) (give hp a b ha r j):=by
 have ss:Sep ha r:=s.sep (hf a)
 have kab:Sep ha ((hp b).join r):=(sep_join (s.frz1.sep (hs a b hab)).symm ss.symm).symm
 have key:∀ i,i≠a→i≠b→Sep ha (hp i)∧Sep ((hp b).join r) (hp i):=fun i h1 h2=>⟨s.frz1.sep (hs a i fun e=>h1 e.symm),sep_join (hs b i fun e=>h2 e.symm) (s.frz2.sep (hs a i fun e=>h1 e.symm))⟩
 intro i j hij
 by_cases i1:i=a
 ·subst i1
  rw [give_a hab]
  by_cases j2:j=b
  ·subst j2;rw [give_b];exact kab
  ·rw [give_ne (fun e=>hij e.symm) j2];exact (key j (fun e=>hij e.symm) j2).1
 ·by_cases i2:i=b
  ·subst i2
   rw [give_b]
   by_cases j1:j=a
   ·subst j1;rw [give_a hab];exact kab.symm
   ·rw [give_ne j1 fun e=>hij e.symm];exact (key j j1 fun e=>hij e.symm).2
  ·rw [give_ne i1 i2]
   by_cases j1:j=a
   ·subst j1;rw [give_a hab];exact (key i i1 i2).1.symm
   ·by_cases j2:j=b
    ·subst j2;rw [give_b];exact (key i i1 i2).2.symm
    ·rw [give_ne j1 j2];exact hs _ _ hij
theorem give_fits (hab:a≠b) (hf:∀ i,Fits (hp i) w) (hs:∀ i j,i≠j→Sep (hp i) (hp j)) (s:Split (hp a) ha r):∀ i,Fits (give hp a b ha r i) w:=by
 intro i
 by_cases i1:i=a
 ·subst i1;rw [give_a hab];exact s.frz1.fits (hf i)
 ·by_cases i2:i=b
  ·subst i2;rw [give_b];exact fits_join (hf i) (s.frz2.fits (hf a)) (s.frz2.sep (hs a i hab)).symm
  ·rw [give_ne i1 i2];exact hf i
theorem give_obj (hab:a≠b) (s:Split (hp a) ha r) {x:Nat} (h:∀ i,(hp i).obj x=none):∀ i,(give hp a b ha r i).obj x=none:=by
 intro i
 have h1:ha.obj x=none:=none_of fun v e=>by have:=s.b1 _ _ e;rw [h a] at this;cases this
 have h2:r.obj x=none:=none_of fun v e=>by have:=s.b2 _ _ e;rw [h a] at this;cases this
 by_cases i1:i=a
 ·subst i1;rw [give_a hab];exact h1
 ·by_cases i2:i=b
  ·subst i2;rw [give_b];simp [Hp.join,h i,h2]
  ·rw [give_ne i1 i2];exact h i
theorem give_own (hab:a≠b) (s:Split (hp a) ha r) {x o:Nat} (h:∀ i,(hp i).own x o=none∧(hp i).ro x o=none):∀ i,(give hp a b ha r i).own x o=none∧(give hp a b ha r i).ro x o=none:=by
 intro i
 have h1:ha.own x o=none:=none_of fun v e=>by have:=s.o1 _ _ _ e;rw [(h a).1] at this;cases this
 have h2:r.own x o=none:=none_of fun v e=>by have:=s.o2 _ _ _ e;rw [(h a).1] at this;cases this
 have h3:ha.ro x o=none:=none_of fun v e=>by have:=s.r1 _ _ _ e;rw [(h a).2] at this;cases this
 have h4:r.ro x o=none:=none_of fun v e=>by have:=s.r2 _ _ _ e;rw [(h a).2] at this;cases this
 by_cases i1:i=a
 ·subst i1;rw [give_a hab];exact ⟨h1,h3⟩
 ·by_cases i2:i=b
  ·subst i2;rw [give_b];simp [Hp.join,(h i).1,(h i).2,h2,h4]
  ·rw [give_ne i1 i2];exact h i
end
theorem phOk_left {g:Game} {l l':Nat} {st:SeatSt g.σ g.θ} {ph:Ph g.σ g.θ} (p:PhOk l st ph) (h:l'≤l):PhOk l' st ph:=by
 cases p with
 | run h1=>exact .run (Nat.le_trans h h1)
 | said h1 hp=>exact .said (Nat.le_trans h h1) hp
 | over hp=>exact .over hp
 | shutS hp=>exact .shutS hp
 | shutO=>exact .shutO
 | shutC=>exact .shutC
theorem seatAt_left {X:GX} {tk:Option X.g.σ} {lf:Nat} {ss:List (St X)} {c:St X} {h:Hp} {s:Slot P cv L} (hl:lf≤X.left) (k:SeatAt X c h s):SeatAt { X with tok:=tk,left:=lf,seats:=ss } c h s:=by
 cases s with
 | act n=>obtain ⟨ph,e,p⟩:=k;exact ⟨ph,e,phOk_left p hl⟩
 | out a b=>exact k
theorem WgPh.seats {X:GX} {tk:Option X.g.σ} {lf:Nat} {ss:List (St X)} {st:List Nat} {w w':World} (hl:ss.length=X.seats.length) (p:WgPh L X st w) (h:∀ a b,WgAt L.tWg X.wg w a b→WgAt L.tWg X.wg w' a b):WgPh L { X with tok:=tk,left:=lf,seats:=ss } st w':=by
 cases p with
 | quiet v wt a hv late hw park b=>exact .quiet v wt (h _ _ a) (by simpa only [hl] using hv) late hw park b
 | late p i k hi hk a oth=>exact .late p i k hi hk (h _ _ a) oth
 | late1 p i hi a oth=>exact .late1 p i hi (h _ _ a) oth
 | free p a oth=>exact .free p (h _ _ a) oth
theorem seats_set {X:GX} {j k:Nat} {cx c:St X} {st':SeatSt X.g.σ X.g.θ} (hj:X.seats[j]?=some cx) (h:(X.seats.set j { cx with st:=st' })[k]?=some c):(k=j∧c={ cx with st:=st' })∨(k≠j∧X.seats[k]?=some c):=by
 by_cases e:k=j
 ·subst e
  rw [List.getElem?_set_self (List.getElem?_eq_some_iff.1 hj).1] at h
  cases h;exact .inl ⟨rfl,rfl⟩
 ·rw [List.getElem?_set_ne fun h=>e h.symm] at h
  exact .inr ⟨e,h⟩
theorem seats_old {X:GX} {j k:Nat} {cx c:St X} {st':SeatSt X.g.σ X.g.θ} (hj:X.seats[j]?=some cx) (h:(X.seats.set j { cx with st:=st' })[k]?=some c):∃ c0:St X,X.seats[k]?=some c0∧∀ a,c.ch a=c0.ch a:=by
 rcases seats_set hj h with ⟨rfl,rfl⟩ | ⟨_,h⟩
 ·exact ⟨cx,hj,fun a=>by unfold Seat.ch;split <;> rfl⟩
 ·exact ⟨c,h,fun a=>rfl⟩
theorem Cfg.met {gs gs':Array Goroutine} {w w':World} {t:Trace} {M M':MN P cv L Em} {sl:List (Slot P cv L)} {hp:Nat→Hp} {X:GX} {nb j:Nat} {cx:St X} {n n':TN P cv L} {a b c0 kc:Nat} {ha r:Hp} {fa fb:FuncId} {pa pb:String}
  {st':SeatSt X.g.σ X.g.θ} {tk:Option X.g.σ} {lf:Nat} {ph':Ph X.g.σ X.g.θ}
  (c:Cfg W0 gs w t M sl hp) (hX:M.x=.game X) (hG:GameAt X gs w t sl hp nb) (hj:X.seats[j]?=some cx) (hs:sl[nb+j]?=some (.act n)) (hab:(a=0∧b=nb+j+1)∨(a=nb+j+1∧b=0))
  (hsz:gs'.size=gs.size) (h0:∃ g,gs'[0]?=some g∧Runs g M'.fr M'.cs) (h1:∃ g,gs'[nb+j+1]?=some g∧Runs g n'.fr n'.cs) (ho:∀ i,i≠0→i≠nb+j+1→gs'[i]?=gs[i]?)
  (hc0:c0<3) (hc:w.heap[cx.ch c0]?=some (.chan 0 #[] false kc kc false)) (hw:w'.heap=w.heap.setIfInBounds (cx.ch c0) (.chan 0 #[] false (kc+1) (kc+1) false)) (hos:w'.os=w.os∧w'.tape=w.tape∧w'.output=w.output) (sp:Split (hp a) ha r)
  (hx:M'.x=.game { X with tok:=tk,left:=lf,seats:=X.seats.set j { cx with st:=st' } }) (hM:M'.h=give hp a b ha r 0) (hn:n'.h=give hp a b ha r (nb+j+1))
  (hsh:st'.isShut=false) (hs0:cx.st.isShut=false) (sa:n'.x=⟨X.g,cx.says,cx.turn,cx.fin,X.wg,ph'⟩) (pk:PhOk lf st' ph') (hl:lf≤X.left)
  (t0:tk=none→st'.isRun=true) (t1:tk.isSome=true→st'.isRun=false) (to:∀ (j':Nat) (c':St X),X.seats[j']?=some c'→j'≠j→c'.st.isRun=false)
  (hwt:X.wt=.play) (had:X.ad=X.seats.length) (hdf:X.deaf=false) :
  Cfg W0 gs' w' (t++meet a b fa pa fb pb (cx.ch c0) kc) M' (sl.set (nb+j) (.act n')) (give hp a b ha r):=by
 have hlt:nb+j<sl.length:=(List.getElem?_eq_some_iff.1 hs).1
 have hno:=c.turns hX hj
 have hne:a≠b:=by rcases hab with h | h <;> omega
 have hin:a≤sl.length∧b≤sl.length:=by rcases hab with h | h <;> omega
 obtain ⟨p1,p2,e1⟩:=hG.wg.ex
 have hwgne:cx.ch c0≠X.wg:=fun e=>by obtain ⟨_,e1,_⟩:=e1;rw [e] at hc;rw [hc] at e1;cases e1
 have hwg:∀ x y,WgAt L.tWg X.wg w x y→WgAt L.tWg X.wg w' x y:=fun x y h=>by
  exact h.of_heap (by rw [hw,Array.getElem?_setIfInBounds_ne hwgne])
 have hrl:RL L.tWg X.wg w w':=fun ⟨x,y,h⟩=>⟨x,y,hwg _ _ h⟩
 have hd0:Deaf t 0=0:=by rw [hG.deaf,hdf];rfl
 have hkj:=hG.know j _ hs
 have hdj:Deaf t (nb+j+1)=0:=hkj.2.2
 have hda:Deaf t a=0:=by rcases hab with ⟨rfl,_⟩ | ⟨rfl,_⟩ <;> assumption
 have hdb:Deaf t b=0:=by rcases hab with ⟨_,rfl⟩ | ⟨_,rfl⟩ <;> assumption
 have hka:Kn t (Knows t a) (hp a):=by
  rcases hab with ⟨rfl,_⟩ | ⟨rfl,_⟩
  ·exact c.kn0
  ·exact hkj.1
 have hkb:Kn t (Knows t b) (hp b):=by
  rcases hab with ⟨_,rfl⟩ | ⟨_,rfl⟩
  ·exact hkj.1
  ·exact c.kn0
 obtain ⟨u,hu⟩:∃ u,u=meet a b fa pa fb pb (cx.ch c0) kc:=⟨_,rfl⟩
 have hum:∀ op∈u,op.act.touch?=none:=by rw [hu];exact meet_mute
 have hur:∀ op∈u,∀ x,op.act≠.mark (.release x):=by rw [hu];exact meet_norel
 have hug:∀ op∈u,op.g=a∨op.g=b:=by rw [hu];exact meet_g
 have hup:∀ op∈u,Plain op:=by rw [hu];exact meet_plain
 have hknow:∀ i,Knows t a i→Knows (t++u) b i:=fun i h=>by rw [hu];exact meet_knows hda hdb h
 rw [← hu]
 clear hu
 have hng:∀ i,i≠0→i≠nb+j+1→∀ op∈u,op.g≠i:=fun i h1 h2 op ho e=>by rcases hug op ho with h | h <;> rcases hab with h' | h' <;> omega
 have hfit:=give_fits hne c.mem.fits c.mem.sep sp
 have hobj:∀ (k:Nat) (cx':St X) (d:Nat),X.seats[k]?=some cx'→d<3→∀ i,(give hp a b ha r i).obj (cx'.ch d)=none:=fun k cx' d hk hd=>give_obj hne sp fun i=>hG.noch i k cx' d hk hd
 have hkna:Kn (t++u) (Knows (t++u) a) (give hp a b ha r a):=by rw [give_a hne];exact kn_mute (sp.frz1.kn hka) (fun i h=>h.app u) hum
 have hknb:Kn (t++u) (Knows (t++u) b) (give hp a b ha r b):=by rw [give_b];exact kn_join (kn_mute hkb (fun i h=>h.app u) hum) (kn_mute (sp.frz2.kn hka) hknow hum)
 have hgn:∀ i,i≠0→i≠nb+j+1→give hp a b ha r i=hp i:=fun i h1 h2=>by rcases hab with h | h <;> exact give_ne (by omega) (by omega)
 have haft:Aft W0 w' (give hp a b ha r) M'.x:=by
  have hg:=c.aft.game
  rw [hX] at hg
  have h1:=c.aft.at_block (c:=cx.ch c0) (w':=w') (hg.2 j cx c0 hj) (side_chan hc rfl hos.1 hos.2.1 hos.2.2 hw) (fun b hb=>by rw [hw,Array.getElem?_setIfInBounds_ne fun e=>hb e.symm]) (by rw [hw];simp) c.aft.game
  refine h1.parts' (fun i b' o v e=>?_) (fun i b' v e=>?_) ?_
  ·by_cases i1:i=a
   ·subst i1;rw [give_a hne] at e;exact ⟨i,sp.o1 _ _ _ e⟩
   ·by_cases i2:i=b
    ·subst i2;rw [give_b] at e
     rcases or_some e with e | ⟨_,e⟩
     ·exact ⟨i,e⟩
     ·exact ⟨a,sp.o2 _ _ _ e⟩
    ·rw [give_ne i1 i2] at e;exact ⟨i,e⟩
  ·by_cases i1:i=a
   ·subst i1;rw [give_a hne] at e;exact ⟨i,sp.b1 _ _ e⟩
   ·by_cases i2:i=b
    ·subst i2;rw [give_b] at e
     rcases or_some e with e | ⟨_,e⟩
     ·exact ⟨i,e⟩
     ·exact ⟨a,sp.b2 _ _ e⟩
    ·rw [give_ne i1 i2] at e;exact ⟨i,e⟩
  ·rw [hx]
   refine ⟨hg.1,fun k c' d hk=>?_⟩
   obtain ⟨c1,h1,e1⟩:=seats_old hj hk
   rw [e1];exact hg.2 k c1 d h1
 refine ⟨by rw [hsz,List.length_set];exact c.size,?_,fun i sx hi=>?_,?_,haft,hM.symm,fun i hi=>?_,fun i op hi=>?_,?_,?_,by rw [hx];exact ⟨fun _=>hno.2,fun d hd=>by rw [hno.1] at hd;cases hd⟩⟩
 ·obtain ⟨g,h1,h2⟩:=h0
  exact ⟨g,h1,.inl h2⟩
 ·rw [hx]
  by_cases hij:i=nb+j
  ·subst hij
   simp [hlt] at hi
   subst hi
   obtain ⟨g,h1,h2⟩:=h1
   exact ⟨g,h1,.inl h2⟩
  ·rw [List.getElem?_set_ne fun e=>hij e.symm] at hi
   obtain ⟨g,h1,h2⟩:=c.thr i sx hi
   rw [hX] at h2
   exact ⟨g,by rw [ho (i+1) (by omega) (by omega)];exact h1,slot_rely (Deaf_others (hng _ (by omega) (by omega))) hrl h2⟩
 ·have hnch:∀ i,(give hp a b ha r i).obj (cx.ch c0)=none:=hobj j cx c0 hj hc0
  exact ⟨fun i=>fits_chan (n:=0) (n':=0) (hfit i) (hnch i) hc rfl rfl hw,give_sep hne c.mem.fits c.mem.sep sp,fun said=>race_mute (c.mem.nr said) hum,(low_mute c.mem.low hum).mono (by rw [hw];simp),
   fun op ho x=>(Array.mem_append.1 ho).elim (fun ho=>c.mem.norel op ho x) (fun ho=>hur op ho x)⟩
 ·rw [List.length_set] at hi
  rw [hgn i (by omega) (by omega)];exact c.hpn i hi
 ·rw [List.length_set]
  rcases getElem?_append_cases hi with ⟨_,h⟩ | ⟨_,h⟩
  ·exact c.tg i op h
  ·rcases hug op h with h | h <;> omega
 ·rcases hab with ⟨rfl,_⟩ | ⟨_,rfl⟩
  ·exact hkna
  ·exact hknb
 ·rw [hx]
  have hstg:(sl.set (nb+j) (.act n')).map Slot.stage=sl.map Slot.stage:=by
   apply List.ext_getElem?
   intro k
   rw [List.getElem?_map,List.getElem?_map]
   by_cases hki:nb+j=k
   ·subst hki;rw [List.getElem?_set_self hlt,hs];rfl
   ·rw [List.getElem?_set_ne hki]
  have hknj:Kn (t++u) (Knows (t++u) (nb+j+1)) (give hp a b ha r (nb+j+1)):=by
   rcases hab with ⟨_,rfl⟩ | ⟨rfl,_⟩
   ·exact hknb
   ·exact hkna
  refine ⟨nb,⟨by rw [List.length_set];simpa using hG.len,fun k sx hk hc=>?_,fun k cx' hc=>?_,fun k sx hc=>?_,fun k cx' hc' d hd=>?_,fun k k' d d' x x' hk hk' hx hx' e=>?_,fun i k cx' d hk hd=>?_,fun i o=>?_,by rw [hstg];exact hG.wg.seats (by simp) hwg,fun k x o ho2 hb hl=>?_,?_,fun e=>?_,fun e k cx' hk=>?_,fun _=>.inl (by have:=hno.2;simpa [this] using had),fun h=>absurd hwt h,hG.adl,fun k cx' g hk hg hsx hb=>?_,fun g0 cases shp hg hb ho'=>?_,fun g0 hg hb ho'=>?_,fun k cx' d i x hk hd hx hl=>?_⟩⟩
  ·rw [List.getElem?_set_ne (by omega)] at hc
   rw [hgn _ (by omega) (by omega)]
   exact (hG.old k sx hk hc).app (hng _ (by omega) (by omega))
  ·rcases seats_set hj hc with ⟨rfl,rfl⟩ | ⟨hk,hc⟩
   ·exact ⟨_,List.getElem?_set_self hlt,ph',sa,pk⟩
   ·obtain ⟨sx,h1,h2⟩:=hG.seat k cx' hc
    refine ⟨sx,by rw [List.getElem?_set_ne (by omega)];exact h1,?_⟩
    rw [hgn _ (by omega) (by omega)]
    exact seatAt_left hl h2
  ·by_cases hkj:k=j
   ·subst hkj
    simp [hlt] at hc
    subst hc
    exact ⟨hknj,hn,by rw [Deaf_plain hup];exact hdj⟩
   ·rw [List.getElem?_set_ne (by omega)] at hc
    rw [hgn _ (by omega) (by omega)]
    exact (hG.know k sx hc).app (hng _ (by omega) (by omega)) fun kk hK=>kn_mute kk hK hum
  ·obtain ⟨cq,hcq,hch⟩:=seats_old hj hc'
   rw [hch d]
   by_cases e:cq.ch d=cx.ch c0
   ·obtain ⟨rfl,rfl⟩:=hG.dist k j cq cx d c0 hcq hj hd hc0 e
    rcases seats_set hj hc' with ⟨_,rfl⟩ | ⟨h,_⟩
    ·refine ⟨kc+1,?_⟩
     rw [e,hw,Array.getElem?_setIfInBounds_self_of_lt (Array.getElem?_eq_some_iff.1 hc).1]
     show _=some (Obj.chan 0 #[] (decide (d=2)&&st'.isShut) _ _ _)
     rw [hsh,Bool.and_false]
    ·exact absurd rfl h
   ·obtain ⟨m,hm⟩:=hG.chan k cq hcq d hd
    refine ⟨m,?_⟩
    rw [hw,Array.getElem?_setIfInBounds_ne fun h=>e h.symm]
    rcases seats_set hj hc' with ⟨rfl,rfl⟩ | ⟨_,h⟩
    ·rw [hj] at hcq;cases hcq
     show _=some (Obj.chan 0 #[] (decide (d=2)&&st'.isShut) _ _ _)
     rw [hm,hsh,hs0]
    ·rw [hcq] at h;cases h;exact hm
  ·obtain ⟨c1,h1,e1⟩:=seats_old hj hk
   obtain ⟨c2,h2,e2⟩:=seats_old hj hk'
   rw [e1,e2] at e
   exact hG.dist k k' c1 c2 x x' h1 h2 hx hx' e
  ·obtain ⟨c1,h1,e1⟩:=seats_old hj hk
   rw [e1];exact hobj k c1 d h1 hd i
  ·exact give_own hne sp (fun i=>hG.nowg i o) i
  ·rcases touch_split hb with hb | ⟨op,ho,hi,h2⟩
   ·rcases hG.wgt k x o ho2 hb hl with this | ⟨k0,k1⟩
    ·refine .inl ⟨this.1,fun hsd=>?_⟩
     have h1:=this.2 hsd
     rw [g?_app (g?_lt h1)];exact h1
    ·exact .inr ⟨k0.app u,fun j' hj'=>(k1 j' (by simpa using hj')).app u⟩
   ·rw [hum op ho] at h2;cases h2
  ·rw [Deaf_plain hup,hdf];exact hd0
  ·refine ⟨j,_,List.getElem?_set_self (List.getElem?_eq_some_iff.1 hj).1,t0 e,fun j' c' h' hne'=>?_⟩
   rcases seats_set hj h' with ⟨h,_⟩ | ⟨_,h⟩
   ·exact absurd h hne'
   ·exact to j' c' h hne'
  ·rcases seats_set hj hk with ⟨rfl,rfl⟩ | ⟨h,hk⟩
   ·exact t1 e
   ·exact to k cx' hk h
  ·rcases seats_set hj hk with ⟨rfl,rfl⟩ | ⟨h,hk⟩
   ·replace hsx:st'.isShut=true:=hsx
    rw [hsh] at hsx;cases hsx
   ·rw [ho _ (by omega) (by omega)] at hg
    exact hG.live k cx' g hk hg hsx hb
  ·obtain ⟨g,h1,h2⟩:=h0
   rw [h1] at hg;cases hg
   rw [h2.status] at hb;cases hb
  ·obtain ⟨g,h1,h2⟩:=h0
   rw [h1] at hg;cases hg
   rw [h2.status] at hb;cases hb
  ·obtain ⟨c1,h1,e1⟩:=seats_old hj hk
   rw [e1] at hl
   rcases touch_split hx with hx | ⟨op,ho,hi,h2⟩
   ·exact (hG.cht k c1 d i x h1 hd hx hl).app u
   ·rw [hum op ho] at h2;cases h2
end Go.PB
namespace Go.PB
open Go.Conc Go.Conc.Lib
open Go.ConcR (KK stA smA rd wr mk DC0)
variable {W0:World} {P:Program} {cv:Value} {L:WgLink} {Em:Frame→List Frame→Hp→MX→Prop}
def isRunning (g:Goroutine):Nat:=match g.status with
 | .running=>1
 | _=>0
def nrun (gs:Array Goroutine):Nat:=(gs.toList.map isRunning).sum
theorem sum_set {l:List Nat}:∀ {i a b:Nat},l[i]?=some a→b<a→(l.set i b).sum<l.sum:=by
 induction l with
 | nil=>intro i a b h;simp at h
 | cons x l ih =>
  intro i a b h hb
  cases i with
  | zero=>simp at h;subst h;simp;exact hb
  | succ i =>
   have:=ih (i:=i) (by simpa using h) hb
   simp;exact this
theorem nrun_set {gs:Array Goroutine} {i:Nat} {g g':Goroutine} (h:gs[i]?=some g) (hr:g.status=.running) (hb:g'.status=.blocked):nrun (gs.setIfInBounds i g')<nrun gs:=by
 have e:(gs.setIfInBounds i g').toList.map isRunning=(gs.toList.map isRunning).set i (isRunning g'):=by simp [Array.toList_setIfInBounds,List.map_set]
 unfold nrun
 rw [e]
 refine sum_set (a:=isRunning g) (by simp [h]) ?_
 unfold isRunning
 rw [hr,hb];decide
theorem res_says {a b:Nat} {v z1 z2:Value}:commResult #[scase a v z1,rcase b z2] .select ((0:Nat):Int) undef false=.tuple #[goInt 0,.bool false,z2]:=by
 simp [commResult,scase,rcase]
theorem res_turn {a b:Nat} {v z1 z2:Value}:commResult #[rcase a z1,rcase b z2] .select ((0:Nat):Int) v true=.tuple #[goInt 0,.bool true,v,z2]:=by
 simp [commResult,scase,rcase]
theorem res_cut {a b:Nat} {z1 z2:Value}:commResult #[rcase a z1,rcase b z2] .select ((1:Nat):Int) z2 false=.tuple #[goInt 1,.bool false,z1,z2]:=by
 simp [commResult,scase,rcase]
section
variable {gs:Array Goroutine} {w:World} {t:Trace} {M:MN P cv L Em} {sl:List (Slot P cv L)} {hp:Nat→Hp} {X:GX} {nb j:Nat}
theorem Cfg.stall0 (c:Cfg W0 gs w t M sl hp) (hX:M.x=.game X) (hG:GameAt X gs w t sl hp nb) {gp:Goroutine} {cases:Array CommCase} {sh:CommShape} (hm:MainG gp M) (ho:gp.offers=some (cases,sh)) {cx:St X} (hj:X.seats[j]?=some cx) (hwt:X.wt=.play)
  (hc:(∃ z,cases=#[rcase cx.says z])∨(∃ v z,cases=#[scase cx.turn v z])) (hn:∀ (g:Goroutine),gs[nb+j+1]?=some g→g.status≠.blocked):Cfg W0 (gs.setIfInBounds 0 gp) w t M sl hp:=by
 have hlt:0<gs.size:=by have:=c.size;omega
 have hoth:∀ i,i≠0→(gs.setIfInBounds 0 gp)[i]?=gs[i]?:=fun i hi=>Array.getElem?_setIfInBounds_ne fun e=>hi e.symm
 have hself:(gs.setIfInBounds 0 gp)[0]?=some gp:=Array.getElem?_setIfInBounds_self_of_lt hlt
 refine ⟨by rw [Array.size_setIfInBounds];exact c.size,⟨gp,hself,hm⟩,fun i sx hi=>by rw [hoth _ (by omega)];exact c.thr i sx hi,c.mem,c.aft,c.hp0,c.hpn,c.tg,c.kn0,?_,c.pool⟩
 rw [hX]
 refine ⟨nb,⟨hG.len,hG.old,hG.seat,hG.know,hG.chan,hG.dist,hG.noch,hG.nowg,hG.wg,hG.wgt,hG.deaf,hG.tok0,hG.tok1,hG.adp,hG.ads,hG.adl,fun k cx g hk hg=>by rw [hoth _ (by omega)] at hg;exact hG.live k cx g hk hg,fun g0 cases' shp hg hb ho'=>?_,fun g0 hg hb ho'=>?_,hG.cht⟩⟩
 ·rw [hself] at hg;cases hg
  rw [ho] at ho';cases ho'
  exact ⟨j,cx,hj,hwt,hc,fun g hg=>by rw [hoth _ (by omega)] at hg;exact hn g hg⟩
 ·rw [hself] at hg;cases hg
  rw [ho] at ho';cases ho'
theorem Cfg.stall1 (c:Cfg W0 gs w t M sl hp) (hX:M.x=.game X) (hG:GameAt X gs w t sl hp nb) {gp:Goroutine} {s:Slot P cv L} (hs:sl[nb+j]?=some s) (hsg:SlotG w X.wg (Deaf t (nb+j+1)) gp s) {cx:St X} (hj:X.seats[j]?=some cx) (hsh:cx.st.isShut=false)
  (hn:∀ (g0:Goroutine) (cases:Array CommCase) (sh:CommShape),gs[0]?=some g0→g0.status=.blocked→g0.offers=some (cases,sh)→(∀ z,cases≠#[rcase cx.says z])∧∀ v z,cases≠#[scase cx.turn v z]):Cfg W0 (gs.setIfInBounds (nb+j+1) gp) w t M sl hp:=by
 have hlt:nb+j<sl.length:=(List.getElem?_eq_some_iff.1 hs).1
 have hlt':nb+j+1<gs.size:=by have:=c.size;omega
 have hoth:∀ i,i≠nb+j+1→(gs.setIfInBounds (nb+j+1) gp)[i]?=gs[i]?:=fun i hi=>Array.getElem?_setIfInBounds_ne fun e=>hi e.symm
 have hself:(gs.setIfInBounds (nb+j+1) gp)[nb+j+1]?=some gp:=Array.getElem?_setIfInBounds_self_of_lt hlt'
 refine ⟨by rw [Array.size_setIfInBounds];exact c.size,by rw [hoth 0 (by omega)];exact c.main,fun i sx hi=>?_,c.mem,c.aft,c.hp0,c.hpn,c.tg,c.kn0,?_,c.pool⟩
 ·by_cases e:i=nb+j
  ·subst e
   rw [hs] at hi;cases hi
   rw [hX]
   exact ⟨gp,hself,hsg⟩
  ·rw [hoth _ (by omega)];exact c.thr i sx hi
 rw [hX]
 refine ⟨nb,⟨hG.len,hG.old,hG.seat,hG.know,hG.chan,hG.dist,hG.noch,hG.nowg,hG.wg,hG.wgt,hG.deaf,hG.tok0,hG.tok1,hG.adp,hG.ads,hG.adl,fun k cx' g hk hg hsx=>?_,fun g0 cases' shp hg hb ho'=>?_,fun g0 hg hb ho'=>?_,hG.cht⟩⟩
 ·by_cases e:k=j
  ·subst e
   rw [hj] at hk;cases hk
   rw [hsh] at hsx;cases hsx
  ·rw [hoth _ (by omega)] at hg;exact hG.live k cx' g hk hg hsx
 ·rw [hoth 0 (by omega)] at hg
  obtain ⟨k,cx',h1,h2,h3,h4⟩:=hG.park g0 cases' shp hg hb ho'
  refine ⟨k,cx',h1,h2,h3,fun g hg2=>?_⟩
  by_cases e:k=j
  ·subst e
   rw [hj] at h1;cases h1
   have:=hn g0 cases' shp hg hb ho'
   rcases h3 with ⟨z,h3⟩ | ⟨v,z,h3⟩
   ·exact absurd h3 (this.1 z)
   ·exact absurd h3 (this.2 v z)
  ·rw [hoth _ (by omega)] at hg2;exact h4 g hg2
 ·rw [hoth 0 (by omega)] at hg
  exact hG.sleep g0 hg hb ho'
end
end Go.PB
namespace Go.PB
open Go.Conc Go.Conc.Lib
open Go.ConcR (KK stA smA rd wr mk DC0)
variable {W0:World} {P:Program} {cv:Value} {L:WgLink} {Em:Frame→List Frame→Hp→MX→Prop}
theorem seat_run {X:GX} {cx:St X} {h:Hp} {s:Slot P cv L} (k:SeatAt X cx h s) {s0:X.g.σ} {q0:X.g.θ} (h0:cx.st=.run s0 q0):∃ n,s=.act n∧∃ m,n.x=⟨X.g,cx.says,cx.turn,cx.fin,X.wg,.busy s0 q0 m⟩∧X.left≤m:=by
 cases s with
 | act n =>
  obtain ⟨ph,e,p⟩:=k
  rw [h0] at p
  cases p with
  | run h1=>exact ⟨n,rfl,_,e,h1⟩
 | out a b =>
  obtain ⟨_,q,h1 | h1,_⟩:=k
  ·rw [h0] at h1;exact absurd h1.1 (by simp)
  ·rw [h0] at h1;cases h1
theorem seat_said {X:GX} {cx:St X} {h:Hp} {s:Slot P cv L} (k:SeatAt X cx h s) {q0:X.g.θ} (h0:cx.st=.said q0) (hp:(X.g.plan q0).isSome=true):∃ n,s=.act n∧∃ m,n.x=⟨X.g,cx.says,cx.turn,cx.fin,X.wg,.said q0 m⟩∧X.left≤m:=by
 cases s with
 | act n =>
  obtain ⟨ph,e,p⟩:=k
  rw [h0] at p
  cases p with
  | said h1 h2=>exact ⟨n,rfl,_,e,h1⟩
  | over h1=>rw [h1] at hp;cases hp
 | out a b =>
  obtain ⟨_,q,⟨h1,h2⟩ | h1,_⟩:=k
  ·rw [h0] at h1;cases h1
   rw [h2] at hp;cases hp
  ·rw [h0] at h1;cases h1
section
variable {gs:Array Goroutine} {w:World} {t:Trace} {sl:List (Slot P cv L)} {hp:Nat→Hp} {g:Goroutine} {sc:Option (Nat × Nat)}
 {fr:Frame} {cs:List Frame} {h:Hp} {X:GX} {o:Oper} {cases:Array CommCase} {bl:Bool} {sh:CommShape} {O:Value→Hp→MX→Prop} {at_:AtOp fr o} {rr:∀ w,Fits h w→(execOp fr.eval o).runT P w #[]=(.ok (.comm cases bl sh) w,#[])}
 {a:(mHand P cv L.done L.tWg).comm cases bl sh h (.game X) O} {k:∀ v h' x',O v h' x'→Run P (mHand P cv L.done L.tWg) true Em (fr.finish v) cs h' x'}
theorem cfg_comm0 {rr:∀ w,Fits h w→(execOp fr.eval o).runT P w #[]=(.ok (.comm cases true sh) w,#[])} {a:(mHand P cv L.done L.tWg).comm cases true sh h (.game X) O} (c:Cfg W0 gs w t (⟨fr,cs,h,.game X,.comm o cases true sh O at_ rr a k⟩:MN P cv L Em) sl hp) (hg:gs[0]?=some g) (hr:Runs g fr cs) :
  ∃ gs' w' ops M' sl' hp',runT P (crowd gs w sc) 0=(.next (crowd gs' w' sc),ops)∧Cfg W0 gs' w' (t++ops) M' sl' hp' ∧
   (Below M' (⟨fr,cs,h,.game X,.comm o cases true sh O at_ rr a k⟩:MN P cv L Em)∨(M'=⟨fr,cs,h,.game X,.comm o cases true sh O at_ rr a k⟩∧sl'=sl∧nrun gs'<nrun gs)):=by
 obtain ⟨nb,hG⟩:∃ nb,GameAt X gs w t sl hp nb:=c.game
 have hh:hp 0=h:=c.hp0
 have hfit:Fits h w:=by rw [← hh];exact c.mem.fits 0
 have hsz:0<gs.size:=by have:=c.size;omega
 obtain ⟨_,j,cx,hwt,hdf,hj,hcase⟩:=main_comm a
 have hstep:stepG P ((0:Nat) == 0) g w=.comm (G fr cs) cases true sh w #[]:=by rw [hr.step];exact step_comm at_ (rr w hfit)
 obtain ⟨s0,hs0,hseat⟩:=hG.seat j cx hj
 obtain ⟨gj,hgj,hsj⟩:=c.thr _ _ hs0
 replace hsj:SlotG w X.wg (Deaf t (nb+j+1)) gj s0:=hsj
 have hIlt:nb+j+1<gs.size:=(Array.getElem?_eq_some_iff.1 hgj).1
 -- it waits
 have wait:∀ {c0:Nat} {b:Bool} {cc:CommCase},c0<3→cases=#[cc]→((∃ z,cases=#[rcase cx.says z])∨(∃ v z,cases=#[scase cx.turn v z]))→(partners (gs.setIfInBounds 0 ph) (cx.ch c0) b=[]→NoWays w (gs.setIfInBounds 0 ph) cc)→((c0=0∧b=true)∨(c0=1∧b=false)) →
   gj.status≠.blocked →
   ∃ gs' w' ops M' sl' hp',runT P (crowd gs w sc) 0=(.next (crowd gs' w' sc),ops)∧Cfg W0 gs' w' (t++ops) M' sl' hp' ∧
   (Below M' (⟨fr,cs,h,.game X,.comm o cases true sh O at_ rr a k⟩:MN P cv L Em)∨(M'=⟨fr,cs,h,.game X,.comm o cases true sh O at_ rr a k⟩∧sl'=sl∧nrun gs'<nrun gs)):=by
  intro c0 b cc hc0 hcc hform hnw hcb hnb
  have hp1:partners (gs.setIfInBounds 0 ph) (cx.ch c0) b=[]:=stand_nil c rfl hG hj hc0 (fun h=>absurd rfl h) fun _ _ g hg=>by
   rw [hgj] at hg;cases hg
   exact offersAt_of_not_blocked hnb _ _
  have hw:=crowd_waits (sl:=sc) hg hstep (fun c' hc'=>by rw [hcc] at hc';simp at hc';subst hc';exact hnw hp1)
  refine ⟨_,_,_,_,sl,hp,hw,?_,.inr ⟨rfl,rfl,nrun_set hg hr.status rfl⟩⟩
  rw [ofEvents_none,Array.append_empty]
  refine Cfg.stall0 c rfl hG (gp:=parked (G fr cs) cases sh) (.inr (.inl ⟨cases,sh,⟨rfl,rfl,rfl,rfl,rfl⟩,fr,cs,h,.game X,o,O,at_,rr,a,k,rfl⟩)) rfl hj hwt hform (fun g hg=>by rw [hgj] at hg;cases hg;exact hnb)
 rcases hcase with ⟨z,s,q,hcs,rfl,hst,htk,hO⟩ | ⟨z,q,m,f,s,l,h',r,hcs,rfl,hst,hpl,htk,hlf,had,hsp,hU,hO⟩
 ·-- it would hear what the thread says
  obtain ⟨n,rfl,m,hnx,hlm⟩:=seat_run hseat hst
  obtain ⟨kc,hch⟩:=hG.chan j cx hj 0 (by omega)
  replace hch:w.heap[cx.says]?=some (.chan 0 #[] false kc kc false):=hch
  rcases hsj with hrun | ⟨cases',sh',hpk,hn⟩
  ·exact wait (c0:=0) (b:=true) (by omega) hcs (.inl ⟨z,hcs⟩) (fun hp1=>ways_recv_none hch hp1) (.inl ⟨rfl,rfl⟩) (by rw [hrun.status];simp)
  ·obtain ⟨fr',cs',hh',x',o',O',at',rr',a',k',rfl⟩:=hn
   obtain ⟨_,rfl,⟨s1,q1,n1,z1,z2,h1,r,hst1,hln,rfl,hsp,hU,hO'⟩ | ⟨q1,n1,m1,f1,z1,z2,hst1,_⟩⟩:=thr_comm hseat
   ·rw [hst] at hst1;cases hst1
    have hgp:gs[nb+j+1]?=some (parked (G fr' cs') #[scase cx.says (X.g.says q) z1,rcase cx.fin z2] .select):=by rw [hgj,hpk.eq]
    have hoff:partners (gs.setIfInBounds 0 ph) cx.says true=[(nb+j+1,0)]:=by
     have:=stand_thr c rfl hG hj (a:=0) (b:=true) (i:=0) (by omega) (by omega) hgj (.inl ⟨rfl,rfl⟩)
     rw [hpk.eq,offers_sr] at this
     simpa [Seat.ch] using this
    have hhp:hp (nb+j+1)=hh':=(hG.know j _ hs0).2.1.symm
    have hspl:Split (hp (nb+j+1)) h1 r:=by rw [hhp];exact hsp
    have hsep:Sep (hp 0) r:=(hspl.frz2.sep (c.mem.sep (nb+j+1) 0 (by omega))).symm
    have hspl0:Split ((hp 0).join r) h r:=by rw [← hh];exact split_join (c.mem.fits 0) (hspl.frz2.fits (c.mem.fits _)) hsep
    have hOm:=hO r ((hp 0).join r) hU hspl0
    have hrunT:=crowd_recv_meets_sel (sl:=sc) (k:=0) (v:=X.g.says q) (zj:=z1) hg (by rw [hcs] at hstep;exact hstep) hch (by omega) hgp rfl hoff
    rw [ofEvents_none] at hrunT
    refine ⟨_,_,_,⟨fr.finish (X.g.says q),cs,(hp 0).join r,_,k _ _ _ hOm⟩,sl.set (nb+j) (.act ⟨fr'.finish (.tuple #[goInt 0,.bool false,z2]),cs',h1,_,k' _ _ _ hO'⟩),give hp (nb+j+1) 0 h1 r,hrunT,?_,.inl (.comm _ _ _ hOm)⟩
    have e:∀ u:Trace,#[]++u=u:=fun u=>by simp
    rw [e]
    refine Cfg.met (c0:=0) (kc:=kc) (ha:=h1) (r:=r) (a:=nb+j+1) (b:=0) (st':=.said q) (tk:=some s) (lf:=X.left) (ph':=X.g.next q n1) c rfl hG hj hs0 (.inr ⟨rfl,rfl⟩) (by simp) ⟨_,by rw [Array.getElem?_setIfInBounds_self_of_lt (by simpa using hsz)],⟨rfl,rfl,rfl,rfl⟩⟩
     ⟨_,by rw [Array.getElem?_setIfInBounds_ne (by omega),Array.getElem?_setIfInBounds_self_of_lt hIlt],⟨congrArg fr'.finish res_says,rfl,rfl,rfl⟩⟩
     (fun i h1 h2=>by rw [Array.getElem?_setIfInBounds_ne fun e=>h1 e.symm,Array.getElem?_setIfInBounds_ne fun e=>h2 e.symm]) (by omega) hch rfl ⟨rfl,rfl,rfl⟩ hspl rfl ?_ ?_ rfl (by rw [hst];rfl) rfl ?_ (Nat.le_refl _) (fun h=>by cases h) (fun _=>rfl) ?_ hwt ?_ hdf
    ·rw [give_b]
    ·rw [give_a (by omega)]
    ·unfold Game.next
     cases hq:X.g.plan q with
     | none=>exact .over hq
     | some y=>exact .said hln (by rw [hq];rfl)
    ·obtain ⟨j1,c1,e1,e2,e3⟩:=hG.tok0 htk
     intro j' c' hj' hne
     by_cases e:j'=j1
     ·subst e
      exfalso
      have:=e3 j cx hj fun e=>hne e.symm
      rw [hst] at this;cases this
     ·exact e3 j' c' hj' e
    ·rcases hG.adp hwt with h | ⟨_,h⟩
     ·rw [(c.turns rfl hj).2] at h;exact h
     ·rw [htk] at h;cases h
   ·rw [hst] at hst1;rcases hst1 with h | h <;> cases h
 ·-- it would let the thread have a turn
  obtain ⟨n,rfl,m',hnx,hlm⟩:=seat_said hseat hst (by rw [hpl];rfl)
  obtain ⟨kc,hch⟩:=hG.chan j cx hj 1 (by omega)
  replace hch:w.heap[cx.turn]?=some (.chan 0 #[] false kc kc false):=hch
  rcases hsj with hrun | ⟨cases',sh',hpk,hn⟩
  ·exact wait (c0:=1) (b:=false) (by omega) hcs (.inr ⟨_,z,hcs⟩) (fun hp1=>ways_send_none hch (Nat.zero_le _) hp1) (.inr ⟨rfl,rfl⟩) (by rw [hrun.status];simp)
  ·obtain ⟨fr',cs',hh',x',o',O',at',rr',a',k',rfl⟩:=hn
   obtain ⟨_,rfl,⟨s1,q1,n1,z1,z2,h1,r,hst1,_⟩ | ⟨q1,n1,m1,f1,z1,z2,hst1,hln,hpl1,rfl,hO',_⟩⟩:=thr_comm hseat
   ·rw [hst] at hst1;cases hst1
   ·have hq1:q1=q:=by
     rcases hst1 with h | h
     ·rw [hst] at h;cases h;rfl
     ·rw [hst] at h;cases h
    subst hq1
    rw [hpl] at hpl1;cases hpl1
    have hln:=hln hst
    obtain ⟨n',rfl⟩:∃ n',n1=n'+1:=⟨n1-1,by omega⟩
    have hgp:gs[nb+j+1]?=some (parked (G fr' cs') #[rcase cx.turn z1,rcase cx.fin z2] .select):=by rw [hgj,hpk.eq]
    have hdist:cx.turn≠cx.fin:=fun e=>by have:=(hG.dist j j cx cx 1 2 hj hj (by omega) (by omega) e).2;omega
    have hoff:partners (gs.setIfInBounds 0 ph) cx.turn false=[(nb+j+1,0)]:=by
     have:=stand_thr c rfl hG hj (a:=1) (b:=false) (i:=0) (by omega) (by omega) hgj (.inr ⟨rfl,rfl⟩)
     rw [hpk.eq,offers_rr] at this
     simpa [Seat.ch,hdist.symm] using this
    have hhp:hp (nb+j+1)=hh':=(hG.know j _ hs0).2.1.symm
    have hspl:Split (hp 0) h' r:=by rw [hh];exact hsp
    have hsep:Sep (hp (nb+j+1)) r:=(hspl.frz2.sep (c.mem.sep 0 (nb+j+1) (by omega))).symm
    have hspl1:Split ((hp (nb+j+1)).join r) hh' r:=by rw [← hhp];exact split_join (c.mem.fits _) (hspl.frz2.fits (c.mem.fits _)) hsep
    have hOt:=hO' n' s r ((hp (nb+j+1)).join r) rfl hU hspl1
    have hrunT:=crowd_send_meets_sel (sl:=sc) (k:=0) (v:=.agg #[]) (zj:=z1) hg (by rw [hcs] at hstep;exact hstep) hch (by omega) hgp rfl hoff
    rw [ofEvents_none] at hrunT
    refine ⟨_,_,_,⟨fr.finish undef,cs,h',_,k _ _ _ hO⟩,sl.set (nb+j) (.act ⟨fr'.finish (.tuple #[goInt 0,.bool true,.agg #[],z2]),cs',(hp (nb+j+1)).join r,_,k' _ _ _ hOt⟩),give hp 0 (nb+j+1) h' r,hrunT,?_,.inl (.comm _ _ _ hO)⟩
    have e:∀ u:Trace,#[]++u=u:=fun u=>by simp
    rw [e]
    refine Cfg.met (c0:=1) (kc:=kc) (ha:=h') (r:=r) (a:=0) (b:=nb+j+1) (st':=.run (f s).1 (f s).2) (tk:=none) (lf:=l) (ph':=.busy (f s).1 (f s).2 n') c rfl hG hj hs0 (.inl ⟨rfl,rfl⟩) (by simp) ⟨_,by rw [Array.getElem?_setIfInBounds_self_of_lt (by simpa using hsz)],⟨rfl,rfl,rfl,rfl⟩⟩
     ⟨_,by rw [Array.getElem?_setIfInBounds_ne (by omega),Array.getElem?_setIfInBounds_self_of_lt hIlt],⟨congrArg fr'.finish res_turn,rfl,rfl,rfl⟩⟩
     (fun i h1 h2=>by rw [Array.getElem?_setIfInBounds_ne fun e=>h1 e.symm,Array.getElem?_setIfInBounds_ne fun e=>h2 e.symm]) (by omega) hch rfl ⟨rfl,rfl,rfl⟩ hspl rfl ?_ ?_ rfl (by rw [hst];rfl) rfl (.run (by omega)) (by omega) (fun _=>rfl) (fun h=>by cases h) ?_ hwt had hdf
    ·rw [give_a (by omega)]
    ·rw [give_b]
    ·intro j' c' hj' _
     exact hG.tok1 (by rw [htk];rfl) j' c' hj'
end
end Go.PB
namespace Go.PB
open Go.Conc Go.Conc.Lib
open Go.ConcR (KK stA smA rd wr mk DC0)
variable {W0:World} {P:Program} {cv:Value} {L:WgLink} {Em:Frame→List Frame→Hp→MX→Prop}
def Less (gs':Array Goroutine) (M':MN P cv L Em) (sl':List (Slot P cv L)) (gs:Array Goroutine) (M:MN P cv L Em) (sl:List (Slot P cv L)):Prop :=
 Below M' M∨(M'=M∧Falls SBel sl' sl)∨(M'=M∧sl'=sl∧nrun gs'<nrun gs)
theorem gs_set {i:Nat} {gs:Array Goroutine} {g':Goroutine} (h:i<gs.size):Gs P i gs (gs.setIfInBounds i g') g' where
 size:=by simp
 self:=Array.getElem?_setIfInBounds_self_of_lt h
 other:=fun k g hk hg=>⟨default,{ (default:Goroutine) with status:=.blocked },default,by
  rw [Array.getElem?_setIfInBounds_ne fun e=>hk e.symm,hg]
  unfold woken
  simp⟩
 back:=fun k g hk hg _=>by rw [Array.getElem?_setIfInBounds_ne fun e=>hk e.symm] at hg;exact hg
section
variable {gs:Array Goroutine} {w:World} {t:Trace} {M:MN P cv L Em} {sl:List (Slot P cv L)} {hp:Nat→Hp} {g:Goroutine} {sc:Option (Nat × Nat)} {X:GX} {nb j:Nat}
 {fr:Frame} {cs:List Frame} {h:Hp} {x:TX} {o:Oper} {cases:Array CommCase} {bl:Bool} {sh:CommShape} {O:Value→Hp→TX→Prop} {at_:AtOp fr o} {rr:∀ w,Fits h w→(execOp fr.eval o).runT P w #[]=(.ok (.comm cases bl sh) w,#[])}
 {k:∀ v h' x',O v h' x'→Run P (tHand P cv) false (tEnd P L.done) (fr.finish v) cs h' x'}
section
variable {rr:∀ w,Fits h w→(execOp fr.eval o).runT P w #[]=(.ok (.comm cases true sh) w,#[])} {a:(tHand P cv).comm cases true sh h x O}
theorem Cfg.comm_turns (c:Cfg W0 gs w t M sl hp) (hX:M.x=.game X) (hG:GameAt X gs w t sl hp nb) (hs:sl[nb+j]?=some (.act ⟨fr,cs,h,x,.comm o cases true sh O at_ rr a k⟩)):X.free=none∧X.nf=0:=by
 have hpo:=c.pool
 rw [hX] at hpo
 cases hf:X.free with
 | none=>exact ⟨rfl,hpo.1 hf⟩
 | some d =>
  obtain ⟨e1,e2,nb',pl,s,qs,p⟩:=hpo.2 d hf
  have hnb:nb'=nb:=by
   have h1:=p.len
   have h2:=hG.len
   rw [e1] at h2
   simp at h2;omega
  subst hnb
  obtain ⟨q,h1,n',h2,h3⟩:=p.slot j _ hs
  replace h2:x=_:=h2
  subst h2
  rcases a with ⟨_,_,h4 | h4⟩ | a | a
  rotate_right 2
  ·cases a.1
  ·cases a.1
  ·obtain ⟨s,q,n,z1,z2,h',r,e,_⟩:=h4;cases e
  ·obtain ⟨q,n,m,f,z1,z2,e,_⟩:=h4;cases e
theorem seat_not_free {cx:St X} {h:Hp} {n:TN P cv L} (hs:SeatAt X cx h (.act n:Slot P cv L)) {g:Game} {wg m:Nat} {q:g.θ} {h':Hp} (hf:FreeSt wg m q h' (.act n:Slot P cv L)):False:=by
 obtain ⟨ph,e1,pk⟩:=hs
 obtain ⟨n',e2,_⟩:=hf
 have h1:TX.isFree n.x=false:=by
  rw [e1]
  generalize cx.st=st at pk
  cases pk <;> rfl
 rw [e2] at h1;cases h1
theorem cfg_comm1 (c:Cfg W0 gs w t M sl hp) (hX:M.x=.game X) (hG:GameAt X gs w t sl hp nb) (hs:sl[nb+j]?=some (.act ⟨fr,cs,h,x,.comm o cases true sh O at_ rr a k⟩)) (hg:gs[nb+j+1]?=some g) (hr:Runs g fr cs) :
  ∃ gs' w' ops M' sl' hp',runT P (crowd gs w sc) (nb+j+1)=(.next (crowd gs' w' sc),ops)∧Cfg W0 gs' w' (t++ops) M' sl' hp'∧Less gs' M' sl' gs M sl:=by
 have hlt:=(List.getElem?_eq_some_iff.1 hs).1
 have hIlt:nb+j+1<gs.size:=(Array.getElem?_eq_some_iff.1 hg).1
 have hh:h=hp (nb+j+1):=(hG.know j _ hs).2.1
 have hdj:Deaf t (nb+j+1)=0:=(hG.know j _ hs).2.2
 have hfit:Fits h w:=by rw [hh];exact c.mem.fits _
 have hno:=c.comm_turns hX hG hs
 obtain ⟨cx,hj⟩:∃ cx:St X,X.seats[j]?=some cx:=by
  have:=hG.len
  exact ⟨X.seats[j]'(by omega),List.getElem?_eq_getElem _⟩
 have hseat:SeatAt X cx (hp (nb+j+1)) (.act ⟨fr,cs,h,x,.comm o cases true sh O at_ rr a k⟩:Slot P cv L):=by
  obtain ⟨s,h1,h2⟩:=hG.seat j cx hj
  rw [hs] at h1;cases h1;exact h2
 have hstep:stepG P ((nb+j+1) == 0) g w=.comm (G fr cs) cases true sh w #[]:=by
  show stepG P false g w=_
  rw [hr.step];exact step_comm at_ (rr w hfit)
 obtain ⟨g0,hg0,hm⟩:=c.main
 have h0lt:0<gs.size:=(Array.getElem?_eq_some_iff.1 hg0).1
 have hfo:∀ i,partners (gs.setIfInBounds i ph) cx.fin true=[]:=fun i=>stand_nil c hX hG hj (a:=2) (b:=true) (by omega) (fun _ h=>by simp at h) (fun _ h=>by simp at h)
 obtain ⟨_,rfl,hcase⟩:=thr_comm hseat
 -- it waits
 have wait:(∀ cc∈cases,NoWays w (gs.setIfInBounds (nb+j+1) ph) cc)→cx.st.isShut=false →
   (∀ (cases:Array CommCase) (sh:CommShape),g0.status=.blocked→g0.offers=some (cases,sh)→(∀ z,cases≠#[rcase cx.says z])∧∀ v z,cases≠#[scase cx.turn v z]) →
   ∃ gs' w' ops M' sl' hp',runT P (crowd gs w sc) (nb+j+1)=(.next (crowd gs' w' sc),ops)∧Cfg W0 gs' w' (t++ops) M' sl' hp'∧Less gs' M' sl' gs M sl:=by
  intro hnw hsh hn
  have hw:=crowd_waits (sl:=sc) hg hstep hnw
  refine ⟨_,_,_,M,sl,hp,hw,?_,.inr (.inr ⟨rfl,rfl,nrun_set hg hr.status rfl⟩)⟩
  rw [ofEvents_none,Array.append_empty]
  exact Cfg.stall1 c hX hG (gp:=parked (G fr cs) cases .select) hs (.inr ⟨cases,.select,⟨rfl,rfl,rfl,rfl,rfl⟩,fr,cs,h,x,o,O,at_,rr,a,k,rfl⟩) hj hsh fun g0' cs' sh' h1=>by rw [hg0] at h1;cases h1;exact hn cs' sh'
 rcases hcase with ⟨s,q,n,z1,z2,h1,r,hst,hln,rfl,hsp,hU,hO⟩ | ⟨q,n,m,f,z1,z2,hst,hln,hpl,rfl,hO,hOc⟩
 ·-- it would say where it stands
  obtain ⟨kc,hch⟩:=hG.chan j cx hj 0 (by omega)
  replace hch:w.heap[cx.says]?=some (.chan 0 #[] false kc kc false):=hch
  obtain ⟨kf,hcf⟩:=hG.chan j cx hj 2 (by omega)
  replace hcf:w.heap[cx.fin]?=some (.chan 0 #[] false kf kf false):=by rw [hst] at hcf;exact hcf
  have hfin:NoWays w (gs.setIfInBounds (nb+j+1) ph) (rcase cx.fin z2):=ways_recv_none hcf (hfo _)
  have nomain:offersAt g0 cx.says false=[]→∀ cc∈#[scase cx.says (X.g.says q) z1,rcase cx.fin z2],NoWays w (gs.setIfInBounds (nb+j+1) ph) cc:=by
   intro hno cc hcc
   simp at hcc
   rcases hcc with rfl | rfl
   ·refine ways_send_none hch (Nat.zero_le _) ?_
    exact stand_nil c hX hG hj (a:=0) (b:=false) (by omega) (fun _ _ g hg=>by rw [hg0] at hg;cases hg;exact hno) (fun h _=>absurd rfl h)
   ·exact hfin
  rcases hm with hrun | ⟨cases0,sh0,hpk,hn⟩ | ⟨hsl,_⟩
  ·exact wait (nomain (offersAt_of_not_blocked (by rw [hrun.status];simp) _ _)) (by rw [hst];rfl) fun cs' sh' hb=>by rw [hrun.status] at hb;cases hb
  ·obtain ⟨fr',cs',hh',x',o',O',at',rr',a',k',rfl⟩:=hn
   have hpe:g0=parked (G fr' cs') cases0 sh0:=hpk.eq
   replace hX:x'=.game X:=hX
   subst hX
   obtain ⟨_,jm,cm,hwt,hdf,hjm,hcase⟩:=main_comm a'
   have notj:(∀ z,cases0≠#[rcase cx.says z])→∃ gs' w' ops M' sl' hp',runT P (crowd gs w sc) (nb+j+1)=(.next (crowd gs' w' sc),ops)∧Cfg W0 gs' w' (t++ops) M' sl' hp'∧Less gs' M' sl' gs (⟨fr',cs',hh',.game X,.comm o' cases0 true sh0 O' at' rr' a' k'⟩:MN P cv L Em) sl:=by
    intro hne
    refine wait (nomain ?_) (by rw [hst];rfl) fun cs'' sh'' _ ho=>?_
    ·refine Decidable.byContradiction fun ho=>?_
     rcases offers_at c rfl hG hj (a:=0) (b:=false) (by omega) hg0 ho with ⟨_,⟨_,_,z,sh,h⟩ | ⟨h,_⟩⟩ | ⟨h,_⟩
     ·have:=hpk.offers;rw [h.offers] at this;cases this;exact hne z rfl
     ·cases h
     ·omega
    ·rw [hpk.offers] at ho;cases ho
     refine ⟨hne,fun v z e=>?_⟩
     rcases hcase with ⟨z0,s0,q0,e0,_⟩ | ⟨z0,q0,m0,f0,s0,l0,h0',r0,e0,_,est,_⟩
     ·rw [e] at e0;simp [rcase,scase] at e0
     ·rw [e] at e0
      have ech:cx.turn=cm.turn:=by simpa [scase] using congrArg (fun a=>a.map CommCase.chan) e0
      obtain ⟨rfl,_⟩:=hG.dist jm j cm cx 1 1 hjm hj (by omega) (by omega) ech.symm
      rw [hjm] at hj;cases hj
      rw [hst] at est;cases est
   rcases hcase with ⟨z,s0,q0,hcs,hsh0,hst0,htk,hOm⟩ | ⟨z,q0,m0,f0,s0,l0,h0',r0,hcs,_⟩
   ·by_cases e:jm=j
    ·subst e
     rw [hjm] at hj;cases hj
     rw [hst] at hst0;cases hst0
     subst hsh0
     have hgp:gs[0]?=some (parked (G fr' cs') #[rcase cx.says z] (.recv false)):=by rw [hg0,hpe,hcs]
     have hoff:partners (gs.setIfInBounds (nb+jm+1) ph) cx.says false=[(0,0)]:=by
      have:=stand_main c rfl hG hjm (a:=0) (b:=false) (i:=nb+jm+1) (by omega) (by omega) hg0 (.inl ⟨rfl,rfl⟩)
      rw [hpe,hcs] at this
      simpa [Seat.ch,offersAt_parked_recv] using this
     have hhm:hp 0=hh':=c.hp0
     have hspl:Split (hp (nb+jm+1)) h1 r:=by rw [← hh];exact hsp
     have hsep:Sep (hp 0) r:=(hspl.frz2.sep (c.mem.sep (nb+jm+1) 0 (by omega))).symm
     have hspl0:Split ((hp 0).join r) hh' r:=by rw [← hhm];exact split_join (c.mem.fits 0) (hspl.frz2.fits (c.mem.fits _)) hsep
     have hOm:=hOm r ((hp 0).join r) hU hspl0
     have hrunT:=crowd_sel_send_meets (sl:=sc) (k:=0) (v:=X.g.says q) (z:=z1) hg hstep rfl (fun m' c' hm' hc'=>by
      rcases m' with _ | _ | m'
      ·exact absurd rfl hm'
      ·simp at hc';subst hc';exact hfin
      ·simp at hc') hch (by omega) hgp hoff
     rw [ofEvents_none] at hrunT
     refine ⟨_,_,_,⟨fr'.finish (X.g.says q),cs',(hp 0).join r,_,k' _ _ _ hOm⟩,sl.set (nb+jm) (.act ⟨fr.finish (.tuple #[goInt 0,.bool false,z2]),cs,h1,_,k _ _ _ hO⟩),give hp (nb+jm+1) 0 h1 r,hrunT,?_,.inl (.comm _ _ _ hOm)⟩
     have e:∀ u:Trace,#[]++u=u:=fun u=>by simp
     rw [e]
     refine Cfg.met (c0:=0) (kc:=kc) (ha:=h1) (r:=r) (a:=nb+jm+1) (b:=0) (st':=.said q) (tk:=some s) (lf:=X.left) (ph':=X.g.next q n) c rfl hG hjm hs (.inr ⟨rfl,rfl⟩) (by simp) ⟨_,by rw [Array.getElem?_setIfInBounds_ne (by omega),Array.getElem?_setIfInBounds_self_of_lt h0lt],⟨rfl,rfl,rfl,rfl⟩⟩
      ⟨_,by rw [Array.getElem?_setIfInBounds_self_of_lt (by simpa using hIlt)],⟨congrArg fr.finish res_says,rfl,rfl,rfl⟩⟩
      (fun i h1 h2=>by rw [Array.getElem?_setIfInBounds_ne fun e=>h2 e.symm,Array.getElem?_setIfInBounds_ne fun e=>h1 e.symm]) (by omega) hch rfl ⟨rfl,rfl,rfl⟩ hspl rfl ?_ ?_ rfl (by rw [hst];rfl) rfl ?_ (Nat.le_refl _) (fun h=>by cases h) (fun _=>rfl) ?_ hwt ?_ hdf
     ·rw [give_b]
     ·rw [give_a (by omega)]
     ·unfold Game.next
      cases hq:X.g.plan q with
      | none=>exact .over hq
      | some y=>exact .said hln (by rw [hq];rfl)
     ·obtain ⟨j1,c1,e1,e2,e3⟩:=hG.tok0 htk
      intro j' c' hj' hne
      by_cases e:j'=j1
      ·subst e
       exfalso
       have:=e3 jm cx hjm fun e=>hne e.symm
       rw [hst] at this;cases this
      ·exact e3 j' c' hj' e
     ·rcases hG.adp hwt with h | ⟨_,h⟩
      ·rw [hno.2] at h;exact h
      ·rw [htk] at h;cases h
    ·refine notj fun z' e'=>e ?_
     rw [e'] at hcs
     have ech:cx.says=cm.says:=by simpa [rcase] using congrArg (fun a=>a.map CommCase.chan) hcs
     exact (hG.dist jm j cm cx 0 0 hjm hj (by omega) (by omega) ech.symm).1
   ·refine notj fun z' e'=>?_
    rw [e'] at hcs
    simp [rcase,scase] at hcs
  ·exact wait (nomain (offers_none hsl.offers _ _)) (by rw [hst];rfl) fun cs' sh' hb ho=>by rw [hsl.offers] at ho;cases ho
 ·-- it would have a turn
  obtain ⟨kc,hch⟩:=hG.chan j cx hj 1 (by omega)
  replace hch:w.heap[cx.turn]?=some (.chan 0 #[] false kc kc false):=hch
  obtain ⟨kf,hcf⟩:=hG.chan j cx hj 2 (by omega)
  have nomain:offersAt g0 cx.turn true=[]→NoWays w (gs.setIfInBounds (nb+j+1) ph) (rcase cx.turn z1):=by
   intro hno
   refine ways_recv_none hch ?_
   exact stand_nil c hX hG hj (a:=1) (b:=true) (by omega) (fun _ _ g hg=>by rw [hg0] at hg;cases hg;exact hno) (fun h _=>absurd rfl h)
  rcases hst with hst | hst
  ·replace hcf:w.heap[cx.fin]?=some (.chan 0 #[] false kf kf false):=by rw [hst] at hcf;exact hcf
   have hfin:NoWays w (gs.setIfInBounds (nb+j+1) ph) (rcase cx.fin z2):=ways_recv_none hcf (hfo _)
   have both:offersAt g0 cx.turn true=[]→∀ cc∈#[rcase cx.turn z1,rcase cx.fin z2],NoWays w (gs.setIfInBounds (nb+j+1) ph) cc:=by
    intro hno cc hcc
    simp at hcc
    rcases hcc with rfl | rfl
    ·exact nomain hno
    ·exact hfin
   rcases hm with hrun | ⟨cases0,sh0,hpk,hn⟩ | ⟨hsl,_⟩
   ·exact wait (both (offersAt_of_not_blocked (by rw [hrun.status];simp) _ _)) (by rw [hst];rfl) fun cs' sh' hb=>by rw [hrun.status] at hb;cases hb
   ·obtain ⟨fr',cs',hh',x',o',O',at',rr',a',k',rfl⟩:=hn
    have hpe:g0=parked (G fr' cs') cases0 sh0:=hpk.eq
    replace hX:x'=.game X:=hX
    subst hX
    obtain ⟨_,jm,cm,hwt,hdf,hjm,hcase⟩:=main_comm a'
    have notj:(∀ v z,cases0≠#[scase cx.turn v z])→∃ gs' w' ops M' sl' hp',runT P (crowd gs w sc) (nb+j+1)=(.next (crowd gs' w' sc),ops)∧Cfg W0 gs' w' (t++ops) M' sl' hp'∧Less gs' M' sl' gs (⟨fr',cs',hh',.game X,.comm o' cases0 true sh0 O' at' rr' a' k'⟩:MN P cv L Em) sl:=by
     intro hne
     refine wait (both ?_) (by rw [hst];rfl) fun cs'' sh'' _ ho=>?_
     ·refine Decidable.byContradiction fun ho=>?_
      rcases offers_at c rfl hG hj (a:=1) (b:=true) (by omega) hg0 ho with ⟨_,⟨h,_⟩ | ⟨_,_,v,z,sh,h⟩⟩ | ⟨h,_⟩
      ·cases h
      ·have:=hpk.offers;rw [h.offers] at this;cases this;exact hne v z rfl
      ·omega
     ·rw [hpk.offers] at ho;cases ho
      refine ⟨fun z e=>?_,hne⟩
      rcases hcase with ⟨z0,s0,q0,e0,_,est,_⟩ | ⟨z0,q0,m0,f0,s0,l0,h0',r0,e0,_⟩
      ·rw [e] at e0
       have ech:cx.says=cm.says:=by simpa [rcase] using congrArg (fun a=>a.map CommCase.chan) e0
       obtain ⟨rfl,_⟩:=hG.dist jm j cm cx 0 0 hjm hj (by omega) (by omega) ech.symm
       rw [hjm] at hj;cases hj
       rw [hst] at est;cases est
      ·rw [e] at e0;simp [rcase,scase] at e0
    rcases hcase with ⟨z,s0,q0,hcs,_⟩ | ⟨z,q0,m0,f0,s0,l0,h0',r0,hcs,hsh0,hst0,hpl0,htk,hlf,had,hsp,hU,hOm⟩
    ·refine notj fun v' z' e'=>?_
     rw [e'] at hcs
     simp [rcase,scase] at hcs
    ·by_cases e:jm=j
     ·subst e
      rw [hjm] at hj;cases hj
      rw [hst] at hst0;cases hst0
      rw [hpl] at hpl0;cases hpl0
      subst hsh0
      have hln:=hln hst
      obtain ⟨n',rfl⟩:∃ n',n=n'+1:=⟨n-1,by omega⟩
      have hgp:gs[0]?=some (parked (G fr' cs') #[scase cx.turn (.agg #[]) z] .send):=by rw [hg0,hpe,hcs]
      have hoff:partners (gs.setIfInBounds (nb+jm+1) ph) cx.turn true=[(0,0)]:=by
       have:=stand_main c rfl hG hjm (a:=1) (b:=true) (i:=nb+jm+1) (by omega) (by omega) hg0 (.inr ⟨rfl,rfl⟩)
       rw [hpe,hcs] at this
       simpa [Seat.ch,offersAt_parked_send] using this
      have hhm:hp 0=hh':=c.hp0
      have hspl:Split (hp 0) h0' r0:=by rw [hhm];exact hsp
      have hsep:Sep (hp (nb+jm+1)) r0:=(hspl.frz2.sep (c.mem.sep 0 (nb+jm+1) (by omega))).symm
      have hspl1:Split ((hp (nb+jm+1)).join r0) h r0:=by rw [hh];exact split_join (c.mem.fits _) (hspl.frz2.fits (c.mem.fits _)) hsep
      have hOt:=hO n' s0 r0 ((hp (nb+jm+1)).join r0) rfl hU hspl1
      have hrunT:=crowd_sel_recv_meets (sl:=sc) (k:=0) (v:=.agg #[]) (z:=z1) hg hstep rfl (fun m' c' hm' hc'=>by
       rcases m' with _ | _ | m'
       ·exact absurd rfl hm'
       ·simp at hc';subst hc';exact hfin
       ·simp at hc') hch (by omega) hgp hoff
      rw [ofEvents_none] at hrunT
      refine ⟨_,_,_,⟨fr'.finish undef,cs',h0',_,k' _ _ _ hOm⟩,sl.set (nb+jm) (.act ⟨fr.finish (.tuple #[goInt 0,.bool true,.agg #[],z2]),cs,(hp (nb+jm+1)).join r0,_,k _ _ _ hOt⟩),give hp 0 (nb+jm+1) h0' r0,hrunT,?_,.inl (.comm _ _ _ hOm)⟩
      have e:∀ u:Trace,#[]++u=u:=fun u=>by simp
      rw [e]
      refine Cfg.met (c0:=1) (kc:=kc) (ha:=h0') (r:=r0) (a:=0) (b:=nb+jm+1) (st':=.run (f s0).1 (f s0).2) (tk:=none) (lf:=l0) (ph':=.busy (f s0).1 (f s0).2 n') c rfl hG hjm hs (.inl ⟨rfl,rfl⟩) (by simp) ⟨_,by rw [Array.getElem?_setIfInBounds_ne (by omega),Array.getElem?_setIfInBounds_self_of_lt h0lt],⟨rfl,rfl,rfl,rfl⟩⟩
       ⟨_,by rw [Array.getElem?_setIfInBounds_self_of_lt (by simpa using hIlt)],⟨congrArg fr.finish res_turn,rfl,rfl,rfl⟩⟩
       (fun i h1 h2=>by rw [Array.getElem?_setIfInBounds_ne fun e=>h2 e.symm,Array.getElem?_setIfInBounds_ne fun e=>h1 e.symm]) (by omega) hch rfl ⟨rfl,rfl,rfl⟩ hspl rfl ?_ ?_ rfl (by rw [hst];rfl) rfl (.run (by omega)) (by omega) (fun _=>rfl) (fun h=>by cases h) ?_ hwt had hdf
      ·rw [give_a (by omega)]
      ·rw [give_b]
      ·intro j' c' hj' _
       exact hG.tok1 (by rw [htk];rfl) j' c' hj'
     ·refine notj fun v' z' e'=>e ?_
      rw [e'] at hcs
      have ech:cx.turn=cm.turn:=by simpa [scase] using congrArg (fun a=>a.map CommCase.chan) hcs
      exact (hG.dist jm j cm cx 1 1 hjm hj (by omega) (by omega) ech.symm).1
   ·exact wait (both (offers_none hsl.offers _ _)) (by rw [hst];rfl) fun cs' sh' hb ho=>by rw [hsl.offers] at ho;cases ho
  ·-- it is cut off
   replace hcf:w.heap[cx.fin]?=some (.chan 0 #[] true kf kf false):=by rw [hst] at hcf;exact hcf
   have hno:offersAt g0 cx.turn true=[]:=by
    refine Decidable.byContradiction fun ho=>?_
    rcases hm with hrun | ⟨cases0,sh0,hpk,hn⟩ | ⟨hsl,_⟩
    ·exact ho (offersAt_of_not_blocked (by rw [hrun.status];simp) _ _)
    ·obtain ⟨fr',cs',hh',x',o',O',at',rr',a',k',rfl⟩:=hn
     replace hX:x'=.game X:=hX
     subst hX
     rcases offers_at c rfl hG hj (a:=1) (b:=true) (by omega) hg0 ho with ⟨_,⟨h,_⟩ | ⟨_,_,v,z,sh,h⟩⟩ | ⟨h,_⟩
     ·cases h
     ·obtain ⟨_,jm,cm,hwt,hdf,hjm,hcase⟩:=main_comm a'
      have:=hpk.offers;rw [h.offers] at this;cases this
      rcases hcase with ⟨z0,s0,q0,e0,_⟩ | ⟨z0,q0,m0,f0,s0,l0,h0',r0,e0,_,est,_⟩
      ·simp [rcase,scase] at e0
      ·have ech:cx.turn=cm.turn:=by simpa [scase] using congrArg (fun a=>a.map CommCase.chan) e0
       obtain ⟨rfl,_⟩:=hG.dist jm j cm cx 1 1 hjm hj (by omega) (by omega) ech.symm
       rw [hjm] at hj;cases hj
       rw [hst] at est;cases est
     ·omega
    ·exact ho (offers_none hsl.offers _ _)
   have hrunT:=crowd_sel_recv_closed (sl:=sc) (k:=1) (z:=z2) hg hstep rfl (fun m' c' hm' hc'=>by
    rcases m' with _ | _ | m'
    ·simp at hc';subst hc';exact nomain hno
    ·exact absurd rfl hm'
    ·simp at hc') hcf (hfo _)
   rw [ofEvents_none] at hrunT
   refine ⟨_,_,_,M,sl.set (nb+j) (.act ⟨fr.finish (.tuple #[goInt 1,.bool false,z1,z2]),cs,h,_,k _ _ _ hOc⟩),hp,hrunT,?_,.inr (.inl ⟨rfl,Falls.set hs (Relation.TransGen.single (.comm _ _ _ hOc))⟩)⟩
   have e:∀ u:Trace,#[]++u=u:=fun u=>by simp
   rw [e]
   have hst1:(sl.map Slot.stage)[nb+j]?=some 7:=by rw [List.getElem?_map,hs];rfl
   obtain ⟨u,hu⟩:∃ u:Trace,u=#[{ g:=nb+j+1,fn:=(G fr cs).frame.fn,pos:=(G fr cs).frame.place,act:=.recvClosed cx.fin }]:=⟨_,rfl⟩
   have hug:∀ op∈u,op.g=nb+j+1:=fun op ho=>by rw [hu] at ho;simp at ho;subst ho;rfl
   have hum:∀ op∈u,op.act.touch?=none:=fun op ho=>by rw [hu] at ho;simp at ho;subst ho;rfl
   have hup:∀ op∈u,Plain op:=fun op ho m hm=>by rw [hu] at ho;simp at ho;subst ho;cases hm
   rw [← hu]
   refine Cfg.slot c hX hG hs (gs_set hIlt) (by simp [Goroutine.finishComm]) Side.refl (fun b _=>rfl) rfl (hG.wg.far hst1 (by omega) (by show 4≤7;omega) fun _ _ h=>h) ⟨hug,fun op ho b hb=>(by rw [hum op ho] at hb;cases hb),fun op ho a e=>(by rcases hup op ho _ e with h | ⟨f,h⟩ <;> cases h)⟩
    (.inl ⟨congrArg fr.finish res_cut,rfl,rfl,rfl⟩) ⟨kn_mute (hG.know j _ hs).1 (fun i h=>h.app u) hum,hh,by rw [Deaf_plain hup];exact hdj⟩ (fun c' hc'=>?_) (fun _ _ _ _ _ hfs=>(seat_not_free hseat hfs).elim) (fun g1 hg1 hb1 ho1=>?_)
   ·rw [hj] at hc';cases hc'
    exact ⟨_,rfl,by rw [hst];exact .shutC⟩
   ·rw [Array.getElem?_setIfInBounds_ne (by omega)] at hg1
    exact (hG.sleep g1 hg1 hb1 ho1).2
end
theorem crowd_try_room {w₁:World} {g₂:Goroutine} {es:Array Event} {i c cap s r:Nat} {buf:Array Value} {tm:Bool} {v z:Value} {shape:CommShape} (hi:gs[i]?=some g) (h:stepG P (i == 0) g w=.comm g₂ #[scase c v z] false shape w₁ es) (hc:w₁.heap[c]?=some (.chan cap buf false s r tm))
  (hp:partners (gs.setIfInBounds i ph) c false=[]) (hlt:buf.size<cap) :
  runT P (crowd gs w sc) i=(.next (crowd (gs.setIfInBounds i (g₂.finishComm P #[scase c v z] shape 0 undef false)) (w₁.setChan c cap (buf.push v) false (s+1) r tm) sc),
   MemOp.ofEvents i g.frame.fn g.frame.place es++#[{ g:=i,fn:=g₂.frame.fn,pos:=g₂.frame.place,act:=.send c s },{ g:=i,fn:=g₂.frame.fn,pos:=g₂.frame.place,act:=.sendDone c s }]):=by
 rw [runT_crowd_comm hi h]
 simp [communicate,ways,scase,hc,hp,hlt,choose,Sem.run,Question.forced,bind,Sem.bind,pure,World.setChan,crowd,Array.setIfInBounds_setIfInBounds]
theorem crowd_try_full {w₁:World} {g₂:Goroutine} {es:Array Event} {i c cap s r:Nat} {buf:Array Value} {tm:Bool} {v z:Value} {shape:CommShape} (hi:gs[i]?=some g) (h:stepG P (i == 0) g w=.comm g₂ #[scase c v z] false shape w₁ es) (hc:w₁.heap[c]?=some (.chan cap buf false s r tm))
  (hp:partners (gs.setIfInBounds i ph) c false=[]) (hle:cap≤buf.size) :
  runT P (crowd gs w sc) i=(.next (crowd (gs.setIfInBounds i (g₂.finishComm P #[scase c v z] shape (-1) undef false)) w₁ sc),MemOp.ofEvents i g.frame.fn g.frame.place es):=by
 have hn:¬ buf.size<cap:=by omega
 rw [runT_crowd_comm hi h]
 simp [communicate,ways,scase,hc,hp,hn,crowd,Array.setIfInBounds_setIfInBounds]
theorem part_nil (c:Cfg W0 gs w t M sl hp) {ch i:Nat} {b:Bool} (hno:∀ X,M.x=.game X→∀ (j:Nat) (cx:St X) a,X.seats[j]?=some cx→a<3→cx.ch a≠ch):partners (gs.setIfInBounds i ph) ch b=[]:=by
 refine partners_nil fun k g hk=>?_
 rcases getElem?_stand gs i k g hk with ⟨_,rfl⟩ | ⟨hne,hk⟩
 ·exact offersAt_ph _ _
 have hgame:=c.game
 cases k with
 | zero =>
  obtain ⟨g',h1,h2⟩:=c.main
  rw [hk] at h1;cases h1
  rcases h2 with h | ⟨cases,sh,h,hn⟩ | ⟨h,_⟩
  ·exact offersAt_of_not_blocked (by rw [h.status];simp) _ _
  ·obtain ⟨fr,cs,hh,x,o,O,at_,rr,aa,k,rfl⟩:=hn
   cases hM:x with
   | idle =>
    subst hM
    exact absurd h.status (hgame.runs g hk)
   | game X =>
    subst hM
    obtain ⟨_,jm,cm,_,_,hm,hcase⟩:=main_comm aa
    rcases hcase with ⟨z,s,q,rfl,rfl,_⟩ | ⟨z,q,m,f,s,l,h',r,rfl,rfl,_⟩
    ·have hne:cm.says≠ch:=hno X rfl jm cm 0 hm (by omega)
     rw [h.eq]
     cases b with
     | true=>rw [offersAt_parked_recv']
     | false=>rw [offersAt_parked_recv,if_neg hne]
    ·have hne:cm.turn≠ch:=hno X rfl jm cm 1 hm (by omega)
     rw [h.eq]
     cases b with
     | true=>rw [offersAt_parked_send,if_neg hne]
     | false=>rw [offersAt_parked_send']
  ·exact offers_none h.offers _ _
 | succ k =>
  have hlt:k<sl.length:=by have:=c.size;have:=(Array.getElem?_eq_some_iff.1 hk).1;omega
  obtain ⟨s,hs⟩:∃ s,sl[k]?=some s:=⟨sl[k],List.getElem?_eq_getElem hlt⟩
  obtain ⟨g',h1,h2⟩:=c.thr k s hs
  rw [hk] at h1;cases h1
  cases s with
  | out k' m =>
   cases k' with
   | zero=>exact offersAt_of_not_blocked (fun h=>by have:=QuitsD.status (P:=P) (n:=m) h2;rw [h] at this;rcases this with h | h <;> cases h) _ _
   | succ k'=>exact offersAt_of_not_blocked (fun h=>by have:=zg_running (k:=k'+1) h2;rw [h] at this;cases this) _ _
  | act n =>
   rcases h2 with h | ⟨cases,sh,h,hn⟩
   ·exact offersAt_of_not_blocked (by rw [h.status];simp) _ _
   ·cases hM:M.x with
    | idle=>rw [hM] at hgame;obtain ⟨m',e⟩:=(hgame.old k _ hs).out;cases e
    | game X =>
     rw [hM] at hgame
     obtain ⟨nb,hG⟩:=hgame
     have hin:nb≤k:=Nat.le_of_not_lt fun hlt=>by obtain ⟨m',e⟩:=(hG.old k _ hlt hs).out;cases e
     obtain ⟨j',rfl⟩:∃ j',k=nb+j':=⟨k-nb,by omega⟩
     obtain ⟨fr,cs,hh,x,o,O,at_,rr,aa,k,rfl⟩:=hn
     have hnf:=c.comm_turns hM hG hs
     obtain ⟨c',hc'⟩:∃ c':St X,X.seats[j']?=some c':=by
      have:=hG.len
      exact ⟨X.seats[j']'(by omega),List.getElem?_eq_getElem _⟩
     obtain ⟨s',h3,h4⟩:=hG.seat j' c' hc'
     rw [hs] at h3;cases h3
     have n0:c'.says≠ch:=hno X hM j' c' 0 hc' (by omega)
     have n1:c'.turn≠ch:=hno X hM j' c' 1 hc' (by omega)
     have n2:c'.fin≠ch:=hno X hM j' c' 2 hc' (by omega)
     obtain ⟨_,rfl,⟨s,q,n,z1,z2,h1',r,_,_,rfl,_⟩ | ⟨q,n,m,f,z1,z2,_,_,_,rfl,_⟩⟩:=thr_comm h4
     ·rw [h.eq,offers_sr,if_neg n0,if_neg n2];cases b <;> rfl
     ·rw [h.eq,offers_rr,if_neg n1,if_neg n2];cases b <;> rfl
def triedU (a:Nat) (fn:FuncId) (pos:String) (c s:Nat):Trace:=#[{ g:=a,fn,pos,act:=.send c s },{ g:=a,fn,pos,act:=.sendDone c s }]
theorem triedU_mute {a:Nat} {fn:FuncId} {pos:String} {c s:Nat}:(∀ op∈triedU a fn pos c s,op.g=a)∧(∀ op∈triedU a fn pos c s,op.act.touch?=none)∧(∀ op∈triedU a fn pos c s,Plain op)∧∀ op∈triedU a fn pos c s,∀ x,op.act≠.mark (.release x):=by
 refine ⟨fun op ho=>?_,fun op ho=>?_,fun op ho m hm=>?_,fun op ho x hx=>?_⟩ <;> (simp only [triedU,List.mem_toArray,List.mem_cons,List.not_mem_nil,or_false] at ho;rcases ho with rfl | rfl) <;> first | rfl | cases hm | cases hx
theorem res_room {c:Nat} {v z:Value}:commResult #[scase c v z] .select ((0:Nat):Int) undef false=.tuple #[goInt 0,.bool false]:=by
 simp [commResult,scase]
theorem res_full {c:Nat} {v z:Value}:commResult #[scase c v z] .select (-1) undef false=.tuple #[goInt (-1),.bool false]:=by
 simp [commResult,scase]
theorem try_own {a:Nat} {h:Hp} {o:Oper} (at_:AtOp fr o) (c:Cfg W0 gs w t M sl hp) (ha:hp a=h) (hg:gs[a]?=some g) (hr:Runs g fr cs) {ch cap s r:Nat} {buf:Array Value} {tm:Bool} {v z:Value} (hob:h.obj ch=some (.chan cap buf false s r tm))
  (rr:∀ w,Fits h w→(execOp fr.eval o).runT P w #[]=(.ok (.comm #[scase ch v z] false .select) w,#[])) :
  (buf.size<cap→∃ gs' w' ops,runT P (crowd gs w sc) a=(.next (crowd gs' w' sc),ops)∧Own a (hp a) w w' (h.setObj ch (.chan cap (buf.push v) false (s+1) r tm)) ops∧Gs P a gs gs' (G (fr.finish (.tuple #[goInt 0,.bool false])) cs)) ∧
  (cap≤buf.size→∃ gs' ops,runT P (crowd gs w sc) a=(.next (crowd gs' w sc),ops)∧Own a (hp a) w w h ops∧Gs P a gs gs' (G (fr.finish (.tuple #[goInt (-1),.bool false])) cs)):=by
 have hfit:Fits h w:=by rw [← ha];exact c.mem.fits _
 have hlt:a<gs.size:=(Array.getElem?_eq_some_iff.1 hg).1
 have hc:=hfit.obj _ _ hob
 have hstep:stepG P (a == 0) g w=.comm (G fr cs) #[scase ch v z] false .select w #[]:=by rw [hr.step];exact step_comm at_ (rr w hfit)
 have hp:partners (gs.setIfInBounds a ph) ch false=[]:=part_nil c fun X hX j cx b hj hb e=>by
  have hgame:=c.game
  rw [hX] at hgame
  obtain ⟨nb,hG⟩:=hgame
  have:=hG.noch a j cx b hj hb
  rw [e,ha,hob] at this;cases this
 refine ⟨fun hl=>?_,fun hl=>?_⟩
 ·have hrunT:=crowd_try_room (sc:=sc) hg hstep hc hp hl
  rw [ofEvents_none,Array.empty_append] at hrunT
  obtain ⟨m1,m2,m3,_⟩:=triedU_mute (a:=a) (fn:=(G fr cs).frame.fn) (pos:=(G fr cs).frame.place) (c:=ch) (s:=s)
  refine ⟨_,_,_,hrunT,⟨?_,m1,fun op ho b hb=>(by rw [m2 op ho] at hb;cases hb),m3⟩,?_⟩
  ·rw [ha];exact Guar.setObj hfit (by rw [hob];rfl) (.chan cap (buf.push v) false (s+1) r tm) rfl
  ·have e:Goroutine.finishComm P (G fr cs) #[scase ch v z] .select 0 undef false=G (fr.finish (.tuple #[goInt 0,.bool false])) cs:=by
    unfold Goroutine.finishComm;rw [show (0:Int)=((0:Nat):Int) from rfl,res_room];rfl
   rw [e];exact gs_set hlt
 ·have hrunT:=crowd_try_full (sc:=sc) hg hstep hc hp hl
  rw [ofEvents_none] at hrunT
  refine ⟨_,_,hrunT,⟨(by rw [ha];exact .refl hfit),fun op ho=>(by simp at ho),fun op ho=>(by simp at ho),fun op ho=>(by simp at ho)⟩,?_⟩
  have e:Goroutine.finishComm P (G fr cs) #[scase ch v z] .select (-1) undef false=G (fr.finish (.tuple #[goInt (-1),.bool false])) cs:=by
   unfold Goroutine.finishComm;rw [res_full];rfl
  rw [e];exact gs_set hlt
end
end Go.PB
namespace Go.PB
open Go.Conc Go.Conc.Lib
open Go.ConcR (KK stA smA rd wr mk DC0)
variable {W0:World} {P:Program} {cv:Value} {L:WgLink} {Em:Frame→List Frame→Hp→MX→Prop}
theorem wakes_may {g:Goroutine} {fr:Frame} {cs:List Frame} {o:Oper} (r:Runs g fr cs) (a:AtOp fr o) (h:wakes o=true):mayWake P g=true:=by
 obtain ⟨hm,_,ops,i,l,k,htd,ho,_⟩:=a
 unfold mayWake
 rw [r.frame,hm,htd]
 simp only [ho,Option.map_some]
 unfold wakes at h
 generalize o.op=op at h ⊢
 cases op <;> first | (simp at h;done) | skip
 rename_i c
 obtain ⟨cl,_,_⟩:=c
 cases cl <;> first | rfl | simp at h
theorem seen_shut {fn:FuncId} {b:Nat}:seen P fn #[⟨.obj b,false,true⟩,⟨.obj b,true,true⟩]=#[⟨.obj b,false,true⟩,⟨.obj b,true,true⟩]:=by simp [seen]
section
variable {gs:Array Goroutine} {w:World} {t:Trace} {sl:List (Slot P cv L)} {hp:Nat→Hp} {g:Goroutine} {sc:Option (Nat × Nat)} {X:GX}
 {fr:Frame} {cs:List Frame} {h:Hp} {o:Oper} {O:Value→Hp→MX→Prop} {at_:AtOp fr o} {ne:fr.kind≠.early}
 {a:(mHand P cv L.done L.tWg).act (wakes o) (execOp fr.eval o) h (.game X) fun nx h' x'=>∃ v,nx=.value v∧O v h' x'} {k:∀ v h' x',O v h' x'→Run P (mHand P cv L.done L.tWg) true Em (fr.finish v) cs h' x'}
theorem cfg_sleep (c:Cfg W0 gs w t (⟨fr,cs,h,.game X,.act o O at_ ne a k⟩:MN P cv L Em) sl hp) (hg:gs[0]?=some g) (hr:Runs g fr cs) (hp1:X.wt=.parked) (hb:∃ es,(execOp fr.eval o).runT P w #[]=(.halt .blocked w,es)) (hn:¬ WgAt L.tWg X.wg w 0 1) :
  ∃ gs',runT P (crowd gs w sc) 0=(.next (crowd gs' w sc),#[])∧Cfg W0 gs' w t (⟨fr,cs,h,.game X,.act o O at_ ne a k⟩:MN P cv L Em) sl hp∧nrun gs'<nrun gs:=by
 obtain ⟨nb,hG⟩:∃ nb,GameAt X gs w t sl hp nb:=c.game
 obtain ⟨es,hb⟩:=hb
 have hst:stepG P ((0:Nat) == 0) g w=.go { G fr cs with status:=.blocked } w #[]:=by rw [hr.step];exact step_block at_ hb
 have hrunT:=runT_crowd_go (w:=w) (sl:=sc) hg hst
 have hid:woken P g { G fr cs with status:=.blocked } w=id:=by funext x;simp [woken]
 rw [hid,Array.map_id,ofEvents_none] at hrunT
 have hlt:0<gs.size:=(Array.getElem?_eq_some_iff.1 hg).1
 refine ⟨_,hrunT,?_,nrun_set hg hr.status rfl⟩
 generalize hgp:({ G fr cs with status:=.blocked }:Goroutine)=gp
 have hof:gp.offers=none:=by rw [← hgp];rfl
 have hoth:∀ i,i≠0→(gs.setIfInBounds 0 gp)[i]?=gs[i]?:=fun i hi=>Array.getElem?_setIfInBounds_ne fun e=>hi e.symm
 have hself:(gs.setIfInBounds 0 gp)[0]?=some gp:=Array.getElem?_setIfInBounds_self_of_lt hlt
 refine ⟨by rw [Array.size_setIfInBounds];exact c.size,⟨gp,hself,.inr (.inr ⟨by rw [← hgp];exact ⟨rfl,rfl,rfl,rfl,rfl⟩,fr,cs,h,.game X,o,O,at_,ne,a,k,rfl⟩)⟩,fun i sx hi=>by rw [hoth _ (by omega)];exact c.thr i sx hi,c.mem,c.aft,c.hp0,c.hpn,c.tg,c.kn0,?_,c.pool⟩
 exact ⟨nb,⟨hG.len,hG.old,hG.seat,hG.know,hG.chan,hG.dist,hG.noch,hG.nowg,hG.wg,hG.wgt,hG.deaf,hG.tok0,hG.tok1,hG.adp,hG.ads,hG.adl,fun k cx g hk hg=>by rw [hoth _ (by omega)] at hg;exact hG.live k cx g hk hg,fun g0 cases' shp hg hb ho'=>(by rw [hself] at hg;cases hg;rw [hof] at ho';cases ho'),fun g0 hg hb ho'=>⟨hp1,hn⟩,hG.cht⟩⟩
theorem cfg_shut (c:Cfg W0 gs w t (⟨fr,cs,h,.game X,.act o O at_ ne a k⟩:MN P cv L Em) sl hp) (hg:gs[0]?=some g) (hr:Runs g fr cs) {j:Nat} {cx:St X} {q0:X.g.θ} (hwt:X.wt=.play) (hdf:X.deaf=false) (had:X.ad=X.seats.length) (htk:X.tok.isSome=true) (hj:X.seats[j]?=some cx)
  (hst0:cx.st=.said q0) (hwk:wakes o=true) (hs:Shuts P (execOp fr.eval o) cx.fin) (hO:O unit h (.game { X with seats:=X.seats.set j { cx with st:=.shut q0 } })) :
  ∃ gs' w' ops,runT P (crowd gs w sc) 0=(.next (crowd gs' w' sc),ops)∧Cfg W0 gs' w' (t++ops) (⟨fr.finish unit,cs,h,_,k _ _ _ hO⟩:MN P cv L Em) sl hp:=by
 obtain ⟨nb,hG⟩:∃ nb,GameAt X gs w t sl hp nb:=c.game
 have hno:X.free=none∧X.nf=0:=c.turns rfl hj
 obtain ⟨kf,hcf⟩:=hG.chan j cx hj 2 (by omega)
 replace hcf:w.heap[cx.fin]?=some (.chan 0 #[] false kf kf false):=by rw [hst0] at hcf;exact hcf
 have hrun:=hs w kf kf false hcf
 generalize hw':({ w with heap:=w.heap.setIfInBounds cx.fin (.chan 0 #[] true kf kf false) }:World)=w' at hrun
 have hwh:w'.heap=w.heap.setIfInBounds cx.fin (.chan 0 #[] true kf kf false):=by rw [← hw']
 have hst:stepG P ((0:Nat) == 0) g w=.go (G (fr.finish unit) cs) w' (seen P fr.fn #[⟨.obj cx.fin,false,true⟩,⟨.obj cx.fin,true,true⟩]):=by rw [hr.step];exact step_value at_ ne hrun
 rw [seen_shut] at hst
 have hmw:mayWake P g=true:=wakes_may hr at_ hwk
 have q:=gs_go (P:=P) (g':=G (fr.finish unit) cs) (w':=w') hg
 have hrunT:=runT_crowd_go (w:=w) (sl:=sc) hg hst
 refine ⟨_,_,_,hrunT,?_⟩
 have hlive:∀ i g1,i≠0→gs[i]?=some g1→((gs.map (woken P g (G (fr.finish unit) cs) w')).setIfInBounds 0 (G (fr.finish unit) cs))[i]?=some (g1.again w'):=fun i g1 hi h1=>by
  rw [Array.getElem?_setIfInBounds_ne fun e=>hi e.symm,Array.getElem?_map,h1]
  simp [woken,hmw,G]
 generalize hgs':(gs.map (woken P g (G (fr.finish unit) cs) w')).setIfInBounds 0 (G (fr.finish unit) cs)=gs' at q hlive
 obtain ⟨u,hu⟩:∃ u,u=MemOp.ofEvents 0 g.frame.fn g.frame.place #[⟨.obj cx.fin,false,true⟩,⟨.obj cx.fin,true,true⟩]:=⟨_,rfl⟩
 have hug:∀ op∈u,op.g=0:=fun op ho=>by rw [hu] at ho;obtain ⟨e,_,rfl⟩:=ofEvents_mem ho;rfl
 have hut:∀ op∈u,∀ b,op.act.touch?=some b→b.loc=.obj cx.fin:=fun op ho b hb=>by
  rw [hu] at ho
  obtain ⟨e,h1,rfl⟩:=ofEvents_mem ho
  simp at h1
  rcases h1 with rfl | rfl
  ·have:(MemAct.ofEvent ⟨.obj cx.fin,false,true⟩).touch?=some ⟨.obj cx.fin,false,.atomic⟩:=rfl
   rw [this] at hb;cases hb;rfl
  ·have:(MemAct.ofEvent ⟨.obj cx.fin,true,true⟩).touch?=none:=rfl
   rw [this] at hb;cases hb
 have hup:∀ op∈u,Plain op:=fun op ho m hm=>by
  rw [hu] at ho
  obtain ⟨e,h1,rfl⟩:=ofEvents_mem ho
  simp at h1
  rcases h1 with rfl | rfl <;> cases hm
 rw [← hu]
 clear hu hrunT hgs'
 have hng:∀ i,i≠0→∀ op∈u,op.g≠i:=fun i hi op ho e=>hi (by rw [← e,hug op ho])
 obtain ⟨p1,p2,e1⟩:=hG.wg.ex
 have hwgne:cx.fin≠X.wg:=fun e=>by obtain ⟨_,e1,_⟩:=e1;rw [e] at hcf;rw [hcf] at e1;cases e1
 have hwg:∀ x y,WgAt L.tWg X.wg w x y→WgAt L.tWg X.wg w' x y:=fun x y h=>by
  exact h.of_heap (by rw [hwh,Array.getElem?_setIfInBounds_ne hwgne])
 have hrl:RL L.tWg X.wg w w':=fun ⟨x,y,h⟩=>⟨x,y,hwg _ _ h⟩
 have hnoch:∀ i,(hp i).obj cx.fin=none:=fun i=>hG.noch i j cx 2 hj (by omega)
 have hkn:∀ {K K':Nat→Prop} {i:Nat},Kn t K (hp i)→(∀ j,K j→K' j)→Kn (t++u) K' (hp i):=fun {K K' i} kk hK=>by
  refine ⟨fun b o v e n x hx hl=>?_,fun b o v e n x hx hl hw=>?_,fun b v e n x hx hl=>?_⟩
  ·rcases touch_split hx with hx | ⟨op,ho,_,h2⟩
   ·exact hK _ (kk.own _ _ _ e _ _ hx hl)
   ·rw [hut op ho x h2] at hl;cases hl
  ·rcases touch_split hx with hx | ⟨op,ho,_,h2⟩
   ·exact hK _ (kk.ro _ _ _ e _ _ hx hl hw)
   ·rw [hut op ho x h2] at hl;cases hl
  ·rcases touch_split hx with hx | ⟨op,ho,_,h2⟩
   ·exact hK _ (kk.obj _ _ e _ _ hx hl)
   ·rw [hut op ho x h2] at hl;cases hl
    rw [hnoch i] at e;cases e
 have hflt:cx.fin<w.heap.size:=(Array.getElem?_eq_some_iff.1 hcf).1
 have haft:Aft W0 w' hp (.game { X with seats:=X.seats.set j { cx with st:=.shut q0 } }):=by
  have hg:NewG W0 (.game X):=c.aft.game
  refine c.aft.at_block (c:=cx.fin) (hg.2 j cx 2 hj) (side_chan hcf rfl (by rw [← hw']) (by rw [← hw']) (by rw [← hw']) hwh) (fun b hb=>by rw [hwh,Array.getElem?_setIfInBounds_ne fun e=>hb e.symm]) (by rw [hwh];simp) ⟨hg.1,fun k c' d hk=>?_⟩
  obtain ⟨c1,h1,e1⟩:=seats_old hj hk
  rw [e1];exact hg.2 k c1 d h1
 refine ⟨by rw [q.size];exact c.size,⟨_,q.self,.inl runs_G⟩,fun i sx hi=>?_,⟨fun i=>fits_chan (n:=0) (n':=0) (c.mem.fits i) (hnoch i) hcf rfl rfl hwh,c.mem.sep,fun said=>noRace_append (c.mem.nr said) hug fun i b hb op ho b' hb' hc=>?_,fun i b hb=>?_,fun op ho b=>?_⟩,haft,c.hp0,c.hpn,fun i op hi=>?_,hkn (i:=0) c.kn0 fun j h=>h.app u,?_,⟨fun _=>hno.2,fun d hd=>by rw [hno.1] at hd;cases hd⟩⟩
 ·obtain ⟨g1,h1,h2⟩:=c.thr i sx hi
  obtain ⟨x,x',w2,h3⟩:=q.other (i+1) g1 (by omega) h1
  exact ⟨_,h3,slot_woken (Deaf_others (hng _ (by omega))) hrl h2⟩
 ·have h1:=hut op ho b' hb'
  obtain ⟨hl,_⟩:=hc
  exact hG.cht j cx 2 i b hj (by omega) hb (hl.trans h1)
 ·rw [hwh,Array.size_setIfInBounds]
  rcases touch_split hb with hb | ⟨op,ho,_,h2⟩
  ·exact c.mem.low i b hb
  ·have:=hut op ho b h2
   exact ⟨fun d hd=>by (rw [this] at hd;cases hd),fun r hr=>by rw [this] at hr;cases hr;exact hflt⟩
 ·rcases Array.mem_append.1 ho with ho | ho
  ·exact c.mem.norel op ho b
  ·intro e;rcases hup op ho _ e with h | ⟨f,h⟩ <;> cases h
 ·rcases getElem?_append_cases hi with ⟨_,h⟩ | ⟨_,h⟩
  ·exact c.tg i op h
  ·rw [hug op h];omega
 ·show ∃ nb,GameAt { X with seats:=X.seats.set j { cx with st:=.shut q0 } } gs' w' (t++u) sl hp nb
  refine ⟨nb,⟨by simpa using hG.len,fun i sx hi hc=>(hG.old i sx hi hc).app (hng _ (by omega)),fun k cx' hc=>?_,fun k sx hc=>(hG.know k sx hc).app (hng _ (by omega)) fun kk hK=>hkn kk hK,fun k cx' hc' d hd=>?_,fun k k' d d' x x' hk hk' hx hx' e=>?_,fun i k cx' d hk hd=>?_,hG.nowg,hG.wg.seats (by simp) hwg,fun n b o ho2 hb hl=>?_,by rw [Deaf_plain hup];exact hG.deaf,fun e=>?_,fun e k cx' hk=>?_,fun _=>.inl (by have:=hno.2;simpa [this] using had),fun h=>absurd hwt h,hG.adl,fun k cx' g1 hk hg1 hsx hb=>?_,fun g0 cases shp hg hb ho'=>?_,fun g0 hg hb ho'=>?_,fun k cx' d i x hk hd hx hl=>?_⟩⟩
  ·rcases seats_set hj hc with ⟨rfl,rfl⟩ | ⟨hk,hc⟩
   ·obtain ⟨sx,h1,h2⟩:=hG.seat k cx hj
    refine ⟨sx,h1,?_⟩
    cases sx with
    | act n =>
     obtain ⟨ph,e,p⟩:=h2
     refine ⟨ph,e,?_⟩
     rw [hst0] at p
     cases p with
     | said h hp=>exact .shutS hp
     | over hp=>exact .shutO
    | out k' m =>
     obtain ⟨h6,q',hq,hfin⟩:=h2
     refine ⟨h6,q',.inr ?_,hfin⟩
     rcases hq with ⟨hq,_⟩ | hq
     ·rw [hst0] at hq;cases hq;rfl
     ·rw [hst0] at hq;cases hq
   ·obtain ⟨sx,h1,h2⟩:=hG.seat k cx' hc
    exact ⟨sx,h1,seatAt_left (Nat.le_refl _) h2⟩
  ·obtain ⟨cq,hcq,hch⟩:=seats_old hj hc'
   rw [hch d]
   by_cases e:cq.ch d=cx.fin
   ·obtain ⟨rfl,rfl⟩:=hG.dist k j cq cx d 2 hcq hj hd (by omega) e
    rcases seats_set hj hc' with ⟨_,rfl⟩ | ⟨h,_⟩
    ·refine ⟨kf,?_⟩
     rw [e,hwh,Array.getElem?_setIfInBounds_self_of_lt hflt];rfl
    ·exact absurd rfl h
   ·obtain ⟨m,hm⟩:=hG.chan k cq hcq d hd
    refine ⟨m,?_⟩
    rw [hwh,Array.getElem?_setIfInBounds_ne fun h=>e h.symm]
    rcases seats_set hj hc' with ⟨rfl,rfl⟩ | ⟨_,h⟩
    ·rw [hj] at hcq;cases hcq
     have hd2:d≠2:=fun h=>by subst h;exact e rfl
     rw [hm];simp [hd2]
    ·rw [hcq] at h;cases h;exact hm
  ·obtain ⟨c1,h1,e1⟩:=seats_old hj hk
   obtain ⟨c2,h2,e2⟩:=seats_old hj hk'
   rw [e1,e2] at e
   exact hG.dist k k' c1 c2 x x' h1 h2 hx hx' e
  ·obtain ⟨c1,h1,e1⟩:=seats_old hj hk
   rw [e1];exact hG.noch i k c1 d h1 hd
  ·rcases touch_split hb with hb | ⟨op,ho,hi,h2⟩
   ·rcases hG.wgt n b o ho2 hb hl with this | ⟨k0,k1⟩
    ·refine .inl ⟨this.1,fun hsd=>?_⟩
     have h1:=this.2 hsd
     rw [g?_app (g?_lt h1)];exact h1
    ·exact .inr ⟨k0.app u,fun j' hj'=>(k1 j' (by simpa using hj')).app u⟩
   ·rw [hut op ho b h2] at hl;cases hl
  ·replace e:X.tok=none:=e
   rw [e] at htk;cases htk
  ·rcases seats_set hj hk with ⟨rfl,rfl⟩ | ⟨h,hk⟩
   ·rfl
   ·exact hG.tok1 htk k cx' hk
  ·rcases seats_set hj hk with ⟨rfl,rfl⟩ | ⟨h,hk⟩
   ·-- it's woken
    have hgj:=q.back _ _ (by omega) hg1 hb
    have hag:=hlive _ _ (by omega) hgj
    replace hag:=Option.some.inj (hg1.symm.trans hag)
    obtain ⟨sx,h1,h2⟩:=hG.seat k cx hj
    obtain ⟨g2,h3,h4⟩:=c.thr _ _ h1
    rw [hgj] at h3;cases h3
    cases sx with
    | out k' m =>
     cases k' with
     | zero=>have:=QuitsD.status (P:=P) (n:=m) h4;rw [hb] at this;rcases this with h | h <;> cases h
     | succ k'=>have:=zg_running (k:=k'+1) h4;rw [hb] at this;cases this
    | act n =>
     rcases h4 with h4 | ⟨cases,sh,h4,hn⟩
     ·rw [h4.status] at hb;cases hb
     ·obtain ⟨fr',cs',hh',x',o',O',at',rr',a',k',rfl⟩:=hn
      obtain ⟨_,rfl,⟨s1,q1,n1,z1,z2,h1',r,hst1,_⟩ | ⟨q1,n1,m1,f1,z1,z2,_,_,_,rfl,_⟩⟩:=thr_comm h2
      ·rw [hst0] at hst1;cases hst1
      ·have hcl:w'.heap[cx.fin]?=some (.chan 0 #[] true kf kf false):=by rw [hwh,Array.getElem?_setIfInBounds_self_of_lt hflt]
       have heq:=h4.eq
       have:=again_some_closed (g:=G fr' cs') (sh:=.select) (cs:=#[rcase cx.turn z1,rcase cx.fin z2]) (k:=1) (z:=z2) (w:=w') rfl hcl
       have e2:(g1.again w').status=.running:=by rw [heq,this]
       rw [← hag,hb] at e2
       cases e2
   ·exact hG.live k cx' g1 hk (q.back _ _ (by omega) hg1 hb) hsx hb
  ·rw [q.self] at hg;cases hg;cases hb
  ·rw [q.self] at hg;cases hg;cases hb
  ·obtain ⟨c1,h1,e1⟩:=seats_old hj hk
   rw [e1] at hl
   rcases touch_split hx with hx | ⟨op,ho,hi,h2⟩
   ·exact (hG.cht k c1 d i x h1 hd hx hl).app u
   ·have:=knows_own hi;rwa [hug op ho] at this
end
end Go.PB
namespace Go.PB
open Go.Conc Go.Conc.Lib
open Go.ConcR (KK stA smA rd wr mk DC0)
variable {W0:World} {P:Program} {cv:Value} {L:WgLink} {Em:Frame→List Frame→Hp→MX→Prop}
theorem star_join1 {c:HProp} {M:List HProp} {h h1 h2:Hp} (s1:Star [c] h1) (s2:Star M h2) (s:Split h h1 h2):Star (c::M) h:=by
 obtain ⟨a,b,sa,hc,_⟩:=s1
 refine ⟨a,h2,⟨fun b o v e=>s.r1 _ _ _ (sa.r1 _ _ _ e),s.r2,fun b o v e=>s.o1 _ _ _ (sa.o1 _ _ _ e),s.o2,fun b o=>?_,fun b v e=>s.b1 _ _ (sa.b1 _ _ e),s.b2,fun b=>?_,fun b y e=>s.s1 _ _ (sa.s1 _ _ e),s.s2⟩,hc,s2⟩
 ·rcases s.od b o with h | h
  ·exact .inl (none_of fun v e=>by rw [sa.o1 _ _ _ e] at h;cases h)
  ·exact .inr h
 ·rcases s.bd b with h | h
  ·exact .inl (none_of fun v e=>by rw [sa.b1 _ _ e] at h;cases h)
  ·exact .inr h
def parts (hp:Nat→Hp):Nat→Nat→Hp
 | _,0=>Hp.empty
 | i,n+1=>(hp i).join (parts hp (i+1) n)
section
variable {w:World} {t:Trace} {K:Nat→Prop} {hp:Nat→Hp}
theorem parts_sep {k:Hp}:∀ {n i:Nat},(∀ j,i≤j→j<i+n→Sep (hp j) k)→Sep (parts hp i n) k
 | 0,i,h=>sep_empty
 | n+1,i,h=>sep_join (h i (Nat.le_refl _) (by omega)) (parts_sep fun j h1 h2=>h j (by omega) (by omega))
theorem parts_fits (hf:∀ i,Fits (hp i) w) (hs:∀ i j,i≠j→Sep (hp i) (hp j)):∀ {n i:Nat},Fits (parts hp i n) w
 | 0,i=>fits_empty
 | n+1,i=>fits_join (hf i) (parts_fits hf hs) (parts_sep (n:=n) (i:=i+1) fun j h1 h2=>hs j i (by omega)).symm
theorem parts_kn:∀ {n i:Nat},(∀ j,i≤j→j<i+n→Kn t K (hp j))→Kn t K (parts hp i n)
 | 0,i,h=>kn_empty
 | n+1,i,h=>kn_join (h i (Nat.le_refl _) (by omega)) (parts_kn fun j h1 h2=>h j (by omega) (by omega))
theorem parts_own:∀ {n i:Nat} {b o:Nat} {v:Value},(parts hp i n).own b o=some v→∃ k,(hp k).own b o=some v
 | 0,i,_,_,_,e=>by cases e
 | n+1,i,_,_,_,e=>by
  rcases or_some e with e | ⟨_,e⟩
  ·exact ⟨i,e⟩
  ·exact parts_own e
theorem parts_obj:∀ {n i:Nat} {b:Nat} {v:Obj},(parts hp i n).obj b=some v→∃ k,(hp k).obj b=some v
 | 0,i,_,_,e=>by cases e
 | n+1,i,_,_,e=>by
  rcases or_some e with e | ⟨_,e⟩
  ·exact ⟨i,e⟩
  ·exact parts_obj e
theorem parts_star {σ:Type} {f:σ→HProp} (hf:∀ i,Fits (hp i) w) (hs:∀ i j,i≠j→Sep (hp i) (hp j)):∀ {l:List σ} {i:Nat},(∀ j c,l[j]?=some c→Star [f c] (hp (i+j)))→Star (l.map f) (parts hp i l.length)
 | [],i,h=>trivial
 | c::l,i,h=>by
  refine star_join1 (h 0 c rfl) (parts_star (l:=l) (i:=i+1) hf hs fun j c' hc=>?_) (split_join (hf i) (parts_fits hf hs) (parts_sep (n:=l.length) (i:=i+1) fun j h1 h2=>hs j i (by omega)).symm)
  have:=h (j+1) c' (by simpa using hc)
  rwa [show i+(j+1)=i+1+j by omega] at this
end
section
variable {gs:Array Goroutine} {w:World} {t:Trace} {sl:List (Slot P cv L)} {hp:Nat→Hp} {g:Goroutine} {sc:Option (Nat × Nat)} {X:GX}
 {fr:Frame} {cs:List Frame} {h:Hp} {o:Oper} {O:Value→Hp→MX→Prop} {at_:AtOp fr o} {ne:fr.kind≠.early}
 {a:(mHand P cv L.done L.tWg).act (wakes o) (execOp fr.eval o) h (.game X) fun nx h' x'=>∃ v,nx=.value v∧O v h' x'} {k:∀ v h' x',O v h' x'→Run P (mHand P cv L.done L.tWg) true Em (fr.finish v) cs h' x'}
theorem cfg_acquire (c:Cfg W0 gs w t (⟨fr,cs,h,.game X,.act o O at_ ne a k⟩:MN P cv L Em) sl hp) (hg:gs[0]?=some g) (hr:Runs g fr cs) (hwt:X.wt=.zero) (hdf:X.deaf=false) (hnq:∀ d,X.free=some d→X.nf=d.q0.length) (hs:Says P (execOp fr.eval o) (.acquire ⟨X.wg,0,none⟩))
  (hO:∀ r h',X.ends r→Split h' h r→O unit h' .idle) :
  ∃ gs' ops h' q hp',runT P (crowd gs w sc) 0=(.next (crowd gs' w sc),ops)∧Cfg W0 gs' w (t++ops) (⟨fr.finish unit,cs,h',.idle,k unit h' .idle q⟩:MN P cv L Em) sl hp':=by
 obtain ⟨nb,hG⟩:∃ nb,GameAt X gs w t sl hp nb:=c.game
 obtain ⟨f,hf⟩:=hs
 have hst:stepG P ((0:Nat) == 0) g w=.go (G (fr.finish unit) cs) w #[⟨.mark (.acquire ⟨X.wg,0,none⟩),false,true⟩]:=by
  rw [hr.step]
  have:=step_value (cs:=cs) (main:=((0:Nat) == 0)) at_ ne (hf w)
  rw [seen_one (by simp)] at this
  exact this
 have q:=gs_go (P:=P) (g':=G (fr.finish unit) cs) (w':=w) hg
 have hrunT:=runT_crowd_go (w:=w) (sl:=sc) hg hst
 obtain ⟨u,hu⟩:∃ u,u=MemOp.ofEvents 0 g.frame.fn g.frame.place #[⟨.mark (.acquire ⟨X.wg,0,none⟩),false,true⟩]:=⟨_,rfl⟩
 have hh:hp 0=h:=c.hp0
 have hads:=hG.ads (by rw [hwt];simp)
 have hlen:=hG.len
 -- all are out
 obtain ⟨v,hat,hv,hlate,hb⟩:=hG.wg.quiet0 (by rw [hwt];simp)
 rw [hwt] at hb
 replace hb:v=0:=hb
 subst hb
 have hcnt:((sl.map Slot.stage).filter fun k=>decide (4≤k)).length=0:=by omega
 have hout:∀ (i:Nat) (s:Slot P cv L),sl[i]?=some s→∃ m,s=.out 0 m:=by
  intro i s hi
  have h1:(sl.map Slot.stage)[i]?=some s.stage:=by rw [List.getElem?_map,hi];rfl
  have h2:=hlate _ (List.mem_of_getElem? h1)
  have h3:¬ 4≤s.stage:=fun h4=>by
   have:=count_pos (p:=fun k=>decide (4≤k)) h1 (by simpa using h4)
   omega
  cases s with
  | act n=>exact absurd (show 4≤7 by omega) h3
  | out k m =>
   have:k=0:=by
    rcases h2 with h2 | h2
    ·exact h2
    ·exact absurd h2 h3
   subst this;exact ⟨m,rfl⟩
 have hug:∀ op∈u,op.g=0:=fun op ho=>by rw [hu] at ho;obtain ⟨e,_,rfl⟩:=ofEvents_mem ho;rfl
 have hum:∀ op∈u,op.act.touch?=none:=fun op ho=>by
  rw [hu] at ho
  obtain ⟨e,h1,rfl⟩:=ofEvents_mem ho
  simp at h1;subst h1;rfl
 have hur:∀ op∈u,∀ a,op.act≠.mark (.release a):=fun op ho a=>by
  rw [hu] at ho
  obtain ⟨e,h1,rfl⟩:=ofEvents_mem ho
  simp at h1;subst h1;intro e;cases e
 have hd0:Deaf t 0=0:=by rw [hG.deaf,hdf];rfl
 have hd0':Deaf (t++u) 0=0:=by rw [hu,Deaf_own,hd0];rfl
 have e0:(t++u)[t.size]?=some { g:=0,fn:=g.frame.fn,pos:=g.frame.place,act:=.mark (.acquire ⟨X.wg,0,none⟩) }:=by
  rw [hu,ofEvents_eq,Array.getElem?_append_right (Nat.le_refl _)];simp;rfl
 have hknow:∀ i p,Rel t X.wg i p→Knows (t++u) 0 p:=by
  intro i p hr
  have hp:=g?_lt hr.g
  have hr':=hr.app u
  refine ⟨t.size,_,e0,rfl,.inr (Relation.TransGen.single (.inr ⟨.marked hp (.inr hr'.act) (act?_of e0) (fun k h1 h2 hk=>?_),hr'.heard,⟨0,g?_of e0,by rw [deaf_old (Nat.le_refl _)];exact hd0⟩⟩))⟩
  rw [act?_old h2] at hk
  obtain ⟨op,ho,hx⟩:=Option.map_eq_some_iff.1 hk
  exact c.mem.norel op (Array.mem_of_getElem? ho) _ hx
 have hng:∀ i,i≠0→∀ op∈u,op.g≠i:=fun i hi op ho e=>hi (by rw [← e,hug op ho])
 have hknj:∀ j,j<X.seats.length+X.nf→Kn (t++u) (Knows (t++u) 0) (hp (nb+1+j))∧AllK (t++u) (nb+1+j) (Knows (t++u) 0):=by
  intro j hj
  obtain ⟨s,h1⟩:∃ s,sl[nb+j]?=some s:=⟨_,List.getElem?_eq_getElem (by omega)⟩
  have hkn:=hG.know j s h1
  obtain ⟨m,rfl⟩:=hout _ s h1
  rw [show nb+1+j=nb+j+1 by omega]
  obtain ⟨h6,_⟩ | ⟨_,⟨p,hr,hk,hall⟩,_⟩:=hkn
  ·omega
  have hK:∀ i,Before t i p→Knows (t++u) 0 i:=fun i hi=>Knows.of_before (hi.app u) (hknow _ p hr)
  exact ⟨kn_mute hk hK hum,hall.app hK (hng _ (by omega))⟩
 have hpool:∃ r,X.ends r∧Fits r w∧Sep r (hp 0)∧Kn (t++u) (Knows (t++u) 0) r∧(∀ b o v,r.own b o=some v→W0.heap.size≤b)∧(∀ b v,r.obj b=some v→W0.heap.size≤b):=by
  have hpo:PoolOk W0 (.game X) w t sl hp:=c.pool
  have hsepP:∀ n,Sep (parts hp (nb+1) n) (hp 0):=fun n=>parts_sep fun j h1 h2=>c.mem.sep j 0 (by omega)
  have hfitP:∀ n,Fits (parts hp (nb+1) n) w:=fun n=>parts_fits c.mem.fits c.mem.sep
  have hownP:∀ n b o v,(parts hp (nb+1) n).own b o=some v→W0.heap.size≤b:=fun n b o v e=>by obtain ⟨k,e⟩:=parts_own e;exact c.aft.own k b o v e
  have hobjP:∀ n b v,(parts hp (nb+1) n).obj b=some v→W0.heap.size≤b:=fun n b v e=>by obtain ⟨k,e⟩:=parts_obj e;exact c.aft.obj k b v e
  have hknP:∀ n,n≤X.seats.length+X.nf→Kn (t++u) (Knows (t++u) 0) (parts hp (nb+1) n):=fun n hn=>parts_kn fun j h1 h2=>by
   have:=(hknj (j-(nb+1)) (by omega)).1
   rwa [show nb+1+(j-(nb+1))=j by omega] at this
  cases hfr:X.free with
  | none =>
   refine ⟨parts hp (nb+1) X.seats.length,?_,hfitP _,hsepP _,hknP _ (by omega),hownP _,hobjP _⟩
   unfold GX.ends
   rw [hfr]
   show Star (X.seats.map Seat.fins) _
   refine parts_star c.mem.fits c.mem.sep fun j cx hj=>?_
   obtain ⟨s,h1,h2⟩:=hG.seat j cx hj
   obtain ⟨m,rfl⟩:=hout _ s h1
   rw [show nb+1+j=nb+j+1 by omega]
   obtain ⟨_,q',hq,hstar⟩:=h2
   have hsh:=hads.2 j cx hj
   unfold Seat.fins
   cases hst:cx.st with
   | run s q=>rw [hst] at hsh;cases hsh
   | said q=>rw [hst] at hsh;cases hsh
   | shut q =>
    rw [hst] at hq
    rcases hq with ⟨hq,_⟩ | hq
    ·cases hq
    ·cases hq;exact hstar
  | some d =>
   obtain ⟨e1,e2,nb',pl,s,qs,p⟩:=hpo.2 d hfr
   have hnb:nb'=nb:=by
    have h1:=p.len
    have h2:=hG.len
    rw [e1] at h2
    simp at h2;omega
   subst hnb
   have hnf:X.nf=qs.length:=(hnq d hfr).trans p.qlen.symm
   have hall:∀ (j:Nat) (q:X.g.θ),qs[j]?=some q→X.g.plan q=none∧Star [X.g.Fin q] (hp (nb'+1+j)):=fun j q hq=>by
    have hlt:=(List.getElem?_eq_some_iff.1 hq).1
    have hl:=p.len
    obtain ⟨sx,h1⟩:∃ sx,sl[nb'+j]?=some sx:=⟨_,List.getElem?_eq_getElem (by omega)⟩
    obtain ⟨q',h2,h3⟩:=p.slot j sx h1
    rw [hq] at h2;cases h2
    obtain ⟨m,rfl⟩:=hout _ sx h1
    rw [show nb'+1+j=nb'+j+1 by omega]
    exact h3
   have hsepL:Sep (parts hp (nb'+1) qs.length) pl:=parts_sep fun j _ _=>p.sep j
   refine ⟨pl.join (parts hp (nb'+1) qs.length),?_,fits_join p.fits (hfitP _) hsepL.symm,sep_join (p.sep 0).symm (hsepP _),kn_join ⟨fun b o v e i a ha hl=>?_,fun b o v e i a ha hl hw=>?_,fun b v e i a ha hl=>?_⟩ (hknP _ (by omega)),fun b o v e=>?_,fun b v e=>?_⟩
   ·unfold GX.ends
    rw [hfr]
    exact ⟨s,qs,p.inv,fun q hq=>(by obtain ⟨j,hj⟩:=List.getElem?_of_mem hq;exact (hall j q hj).1),p.qlen,pl,_,split_join p.fits (hfitP _) hsepL.symm,p.u,parts_star c.mem.fits c.mem.sep fun j q hj=>(hall j q hj).2⟩
   ·rcases touch_split ha with ha | ⟨op,ho,_,h2⟩
    ·rcases p.kno b o v e i a ha hl with ⟨_,h2,j,h3,h4⟩ | ⟨h1,_⟩
     ·refine (hknj j (by omega)).2 i ?_ ((counts_old (touchAt_lt ha)).2 h2)
      rw [g?_app (touchAt_lt ha),show nb'+1+j=nb'+j+1 by omega];exact h4
     ·exact h1.app u
    ·rw [hum op ho] at h2;cases h2
   ·rcases touch_split ha with ha | ⟨op,ho,_,h2⟩
    ·exact (p.knr b o v e i a ha hl hw).1.app u
    ·rw [hum op ho] at h2;cases h2
   ·rcases touch_split ha with ha | ⟨op,ho,_,h2⟩
    ·exact ((p.obj b v e).2 i a ha hl).app u
    ·rw [hum op ho] at h2;cases h2
   ·rcases or_some e with e | ⟨_,e⟩
    ·exact p.new b o v e
    ·exact hownP _ b o v e
   ·rcases or_some e with e | ⟨_,e⟩
    ·exact (p.obj b v e).1
    ·exact hobjP _ b v e
 obtain ⟨r,hends,hfitP,hsepP,hknP,hownP,hobjP⟩:=hpool
 have hspl:Split ((hp 0).join r) h r:=by rw [← hh];exact split_join (c.mem.fits 0) hfitP hsepP.symm
 refine ⟨_,u,_,hO _ _ hends hspl,fun i=>if i=0 then (hp 0).join r else Hp.empty,by rw [hu];exact hrunT,?_⟩
 clear hu hrunT
 have haft:Aft W0 w (fun i=>if i=0 then (hp 0).join r else Hp.empty) .idle:=by
  refine ⟨c.aft.after,fun i b o v e=>?_,fun i b v e=>?_,trivial⟩
  ·by_cases hi:i=0
   ·simp only [hi,if_true] at e
    rcases or_some e with e | ⟨_,e⟩
    ·exact c.aft.own 0 b o v e
    ·exact hownP b o v e
   ·simp only [hi,if_false] at e;cases e
  ·by_cases hi:i=0
   ·simp only [hi,if_true] at e
    rcases or_some e with e | ⟨_,e⟩
    ·exact c.aft.obj 0 b v e
    ·exact hobjP b v e
   ·simp only [hi,if_false] at e;cases e
 refine ⟨by rw [q.size];exact c.size,⟨_,q.self,.inl runs_G⟩,fun i sx hi=>?_,⟨fun i=>?_,fun i j hij=>?_,fun said=>race_mute (c.mem.nr said) hum,low_mute c.mem.low hum,fun op ho b=>(Array.mem_append.1 ho).elim (fun ho=>c.mem.norel op ho b) (fun ho=>hur op ho b)⟩,haft,rfl,fun i hi=>if_neg (by omega),fun i op hi=>?_,?_,?_,trivial⟩
 ·obtain ⟨g1,h1,h2⟩:=c.thr i sx hi
  obtain ⟨x,x',w2,h3⟩:=q.other (i+1) g1 (by omega) h1
  obtain ⟨m,rfl⟩:=hout i sx hi
  have:=slot_woken (d':=Deaf (t++u) (i+1)) (w':=w) (g:=x) (g':=x') (w2:=w2) (Deaf_others (hng _ (by omega))) (fun h=>h) h2
  exact ⟨_,h3,this⟩
 ·by_cases hi:i=0
  ·simp only [hi,if_true];exact fits_join (c.mem.fits 0) hfitP hsepP.symm
  ·simp only [hi,if_false];exact fits_empty
 ·by_cases hi:i=0
  ·have hj:j≠0:=fun h=>hij (hi.trans h.symm)
   simp only [hj,if_false];exact sep_empty.symm
  ·simp only [hi,if_false];exact sep_empty
 ·rcases getElem?_append_cases hi with ⟨_,h⟩ | ⟨_,h⟩
  ·exact c.tg i op h
  ·rw [hug op h];omega
 ·simp only [if_true]
  exact kn_join (kn_mute c.kn0 (fun j h=>h.app u) hum) hknP
 ·refine ⟨fun i s hi=>⟨hout i s hi,if_neg (by omega),?_⟩,hd0',fun g0 h0 hb=>by rw [q.self] at h0;cases h0;cases hb⟩
  by_cases hin:i<nb
  ·exact (hG.old i s hin hi).all.app (fun j h=>h.app u) (hng _ (by omega))
  ·have hlt:=(List.getElem?_eq_some_iff.1 hi).1
   have:=(hknj (i-nb) (by omega)).2
   rwa [show nb+1+(i-nb)=i+1 by omega] at this
end
end Go.PB
namespace Go.PB
open Go.Conc Go.Conc.Lib
open Go.ConcR (KK stA smA rd wr mk DC0)
variable {W0:World} {P:Program} {cv:Value} {L:WgLink} {Em:Frame→List Frame→Hp→MX→Prop}
theorem WgPh.more {X:GX} {cn:St X} {st:List Nat} {w:World} (p:WgPh L X st w) (hwt:X.wt=.play) (had:X.ad=X.seats.length+X.nf+1):WgPh L { X with tok:=none,seats:=X.seats++[cn] } (st++[7]) w:=by
 cases p with
 | quiet v wt a hv late hw park b =>
  refine .quiet v wt a ?_ (fun k hk=>?_) hw park b
  ·simp only [List.filter_append,List.length_append,List.length_cons,List.length_nil]
   have:(List.filter (fun k=>decide (4≤k)) [7]).length=1:=rfl
   omega
  ·rcases List.mem_append.1 hk with hk | hk
   ·exact late k hk
   ·simp at hk;omega
 | late p=>rw [hwt] at p;cases p
 | late1 p=>rw [hwt] at p;cases p
 | free p=>rw [hwt] at p;cases p
theorem empty_join {r:Hp}:Hp.empty.join r=r:=by
 cases r
 simp [Hp.join,Hp.empty]
section
variable {gs:Array Goroutine} {w:World} {t:Trace} {sl:List (Slot P cv L)} {hp:Nat→Hp} {g:Goroutine} {sc:Option (Nat × Nat)} {X:GX}
 {fr:Frame} {cs:List Frame} {h:Hp} {o:Oper} {d:Deferred} {O:Hp→MX→Prop} {at_:AtOp fr o} {rr:∀ w,Fits h w→(execOp fr.eval o).runT P w #[]=(.ok (.spawn d) w,#[])}
 {a:(mHand P cv L.done L.tWg).spawn d h (.game X) O} {k:∀ h' x',O h' x'→Run P (mHand P cv L.done L.tWg) true Em (fr.finish undef) cs h' x'}
theorem cfg_spawn (c:Cfg W0 gs w t (⟨fr,cs,h,.game X,.spawn o d O at_ rr a k⟩:MN P cv L Em) sl hp) (hg:gs[0]?=some g) (hr:Runs g fr cs)
  (hturn:∃ (X':GX) (s:X'.g.σ) (says turn fin:Nat) (hc h':Hp) (s':X'.g.σ) (q':X'.g.θ),MX.game X=.game X'∧X'.free=none∧X'.wt=.play∧X'.deaf=false∧X'.tok=some s∧X'.ad=X'.seats.length+1 ∧
   says≠turn∧says≠fin∧turn≠fin∧h.obj says=some newChan∧h.obj turn=some newChan∧h.obj fin=some newChan ∧
   Split h hc h'∧(∀ b,b=says∨b=turn∨b=fin→hc.obj b=none∧h'.obj b=none)∧(∃ f cap,d.target=.fn f cap) ∧
   Nonempty (Run P (tHand P cv) false (tEnd P L.done) (goFr P d) [] hc ⟨X'.g,says,turn,fin,X'.wg,.busy s' q' X'.left⟩)∧O h' (.game { X' with tok:=none,seats:=X'.seats++[⟨says,turn,fin,.run s' q'⟩] })) :
  ∃ gs' ops M' sl' hp',runT P (crowd gs w sc) 0=(.next (crowd gs' w sc),ops)∧Cfg W0 gs' w (t++ops) M' sl' hp'∧Below M' (⟨fr,cs,h,.game X,.spawn o d O at_ rr a k⟩:MN P cv L Em):=by
 obtain ⟨nb,hG⟩:∃ nb,GameAt X gs w t sl hp nb:=c.game
 have hh:hp 0=h:=c.hp0
 have hfit:Fits h w:=by rw [← hh];exact c.mem.fits 0
 obtain ⟨X',s,says,turn,fin,hc,h',s',q',eX,hfr,hwt,hdf,htk,had,n1,n2,n3,o1,o2,o3,hsp,hno,⟨f,cap,hd⟩,⟨run⟩,hO⟩:=hturn
 cases eX
 have hnf:X.nf=0:=c.pool.1 hfr
 replace had:X.ad=X.seats.length+X.nf+1:=by rw [hnf];exact had
 have hst:stepG P ((0:Nat) == 0) g w=.spawn (G (fr.finish undef) cs) (G (goFr P d) []) w #[]:=by rw [hr.step];exact step_spawn hd at_ (rr w hfit)
 have hrunT:=runT_crowd_spawn (w:=w) (sl:=sc) hg hst
 have hsize:=c.size
 have hlen:=hG.len
 have h0lt:0<gs.size:=by omega
 obtain ⟨u,hu⟩:∃ u:Trace,u=#[{ g:=0,fn:=g.frame.fn,pos:=g.frame.place,act:=.go gs.size },{ g:=gs.size,fn:=(G (goFr P d) []).frame.fn,pos:=g.frame.place,act:=.start }]:=⟨_,rfl⟩
 have hops:((MemOp.ofEvents 0 g.frame.fn g.frame.place #[]).push { g:=0,fn:=g.frame.fn,pos:=g.frame.place,act:=.go gs.size }).push { g:=gs.size,fn:=(G (goFr P d) []).frame.fn,pos:=g.frame.place,act:=.start }=u:=by
  rw [hu,ofEvents_none];simp
 rw [hops] at hrunT
 have hum:∀ op∈u,op.act.touch?=none:=fun op ho=>by rw [hu] at ho;simp at ho;rcases ho with rfl | rfl <;> rfl
 have hur:∀ op∈u,∀ x,op.act≠.mark (.release x):=fun op ho x=>by rw [hu] at ho;simp at ho;rcases ho with rfl | rfl <;> simp
 have hup:∀ op∈u,Plain op:=fun op ho m hm=>by rw [hu] at ho;simp at ho;rcases ho with rfl | rfl <;> cases hm
 have hug:∀ op∈u,op.g=0∨op.g=gs.size:=fun op ho=>by rw [hu] at ho;simp at ho;rcases ho with rfl | rfl <;> simp
 have hd0:Deaf t 0=0:=by rw [hG.deaf,hdf];rfl
 have hdI:Deaf t gs.size=0:=Go.ConcN.Deaf_absent fun i op ho e=>by have:=c.tg i op ho;omega
 have hknow:∀ i,Knows t 0 i→Knows (t++u) gs.size i:=fun i h=>by
  rw [hu]
  exact Go.ConcN.fork_knows ⟨rfl,rfl⟩ ⟨rfl,rfl⟩ hd0 hdI h
 have hng:∀ i,i≠0→i≠gs.size→∀ op∈u,op.g≠i:=fun i h1 h2 op ho e=>by rcases hug op ho with h | h <;> omega
 have hempty:hp gs.size=Hp.empty:=c.hpn _ (by omega)
 have hne:(0:Nat)≠gs.size:=by omega
 have hspl:Split (hp 0) h' hc:=by rw [hh];exact hsp.swap
 have hgI:give hp 0 gs.size h' hc gs.size=hc:=by rw [give_b,hempty,empty_join]
 have hgn:∀ i,i≠0→i≠gs.size→give hp 0 gs.size h' hc i=hp i:=fun i h1 h2=>give_ne h1 h2
 -- the new channels
 have hnew:∀ b,b=says∨b=turn∨b=fin→h.obj b=some newChan:=fun b hb=>by rcases hb with rfl | rfl | rfl <;> assumption
 have hnewno:∀ b,b=says∨b=turn∨b=fin→∀ i,(give hp 0 gs.size h' hc i).obj b=none:=by
  intro b hb i
  by_cases i1:i=0
  ·subst i1;rw [give_a hne];exact (hno b hb).2
  ·by_cases i2:i=gs.size
   ·subst i2;rw [hgI];exact (hno b hb).1
   ·rw [hgn i i1 i2]
    exact (c.mem.sep 0 i fun e=>i1 e.symm).bb _ _ (by rw [hh];exact hnew b hb)
 have hapart:∀ (j:Nat) (cx:St X) (x:Nat) (b:Nat),X.seats[j]?=some cx→x<3→(b=says∨b=turn∨b=fin)→cx.ch x≠b:=fun j cx x b hj hx hb e=>by
  have h1:=hG.noch 0 j cx x hj hx
  rw [hh,e,hnew b hb] at h1;cases h1
 have hch:∀ (x:Nat),(⟨says,turn,fin,.run s' q'⟩:St X).ch x=says∨(⟨says,turn,fin,.run s' q'⟩:St X).ch x=turn∨(⟨says,turn,fin,.run s' q'⟩:St X).ch x=fin:=fun x=>by
  unfold Seat.ch;split
  ·exact .inl rfl
  ·exact .inr (.inl rfl)
  ·exact .inr (.inr rfl)
 have hseats:∀ (j:Nat) (cx:St X),(X.seats++[(⟨says,turn,fin,.run s' q'⟩:St X)])[j]?=some cx→(j<X.seats.length∧X.seats[j]?=some cx)∨(j=X.seats.length∧cx=⟨says,turn,fin,.run s' q'⟩):=fun j cx hj=>by
  rcases Nat.lt_or_ge j X.seats.length with hlt | hge
  ·rw [List.getElem?_append_left hlt] at hj;exact .inl ⟨hlt,hj⟩
  ·rw [List.getElem?_append_right hge] at hj
   have:j-X.seats.length=0:=by
    have:=(List.getElem?_eq_some_iff.1 hj).1
    simp at this;omega
   rw [this] at hj;simp at hj
   exact .inr ⟨by omega,hj.symm⟩
 have hslots:∀ (i:Nat) (x:Slot P cv L) (z:Slot P cv L),(sl++[z])[i]?=some x→(i<sl.length∧sl[i]?=some x)∨(i=sl.length∧x=z):=fun i x z hi=>by
  rcases Nat.lt_or_ge i sl.length with hlt | hge
  ·rw [List.getElem?_append_left hlt] at hi;exact .inl ⟨hlt,hi⟩
  ·rw [List.getElem?_append_right hge] at hi
   have:i-sl.length=0:=by
    have:=(List.getElem?_eq_some_iff.1 hi).1
    simp at this;omega
   rw [this] at hi;simp at hi
   exact .inr ⟨by omega,hi.symm⟩
 have hgs0:((gs.setIfInBounds 0 (G (fr.finish undef) cs)).push (G (goFr P d) []))[0]?=some (G (fr.finish undef) cs):=by
  rw [Array.getElem?_push_lt (by simpa using h0lt),← Array.getElem?_eq_getElem]
  exact Array.getElem?_setIfInBounds_self_of_lt h0lt
 have hgsI:((gs.setIfInBounds 0 (G (fr.finish undef) cs)).push (G (goFr P d) []))[gs.size]?=some (G (goFr P d) []):=by
  have:=Array.getElem?_push_size (xs:=gs.setIfInBounds 0 (G (fr.finish undef) cs)) (x:=G (goFr P d) [])
  simpa using this
 have hgso:∀ i,i≠0→i<gs.size→((gs.setIfInBounds 0 (G (fr.finish undef) cs)).push (G (goFr P d) []))[i]?=gs[i]?:=fun i h1 h2=>by
  rw [Array.getElem?_push_lt (by simpa using h2),← Array.getElem?_eq_getElem]
  exact Array.getElem?_setIfInBounds_ne fun e=>h1 e.symm
 have hgsz:((gs.setIfInBounds 0 (G (fr.finish undef) cs)).push (G (goFr P d) [])).size=gs.size+1:=by simp
 generalize hgg:(gs.setIfInBounds 0 (G (fr.finish undef) cs)).push (G (goFr P d) [])=gs' at hgs0 hgsI hgso hgsz hrunT
 refine ⟨gs',u,⟨fr.finish undef,cs,h',_,k _ _ hO⟩,sl++[.act ⟨goFr P d,[],hc,_,run⟩],give hp 0 gs.size h' hc,hrunT,?_,.spawn _ _ hO⟩
 clear hu hrunT hops
 have hfits:=give_fits hne c.mem.fits c.mem.sep hspl
 have haft:Aft W0 w (give hp 0 gs.size h' hc) (.game { X with tok:=none,seats:=X.seats++[⟨says,turn,fin,.run s' q'⟩] }):=by
  have hg:NewG W0 (.game X):=c.aft.game
  refine c.aft.parts' (fun i b o v e=>?_) (fun i b v e=>?_) ⟨hg.1,fun j cx d hj=>?_⟩
  ·by_cases i1:i=0
   ·subst i1;rw [give_a hne] at e;exact ⟨0,hspl.o1 _ _ _ e⟩
   ·by_cases i2:i=gs.size
    ·subst i2;rw [hgI] at e;exact ⟨0,hspl.o2 _ _ _ e⟩
    ·rw [hgn i i1 i2] at e;exact ⟨i,e⟩
  ·by_cases i1:i=0
   ·subst i1;rw [give_a hne] at e;exact ⟨0,hspl.b1 _ _ e⟩
   ·by_cases i2:i=gs.size
    ·subst i2;rw [hgI] at e;exact ⟨0,hspl.b2 _ _ e⟩
    ·rw [hgn i i1 i2] at e;exact ⟨i,e⟩
  ·rcases hseats j cx hj with ⟨_,hj⟩ | ⟨_,rfl⟩
   ·exact hg.2 j cx d hj
   ·exact c.aft.obj 0 _ _ (by rw [hh];exact hnew _ (hch d))
 refine ⟨by rw [hgsz];simp;omega,⟨_,hgs0,.inl runs_G⟩,fun i sx hi=>?_,⟨hfits,give_sep hne c.mem.fits c.mem.sep hspl,fun said=>race_mute (c.mem.nr said) hum,low_mute c.mem.low hum,fun op ho b=>(Array.mem_append.1 ho).elim (fun ho=>c.mem.norel op ho b) (fun ho=>hur op ho b)⟩,haft,by rw [give_a hne],fun i hi=>?_,fun i op hi=>?_,?_,?_,?_⟩
 ·rcases hslots i sx _ hi with ⟨hlt,hi⟩ | ⟨rfl,rfl⟩
  ·obtain ⟨g1,h1,h2⟩:=c.thr i sx hi
   exact ⟨g1,by rw [hgso _ (by omega) (by omega)];exact h1,slot_rely (Deaf_others (hng _ (by omega) (by omega))) (fun h=>h) h2⟩
  ·exact ⟨_,by rw [← hsize];exact hgsI,.inl runs_G⟩
 ·simp at hi
  rw [hgn _ (by omega) (by omega)];exact c.hpn i (by omega)
 ·simp
  rcases getElem?_append_cases hi with ⟨_,h⟩ | ⟨_,h⟩
  ·have:=c.tg i op h;omega
  ·rcases hug op h with h | h <;> omega
 rotate_right
 ·exact ⟨fun _=>hnf,fun d hd=>by replace hd:X.free=some d:=hd;rw [hfr] at hd;cases hd⟩
 ·rw [give_a hne];exact kn_mute (hspl.frz1.kn c.kn0) (fun j h=>h.app u) hum
 ·show ∃ nb,GameAt { X with tok:=none,seats:=X.seats++[⟨says,turn,fin,.run s' q'⟩] } gs' w (t++u) _ _ nb
  refine ⟨nb,⟨by simp;omega,fun i sx hi hc=>?_,fun j cx hj=>?_,fun j sx hs=>?_,fun j cx hj x hx=>?_,fun j j' cx cx' x x' hj hj' hx hx' e=>?_,fun i j cx x hj hx=>?_,fun i o=>give_own hne hspl (fun i=>hG.nowg i o) i,by rw [List.map_append];exact hG.wg.more hwt had,fun i b o ho2 hb hl=>?_,by rw [Deaf_plain hup];exact hG.deaf,fun e=>?_,fun e=>(by cases e),fun _=>.inl (by simp;omega),fun h=>absurd hwt h,hG.adl,fun j cx g1 hj hg1 hsx hb=>?_,fun g0 cases shp hg hb ho'=>?_,fun g0 hg hb ho'=>?_,fun j cx x i b hj hx hb hl=>?_⟩⟩
  ·rcases hslots i sx _ hc with ⟨_,hc⟩ | ⟨h,_⟩
   ·rw [hgn _ (by omega) (by omega)]
    exact (hG.old i sx hi hc).app (hng _ (by omega) (by omega))
   ·omega
  ·rcases hseats j cx hj with ⟨hlt,hj⟩ | ⟨rfl,rfl⟩
   ·obtain ⟨sx,h1,h2⟩:=hG.seat j cx hj
    refine ⟨sx,by rw [List.getElem?_append_left (by omega)];exact h1,?_⟩
    rw [hgn _ (by omega) (by omega)]
    exact seatAt_left (Nat.le_refl _) h2
   ·exact ⟨.act ⟨goFr P d,[],hc,_,run⟩,by rw [List.getElem?_append_right (by omega),show nb+X.seats.length-sl.length=0 by omega];rfl,_,rfl,.run (Nat.le_refl _)⟩
  ·rcases hslots _ sx _ hs with ⟨hlt,hs⟩ | ⟨he,rfl⟩
   ·rw [hgn _ (by omega) (by omega)]
    exact (hG.know j sx hs).app (hng _ (by omega) (by omega)) fun kk hK=>kn_mute kk hK hum
   ·rw [show nb+j+1=gs.size by omega,hgI]
    exact ⟨kn_mute (hspl.frz2.kn c.kn0) hknow hum,rfl,by rw [Deaf_plain hup];exact hdI⟩
  ·rcases hseats j cx hj with ⟨hlt,hj⟩ | ⟨rfl,rfl⟩
   ·exact hG.chan j cx hj x hx
   ·refine ⟨0,?_⟩
    rw [hfit.obj _ _ (hnew _ (hch x))]
    show some newChan=some (Obj.chan 0 #[] (decide (x=2)&&false) 0 0 false)
    rw [Bool.and_false];rfl
  ·rcases hseats j cx hj with ⟨hlt,hj⟩ | ⟨rfl,rfl⟩
   ·rcases hseats j' cx' hj' with ⟨hlt',hj'⟩ | ⟨rfl,rfl⟩
    ·exact hG.dist j j' cx cx' x x' hj hj' hx hx' e
    ·exact absurd e (hapart j cx x _ hj hx (hch x'))
   ·rcases hseats j' cx' hj' with ⟨hlt',hj'⟩ | ⟨rfl,rfl⟩
    ·exact absurd e.symm (hapart j' cx' x' _ hj' hx' (hch x))
    ·refine ⟨rfl,?_⟩
     rcases x with _ | _ | _ | x <;> rcases x' with _ | _ | _ | x' <;> first | rfl | omega | (exact absurd e n1) | (exact absurd e n2) | (exact absurd e n3) | (exact absurd e.symm n1) | (exact absurd e.symm n2) | (exact absurd e.symm n3)
  ·rcases hseats j cx hj with ⟨hlt,hj⟩ | ⟨rfl,rfl⟩
   ·exact give_obj hne hspl (fun i=>hG.noch i j cx x hj hx) i
   ·exact hnewno _ (hch x) i
  ·rcases touch_split hb with hb | ⟨op,ho,hi,h2⟩
   ·rcases hG.wgt i b o ho2 hb hl with this | ⟨k0,k1⟩
    ·refine .inl ⟨this.1,fun hsd=>?_⟩
     have h1:=this.2 hsd
     rw [g?_app (g?_lt h1)];exact h1
    ·refine .inr ⟨k0.app u,fun j' hj'=>?_⟩
     simp only [List.length_append,List.length_cons,List.length_nil] at hj'
     rcases Nat.lt_or_ge j' (X.seats.length+X.nf) with hlt | hge
     ·exact (k1 j' hlt).app u
     ·rw [show nb+j'+1=gs.size by omega];exact hknow i k0
   ·rw [hum op ho] at h2;cases h2
  ·refine ⟨X.seats.length,⟨says,turn,fin,.run s' q'⟩,by simp,rfl,fun j' c' hj' hne'=>?_⟩
   rcases hseats j' c' hj' with ⟨hlt,hj'⟩ | ⟨rfl,rfl⟩
   ·exact hG.tok1 (by rw [htk];rfl) j' c' hj'
   ·exact absurd rfl hne'
  ·rcases hseats j cx hj with ⟨hlt,hj⟩ | ⟨rfl,rfl⟩
   ·rw [hgso _ (by omega) (by omega)] at hg1
    exact hG.live j cx g1 hj hg1 hsx hb
   ·cases hsx
  ·rw [hgs0] at hg;cases hg;cases hb
  ·rw [hgs0] at hg;cases hg;cases hb
  ·rcases touch_split hb with hb | ⟨op,ho,hi,h2⟩
   ·rcases hseats j cx hj with ⟨hlt,hj⟩ | ⟨rfl,rfl⟩
    ·exact (hG.cht j cx x i b hj hx hb hl).app u
    ·exact (c.kn0.obj _ _ (by rw [hh];exact hnew _ (hch x)) i b hb hl).app u
   ·rw [hum op ho] at h2;cases h2
end
end Go.PB
namespace Go.PB
open Go.Conc Go.Conc.Lib
open Go.ConcR (KK stA smA rd wr mk DC0)
variable {W0:World} {P:Program} {cv:Value} {L:WgLink} {Em:Frame→List Frame→Hp→MX→Prop}
section
variable {w:World} {t:Trace} {hp:Nat→Hp} {a:Nat} {h1:Hp}
theorem Mem.frz (m:Mem w t hp) (z:Frz (hp a) h1):Mem w t (put hp a h1) where
 fits:=fun i=>by
  by_cases hi:i=a
  ·subst hi;rw [put_self];exact z.fits (m.fits i)
  ·rw [put_ne hi];exact m.fits i
 sep:=fun i j hij=>by
  by_cases hi:i=a
  ·subst hi;rw [put_self,put_ne fun e=>hij e.symm];exact z.sep (m.sep _ _ hij)
  ·by_cases hj:j=a
   ·subst hj;rw [put_self,put_ne hi];exact (z.sep (m.sep _ _ fun e=>hij e.symm)).symm
   ·rw [put_ne hi,put_ne hj];exact m.sep _ _ hij
 nr:=m.nr
 low:=m.low
 norel:=m.norel
theorem Aft.frz {W0:World} {x x':MX} (A:Aft W0 w hp x) (z:Frz (hp a) h1) (hx:NewG W0 x'):Aft W0 w (put hp a h1) x':=by
 refine A.parts' (fun i b o v e=>?_) (fun i b v e=>?_) hx
 ·by_cases hi:i=a
  ·subst hi;rw [put_self] at e;exact ⟨i,z.own _ _ _ e⟩
  ·rw [put_ne hi] at e;exact ⟨i,e⟩
 ·by_cases hi:i=a
  ·subst hi;rw [put_self] at e;exact ⟨i,z.obj _ _ e⟩
  ·rw [put_ne hi] at e;exact ⟨i,e⟩
theorem frz_obj (z:Frz (hp a) h1) {x:Nat} (h:∀ i,(hp i).obj x=none) (i:Nat):(put hp a h1 i).obj x=none:=by
 by_cases hi:i=a
 ·subst hi;rw [put_self];exact none_of fun v e=>by have:=z.obj _ _ e;rw [h i] at this;cases this
 ·rw [put_ne hi];exact h i
theorem frz_own (z:Frz (hp a) h1) {x o:Nat} (h:∀ i,(hp i).own x o=none∧(hp i).ro x o=none) (i:Nat):(put hp a h1 i).own x o=none∧(put hp a h1 i).ro x o=none:=by
 by_cases hi:i=a
 ·subst hi;rw [put_self]
  refine ⟨none_of fun v e=>(by have:=z.own _ _ _ e;rw [(h i).1] at this;cases this),none_of fun v e=>?_⟩
  rcases z.ro _ _ _ e with e | ⟨e,_⟩
  ·rw [(h i).2] at e;cases e
  ·rw [(h i).1] at e;cases e
 ·rw [put_ne hi];exact h i
end
section
variable {gs:Array Goroutine} {w:World} {t:Trace} {M:MN P cv L Em} {sl:List (Slot P cv L)} {hp:Nat→Hp}
theorem Cfg.frz0 (c:Cfg W0 gs w t M sl hp) {h1:Hp} (z:Frz M.h h1) {M':MN P cv L Em} (hx:M'.x=M.x) (hh:M'.h=h1) (hm:∃ g,gs[0]?=some g∧MainG g M'):Cfg W0 gs w t M' sl (put hp 0 h1):=by
 have z0:Frz (hp 0) h1:=by rw [c.hp0];exact z
 have hpn:∀ i,i≠0→put hp 0 h1 i=hp i:=fun i hi=>put_ne hi
 have hfz:∀ i,Frz (hp i) (put hp 0 h1 i):=fun i=>by
  by_cases hi:i=0
  ·subst hi;rw [put_self];exact z0
  ·rw [hpn i hi];exact Frz.refl
 refine ⟨c.size,hm,fun i s hi=>by rw [hx];exact c.thr i s hi,c.mem.frz z0,c.aft.frz z0 (by rw [hx];exact c.aft.game),by rw [put_self,hh],fun i hi=>by rw [hpn _ (by omega)];exact c.hpn i hi,c.tg,by rw [put_self];exact z0.kn c.kn0,?_,by rw [hx];exact c.pool.same hfz hpn⟩
 have hgame:=c.game
 rw [hx]
 cases hM:M.x with
 | idle =>
  rw [hM] at hgame
  exact ⟨fun i s hi=>by have:=hgame.old i s hi;rw [show put hp 0 h1 (i+1)=hp (i+1) from hpn _ (by omega)];exact this,hgame.deaf,hgame.runs⟩
 | game X =>
  rw [hM] at hgame
  obtain ⟨nb,hG⟩:=hgame
  exact ⟨nb,⟨hG.len,fun i s h1' h2=>by rw [hpn _ (by omega)];exact hG.old i s h1' h2,fun j c hj=>by rw [hpn _ (by omega)];exact hG.seat j c hj,fun j s hs=>by rw [hpn _ (by omega)];exact hG.know j s hs,hG.chan,hG.dist,fun i j c a hj ha=>frz_obj z0 (fun i=>hG.noch i j c a hj ha) i,fun i o=>frz_own z0 (fun i=>hG.nowg i o) i,hG.wg,hG.wgt,hG.deaf,hG.tok0,hG.tok1,hG.adp,hG.ads,hG.adl,hG.live,hG.park,hG.sleep,hG.cht⟩⟩
theorem Cfg.frz1 (c:Cfg W0 gs w t M sl hp) {X:GX} {nb j:Nat} (hX:M.x=.game X) (hG:GameAt X gs w t sl hp nb) {n:TN P cv L} (hs:sl[nb+j]?=some (.act n)) {h1:Hp} (z:Frz (hp (nb+j+1)) h1) {s':Slot P cv L}
  (hst:s'.stage=7∨s'.stage=6) (hsg:∃ g,gs[nb+j+1]?=some g∧SlotG w X.wg (Deaf t (nb+j+1)) g s') (hkn:SlotKn t X.wg (nb+j+1) h1 s') (hsa:∀ c:St X,X.seats[j]?=some c→SeatAt X c h1 s') (hsp:∀ (m:Nat) (q:X.g.θ),FreeSt X.wg m q (hp (nb+j+1)) (.act n:Slot P cv L)→FreeSt X.wg m q h1 s') :
  Cfg W0 gs w t M (sl.set (nb+j) s') (put hp (nb+j+1) h1):=by
 have hlt:nb+j<sl.length:=(List.getElem?_eq_some_iff.1 hs).1
 have hpn:∀ i,i≠nb+j+1→put hp (nb+j+1) h1 i=hp i:=fun i hi=>put_ne hi
 have hstg:(sl.map Slot.stage)[nb+j]?=some 7:=by rw [List.getElem?_map,hs];rfl
 refine ⟨by rw [List.length_set];exact c.size,c.main,fun i s hi=>?_,c.mem.frz z,c.aft.frz z c.aft.game,by rw [hpn _ (by omega)];exact c.hp0,fun i hi=>by rw [List.length_set] at hi;rw [hpn _ (by omega)];exact c.hpn i hi,fun i op hi=>by rw [List.length_set];exact c.tg i op hi,by rw [hpn _ (by omega)];exact c.kn0,?_,?_⟩
 rotate_right
 ·have hpo:=c.pool
  rw [hX] at hpo ⊢
  refine ⟨hpo.1,fun d hd=>?_⟩
  obtain ⟨e1,e2,nb',pl,s,qs,p⟩:=hpo.2 d hd
  refine ⟨e1,e2,nb',pl,s,qs,?_⟩
  have:=p.step (u:=#[]) (sl':=sl.set (nb+j) s') (hp':=put hp (nb+j+1) h1) p.fits (fun i=>?_) (fun op ho=>by simp at ho) (by rw [List.length_set]) fun m q i sx hi=>?_
  ·rwa [Array.append_empty] at this
  ·by_cases hi:i=nb+j+1
   ·subst hi;rw [put_self];exact z.sep (p.sep _)
   ·rw [hpn i hi];exact p.sep i
  ·by_cases hij:i=nb+j
   ·subst hij
    simp [hlt] at hi
    subst hi
    exact ⟨_,hs,fun h=>by rw [put_self];exact hsp m q h⟩
   ·rw [List.getElem?_set_ne fun e=>hij e.symm] at hi
    exact ⟨sx,hi,fun h=>by rw [hpn _ (by omega)];exact h⟩
 ·by_cases hij:i=nb+j
  ·subst hij
   simp [hlt] at hi
   subst hi
   rw [hX];exact hsg
  ·rw [List.getElem?_set_ne fun e=>hij e.symm] at hi
   exact c.thr i s hi
 ·rw [hX]
  refine ⟨nb,⟨by rw [List.length_set];exact hG.len,fun i s h1' h2=>?_,fun k cx hj=>?_,fun k s hs'=>?_,hG.chan,hG.dist,fun i k c a hj ha=>frz_obj z (fun i=>hG.noch i k c a hj ha) i,fun i o=>frz_own z (fun i=>hG.nowg i o) i,?_,hG.wgt,hG.deaf,hG.tok0,hG.tok1,hG.adp,hG.ads,hG.adl,hG.live,hG.park,hG.sleep,hG.cht⟩⟩
  ·rw [List.getElem?_set_ne (by omega)] at h2
   rw [hpn _ (by omega)];exact hG.old i s h1' h2
  ·by_cases hkj:k=j
   ·subst hkj
    exact ⟨s',by simp [hlt],by rw [put_self];exact hsa cx hj⟩
   ·obtain ⟨sx,h1',h2⟩:=hG.seat k cx hj
    exact ⟨sx,by rw [List.getElem?_set_ne (by omega)];exact h1',by rw [hpn _ (by omega)];exact h2⟩
  ·by_cases hkj:k=j
   ·subst hkj
    simp [hlt] at hs'
    subst hs'
    rw [put_self];exact hkn
   ·rw [List.getElem?_set_ne (by omega)] at hs'
    rw [hpn _ (by omega)];exact hG.know k s hs'
  ·rw [List.map_set]
   rcases hst with h | h
   ·rw [h];exact hG.wg.far hstg (by omega) (by omega) fun _ _ h=>h
   ·rw [h];exact hG.wg.far hstg (by omega) (by omega) fun _ _ h=>h
theorem Cfg.start (c:Cfg W0 gs w t M sl hp) (hX:M.x=.idle) {g:Game} {wg lf:Nat} {s:g.σ} {h1:Hp} {fd:Option (FreeD g)} (e0:M.h.own wg 0=some (.int .u64 0)) (e1:M.h.own wg 1=some (.int .u32 0)) (e2:M.h.shp wg=some (L.tWg,2)) (z:Frz M.h h1) (hn:∀ o,h1.own wg o=none∧h1.ro wg o=none)
  {M':MN P cv L Em} (hpo:PoolOk W0 (.game ⟨g,wg,[],some s,lf,0,false,.play,fd,0⟩) w t sl (put hp 0 h1)) (hx:M'.x=.game ⟨g,wg,[],some s,lf,0,false,.play,fd,0⟩) (hh:M'.h=h1) (hm:∃ g,gs[0]?=some g∧MainG g M'):Cfg W0 gs w t M' sl (put hp 0 h1):=by
 have z0:Frz (hp 0) h1:=by rw [c.hp0];exact z
 have hpn:∀ i,i≠0→put hp 0 h1 i=hp i:=fun i hi=>put_ne hi
 have hgame:=c.game
 rw [hX] at hgame
 have hfit:Fits M.h w:=by rw [← c.hp0];exact c.mem.fits 0
 have hat:WgAt L.tWg wg w 0 0:=by
  have f0:=hfit.own _ _ _ e0
  have f1:=hfit.own _ _ _ e1
  have fz:=hfit.thaw _ _ _ e0
  have fz1:=hfit.thaw _ _ _ e1
  have f2:=hfit.shp _ _ e2
  unfold World.shape? at f2
  cases hb:w.heap[wg]? with
  | none=>rw [hb] at f2;cases f2
  | some o =>
   rw [hb] at f2
   cases o with
   | cells cs ty frz =>
    simp at f2
    obtain ⟨rfl,f2⟩:=f2
    refine ⟨frz,?_,fz,fz1⟩
    rw [hb]
    simp only [World.cell?,hb] at f0 f1
    congr 2
    apply Array.ext_getElem?
    intro i
    rcases i with _ | _ | i
    ·simpa using f0
    ·simpa using f1
    ·rw [Array.getElem?_eq_none (by omega),Array.getElem?_eq_none (by simp)]
   | _=>cases f2
 have hold:∀ i s,sl[i]?=some s→Old t (i+1) (hp (i+1)) s:=hgame.old
 refine ⟨c.size,hm,fun i s hi=>?_,c.mem.frz z0,c.aft.frz z0 (by rw [hx];exact ⟨c.aft.own 0 _ _ _ (by rw [c.hp0];exact e0),fun j c a hj=>by simp at hj⟩),by rw [put_self,hh],fun i hi=>by rw [hpn _ (by omega)];exact c.hpn i hi,c.tg,by rw [put_self];exact z0.kn c.kn0,?_,by rw [hx];exact hpo⟩
 ·obtain ⟨g1,h1',h2⟩:=c.thr i s hi
  obtain ⟨m,rfl⟩:=(hold i s hi).out
  exact ⟨g1,h1',h2⟩
 ·rw [hx]
  have hnil:∀ {j:Nat} {c:Seat g.σ g.θ},([]:List (Seat g.σ g.θ))[j]?=some c→False:=fun h=>by simp at h
  refine ⟨sl.length,⟨rfl,fun i s hi hs=>by rw [hpn _ (by omega)];exact hold i s hs,fun j c hj=>(hnil hj).elim,fun j s hs=>?_,fun j c hj=>(hnil hj).elim,fun j j' c c' a a' hj=>(hnil hj).elim,fun i j c a hj=>(hnil hj).elim,fun i o=>?_,?_,fun i a o ho2 ha hl=>?_,hgame.deaf,fun e=>(by cases e),fun _ j c hj=>(hnil hj).elim,fun _=>.inl rfl,fun h=>absurd rfl h,by show 0≤1000;omega,fun j c g hj=>(hnil hj).elim,fun g0 cases sh hg hb=>absurd hb (hgame.runs g0 hg),fun g0 hg hb=>absurd hb (hgame.runs g0 hg),fun j c a i b hj=>(hnil hj).elim⟩⟩
  ·have:=(List.getElem?_eq_some_iff.1 hs).1;omega
  ·by_cases hi:i=0
   ·subst hi;rw [put_self];exact hn o
   ·rw [hpn _ hi]
    obtain ⟨i,rfl⟩:∃ i',i=i'+1:=⟨i-1,by omega⟩
    rcases Nat.lt_or_ge i sl.length with hlt | hge
    ·rw [(hold i _ (List.getElem?_eq_getElem hlt)).empty];exact ⟨rfl,rfl⟩
    ·rw [c.hpn _ (by omega)];exact ⟨rfl,rfl⟩
  ·have hz:∀ k∈sl.map Slot.stage,k=0:=fun k hk=>by
    obtain ⟨s,hs,rfl⟩:=List.mem_map.1 hk
    obtain ⟨i,hi⟩:=List.getElem?_of_mem hs
    obtain ⟨m,rfl⟩:=(hold i s hi).out
    rfl
   refine .quiet 0 0 (by simpa using hat) ?_ (fun k hk=>.inl (hz k hk)) rfl (fun h=>by cases h) trivial
   have:((sl.map Slot.stage).filter fun k=>decide (4≤k))=[]:=List.filter_eq_nil_iff.2 fun k hk=>by simp [hz k hk]
   rw [this];rfl
  ·refine .inr ⟨?_,fun j hj=>by simp at hj⟩
   have hk:=c.kn0
   rw [c.hp0] at hk
   rcases o with _ | _ | o
   ·exact hk.own _ _ _ e0 i a ha hl
   ·exact hk.own _ _ _ e1 i a ha hl
   ·omega
end
end Go.PB
