/-
  patchbaylaw23: what the row asks: MirrorTurns is true of every input; the input reads as it did.
-/
import Derived.Test.YtmkkanmkjfnpdaaMt7
import Derived.Listen
import Derived.Leaving
import Derived.Test.YtmkkanmkjfnpdaaChecked
import Derived.Conc.WgLib
import Derived.KernelRfl
import Derived.Test.YtmkkanmkjfnpdaaMt6
import Derived.Test.YtmkkanmkjfnpdaaMt5
import Derived.Test.YtmkkanmkjfnpdaaMt3
import Derived.Test.YtmkkanmkjfnpdaaRows
set_option linter.unusedVariables false
set_option linter.unusedSimpArgs false
namespace Go.PB
open Go.Conc Go.Conc.Lib
open Go.ConcR (KK stA smA rd wr mk DC0)
section
variable {W0:World} {P:Program} {cv:Value} {L:WgLink} {Em:Frame→List Frame→Hp→MX→Prop}
section
variable {w:World} {b o:Nat} {old:Value} {new:Option Value} {h k:Hp}
theorem side_lay:Side w (World.lay w b o new):=by
 cases new with
 | none=>exact Side.refl
 | some v=>exact side_setCell
theorem lay_ne {c:Nat} (h:c≠b):(World.lay w b o new).heap[c]?=w.heap[c]?:=by
 cases new with
 | none=>rfl
 | some v=>exact setCell_ne h
theorem lay_size:(World.lay w b o new).heap.size=w.heap.size:=by
 cases new with
 | none=>rfl
 | some v=>exact setCell_size
theorem lay_shape (c:Nat):(World.lay w b o new).shape? c=w.shape? c:=by
 cases new with
 | none=>rfl
 | some v=>exact shape_setCell ..
theorem lay_cell (hc:w.cell? ⟨b,o,none⟩=some old) {b' o':Nat} (hn:¬ (b'=b∧o'=o)):(World.lay w b o new).cell? ⟨b',o',none⟩=w.cell? ⟨b',o',none⟩:=by
 cases new with
 | none=>rfl
 | some v =>
  have:=cell_setCell (v:=v) (b':=b') (o':=o') hc
  show (w.setCell ⟨b,o,none⟩ v).cell? ⟨b',o',none⟩=_
  rw [this,if_neg hn]
theorem lay_self {v:Value} (hc:w.cell? ⟨b,o,none⟩=some old):(World.lay w b o (some v)).cell? ⟨b,o,none⟩=some v:=by
 have:=cell_setCell (v:=v) (b':=b) (o':=o) hc
 show (w.setCell ⟨b,o,none⟩ v).cell? ⟨b,o,none⟩=_
 rw [this,if_pos ⟨rfl,rfl⟩]
theorem cell_heap (hc:w.cell? ⟨b,o,none⟩=some old):∃ ob,w.heap[b]?=some ob∧isCells ob=true:=by
 unfold World.cell? at hc
 cases hb:w.heap[b]? with
 | none=>simp [hb] at hc
 | some ob =>
  refine ⟨ob,rfl,?_⟩
  simp only [hb] at hc
  cases ob <;> first | rfl | (simp at hc;done)
theorem fits_lay (f:Fits k w) (hc:w.cell? ⟨b,o,none⟩=some old) (h1:k.own b o=none) (h2:k.ro b o=none):Fits k (World.lay w b o new) where
 own:=fun b' o' v e=>by
  rw [lay_cell hc fun h=>by rw [h.1,h.2,h1] at e;cases e];exact f.own _ _ _ e
 thaw:=fun b' o' v e=>by rw [side_lay.frz];exact f.thaw _ _ _ e
 ro:=fun b' o' v e=>by
  rw [lay_cell hc fun h=>by rw [h.1,h.2,h2] at e;cases e];exact f.ro _ _ _ e
 disj:=f.disj
 obj:=fun b' ob e=>by
  have hb:=f.obj _ _ e
  have hn:=f.objn _ _ e
  rw [lay_ne fun h=>by obtain ⟨ob',e1,e2⟩:=cell_heap hc;rw [h,e1] at hb;cases hb;rw [e2] at hn;cases hn]
  exact hb
 objn:=f.objn
 shp:=fun b' y e=>by rw [lay_shape];exact f.shp _ _ e
theorem lay_own {b' o':Nat} {v:Value} (h1:k.own b o=some old) (e:(k.lay b o new).own b' o'=some v):∃ u,k.own b' o'=some u:=by
 cases new with
 | none=>exact ⟨v,e⟩
 | some n =>
  by_cases h:b'=b∧o'=o
  ·exact ⟨old,by rw [h.1,h.2];exact h1⟩
  ·have:(k.lay b o (some n)).own b' o'=k.own b' o':=by simp [Hp.lay,h]
   exact ⟨v,by rw [← this];exact e⟩
theorem lay_ro {b' o':Nat}:(k.lay b o new).ro b' o'=k.ro b' o':=by cases new <;> rfl
theorem lay_obj {b':Nat}:(k.lay b o new).obj b'=k.obj b':=by cases new <;> rfl
theorem lay_none {b' o':Nat} (h1:k.own b o=some old) (e:k.own b' o'=none):(k.lay b o new).own b' o'=none:=none_of fun v hv=>by
 obtain ⟨u,hu⟩:=lay_own h1 hv
 rw [e] at hu;cases hu
theorem fits_laid (f:Fits k w) (h1:k.own b o=some old):Fits (k.lay b o new) (World.lay w b o new):=by
 have hc:=f.own _ _ _ h1
 cases new with
 | none=>exact f
 | some n =>
  refine ⟨fun b' o' v e=>?_,fun b' o' v e=>?_,fun b' o' v e=>?_,fun b' o' v e=>?_,fun b' ob e=>?_,f.objn,fun b' y e=>by rw [lay_shape];exact f.shp _ _ e⟩
  ·by_cases h:b'=b∧o'=o
   ·obtain ⟨rfl,rfl⟩:=h
    have:(k.lay b' o' (some n)).own b' o'=some n:=by simp [Hp.lay]
    rw [this] at e;cases e
    exact lay_self hc
   ·have:(k.lay b o (some n)).own b' o'=k.own b' o':=by simp [Hp.lay,h]
    rw [this] at e
    rw [lay_cell hc h];exact f.own _ _ _ e
  ·obtain ⟨u,hu⟩:=lay_own (new:=some n) h1 e
   rw [side_lay.frz];exact f.thaw _ _ _ hu
  ·rw [lay_ro] at e
   rw [lay_cell hc fun h=>by rw [h.1,h.2,f.disj _ _ _ h1] at e;cases e];exact f.ro _ _ _ e
  ·obtain ⟨u,hu⟩:=lay_own (new:=some n) h1 e
   rw [lay_ro];exact f.disj _ _ _ hu
  ·rw [lay_obj] at e
   have hb:=f.obj _ _ e
   have hn:=f.objn _ _ e
   rw [lay_ne fun h=>by obtain ⟨ob',e1,e2⟩:=cell_heap hc;rw [h,e1] at hb;cases hb;rw [e2] at hn;cases hn]
   exact hb
theorem sep_laid (s:Sep h k) (h1:k.own b o=some old):Sep h (k.lay b o new) where
 oo:=fun b' o' v e=>lay_none h1 (s.oo _ _ _ e)
 wr:=fun b' o' v e=>by rw [lay_ro];exact s.wr _ _ _ e
 rw:=fun b' o' v e=>lay_none h1 (s.rw _ _ _ e)
 bb:=fun b' v e=>by rw [lay_obj];exact s.bb _ _ e
end
structure One (b o a:Nat) (u:Trace):Prop where
 g:∀ op∈u,op.g=a
 touch:∀ op∈u,∀ x,op.act.touch?=some x→x.loc=.cell ⟨b,o,none⟩∧x.kind=.atomic
 plain:∀ op∈u,Plain op
theorem one_of {b o a:Nat} {fn:FuncId} {pos:String} {es:Array Event} (h:∀ e∈es,(∃ f,e=⟨.mark (.extern f),false,true⟩)∨∃ z,e=⟨.cell ⟨b,o,none⟩,z,true⟩):One b o a (MemOp.ofEvents a fn pos es) where
 g:=fun op ho=>by obtain ⟨e,_,rfl⟩:=ofEvents_mem ho;rfl
 touch:=fun op ho x hx=>by
  obtain ⟨e,h1,rfl⟩:=ofEvents_mem ho
  rcases h e h1 with ⟨f,rfl⟩ | ⟨z,rfl⟩
  ·have:(MemAct.ofEvent ⟨.mark (.extern f),false,true⟩).touch?=none:=rfl
   rw [this] at hx;cases hx
  ·have:(MemAct.ofEvent ⟨.cell ⟨b,o,none⟩,z,true⟩).touch?=some ⟨.cell ⟨b,o,none⟩,z,.atomic⟩:=by cases z <;> rfl
   rw [this] at hx;cases hx;exact ⟨rfl,rfl⟩
 plain:=fun op ho m hm=>by
  obtain ⟨e,h1,rfl⟩:=ofEvents_mem ho
  rcases h e h1 with ⟨f,rfl⟩ | ⟨z,rfl⟩
  ·have:MemAct.ofEvent ⟨.mark (.extern f),false,true⟩=.mark (.extern f):=rfl
   rw [this] at hm;cases hm;exact .inr ⟨f,rfl⟩
  ·cases z <;> cases hm
theorem one_kn {t u:Trace} {K K':Nat→Prop} {h:Hp} {b o a:Nat} (kn:Kn t K h) (hK:∀ j,K j→K' j) (s:One b o a u) (h1:h.own b o=none) (h2:h.ro b o=none):Kn (t++u) K' h where
 own:=fun b' o' v e i x hx hl=>by
  rcases touch_split hx with hx | ⟨op,ho,_,h3⟩
  ·exact hK _ (kn.own _ _ _ e _ _ hx hl)
  ·rw [(s.touch op ho x h3).1] at hl;cases hl;rw [h1] at e;cases e
 ro:=fun b' o' v e i x hx hl hw=>by
  rcases touch_split hx with hx | ⟨op,ho,_,h3⟩
  ·exact hK _ (kn.ro _ _ _ e _ _ hx hl hw)
  ·rw [(s.touch op ho x h3).1] at hl;cases hl;rw [h2] at e;cases e
 obj:=fun b' v e i x hx hl=>by
  rcases touch_split hx with hx | ⟨op,ho,_,h3⟩
  ·exact hK _ (kn.obj _ _ e _ _ hx hl)
  ·rw [(s.touch op ho x h3).1] at hl;cases hl
theorem heard_plain {t u:Trace} {a i:Nat} {op:MemOp} (hd:Deaf t a=0) (hu:∀ op∈u,Plain op) (hi:(t++u)[i]?=some op) (hg:op.g=a) (hge:t.size≤i):(t++u).heard i:=by
 refine ⟨a,by rw [g?_of hi,hg],?_⟩
 have hlt:=lt_size_of_getElem? hi
 obtain ⟨u1,u2,e1,e2⟩:∃ u1 u2:Trace,u=u1++u2∧u1.size=i-t.size:=by
  refine ⟨u.extract 0 (i-t.size),u.extract (i-t.size) u.size,?_,?_⟩
  ·simp only [Array.size_append] at hlt
   rw [Array.extract_append_extract,Nat.min_eq_left (Nat.zero_le _),Nat.max_eq_right (by omega)]
   simp
  ·simp only [Array.size_append] at hlt
   simp;omega
 have e3:t++u=(t++u1)++u2:=by rw [e1];simp [Array.append_assoc]
 have e4:i=(t++u1).size:=by simp only [Array.size_append];omega
 rw [e3,e4,deaf_old (Nat.le_refl _)]
 show Deaf (t++u1) a=0
 rw [Deaf_plain fun op ho=>hu op (by rw [e1];exact Array.mem_append.2 (.inl ho))]
 exact hd
section
variable {gs:Array Goroutine} {w:World} {t:Trace} {M:MN P cv L Em} {sl:List (Slot P cv L)} {hp:Nat→Hp} {g:Goroutine} {sc:Option (Nat × Nat)} {X:GX} {nb j:Nat}
theorem Pool.nb_eq {d:FreeD X.g} {nb':Nat} {pl:Hp} {s:X.g.σ} {qs:List X.g.θ} (p:Pool W0 X.g X.wg X.nf d w t sl hp nb' pl s qs) (hG:GameAt X gs w t sl hp nb) (e:X.seats=[]):nb'=nb:=by
 have h1:=p.len
 have h2:=hG.len
 rw [e] at h2
 simp at h2;omega
theorem FreeSt.mono {g:Game} {wg m m':Nat} {q:g.θ} {h:Hp} {s:Slot P cv L} (k:FreeSt wg m q h s) (hm:m'≤m):FreeSt wg m' q h s:=by
 cases s with
 | act n=>obtain ⟨n',e,h⟩:=k;exact ⟨n',e,Nat.le_trans hm h⟩
 | out a b=>exact k
theorem pool_slot {d:FreeD X.g} {pl:Hp} {s:X.g.σ} {qs:List X.g.θ} {n:TN P cv L} (p:Pool W0 X.g X.wg X.nf d w t sl hp nb pl s qs) (hs:sl[nb+j]?=some (.act n)):∃ q0 n0,qs[j]?=some q0∧n.x=⟨X.g,0,0,0,X.wg,.free q0 n0⟩∧d.φ s qs≤n0:=by
 obtain ⟨q0,hq0,n0,hx0,hle⟩:=p.slot j _ hs
 exact ⟨q0,n0,hq0,hx0,hle⟩
theorem cfg_pool {d:FreeD X.g} {pl pl':Hp} {s s':X.g.σ} {qs:List X.g.θ} {q':X.g.θ} {n n':TN P cv L} {n2 bk:Nat} {gs':Array Goroutine} {w':World} {u:Trace}
  (c:Cfg W0 gs w t M sl hp) (hX:M.x=.game X) (hG:GameAt X gs w t sl hp nb) (hs:sl[nb+j]?=some (.act n)) (hd:X.free=some d) (hse:X.seats=[]) (htk:X.tok.isSome=true) (p:Pool W0 X.g X.wg X.nf d w t sl hp nb pl s qs)
  (q:Gs P (nb+j+1) gs gs' (G n'.fr n'.cs)) (hx':n'.x=⟨X.g,0,0,0,X.wg,.free q' n2⟩) (hle:d.φ s' (qs.set j q')≤n2) (hinv:d.I s' (qs.set j q')) (hphi:d.φ s' (qs.set j q')≤d.φ s qs)
  (hmem:Mem w' (t++u) (put hp (nb+j+1) n'.h)) (hug:∀ op∈u,op.g=nb+j+1) (hup:∀ op∈u,Plain op)
  (hko:∀ i,i≠nb+j+1→∀ {K K':Nat→Prop},Kn t K (hp i)→(∀ j,K j→K' j)→Kn (t++u) K' (hp i)) (hks:Kn (t++u) (Knows (t++u) (nb+j+1)) n'.h)
  (hsd:Side w w') (hsz:w'.heap.size=w.heap.size) (hw:∀ c,c≠bk→w'.heap[c]?=w.heap[c]?) (hbk:bk≠X.wg) (hbn:W0.heap.size≤bk) (hho:∀ b o v,n'.h.own b o=some v→W0.heap.size≤b) (hhb:∀ b v,n'.h.obj b=some v→W0.heap.size≤b) (hhw:∀ o,n'.h.own X.wg o=none∧n'.h.ro X.wg o=none)
  (hut:∀ op∈u,∀ y,op.act.touch?=some y→∀ o,y.loc≠.cell ⟨X.wg,o,none⟩)
  (hU:X.g.U s' pl') (hfp:Fits pl' w') (hsp:∀ i,Sep (put hp (nb+j+1) n'.h i) pl') (hnw:∀ o,pl'.own X.wg o=none∧pl'.ro X.wg o=none) (hnew:∀ b o v,pl'.own b o=some v→W0.heap.size≤b)
  (hobj:∀ b ob,pl'.obj b=some ob→W0.heap.size≤b∧∀ i a,touchAt (t++u) i=some a→a.loc=.obj b→Knows (t++u) 0 i)
  (hkno:∀ b o v,pl'.own b o=some v→∀ i a,touchAt (t++u) i=some a→a.loc=.cell ⟨b,o,none⟩→(a.kind=.atomic∧(t++u).counts i∧∃ j,j<X.nf∧(t++u).g? i=some (nb+j+1))∨(Knows (t++u) 0 i∧∀ j,j<X.nf→Knows (t++u) (nb+j+1) i))
  (hknr:∀ b o v,pl'.ro b o=some v→∀ i a,touchAt (t++u) i=some a→a.loc=.cell ⟨b,o,none⟩→a.write=true→Knows (t++u) 0 i∧∀ j,j<X.nf→Knows (t++u) (nb+j+1) i) :
  Cfg W0 gs' w' (t++u) M (sl.set (nb+j) (.act n')) (put hp (nb+j+1) n'.h):=by
 have hlt:nb+j<sl.length:=(List.getElem?_eq_some_iff.1 hs).1
 have hdj:Deaf t (nb+j+1)=0:=(hG.know j _ hs).2.2
 have hng:∀ i,i≠nb+j+1→∀ op∈u,op.g≠i:=fun i hi op ho e=>hi (by rw [← e,hug op ho])
 have hwg:∀ y z,WgAt L.tWg X.wg w y z→WgAt L.tWg X.wg w' y z:=fun y z h=>h.of_heap (hw _ fun e=>hbk e.symm)
 have hrl:RL L.tWg X.wg w w':=fun ⟨y,z,h⟩=>⟨y,z,hwg _ _ h⟩
 have hstg:∀ n',(sl.set (nb+j) (.act n')).map Slot.stage=sl.map Slot.stage:=fun n'=>by
  apply List.ext_getElem?
  intro k
  rw [List.getElem?_map,List.getElem?_map]
  by_cases hki:nb+j=k
  ·subst hki;rw [List.getElem?_set_self hlt,hs];rfl
  ·rw [List.getElem?_set_ne hki]
 have hpo:=c.pool
 rw [hX] at hpo
 obtain ⟨qj,hqj,_⟩:=p.slot j _ hs
 have h0:put hp (nb+j+1) n'.h 0=hp 0:=put_ne (by omega)
 have haft:Aft W0 w' (put hp (nb+j+1) n'.h) M.x:=by
  have hA:=c.aft.at_block hbn hsd hw hsz c.aft.game
  refine ⟨hA.after,fun i b o v e=>?_,fun i b v e=>?_,hA.game⟩
  ·by_cases hi:i=nb+j+1
   ·subst hi;rw [put_self] at e;exact hho b o v e
   ·rw [put_ne hi] at e;exact hA.own i b o v e
  ·by_cases hi:i=nb+j+1
   ·subst hi;rw [put_self] at e;exact hhb b v e
   ·rw [put_ne hi] at e;exact hA.obj i b v e
 refine ⟨by rw [q.size,List.length_set];exact c.size,?_,fun i sx hi=>?_,hmem,haft,by rw [h0];exact c.hp0,fun i hi=>?_,fun i op hi=>?_,by rw [h0];exact hko 0 (by omega) c.kn0 fun j h=>h.app u,?_,?_⟩
 ·obtain ⟨g,h1,h2⟩:=c.main
  obtain ⟨y,y',w2,h3⟩:=q.other 0 g (by omega) h1
  exact ⟨_,h3,h2.woken⟩
 ·rw [hX]
  by_cases hij:i=nb+j
  ·subst hij
   simp [hlt] at hi
   subst hi
   exact ⟨_,q.self,.inl runs_G⟩
  ·rw [List.getElem?_set_ne fun e=>hij e.symm] at hi
   obtain ⟨g,h1,h2⟩:=c.thr i sx hi
   rw [hX] at h2
   obtain ⟨y,y',w2,h3⟩:=q.other (i+1) g (by omega) h1
   exact ⟨_,h3,slot_woken (Deaf_others (hng _ (by omega))) hrl h2⟩
 ·rw [List.length_set] at hi
  rw [put_ne (by omega)];exact c.hpn i hi
 ·simp only [List.length_set]
  rcases getElem?_append_cases hi with ⟨_,h⟩ | ⟨_,h⟩
  ·exact c.tg i op h
  ·rw [hug op h];omega
 ·rw [hX]
  have hnil:∀ {k:Nat} {cx:St X},X.seats[k]?=some cx→False:=fun h=>by rw [hse] at h;simp at h
  refine ⟨nb,⟨by rw [List.length_set];exact hG.len,fun i sx hi hc=>?_,fun k cx hk=>(hnil hk).elim,fun k sx hk=>?_,fun k cx hk=>(hnil hk).elim,fun k k' cx cx' y y' hk=>(hnil hk).elim,fun i k cx y hk=>(hnil hk).elim,fun i o=>?_,by rw [hstg];exact hG.wg.at hwg,fun i y o' ho2 hy hl=>?_,by rw [Deaf_others (hng 0 (by omega))];exact hG.deaf,fun e=>(by rw [e] at htk;cases htk),fun _ k cx hk=>(hnil hk).elim,hG.adp,hG.ads,hG.adl,fun k cx g hk=>(hnil hk).elim,fun g0 cases shp hg0 hb0 ho=>?_,fun g0 hg0 hb0 ho=>?_,fun k cx y i z hk=>(hnil hk).elim⟩⟩
  ·rw [List.getElem?_set_ne (by omega)] at hc
   rw [put_ne (by omega)]
   exact (hG.old i sx hi hc).app (hng _ (by omega))
  ·by_cases hkj:k=j
   ·subst hkj
    simp [hlt] at hk
    subst hk
    rw [put_self]
    exact ⟨hks,rfl,by rw [Deaf_plain hup];exact hdj⟩
   ·rw [List.getElem?_set_ne (by omega)] at hk
    rw [put_ne (by omega)]
    exact (hG.know k sx hk).app (hng _ (by omega)) fun kk hK=>hko _ (by omega) kk hK
  ·by_cases hi:i=nb+j+1
   ·subst hi;rw [put_self];exact hhw o
   ·rw [put_ne hi];exact hG.nowg i o
  ·rcases touch_split hy with hy | ⟨op,ho,_,h2⟩
   ·rcases hG.wgt i y o' ho2 hy hl with this | ⟨k0,k1⟩
    ·refine .inl ⟨this.1,fun hsd=>?_⟩
     have h1:=this.2 hsd
     rw [g?_app (g?_lt h1)];exact h1
    ·exact .inr ⟨k0.app u,fun j' hj'=>(k1 j' hj').app u⟩
   ·exact absurd hl (hut op ho y h2 _)
  ·obtain ⟨k,cx,h1,_⟩:=hG.park g0 cases shp (q.back _ _ (by omega) hg0 hb0) hb0 ho
   exact (hnil h1).elim
  ·have hsl:=hG.sleep g0 (q.back _ _ (by omega) hg0 hb0) hb0 ho
   refine ⟨hsl.1,fun hx=>hsl.2 ?_⟩
   obtain ⟨wa,wb,hwa⟩:=hG.wg.ex
   have:=WgAt.unique (hwg _ _ hwa) hx
   rw [this.1,this.2] at hwa;exact hwa
 ·rw [hX]
  refine ⟨hpo.1,fun d' hd'=>?_⟩
  rw [hd] at hd';cases hd'
  refine ⟨hse,htk,nb,pl',s',qs.set j q',⟨by rw [List.length_set];exact p.len,hU,hfp,hobj,hsp,hnw,hnew,hkno,hknr,hinv,by have:=p.pot;omega,by rw [List.length_set];exact p.qlen,fun k sx hk=>?_,fun k hk=>?_⟩⟩
  ·by_cases hkj:k=j
   ·subst hkj
    simp [hlt] at hk
    subst hk
    exact ⟨_,by rw [List.getElem?_set_self (List.getElem?_eq_some_iff.1 hqj).1],n2,hx',hle⟩
   ·rw [List.getElem?_set_ne (by omega)] at hk
    obtain ⟨q',h1,h2⟩:=p.slot k sx hk
    rw [put_ne (by omega)]
    exact ⟨q',by rw [List.getElem?_set_ne fun e=>hkj e.symm];exact h1,h2.mono (by omega)⟩
  ·have:=p.len
   rw [List.getElem?_set_ne (by omega)];exact p.rest k hk
theorem free_of {n:TN P cv L} (c:Cfg W0 gs w t M sl hp) (hX:M.x=.game X) (hG:GameAt X gs w t sl hp nb) (hs:sl[nb+j]?=some (.act n)) (hf:TX.isFree n.x=true) :
  ∃ d pl s qs q0 n0,X.free=some d∧X.seats=[]∧X.tok.isSome=true∧Pool W0 X.g X.wg X.nf d w t sl hp nb pl s qs∧j<X.nf∧qs[j]?=some q0∧n.x=⟨X.g,0,0,0,X.wg,.free q0 n0⟩∧d.φ s qs≤n0:=by
 have hlt:nb+j<sl.length:=(List.getElem?_eq_some_iff.1 hs).1
 have hpo:=c.pool
 rw [hX] at hpo
 cases hfr:X.free with
 | some d =>
  obtain ⟨e1,e2,nb',pl,s,qs,p⟩:=hpo.2 d hfr
  obtain rfl:=p.nb_eq hG e1
  obtain ⟨q0,n0,h1,h2,h3⟩:=pool_slot p hs
  exact ⟨d,pl,s,qs,q0,n0,rfl,e1,e2,p,by have:=p.len;omega,h1,h2,h3⟩
 | none =>
  exfalso
  have hnf:=hpo.1 hfr
  obtain ⟨cx,hj⟩:∃ cx:St X,X.seats[j]?=some cx:=by
   have:=hG.len
   exact ⟨X.seats[j]'(by omega),List.getElem?_eq_getElem _⟩
  obtain ⟨s,h1,h2⟩:=hG.seat j cx hj
  rw [hs] at h1;cases h1
  obtain ⟨ph,e,pk⟩:=h2
  rw [e] at hf
  generalize cx.st=st at pk
  cases pk <;> cases hf
theorem cfg_free {fr:Frame} {cs:List Frame} {h:Hp} {x:TX} {o:Oper} {O:Value→Hp→TX→Prop} {at_:AtOp fr o} {ne:fr.kind≠.early}
  {a:(tHand P cv).act (wakes o) (execOp fr.eval o) h x fun nx h' x'=>∃ v,nx=.value v∧O v h' x'} {k:∀ v h' x',O v h' x'→Run P (tHand P cv) false (tEnd P L.done) (fr.finish v) cs h' x'}
  (c:Cfg W0 gs w t M sl hp) (hX:M.x=.game X) (hG:GameAt X gs w t sl hp nb) (hs:sl[nb+j]?=some (.act ⟨fr,cs,h,x,.act o O at_ ne a k⟩)) (hg:gs[nb+j+1]?=some g) (hr:Runs g fr cs) :
  ∃ gs' w' ops v x' q,runT P (crowd gs w sc) (nb+j+1)=(.next (crowd gs' w' sc),ops)∧Cfg W0 gs' w' (t++ops) M (sl.set (nb+j) (.act ⟨fr.finish v,cs,h,x',k v h x' q⟩)) hp:=by
 have hlt:nb+j<sl.length:=(List.getElem?_eq_some_iff.1 hs).1
 have hh:h=hp (nb+j+1):=(hG.know j _ hs).2.1
 have hdj:Deaf t (nb+j+1)=0:=(hG.know j _ hs).2.2
 obtain ⟨d,pl,s,qs,q0,n0,hd,e1,e2,p,hjn,hq0,hx0,hle⟩:=free_of c hX hG hs (by
  obtain ⟨q,n,m,f,e3,_⟩:=a
  show TX.isFree x=true
  unfold TX.isFree;rw [e3])
 replace hx0:x=_:=hx0
 subst hx0
 have a':=a
 obtain ⟨q1,n1,m,f,eph,hpl,hact⟩:=a'
 replace eph:Ph.free q0 n0=Ph.free q1 n1:=eph
 cases eph
 obtain ⟨hinv,hphi⟩:=d.step s qs j q0 m f p.inv hq0 hpl
 obtain ⟨n2,rfl⟩:∃ n2,n0=n2+1:=⟨n0-1,by omega⟩
 obtain ⟨b,oo,old,v,new,hown,hatom,hU,v',hv',hO⟩:=hact n2 s pl rfl (d.ok s qs p.inv) p.u
 cases hv'
 obtain ⟨es,hes,hrun⟩:=hatom
 have hc:=p.fits.own _ _ _ hown
 replace hrun:=hrun w hc (p.fits.thaw _ _ _ hown)
 obtain ⟨w',hw'⟩:∃ w',w'=World.lay w b oo new:=⟨_,rfl⟩
 have hst:stepG P (nb+j+1 == 0) g w=.go (G (fr.finish v) cs) w' (seen P fr.fn es):=by
  rw [hw']
  show stepG P false g w=_
  rw [hr.step];exact step_value at_ ne hrun
 refine ⟨_,w',_,v,_,hO,runT_crowd_go hg hst,?_⟩
 have q:=gs_go (P:=P) (g':=G (fr.finish v) cs) (w':=w') hg
 generalize hgs':(gs.map (woken P g (G (fr.finish v) cs) w')).setIfInBounds (nb+j+1) (G (fr.finish v) cs)=gs' at q
 have on:One b oo (nb+j+1) (MemOp.ofEvents (nb+j+1) g.frame.fn g.frame.place (seen P fr.fn es)):=one_of fun e he=>hes e (seen_mem P _ _ e he)
 generalize MemOp.ofEvents (nb+j+1) g.frame.fn g.frame.place (seen P fr.fn es)=u at on
 have hno:∀ i,(hp i).own b oo=none∧(hp i).ro b oo=none:=fun i=>⟨(p.sep i).symm.oo _ _ _ hown,(p.sep i).symm.wr _ _ _ hown⟩
 have hbw:b≠X.wg:=fun e=>by rw [e,(p.nowg oo).1] at hown;cases hown
 have hsz:w'.heap.size=w.heap.size:=by rw [hw'];exact lay_size
 have hblt:b<w.heap.size:=cell_lt hc
 have hknj:∀ i y,touchAt t i=some y→y.loc=.cell ⟨b,oo,none⟩→y.kind=.atomic∨Knows t (nb+j+1) i:=fun i y hy hl=>(p.kno b oo old hown i y hy hl).imp (·.1) fun k=>k.2 j hjn
 have hput:put hp (nb+j+1) h=hp:=by
  funext i
  by_cases hi:i=nb+j+1
  ·subst hi;rw [put_self,hh]
  ·rw [put_ne hi]
 have hmem:Mem w' (t++u) hp:={
  fits:=fun i=>by rw [hw'];exact fits_lay (c.mem.fits i) hc (hno i).1 (hno i).2
  sep:=c.mem.sep
  nr:=fun said=>noRace_append (c.mem.nr said) on.g fun i y hy op ho y' hy' hcf=>by
   obtain ⟨h1,h2⟩:=on.touch op ho y' hy'
   obtain ⟨hl,_,_,h3⟩:=hcf
   rw [h1] at hl
   rcases hknj i y hy hl with hk | hk
   ·rcases h3 with h3 | h3 | ⟨_,_,h3⟩
    ·rw [hk] at h3;cases h3
    ·rw [h2] at h3;cases h3
    ·rw [h2] at h3;cases h3
   ·exact hk
  low:=fun i y hy=>by
   rw [hsz]
   rcases touch_split hy with hy | ⟨op,ho,_,h2⟩
   ·exact c.mem.low i y hy
   ·have h1:=(on.touch op ho y h2).1
    exact ⟨fun d hd=>(by rw [h1] at hd;cases hd;exact hblt),fun r hr=>by rw [h1] at hr;cases hr⟩
  norel:=fun op ho y=>by
   rcases Array.mem_append.1 ho with ho | ho
   ·exact c.mem.norel op ho y
   ·intro e;rcases on.plain op ho _ e with h | ⟨f,h⟩ <;> cases h }
 have fin:=cfg_pool (n':=⟨fr.finish v,cs,h,_,k v h _ hO⟩) (n2:=n2) (bk:=b) (u:=u) (pl':=pl.lay b oo new) c hX hG hs hd e1 e2 p q rfl (by omega) hinv (by omega) (by show Mem w' (t++u) (put hp (nb+j+1) h);rw [hput];exact hmem) on.g on.plain
  (fun i _=>fun kk hK=>one_kn kk hK on (hno i).1 (hno i).2) (by show Kn _ _ h;rw [hh];exact one_kn (hG.know j _ hs).1 (fun i h=>h.app u) on (hno _).1 (hno _).2)
  (by rw [hw'];exact side_lay) hsz (fun c hc=>by rw [hw'];exact lay_ne hc) hbw (p.new _ _ _ hown) (fun b' o' v' e=>c.aft.own (nb+j+1) b' o' v' (by rw [← hh];exact e)) (fun b' v' e=>c.aft.obj (nb+j+1) b' v' (by rw [← hh];exact e)) (fun o=>by show h.own _ _=_∧h.ro _ _=_;rw [hh];exact hG.nowg _ o)
  (fun op ho y hy o e=>by rw [(on.touch op ho y hy).1] at e;cases e;exact hbw rfl) hU (by rw [hw'];exact fits_laid p.fits hown) (fun i=>by show Sep (put hp (nb+j+1) h i) _;rw [hput];exact sep_laid (p.sep i) hown) (fun o'=>⟨lay_none hown (p.nowg o').1,by rw [lay_ro];exact (p.nowg o').2⟩)
  (fun b' o' v' e=>by obtain ⟨u',hu'⟩:=lay_own hown e;exact p.new _ _ _ hu') (fun b' ob e=>by
   rw [lay_obj] at e
   refine ⟨(p.obj b' ob e).1,fun i y hy hl=>?_⟩
   rcases touch_split hy with hy | ⟨op,ho,_,h2⟩
   ·exact ((p.obj b' ob e).2 i y hy hl).app u
   ·rw [(on.touch op ho y h2).1] at hl;cases hl) (fun b' o' v' e i y hy hl=>by
   obtain ⟨u',hu'⟩:=lay_own hown e
   obtain ⟨op,hi,h2⟩:=touch_of hy
   rcases getElem?_append_cases hi with ⟨_,ho⟩ | ⟨hge,ho⟩
   ·have hy':touchAt t i=some y:=by rw [touchAt_of ho];exact h2
    rcases p.kno b' o' u' hu' i y hy' hl with ⟨h1,h2,k,h3,h4⟩ | ⟨h1,h2⟩
    ·exact .inl ⟨h1,(counts_old (touchAt_lt hy')).2 h2,k,h3,by rw [g?_app (touchAt_lt hy')];exact h4⟩
    ·exact .inr ⟨h1.app u,fun k hk=>(h2 k hk).app u⟩
   ·exact .inl ⟨(on.touch op ho y h2).2,⟨y,hy,by rw [hl];rfl,.inr (heard_plain hdj on.plain hi (on.g op ho) hge)⟩,j,hjn,by rw [g?_of hi,on.g op ho]⟩) (fun b' o' v' e i y hy hl hwr=>by
   rw [lay_ro] at e
   rcases touch_split hy with hy | ⟨op,ho,_,h2⟩
   ·obtain ⟨h1,h2⟩:=p.knr b' o' v' e i y hy hl hwr
    exact ⟨h1.app u,fun k hk=>(h2 k hk).app u⟩
   ·rw [(on.touch op ho y h2).1] at hl;cases hl
    rw [p.fits.disj _ _ _ hown] at e;cases e)
 rw [show put hp (nb+j+1) (⟨fr.finish v,cs,h,_,k v h _ hO⟩:TN P cv L).h=hp from hput] at fin
 exact fin
theorem fits_setChan {k:Hp} {w:World} {ch cap s r s':Nat} {buf buf':Array Value} {tm:Bool} (f:Fits k w) (hn:k.obj ch=none) (hc:w.heap[ch]?=some (.chan cap buf false s r tm)):Fits k (w.setChan ch cap buf' false s' r tm) :=
 fits_chan (n:=0) (n':=0) f hn hc rfl rfl rfl
theorem cfg_tryF {fr:Frame} {cs:List Frame} {h:Hp} {x:TX} {o:Oper} {cases:Array CommCase} {bl:Bool} {sh:CommShape} {O:Value→Hp→TX→Prop} {at_:AtOp fr o} {rr:∀ w,Fits h w→(execOp fr.eval o).runT P w #[]=(.ok (.comm cases bl sh) w,#[])}
  {a:(tHand P cv).comm cases bl sh h x O} {k:∀ v h' x',O v h' x'→Run P (tHand P cv) false (tEnd P L.done) (fr.finish v) cs h' x'}
  (c:Cfg W0 gs w t M sl hp) (hX:M.x=.game X) (hG:GameAt X gs w t sl hp nb) (hs:sl[nb+j]?=some (.act ⟨fr,cs,h,x,.comm o cases bl sh O at_ rr a k⟩)) (hg:gs[nb+j+1]?=some g) (hr:Runs g fr cs) (ht:TriesF cases bl sh h x O) :
  ∃ gs' w' ops M' sl' hp',runT P (crowd gs w sc) (nb+j+1)=(.next (crowd gs' w' sc),ops)∧Cfg W0 gs' w' (t++ops) M' sl' hp'∧Less gs' M' sl' gs M sl:=by
 have hlt:nb+j<sl.length:=(List.getElem?_eq_some_iff.1 hs).1
 have hglt:nb+j+1<gs.size:=(Array.getElem?_eq_some_iff.1 hg).1
 have hh:h=hp (nb+j+1):=(hG.know j _ hs).2.1
 have hdj:Deaf t (nb+j+1)=0:=(hG.know j _ hs).2.2
 have hfit:Fits h w:=by rw [hh];exact c.mem.fits _
 obtain ⟨rfl,rfl,q1,n1,m,f,eph,hpl,ch,v,z,rfl,hact⟩:=ht
 obtain ⟨d,pl,s,qs,q0,n0,hd,e1,e2,p,hjn,hq0,hx0,hle⟩:=free_of c hX hG hs (by
  show TX.isFree x=true
  unfold TX.isFree;rw [eph])
 replace hx0:x=_:=hx0
 subst hx0
 replace eph:Ph.free q0 n0=Ph.free q1 n1:=eph
 cases eph
 obtain ⟨hinv,hphi⟩:=d.step s qs j q0 m f p.inv hq0 hpl
 obtain ⟨n2,rfl⟩:∃ n2,n1=n2+1:=⟨n1-1,by omega⟩
 obtain ⟨cap,buf,sn,rn,tm,hob,hroom,hfull⟩:=hact n2 s pl rfl (d.ok s qs p.inv) p.u
 have hc:=p.fits.obj _ _ hob
 have hstep:stepG P (nb+j+1 == 0) g w=.comm (G fr cs) #[scase ch v z] false .select w #[]:=by
  show stepG P false g w=_
  rw [hr.step];exact step_comm at_ (rr w hfit)
 have hnil:∀ {k:Nat} {cx:St X},X.seats[k]?=some cx→False:=fun h=>by rw [e1] at h;simp at h
 have hprt:partners (gs.setIfInBounds (nb+j+1) ph) ch false=[]:=part_nil c fun X' hX' j cx b hj=>by
  rw [hX] at hX';cases hX';exact (hnil hj).elim
 have hno:∀ i,(hp i).obj ch=none:=fun i=>(p.sep i).symm.bb _ _ hob
 have hput:put hp (nb+j+1) h=hp:=by
  funext i
  by_cases hi:i=nb+j+1
  ·subst hi;rw [put_self,hh]
  ·rw [put_ne hi]
 have hchw:ch≠X.wg:=fun e=>by
  obtain ⟨wa,wb,fz,hwa,_⟩:=hG.wg.ex
  rw [← e,hc] at hwa;cases hwa
 by_cases hl:buf.size<cap
 ·obtain ⟨hU,hO⟩:=hroom hl
  have hrunT:=crowd_try_room (sc:=sc) hg hstep hc hprt hl
  rw [ofEvents_none,Array.empty_append] at hrunT
  have e:Goroutine.finishComm P (G fr cs) #[scase ch v z] .select 0 undef false=G (fr.finish (.tuple #[goInt 0,.bool false])) cs:=by
   unfold Goroutine.finishComm;rw [show (0:Int)=((0:Nat):Int) from rfl,res_room];rfl
  rw [e] at hrunT
  refine ⟨_,_,_,M,sl.set (nb+j) (.act ⟨fr.finish (.tuple #[goInt 0,.bool false]),cs,h,_,k _ _ _ hO⟩),hp,hrunT,?_,.inr (.inl ⟨rfl,Falls.set hs (Relation.TransGen.single (Below.comm (B:=tHand P cv) (k:=k) _ _ _ hO))⟩)⟩
  have q:=gs_set (P:=P) (g':=G (fr.finish (.tuple #[goInt 0,.bool false])) cs) hglt
  obtain ⟨m1,m2,m3,m4⟩:=triedU_mute (a:=nb+j+1) (fn:=(G fr cs).frame.fn) (pos:=(G fr cs).frame.place) (c:=ch) (s:=sn)
  obtain ⟨u,hu⟩:∃ u,u=triedU (nb+j+1) (G fr cs).frame.fn (G fr cs).frame.place ch sn:=⟨_,rfl⟩
  rw [← hu] at m1 m2 m3 m4
  show Cfg W0 _ _ (t++triedU (nb+j+1) (G fr cs).frame.fn (G fr cs).frame.place ch sn) _ _ _
  rw [← hu]
  obtain ⟨w',hw'⟩:∃ w',w'=w.setChan ch cap (buf.push v) false (sn+1) rn tm:=⟨_,rfl⟩
  rw [← hw']
  have hG2:=Guar.setObj p.fits (by rw [hob];rfl:(pl.obj ch).isSome=true) (.chan cap (buf.push v) false (sn+1) rn tm) rfl
  have hG3:Guar pl w w' (pl.setObj ch (.chan cap (buf.push v) false (sn+1) rn tm)):=by rw [hw'];exact hG2
  have hsz:w'.heap.size=w.heap.size:=by rw [hw'];simp [World.setChan]
  have fin:=cfg_pool (n':=⟨fr.finish (.tuple #[goInt 0,.bool false]),cs,h,_,k _ _ _ hO⟩) (n2:=n2) (bk:=ch) (u:=u) c hX hG hs hd e1 e2 p q rfl (by omega) hinv (by omega)
   (by show Mem w' (t++u) (put hp (nb+j+1) h);rw [hput];exact c.mem.mute (fun i=>by rw [hw'];exact fits_setChan (c.mem.fits i) (hno i) hc) (Nat.le_of_eq hsz.symm) m2 m4) m1 m3
   (fun i _=>fun kk hK=>kn_mute kk hK m2) (by show Kn _ _ h;rw [hh];exact kn_mute (hG.know j _ hs).1 (fun i h=>h.app u) m2)
   (by rw [hw'];exact side_chan hc rfl rfl rfl rfl rfl) hsz (fun c hcc=>by rw [hw'];exact Array.getElem?_setIfInBounds_ne fun e=>hcc e.symm) hchw (p.obj _ _ hob).1
   (fun b' o' v' e=>c.aft.own (nb+j+1) b' o' v' (by rw [← hh];exact e)) (fun b' v' e=>c.aft.obj (nb+j+1) b' v' (by rw [← hh];exact e)) (fun o=>by show h.own _ _=_∧h.ro _ _=_;rw [hh];exact hG.nowg _ o)
   (fun op ho y hy=>by rw [m2 op ho] at hy;cases hy) hU hG3.fits (fun i=>by show Sep (put hp (nb+j+1) h i) _;rw [hput];exact (sep_other hG3 (p.sep i).symm (c.mem.fits i)).symm) (fun o'=>p.nowg o')
   (fun b' o' v' e=>p.new _ _ _ e) (fun b' ob e=>by
    have hsome:∃ ob',pl.obj b'=some ob':=by
     by_cases hb:b'=ch
     ·exact ⟨_,by rw [hb];exact hob⟩
     ·exact ⟨ob,by simpa [Hp.setObj,hb] using e⟩
    obtain ⟨ob',e'⟩:=hsome
    refine ⟨(p.obj b' ob' e').1,fun i y hy hl=>?_⟩
    rcases touch_split hy with hy | ⟨op,ho,_,h2⟩
    ·exact ((p.obj b' ob' e').2 i y hy hl).app u
    ·rw [m2 op ho] at h2;cases h2) (fun b' o' v' e i y hy hl=>by
    rcases touch_split hy with hy | ⟨op,ho,_,h2⟩
    ·rcases p.kno b' o' v' e i y hy hl with ⟨h1,h2,k,h3,h4⟩ | ⟨h1,h2⟩
     ·exact .inl ⟨h1,(counts_old (touchAt_lt hy)).2 h2,k,h3,by rw [g?_app (touchAt_lt hy)];exact h4⟩
     ·exact .inr ⟨h1.app u,fun k hk=>(h2 k hk).app u⟩
    ·rw [m2 op ho] at h2;cases h2) (fun b' o' v' e i y hy hl hwr=>by
    rcases touch_split hy with hy | ⟨op,ho,_,h2⟩
    ·obtain ⟨h1,h2⟩:=p.knr b' o' v' e i y hy hl hwr
     exact ⟨h1.app u,fun k hk=>(h2 k hk).app u⟩
    ·rw [m2 op ho] at h2;cases h2)
  rw [show put hp (nb+j+1) (⟨fr.finish (.tuple #[goInt 0,.bool false]),cs,h,_,k _ _ _ hO⟩:TN P cv L).h=hp from hput] at fin
  exact fin
 ·obtain ⟨hU,hO⟩:=hfull (by omega)
  have hrunT:=crowd_try_full (sc:=sc) hg hstep hc hprt (by omega)
  rw [ofEvents_none] at hrunT
  have e:Goroutine.finishComm P (G fr cs) #[scase ch v z] .select (-1) undef false=G (fr.finish (.tuple #[goInt (-1),.bool false])) cs:=by
   unfold Goroutine.finishComm;rw [res_full];rfl
  rw [e] at hrunT
  refine ⟨_,_,_,M,sl.set (nb+j) (.act ⟨fr.finish (.tuple #[goInt (-1),.bool false]),cs,h,_,k _ _ _ hO⟩),hp,hrunT,?_,.inr (.inl ⟨rfl,Falls.set hs (Relation.TransGen.single (Below.comm (B:=tHand P cv) (k:=k) _ _ _ hO))⟩)⟩
  have q:=gs_set (P:=P) (g':=G (fr.finish (.tuple #[goInt (-1),.bool false])) cs) hglt
  have hn0:∀ op∈(#[]:Trace),False:=fun op ho=>by simp at ho
  have fin:=cfg_pool (n':=⟨fr.finish (.tuple #[goInt (-1),.bool false]),cs,h,_,k _ _ _ hO⟩) (n2:=n2) (bk:=ch) (u:=#[]) (w':=w) c hX hG hs hd e1 e2 p q rfl (by omega) hinv (by omega)
   (by show Mem w (t++#[]) (put hp (nb+j+1) h);rw [hput,Array.append_empty];exact c.mem) (fun op ho=>(hn0 op ho).elim) (fun op ho=>(hn0 op ho).elim)
   (fun i _=>fun kk hK=>kn_mute kk hK fun op ho=>(hn0 op ho).elim) (by show Kn _ _ h;rw [hh];exact kn_mute (hG.know j _ hs).1 (fun i h=>h.app #[]) fun op ho=>(hn0 op ho).elim)
   Side.refl rfl (fun c hcc=>rfl) hchw (p.obj _ _ hob).1
   (fun b' o' v' e=>c.aft.own (nb+j+1) b' o' v' (by rw [← hh];exact e)) (fun b' v' e=>c.aft.obj (nb+j+1) b' v' (by rw [← hh];exact e)) (fun o=>by show h.own _ _=_∧h.ro _ _=_;rw [hh];exact hG.nowg _ o)
   (fun op ho=>(hn0 op ho).elim) hU p.fits (fun i=>by show Sep (put hp (nb+j+1) h i) _;rw [hput];exact p.sep i) p.nowg
   p.new (fun b' ob e=>by rw [Array.append_empty];exact p.obj b' ob e) (fun b' o' v' e=>by rw [Array.append_empty];exact p.kno b' o' v' e) (fun b' o' v' e=>by rw [Array.append_empty];exact p.knr b' o' v' e)
  rw [show put hp (nb+j+1) (⟨fr.finish (.tuple #[goInt (-1),.bool false]),cs,h,_,k _ _ _ hO⟩:TN P cv L).h=hp from hput] at fin
  exact fin
section
variable {fr:Frame} {cs:List Frame} {h:Hp} {o:Oper} {cases:Array CommCase} {bl:Bool} {sh:CommShape} {at_:AtOp fr o} {rr:∀ w,Fits h w→(execOp fr.eval o).runT P w #[]=(.ok (.comm cases bl sh) w,#[])}
theorem cfg_try0 {x:MX} {O:Value→Hp→MX→Prop} {a:(mHand P cv L.done L.tWg).comm cases bl sh h x O} {k:∀ v h' x',O v h' x'→Run P (mHand P cv L.done L.tWg) true Em (fr.finish v) cs h' x'}
  (c:Cfg W0 gs w t (⟨fr,cs,h,x,.comm o cases bl sh O at_ rr a k⟩:MN P cv L Em) sl hp) (hg:gs[0]?=some g) (hr:Runs g fr cs) (ht:Tries cases bl sh h x O) :
  ∃ gs' w' ops M' hp',runT P (crowd gs w sc) 0=(.next (crowd gs' w' sc),ops)∧Cfg W0 gs' w' (t++ops) M' sl hp'∧Below M' (⟨fr,cs,h,x,.comm o cases bl sh O at_ rr a k⟩:MN P cv L Em):=by
 obtain ⟨rfl,rfl,ch,v,z,cap,buf,s,r,tm,rfl,hob,h1,h2⟩:=ht
 have key:=try_own (sc:=sc) at_ c c.hp0 hg hr hob rr
 by_cases hl:buf.size<cap
 ·obtain ⟨gs',w',ops,e1,e2,e3⟩:=key.1 hl
  exact ⟨gs',w',ops,⟨_,cs,_,x,k _ _ _ (h1 hl)⟩,_,e1,Cfg.own c (Nat.zero_le _) e2 c.kn0 e3 ⟨rfl,fun j _=>rfl,fun j hj=>by omega⟩ rfl (by rw [put_self]) (fun e=>absurd rfl e) (fun _=>⟨rfl,rfl⟩) (fun j n' hj=>by omega),.comm _ _ _ _⟩
 ·obtain ⟨gs',ops,e1,e2,e3⟩:=key.2 (by omega)
  exact ⟨gs',w,ops,⟨_,cs,_,x,k _ _ _ (h2 (by omega))⟩,_,e1,Cfg.own c (Nat.zero_le _) e2 c.kn0 e3 ⟨rfl,fun j _=>rfl,fun j hj=>by omega⟩ rfl (by rw [put_self]) (fun e=>absurd rfl e) (fun _=>⟨rfl,rfl⟩) (fun j n' hj=>by omega),.comm _ _ _ _⟩
theorem cfg_try1 {x:TX} {O:Value→Hp→TX→Prop} {a:(tHand P cv).comm cases bl sh h x O} {k:∀ v h' x',O v h' x'→Run P (tHand P cv) false (tEnd P L.done) (fr.finish v) cs h' x'}
  (c:Cfg W0 gs w t M sl hp) (hG:GameAt X gs w t sl hp nb) (hs:sl[nb+j]?=some (.act ⟨fr,cs,h,x,.comm o cases bl sh O at_ rr a k⟩)) (hg:gs[nb+j+1]?=some g) (hr:Runs g fr cs) (ht:Tries cases bl sh h x O) :
  ∃ gs' w' ops M' sl' hp',runT P (crowd gs w sc) (nb+j+1)=(.next (crowd gs' w' sc),ops)∧Cfg W0 gs' w' (t++ops) M' sl' hp'∧Less gs' M' sl' gs M sl:=by
 have hlt:nb+j<sl.length:=(List.getElem?_eq_some_iff.1 hs).1
 have hh:hp (nb+j+1)=h:=(hG.know j _ hs).2.1.symm
 have kn:Kn t (Knows t (nb+j+1)) (hp (nb+j+1)):=(hG.know j _ hs).1
 obtain ⟨rfl,rfl,ch,v,z,cap,buf,s,r,tm,rfl,hob,h1,h2⟩:=ht
 have key:=try_own (sc:=sc) at_ c hh hg hr hob rr
 have done:∀ {v:Value} {h':Hp} {gs':Array Goroutine} {w':World} {ops:Trace} (hO:O v h' x),runT P (crowd gs w sc) (nb+j+1)=(.next (crowd gs' w' sc),ops)→Own (nb+j+1) (hp (nb+j+1)) w w' h' ops→Gs P (nb+j+1) gs gs' (G (fr.finish v) cs) →
   ∃ gs' w' ops M' sl' hp',runT P (crowd gs w sc) (nb+j+1)=(.next (crowd gs' w' sc),ops)∧Cfg W0 gs' w' (t++ops) M' sl' hp'∧Less gs' M' sl' gs M sl:=by
  intro v h' gs' w' ops hO e1 e2 e3
  refine ⟨gs',w',ops,M,sl.set (nb+j) (.act ⟨fr.finish v,cs,h',x,k v h' x hO⟩),put hp (nb+j+1) h',e1,?_,.inr (.inl ⟨rfl,Falls.set hs (Relation.TransGen.single (Below.comm (B:=tHand P cv) (k:=k) v h' x hO))⟩)⟩
  refine Cfg.own c (by omega) e2 kn e3 ⟨by simp,fun j' hj'=>by rw [List.getElem?_set_ne (by omega)],fun j' hj'=>?_⟩ rfl (by rw [put_ne (by omega)];exact c.hp0.symm) (fun _=>rfl) (fun e=>by omega) (fun j' n' hj' hn=>?_)
  ·obtain rfl:j'=nb+j:=by omega
   exact ⟨_,⟨fr.finish v,cs,h',x,k v h' x hO⟩,hs,by simp [hlt],rfl,rfl⟩
  ·obtain rfl:j'=nb+j:=by omega
   simp [hlt] at hn
   subst hn
   exact ⟨rfl,rfl⟩
 by_cases hl:buf.size<cap
 ·obtain ⟨gs',w',ops,e1,e2,e3⟩:=key.1 hl
  exact done (h1 hl) e1 e2 e3
 ·obtain ⟨gs',ops,e1,e2,e3⟩:=key.2 (by omega)
  exact done (h2 (by omega)) e1 e2 e3
end
theorem Frz.trans {h h1 h2:Hp} (a:Frz h h1) (b:Frz h1 h2):Frz h h2 where
 own:=fun x o v e=>a.own _ _ _ (b.own _ _ _ e)
 ro:=fun x o v e=>by
  rcases b.ro _ _ _ e with e | ⟨e1,e2⟩
  ·rcases a.ro _ _ _ e with e | ⟨e1,e2⟩
   ·exact .inl e
   ·exact .inr ⟨e1,none_of fun u hu=>by rw [b.own _ _ _ hu] at e2;cases e2⟩
  ·exact .inr ⟨a.own _ _ _ e1,e2⟩
 obj:=fun x v e=>a.obj _ _ (b.obj _ _ e)
 shp:=fun x v e=>a.shp _ _ (b.shp _ _ e)
theorem Cfg.startF (c:Cfg W0 gs w t M sl hp) (hX:M.x=.idle) {g:Game} {fd:FreeD g} {wg:Nat} {s:g.σ} {h1 h2 pl:Hp} (sp:Split M.h h2 pl) (hU:g.U s pl) (hpw:∀ o,pl.own wg o=none∧pl.ro wg o=none)
  (e0:h2.own wg 0=some (.int .u64 0)) (e1:h2.own wg 1=some (.int .u32 0)) (e2:h2.shp wg=some (L.tWg,2)) (z:Frz h2 h1) (hn:∀ o,h1.own wg o=none∧h1.ro wg o=none) (hI:fd.I s fd.q0) (hφ:fd.φ s fd.q0≤fd.N)
  {M':MN P cv L Em} (hx:M'.x=.game ⟨g,wg,[],some s,0,0,false,.play,some fd,0⟩) (hh:M'.h=h1) (hm:∃ g,gs[0]?=some g∧MainG g M'):Cfg W0 gs w t M' sl (put hp 0 h1):=by
 have hfit:Fits M.h w:=by rw [← c.hp0];exact c.mem.fits 0
 refine Cfg.start c hX (sp.o1 _ _ _ e0) (sp.o1 _ _ _ e1) (sp.s1 _ _ e2) (sp.frz1.trans z) hn ⟨fun e=>(by cases e),fun d hd=>?_⟩ hx hh hm
 cases hd
 have hk:=c.kn0
 rw [c.hp0] at hk
 refine ⟨rfl,rfl,sl.length,pl,s,fd.q0,⟨rfl,hU,sp.frz2.fits hfit,fun b ob e=>⟨c.aft.obj 0 b ob (by rw [c.hp0];exact sp.b2 _ _ e),fun i a ha hl=>(sp.frz2.kn hk).obj b ob e i a ha hl⟩,fun i=>?_,hpw,fun b o v e=>c.aft.own 0 b o v (by rw [c.hp0];exact sp.o2 _ _ _ e),fun b o v e i a ha hl=>.inr ⟨(sp.frz2.kn hk).own b o v e i a ha hl,fun j hj=>absurd hj (Nat.not_lt_zero j)⟩,
  fun b o v e i a ha hl hw=>⟨(sp.frz2.kn hk).ro b o v e i a ha hl hw,fun j hj=>absurd hj (Nat.not_lt_zero j)⟩,hI,hφ,rfl,fun j sx hj=>?_,fun j _=>rfl⟩⟩
 ·by_cases hi:i=0
  ·subst hi;rw [put_self];exact z.sep (sp.sep hfit)
  ·rw [put_ne hi]
   have:=c.mem.sep 0 i fun e=>hi e.symm
   rw [c.hp0] at this
   exact (sp.frz2.sep this).symm
 ·have:=(List.getElem?_eq_some_iff.1 hj).1;omega
theorem WgPh.moreF {st:List Nat} (p:WgPh L X st w) (hwt:X.wt=.play):WgPh L { X with nf:=X.nf+1 } (st++[7]) w:=by
 cases p with
 | quiet v wt a hv late hw park b =>
  refine .quiet v wt a ?_ (fun k hk=>?_) hw park b
  ·simp only [List.filter_append,List.length_append]
   have:(List.filter (fun k=>decide (4≤k)) [7]).length=1:=rfl
   omega
  ·rcases List.mem_append.1 hk with hk | hk
   ·exact late k hk
   ·simp at hk;omega
 | late p=>rw [hwt] at p;cases p
 | late1 p=>rw [hwt] at p;cases p
 | free p=>rw [hwt] at p;cases p
theorem cfg_spawnF {fr:Frame} {cs:List Frame} {h:Hp} {o:Oper} {d:Deferred} {O:Hp→MX→Prop} {at_:AtOp fr o} {rr:∀ w,Fits h w→(execOp fr.eval o).runT P w #[]=(.ok (.spawn d) w,#[])}
  {a:(mHand P cv L.done L.tWg).spawn d h (.game X) O} {k:∀ h' x',O h' x'→Run P (mHand P cv L.done L.tWg) true Em (fr.finish undef) cs h' x'}
  (c:Cfg W0 gs w t (⟨fr,cs,h,.game X,.spawn o d O at_ rr a k⟩:MN P cv L Em) sl hp) (hg:gs[0]?=some g) (hr:Runs g fr cs) {fd:FreeD X.g} {hc h':Hp} {q0:X.g.θ} (hf:X.free=some fd) (hwt:X.wt=.play) (hdf:X.deaf=false) (had:X.ad=X.seats.length+X.nf+1) (hq:fd.q0[X.nf]?=some q0)
  (hsp:Split h hc h') (hd:∃ f cap,d.target=.fn f cap) (run:Run P (tHand P cv) false (tEnd P L.done) (goFr P d) [] hc ⟨X.g,0,0,0,X.wg,.free q0 fd.N⟩) (hO:O h' (.game { X with nf:=X.nf+1 })) :
  ∃ gs' ops M' sl' hp',runT P (crowd gs w sc) 0=(.next (crowd gs' w sc),ops)∧Cfg W0 gs' w (t++ops) M' sl' hp'∧Below M' (⟨fr,cs,h,.game X,.spawn o d O at_ rr a k⟩:MN P cv L Em):=by
 obtain ⟨nb,hG⟩:∃ nb,GameAt X gs w t sl hp nb:=c.game
 obtain ⟨f,cap,hd⟩:=hd
 have hpo:PoolOk W0 (.game X) w t sl hp:=c.pool
 obtain ⟨e1,e2,nb',pl,s,qs,p⟩:=hpo.2 fd hf
 obtain rfl:=p.nb_eq hG e1
 have hsl:X.seats.length=0:=by rw [e1];rfl
 have hh:hp 0=h:=c.hp0
 have hfit:Fits h w:=by rw [← hh];exact c.mem.fits 0
 have hst:stepG P ((0:Nat) == 0) g w=.spawn (G (fr.finish undef) cs) (G (goFr P d) []) w #[]:=by rw [hr.step];exact step_spawn hd at_ (rr w hfit)
 have hrunT:=runT_crowd_spawn (w:=w) (sl:=sc) hg hst
 have hsize:=c.size
 have hlen:=hG.len
 have h0lt:0<gs.size:=by omega
 obtain ⟨u,hu⟩:∃ u:Trace,u=#[{ g:=0,fn:=g.frame.fn,pos:=g.frame.place,act:=.go gs.size },{ g:=gs.size,fn:=(G (goFr P d) []).frame.fn,pos:=g.frame.place,act:=.start }]:=⟨_,rfl⟩
 have hops:((MemOp.ofEvents 0 g.frame.fn g.frame.place #[]).push { g:=0,fn:=g.frame.fn,pos:=g.frame.place,act:=.go gs.size }).push { g:=gs.size,fn:=(G (goFr P d) []).frame.fn,pos:=g.frame.place,act:=.start }=u:=by
  rw [hu,ofEvents_none];simp
 rw [hops] at hrunT
 have hum:∀ op∈u,op.act.touch?=none:=fun op ho=>by rw [hu] at ho;simp at ho;rcases ho with rfl | rfl <;> rfl
 have hur:∀ op∈u,∀ x,op.act≠.mark (.release x):=fun op ho x=>by rw [hu] at ho;simp at ho;rcases ho with rfl | rfl <;> simp
 have hup:∀ op∈u,Plain op:=fun op ho m hm=>by rw [hu] at ho;simp at ho;rcases ho with rfl | rfl <;> cases hm
 have hug:∀ op∈u,op.g=0∨op.g=gs.size:=fun op ho=>by rw [hu] at ho;simp at ho;rcases ho with rfl | rfl <;> simp
 have hd0:Deaf t 0=0:=by rw [hG.deaf,hdf];rfl
 have hdI:Deaf t gs.size=0:=Go.ConcN.Deaf_absent fun i op ho e=>by have:=c.tg i op ho;omega
 have hknow:∀ i,Knows t 0 i→Knows (t++u) gs.size i:=fun i h=>by
  rw [hu]
  exact Go.ConcN.fork_knows ⟨rfl,rfl⟩ ⟨rfl,rfl⟩ hd0 hdI h
 have hng:∀ i,i≠0→i≠gs.size→∀ op∈u,op.g≠i:=fun i h1 h2 op ho e=>by rcases hug op ho with h | h <;> omega
 have hempty:hp gs.size=Hp.empty:=c.hpn _ (by omega)
 have hne:(0:Nat)≠gs.size:=by omega
 have hspl:Split (hp 0) h' hc:=by rw [hh];exact hsp.swap
 have hgI:give hp 0 gs.size h' hc gs.size=hc:=by rw [give_b,hempty,empty_join]
 have hgn:∀ i,i≠0→i≠gs.size→give hp 0 gs.size h' hc i=hp i:=fun i h1 h2=>give_ne h1 h2
 have hslots:∀ (i:Nat) (x:Slot P cv L) (z:Slot P cv L),(sl++[z])[i]?=some x→(i<sl.length∧sl[i]?=some x)∨(i=sl.length∧x=z):=fun i x z hi=>by
  rcases Nat.lt_or_ge i sl.length with hlt | hge
  ·rw [List.getElem?_append_left hlt] at hi;exact .inl ⟨hlt,hi⟩
  ·rw [List.getElem?_append_right hge] at hi
   have:i-sl.length=0:=by
    have:=(List.getElem?_eq_some_iff.1 hi).1
    simp at this;omega
   rw [this] at hi;simp at hi
   exact .inr ⟨by omega,hi.symm⟩
 have hgs0:((gs.setIfInBounds 0 (G (fr.finish undef) cs)).push (G (goFr P d) []))[0]?=some (G (fr.finish undef) cs):=by
  rw [Array.getElem?_push_lt (by simpa using h0lt),← Array.getElem?_eq_getElem]
  exact Array.getElem?_setIfInBounds_self_of_lt h0lt
 have hgsI:((gs.setIfInBounds 0 (G (fr.finish undef) cs)).push (G (goFr P d) []))[gs.size]?=some (G (goFr P d) []):=by
  have:=Array.getElem?_push_size (xs:=gs.setIfInBounds 0 (G (fr.finish undef) cs)) (x:=G (goFr P d) [])
  simpa using this
 have hgso:∀ i,i≠0→i<gs.size→((gs.setIfInBounds 0 (G (fr.finish undef) cs)).push (G (goFr P d) []))[i]?=gs[i]?:=fun i h1 h2=>by
  rw [Array.getElem?_push_lt (by simpa using h2),← Array.getElem?_eq_getElem]
  exact Array.getElem?_setIfInBounds_ne fun e=>h1 e.symm
 have hgsz:((gs.setIfInBounds 0 (G (fr.finish undef) cs)).push (G (goFr P d) [])).size=gs.size+1:=by simp
 generalize hgg:(gs.setIfInBounds 0 (G (fr.finish undef) cs)).push (G (goFr P d) [])=gs' at hgs0 hgsI hgso hgsz hrunT
 refine ⟨gs',u,⟨fr.finish undef,cs,h',_,k _ _ hO⟩,sl++[.act ⟨goFr P d,[],hc,_,run⟩],give hp 0 gs.size h' hc,hrunT,?_,.spawn _ _ hO⟩
 clear hu hrunT hops
 have hfits:=give_fits hne c.mem.fits c.mem.sep hspl
 have haft:Aft W0 w (give hp 0 gs.size h' hc) (.game { X with nf:=X.nf+1 }):=by
  have hg:NewG W0 (.game X):=c.aft.game
  refine c.aft.parts' (fun i b o v e=>?_) (fun i b v e=>?_) ⟨hg.1,hg.2⟩
  ·by_cases i1:i=0
   ·subst i1;rw [give_a hne] at e;exact ⟨0,hspl.o1 _ _ _ e⟩
   ·by_cases i2:i=gs.size
    ·subst i2;rw [hgI] at e;exact ⟨0,hspl.o2 _ _ _ e⟩
    ·rw [hgn i i1 i2] at e;exact ⟨i,e⟩
  ·by_cases i1:i=0
   ·subst i1;rw [give_a hne] at e;exact ⟨0,hspl.b1 _ _ e⟩
   ·by_cases i2:i=gs.size
    ·subst i2;rw [hgI] at e;exact ⟨0,hspl.b2 _ _ e⟩
    ·rw [hgn i i1 i2] at e;exact ⟨i,e⟩
 have hnil:∀ {k:Nat} {cx:St X},X.seats[k]?=some cx→False:=fun h=>by rw [e1] at h;simp at h
 refine ⟨by rw [hgsz];simp;omega,⟨_,hgs0,.inl runs_G⟩,fun i sx hi=>?_,⟨hfits,give_sep hne c.mem.fits c.mem.sep hspl,fun said=>race_mute (c.mem.nr said) hum,low_mute c.mem.low hum,fun op ho b=>(Array.mem_append.1 ho).elim (fun ho=>c.mem.norel op ho b) (fun ho=>hur op ho b)⟩,haft,by rw [give_a hne],fun i hi=>?_,fun i op hi=>?_,?_,?_,?_⟩
 ·rcases hslots i sx _ hi with ⟨hlt,hi⟩ | ⟨rfl,rfl⟩
  ·obtain ⟨g1,h1,h2⟩:=c.thr i sx hi
   exact ⟨g1,by rw [hgso _ (by omega) (by omega)];exact h1,slot_rely (Deaf_others (hng _ (by omega) (by omega))) (fun h=>h) h2⟩
  ·exact ⟨_,by rw [← hsize];exact hgsI,.inl runs_G⟩
 ·simp at hi
  rw [hgn _ (by omega) (by omega)];exact c.hpn i (by omega)
 ·simp
  rcases getElem?_append_cases hi with ⟨_,h⟩ | ⟨_,h⟩
  ·have:=c.tg i op h;omega
  ·rcases hug op h with h | h <;> omega
 ·rw [give_a hne];exact kn_mute (hspl.frz1.kn c.kn0) (fun j h=>h.app u) hum
 ·show ∃ nb,GameAt { X with nf:=X.nf+1 } gs' w (t++u) _ _ nb
  refine ⟨nb',⟨by simp;omega,fun i sx hi hc=>?_,fun j cx hj=>(hnil hj).elim,fun j sx hs=>?_,fun j cx hj=>(hnil hj).elim,fun j j' cx cx' x x' hj=>(hnil hj).elim,fun i j cx x hj=>(hnil hj).elim,fun i o=>give_own hne hspl (fun i=>hG.nowg i o) i,by rw [List.map_append];exact hG.wg.moreF hwt,fun i b o ho2 hb hl=>?_,by rw [Deaf_plain hup];exact hG.deaf,fun e=>(by replace e:X.tok=none:=e;rw [e] at e2;cases e2),fun _ j cx hj=>(hnil hj).elim,fun _=>.inl (by simp only;omega),fun h=>absurd hwt h,hG.adl,fun j cx g1 hj=>(hnil hj).elim,fun g0 cases shp hg hb ho'=>?_,fun g0 hg hb ho'=>?_,fun j cx x i b hj=>(hnil hj).elim⟩⟩
  ·rcases hslots i sx _ hc with ⟨_,hc⟩ | ⟨h,_⟩
   ·rw [hgn _ (by omega) (by omega)]
    exact (hG.old i sx hi hc).app (hng _ (by omega) (by omega))
   ·omega
  ·rcases hslots _ sx _ hs with ⟨hlt,hs⟩ | ⟨he,rfl⟩
   ·rw [hgn _ (by omega) (by omega)]
    exact (hG.know j sx hs).app (hng _ (by omega) (by omega)) fun kk hK=>kn_mute kk hK hum
   ·rw [show nb'+j+1=gs.size by omega,hgI]
    exact ⟨kn_mute (hspl.frz2.kn c.kn0) hknow hum,rfl,by rw [Deaf_plain hup];exact hdI⟩
  ·rcases touch_split hb with hb | ⟨op,ho,hi,h2⟩
   ·rcases hG.wgt i b o ho2 hb hl with this | ⟨k0,k1⟩
    ·refine .inl ⟨this.1,fun hsd=>?_⟩
     have h1:=this.2 hsd
     rw [g?_app (g?_lt h1)];exact h1
    ·refine .inr ⟨k0.app u,fun j' hj'=>?_⟩
     rcases Nat.lt_or_ge j' (X.seats.length+X.nf) with hlt | hge
     ·exact (k1 j' hlt).app u
     ·rw [show nb'+j'+1=gs.size by simp only at hj';omega];exact hknow i k0
   ·rw [hum op ho] at h2;cases h2
  ·rw [hgs0] at hg;cases hg;cases hb
  ·rw [hgs0] at hg;cases hg;cases hb
 ·refine ⟨fun e=>(by replace e:X.free=none:=e;rw [hf] at e;cases e),fun fd' hf'=>?_⟩
  replace hf':X.free=some fd':=hf'
  rw [hf] at hf';cases hf'
  have hlp:=p.len
  refine ⟨e1,e2,nb',pl,s,qs,⟨by simp;omega,p.u,p.fits,fun b ob e=>⟨(p.obj b ob e).1,fun i a ha hl=>(by
   rcases touch_split ha with ha | ⟨op,ho,_,h2⟩
   ·exact ((p.obj b ob e).2 i a ha hl).app u
   ·rw [hum op ho] at h2;cases h2)⟩,fun i=>?_,p.nowg,p.new,fun b o v e i a ha hl=>?_,fun b o v e i a ha hl hw=>?_,p.inv,p.pot,p.qlen,fun j sx hj=>?_,fun j hj=>p.rest j (by simp only at hj;omega)⟩⟩
  ·by_cases i1:i=0
   ·subst i1;rw [give_a hne];exact hspl.frz1.sep (p.sep 0)
   ·by_cases i2:i=gs.size
    ·subst i2;rw [hgI];exact hspl.frz2.sep (p.sep 0)
    ·rw [hgn i i1 i2];exact p.sep i
  ·have hall:Knows t 0 i→(∀ j,j<X.nf→Knows t (nb'+j+1) i)→Knows (t++u) 0 i∧∀ j,j<X.nf+1→Knows (t++u) (nb'+j+1) i:=fun k0 k1=>by
    refine ⟨k0.app u,fun j hj=>?_⟩
    rcases Nat.lt_or_ge j X.nf with hlt | hge
    ·exact (k1 j hlt).app u
    ·rw [show nb'+j+1=gs.size by omega];exact hknow i k0
   rcases touch_split ha with ha | ⟨op,ho,_,h2⟩
   ·rcases p.kno b o v e i a ha hl with ⟨h1,h2,j,h3,h4⟩ | ⟨h1,h2⟩
    ·exact .inl ⟨h1,(counts_old (touchAt_lt ha)).2 h2,j,by simp only;omega,by rw [g?_app (touchAt_lt ha)];exact h4⟩
    ·exact .inr (hall h1 h2)
   ·rw [hum op ho] at h2;cases h2
  ·rcases touch_split ha with ha | ⟨op,ho,_,h2⟩
   ·obtain ⟨k0,k1⟩:=p.knr b o v e i a ha hl hw
    refine ⟨k0.app u,fun j hj=>?_⟩
    rcases Nat.lt_or_ge j X.nf with hlt | hge
    ·exact (k1 j hlt).app u
    ·rw [show nb'+j+1=gs.size by simp only at hj;omega];exact hknow i k0
   ·rw [hum op ho] at h2;cases h2
  ·rcases hslots _ sx _ hj with ⟨hlt,hj⟩ | ⟨he,rfl⟩
   ·rw [hgn _ (by omega) (by omega)]
    exact p.slot j sx hj
   ·obtain rfl:j=X.nf:=by omega
    exact ⟨q0,by rw [p.rest _ (Nat.le_refl _)];exact hq,fd.N,rfl,p.pot⟩
end
end
end Go.PB
namespace Go.PB
open Go.Conc Go.Conc.Lib
open Go.ConcR (KK stA smA rd wr mk DC0)
variable {W0:World} {P:Program} {cv:Value} {L:WgLink}
def mEnd (P:Program) (f:FuncId) (Q:Value→Hp→Prop) (fr:Frame) (cs:List Frame) (h:Hp) (x:MX):Prop :=
 x=.idle∧cs=[]∧∃ v,AtEnd P fr f .normal h (.ret v)∧Q v h
theorem Mem.at {w:World} {t:Trace} {hp:Nat→Hp} (m:Mem w t hp) (d:Nat):Mem (w.at d) t hp:=⟨fun i=>⟨(m.fits i).own,(m.fits i).thaw,(m.fits i).ro,(m.fits i).disj,(m.fits i).obj,(m.fits i).objn,(m.fits i).shp⟩,m.sep,m.nr,m.low,m.norel⟩
section
variable {f:FuncId} {Q:Value→Hp→Prop} {gs:Array Goroutine} {w:World} {t:Trace} {M:MN P cv L (mEnd P f Q)} {sl:List (Slot P cv L)} {hp:Nat→Hp}
theorem Cfg.at (c:Cfg W0 gs w t M sl hp) (d:Nat):Cfg W0 gs (w.at d) t M sl hp where
 size:=c.size
 main:=c.main
 thr:=fun i s hi=>by
  obtain ⟨g,h1,h2⟩:=c.thr i s hi
  exact ⟨g,h1,slot_rely (w:=w) (w':=w.at d) rfl (fun ⟨a,b,h⟩=>⟨a,b,h.of_heap rfl⟩) h2⟩
 mem:=c.mem.at d
 aft:=⟨⟨⟨c.aft.after.1.os,c.aft.after.1.tape,c.aft.after.1.output,c.aft.after.1.size,c.aft.after.1.block⟩,c.aft.after.2⟩,c.aft.own,c.aft.obj,c.aft.game⟩
 hp0:=c.hp0
 hpn:=c.hpn
 tg:=c.tg
 kn0:=c.kn0
 game:=by
  have hg:=c.game
  cases hM:M.x with
  | idle=>rw [hM] at hg;exact hg
  | game X =>
   rw [hM] at hg
   obtain ⟨nb,G⟩:=hg
   exact ⟨nb,⟨G.len,G.old,G.seat,G.know,G.chan,G.dist,G.noch,G.nowg,G.wg.at fun a b h=>h.of_heap rfl,G.wgt,G.deaf,G.tok0,G.tok1,G.adp,G.ads,G.adl,G.live,G.park,fun g0 h1 h2 h3=>⟨(G.sleep g0 h1 h2 h3).1,fun h=>(G.sleep g0 h1 h2 h3).2 (h.of_heap rfl)⟩,G.cht⟩⟩
 pool:=by
  have:=c.pool.step (w':=w.at d) (u:=#[]) (sl':=sl) (hp':=hp) (fun pl _ h2 h3=>⟨⟨h3.own,h3.thaw,h3.ro,h3.disj,h3.obj,h3.objn,h3.shp⟩,h2,fun op ho=>by simp at ho⟩) rfl fun g wg m q i sx hi=>⟨sx,hi,id⟩
  rwa [Array.append_empty] at this
theorem Cfg.awake (c:Cfg W0 gs w t M sl hp):∀ g∈gs,awake g:=by
 intro g hg tm
 obtain ⟨i,hi⟩:=Array.mem_iff_getElem?.1 hg
 cases i with
 | zero =>
  obtain ⟨g',h1,h2⟩:=c.main
  rw [hi] at h1;cases h1
  rcases h2 with h | ⟨_,_,h,_⟩ | ⟨h,_⟩ <;> rw [h.status] <;> simp
 | succ i =>
  have hlt:i<sl.length:=by have:=(Array.getElem?_eq_some_iff.1 hi).1;have:=c.size;omega
  obtain ⟨g',h1,h2⟩:=c.thr i _ (List.getElem?_eq_getElem hlt)
  rw [hi] at h1;cases h1
  cases hs:sl[i] with
  | act n =>
   rw [hs] at h2
   rcases h2 with h | ⟨_,_,h,_⟩ <;> rw [h.status] <;> simp
  | out k m =>
   rw [hs] at h2
   cases k with
   | zero=>rcases QuitsD.status (P:=P) (n:=m) h2 with h | h <;> rw [h] <;> simp
   | succ k=>rw [zg_running (k:=k+1) h2];simp
theorem Cfg.someone (c:Cfg W0 gs w t M sl hp):∃ (i:Nat) (g:Goroutine),gs[i]?=some g∧g.status=.running:=by
 obtain ⟨g0,h0,hm⟩:=c.main
 rcases hm with h | ⟨cases,sh,h,hn⟩ | ⟨h,hn⟩
 ·exact ⟨0,g0,h0,h.status⟩
 ·have hgame:=c.game
  cases hM:M.x with
  | idle=>rw [hM] at hgame;exact absurd h.status (hgame.runs g0 h0)
  | game X =>
   rw [hM] at hgame
   obtain ⟨nb,G⟩:=hgame
   obtain ⟨j,cx,hj,_,hform,hb⟩:=G.park g0 cases sh h0 h.status h.offers
   obtain ⟨s,hs,hseat⟩:=G.seat j cx hj
   obtain ⟨g,hg,hsg⟩:=c.thr _ _ hs
   have hnb:=hb g hg
   obtain ⟨fr,cs,hh,x,o,O,at_,rr,a,k,rfl⟩:=hn
   replace hM:x=.game X:=hM
   subst hM
   obtain ⟨_,jm,cm,hwt,_,hjm,hcase⟩:=main_comm a
   have hseatj:∃ n,s=.act n:=by
    rcases hcase with ⟨z,s0,q,e,_,hst,_⟩ | ⟨z,q,m,f',s0,l,h',r,e,_,hst,hpl,_⟩
    ·rcases hform with ⟨z',e'⟩ | ⟨v',z',e'⟩
     ·rw [e'] at e
      have ech:cx.says=cm.says:=by simpa [rcase] using congrArg (fun a=>a.map CommCase.chan) e
      obtain ⟨rfl,_⟩:=G.dist j jm cx cm 0 0 hj hjm (by omega) (by omega) ech
      rw [hj] at hjm;cases hjm
      obtain ⟨n,hn,_⟩:=seat_run hseat hst
      exact ⟨n,hn⟩
     ·rw [e'] at e;simp [rcase,scase] at e
    ·rcases hform with ⟨z',e'⟩ | ⟨v',z',e'⟩
     ·rw [e'] at e;simp [rcase,scase] at e
     ·rw [e'] at e
      have ech:cx.turn=cm.turn:=by simpa [scase] using congrArg (fun a=>a.map CommCase.chan) e
      obtain ⟨rfl,_⟩:=G.dist j jm cx cm 1 1 hj hjm (by omega) (by omega) ech
      rw [hj] at hjm;cases hjm
      obtain ⟨n,hn,_⟩:=seat_said hseat hst (by rw [hpl];rfl)
      exact ⟨n,hn⟩
   obtain ⟨n,rfl⟩:=hseatj
   rcases hsg with hr | ⟨_,_,hp,_⟩
   ·exact ⟨_,g,hg,hr.status⟩
   ·exact absurd hp.status hnb
 ·have hgame:=c.game
  cases hM:M.x with
  | idle=>rw [hM] at hgame;exact absurd h.status (hgame.runs g0 h0)
  | game X =>
   rw [hM] at hgame
   obtain ⟨nb,G⟩:=hgame
   obtain ⟨hwt,hnf⟩:=G.sleep g0 h0 h.status h.offers
   have find:∀ (i k:Nat),(sl.map Slot.stage)[i]?=some k→0<k→∃ (i:Nat) (g:Goroutine),gs[i]?=some g∧g.status=.running:=by
    intro i k hi hk
    rw [List.getElem?_map] at hi
    obtain ⟨s,hs,rfl⟩:=Option.map_eq_some_iff.1 hi
    obtain ⟨g,hg,hsg⟩:=c.thr i s hs
    cases s with
    | out k' m =>
     cases k' with
     | zero=>exact absurd hk (Nat.lt_irrefl 0)
     | succ k'=>rw [hM] at hsg;exact ⟨_,g,hg,zg_running (k:=k'+1) hsg⟩
    | act n =>
     have hin:nb≤i:=Nat.le_of_not_lt fun hlt=>by obtain ⟨m',e⟩:=(G.old i _ hlt hs).out;cases e
     obtain ⟨j,rfl⟩:∃ j,i=nb+j:=⟨i-nb,by omega⟩
     rcases hsg with hr | ⟨_,_,hp,hnode⟩
     ·exact ⟨_,g,hg,hr.status⟩
     have hno:X.free=none∧X.nf=0:=by
      obtain ⟨fr,cs,hh,x,o,O,at_,rr,a,k,rfl⟩:=hnode
      exact c.comm_turns hM G hs
     obtain ⟨cx,hj⟩:∃ cx:St X,X.seats[j]?=some cx:=by
      have:=G.len
      have:=(List.getElem?_eq_some_iff.1 hs).1
      exact ⟨X.seats[j]'(by omega),List.getElem?_eq_getElem _⟩
     have hsh:=(G.ads (by rw [hwt];simp)).2 j cx hj
     have hnb:=G.live j cx g hj hg hsh
     exact absurd hp.status hnb
   cases G.wg with
   | quiet v wt at_ hv late hw park b =>
    have hads:=G.ads (by rw [hwt];simp)
    have hpos:=park hwt
    have:0<((sl.map Slot.stage).filter fun k=>decide (4≤k)).length:=by omega
    obtain ⟨k,hk⟩:=List.exists_mem_of_length_pos this
    obtain ⟨hk1,hk2⟩:=List.mem_filter.1 hk
    obtain ⟨i,hi⟩:=List.getElem?_of_mem hk1
    exact find i k hi (by simp at hk2;omega)
   | late p i k hi hk at_ oth=>exact find i k hi (by omega)
   | late1 p i hi at_ oth=>exact find i 1 hi (by omega)
   | free p at_ oth=>exact absurd at_ hnf
end
end Go.PB
namespace Go.PB
open Go.Conc Go.Conc.Lib
open Go.ConcR (KK stA smA rd wr mk DC0)
variable {W0:World} {P:Program} {cv:Value} {L:WgLink} {f:FuncId} {Q:Value→Hp→Prop} {Post:Value→World→Prop}
theorem zg_runs {ty:TypeId} {Wg m:Nat} {g:Goroutine} {fr:Frame} {cs:List Frame} {w:World} (r:Runs g fr cs) (h:Zg P ty Wg (ZR P ty Wg) m (G fr cs) w):Zg P ty Wg (ZR P ty Wg) m g w:=by
 have stop:∀ w₁,ZR P ty Wg (G fr cs) w₁→ZR P ty Wg g w₁:=fun w₁ ⟨_,g',m,hs,hz⟩=>⟨r.status,g',m,by rw [r.step];exact hs,hz⟩
 unfold Zg at h ⊢
 cases m with
 | zero=>exact fun w₁ h₁=>stop w₁ (h w₁ h₁)
 | succ m =>
  rcases h with h | ⟨_,h⟩
  ·exact .inl fun w₁ h₁=>stop w₁ (h w₁ h₁)
  ·exact .inr ⟨r.status,fun w₁ h₁=>by rw [r.step];exact h w₁ h₁⟩
theorem EvOk.marks {M M':Mark→Prop} {h:Hp} {w:World} {n:Nat} {e:Event} (x:EvOk M h w n e) (hM:∀ m,M m→M' m):EvOk M' h w n e:=by
 unfold EvOk at x ⊢
 split at x
 ·exact x
 ·exact x
 ·exact hM _ x
 ·exact x
def EndsW (P:Program) (Post:Value→World→Prop) (gs:Array Goroutine) (w:World) (sc:Option (Nat × Nat)) (t:Trace):Prop :=
 ∃ N last o w' t',runNT P (N+1) (crowd gs w sc) t=(.ended o w',t')∧runN P N (crowd gs w sc)=.next last∧step P last=.ended o w'∧Conc.Good P Post last o w' t'
theorem EndsW.step {gs gs':Array Goroutine} {w w':World} {sc sc':Option (Nat × Nat)} {t ops:Trace} (hs:stepT P (crowd gs w sc)=(.next (crowd gs' w' sc'),ops)) (h:EndsW P Post gs' w' sc' (t++ops)):EndsW P Post gs w sc t:=by
 obtain ⟨N,last,o,w2,t',h1,h2,h3,h4⟩:=h
 exact ⟨N+1,last,o,w2,t',by rw [runNT_succ_next hs];exact h1,by rw [runN_succ_next hs];exact h2,h3,h4⟩
section
variable {gs:Array Goroutine} {w:World} {t:Trace} {sl:List (Slot P cv L)} {hp:Nat→Hp} {g:Goroutine} {sc sc':Option (Nat × Nat)} {fr:Frame} {cs:List Frame} {h:Hp} {x:MX} {d:Nat}
theorem ends_fin (hi:P.inits.idxOf? f=none) (hQ:∀ v h w',Q v h→After W0 w'→Post v w') {e:mEnd P f Q fr cs h x} (c:Cfg W0 gs (w.at d) t (⟨fr,cs,h,x,.fin e⟩:MN P cv L (mEnd P f Q)) sl hp) (hg:gs[0]?=some g) (hr:Runs g fr cs)
  (hst:stepT P (crowd gs w sc)=runT P (crowd gs (w.at d) sc') 0):EndsW P Post gs w sc t:=by
 obtain ⟨rfl,rfl,v,hat,hq⟩:=e
 have hh:hp 0=h:=c.hp0
 have hfit:Fits h (w.at d):=by rw [← hh];exact c.mem.fits 0
 have hidle:IdleAt t sl hp gs:=c.game
 obtain ⟨h1,h2,h3,h4,h5,fn,hf,hres⟩:=hat
 rcases wpS_sound _ hres (w.at d) #[] hfit with ⟨v',w',es',h',e1,gu,e2,rfl,rfl⟩ | ⟨_,_,_,_,_,_,_,hx⟩
 rotate_left
 ·exact hx.elim
 simp only [Array.empty_append] at e1
 obtain ⟨es,hes,hstep⟩:∃ es,(∀ e∈es,EvOk Still h' (w.at d) w'.heap.size e)∧stepG P true (G fr []) (w.at d)=.ended (.done v') w' es:=by
  refine ⟨seen P fr.fn es',fun e he=>(e2 e (seen_mem P _ _ e he)).marks fun m hm=>hm.elim,?_⟩
  ·obtain ⟨f1,tmps,f3,f4,f5,f6,f7⟩:=fr
   simp only at h1 h2 h3 h4 h5
   subst h1;subst h2;subst h3;subst h4;subst h5
   replace e1:(results fn tmps).runT P (w.at d) #[]=(.ok v' w',es'):=e1
   have er:(results fn tmps).run P (w.at d)=.ok v' w':=by rw [← Sem.runT_fst P _ (w.at d) #[],e1]
   have ee:=congrArg Prod.snd e1
   simp only [Sem.runT_eq] at ee
   simp [stepG,G,unwind,hf,er,ee,GStep.after,doReturn,hi]
 have hst':stepG P ((0:Nat) == 0) g (w.at d)=.ended (.done v') w' es:=by rw [hr.step];exact hstep
 have hrunT:=Go.ConcN.runT_crowd_ended (sl:=sc') hg hst'
 have hstepT:=hst.trans hrunT
 have ho:=own_of_events (a:=0) (fn:=g.frame.fn) (pos:=g.frame.place) gu hes
 generalize hops:MemOp.ofEvents 0 g.frame.fn g.frame.place es=ops at ho hstepT
 have ho':Own 0 (hp 0) (w.at d) w' h' ops:=by rw [hh];exact ho
 have hmem:=c.mem.own ho' c.kn0
 have haft:=c.aft.own_step ho'
 have hng:∀ i,i≠0→∀ op∈ops,op.g≠i:=fun i hi op hop e=>hi (by rw [← e,ho.g op hop])
 refine ⟨0,crowd gs w sc,.done v',w',t++ops,by rw [runNT,hstepT],rfl,by rw [← stepT_fst P _ true,hstepT],v',rfl,hQ _ _ _ hq haft.after,fun said=>hmem.nr said,?_,⟨?_,rfl⟩,?_⟩
 ·-- all is handed over
  intro i k hi hk hc
  have hlt:i<t.size:=by
   refine Nat.lt_of_not_le fun hge=>?_
   unfold Trace.g? at hi
   obtain ⟨op,hop,hopg⟩:=Option.map_eq_some_iff.1 hi
   rcases getElem?_append_cases hop with ⟨h,_⟩ | ⟨_,h⟩
   ·omega
   ·rw [ho.g op h] at hopg;exact hk hopg.symm
  rw [g?_app hlt] at hi
  rw [counts_old hlt] at hc
  obtain ⟨op,hop,hopg⟩:=Option.map_eq_some_iff.1 (show (t[i]?).map (·.g)=some k from hi)
  have htg:=c.tg i op hop
  obtain ⟨k,rfl⟩:∃ k',k=k'+1:=⟨k-1,by omega⟩
  have hkl:k<sl.length:=by omega
  obtain ⟨q,z,hq,hzg,hb⟩:=(hidle.old k _ (List.getElem?_eq_getElem hkl)).all i hi hc
  refine ⟨q,?_,?_⟩
  ·rw [g?_app (lt_size_of_getElem? hq),g?_of hq,hzg]
  ·rcases hb with rfl | hb
   ·rw [g?_of hq,hzg] at hi;cases hi
   ·exact hb_app ops hb
 ·intro g' hg'
  obtain ⟨i,hi⟩:=List.getElem?_of_mem hg'
  rw [List.getElem?_drop] at hi
  have hi':gs[i+1]?=some g':=by
   rw [← Array.getElem?_toList,Nat.add_comm i 1];exact hi
  have hlt:i<sl.length:=by have:=(Array.getElem?_eq_some_iff.1 hi').1;have:=c.size;omega
  obtain ⟨g2,e1,e2⟩:=c.thr i _ (List.getElem?_eq_getElem hlt)
  rw [hi'] at e1;cases e1
  obtain ⟨m,hm⟩:=(hidle.old i _ (List.getElem?_eq_getElem hlt)).out
  rw [hm] at e2
  exact ⟨m,QuitsD.leaves (P:=P) (n:=m) e2⟩
 ·intro i g' hg' hi0
  obtain ⟨i,rfl⟩:∃ i',i=i'+1:=⟨i-1,by omega⟩
  replace hg':gs[i+1]?=some g':=hg'
  have hlt:i<sl.length:=by have:=(Array.getElem?_eq_some_iff.1 hg').1;have:=c.size;omega
  obtain ⟨g2,e1,e2⟩:=c.thr i _ (List.getElem?_eq_getElem hlt)
  rw [hg'] at e1;cases e1
  obtain ⟨m,hm⟩:=(hidle.old i _ (List.getElem?_eq_getElem hlt)).out
  rw [hm] at e2
  refine ⟨m,?_⟩
  have hd:(t++ops).deaf (i+1) (t++ops).size=Deaf t (i+1):=Deaf_others (hng _ (by omega))
  rw [hd]
  exact QuitsD.hears (P:=P) _ (n:=m) e2
end
end Go.PB
namespace Go.PB
open Go.Conc Go.Conc.Lib
open Go.ConcR (KK stA smA rd wr mk DC0)
variable {W0:World} {P:Program} {cv:Value} {L:WgLink} {f:FuncId} {Q:Value→Hp→Prop} {Post:Value→World→Prop}
theorem thr_free (H:WgLib P L) {gs:Array Goroutine} {w:World} {t:Trace} {M:MN P cv L (mEnd P f Q)} {sl:List (Slot P cv L)} {hp:Nat→Hp} {i:Nat} {g:Goroutine} {fr:Frame} {cs:List Frame} {h:Hp} {x:TX} {r:Run P (tHand P cv) false (tEnd P L.done) fr cs h x}
  {X:GX} {nb j:Nat} (c:Cfg W0 gs w t M sl hp) (hX:M.x=.game X) (hG:GameAt X gs w t sl hp nb) (hs:sl[nb+j]?=some (.act ⟨fr,cs,h,x,r⟩)) (hg:gs[nb+j+1]?=some g) (hr:Runs g fr cs)
  (hfree:(∃ e,r=.fin e)∨∃ O a k,r=.ghost O a k):∃ sl' hp',Cfg W0 gs w t M sl' hp'∧Falls SBel sl' sl:=by
 have hh:h=hp (nb+j+1):=(hG.know j _ hs).2.1
 have hkn:=(hG.know j _ hs).1
 have hdj:=(hG.know j _ hs).2.2
 have hseat:∀ cx:St X,X.seats[j]?=some cx→SeatAt X cx (hp (nb+j+1)) (.act ⟨fr,cs,h,x,r⟩:Slot P cv L):=fun cx hj=>by
  obtain ⟨s,h1,h2⟩:=hG.seat j cx hj
  rw [hs] at h1;cases h1;exact h2
 -- whose group it is
 have hxwg:x.wg=X.wg:=by
  have hpo:=c.pool
  rw [hX] at hpo
  cases hf:X.free with
  | none =>
   have hnf:=hpo.1 hf
   obtain ⟨cx,hj⟩:∃ cx:St X,X.seats[j]?=some cx:=by
    have:=hG.len
    have:=(List.getElem?_eq_some_iff.1 hs).1
    exact ⟨X.seats[j]'(by omega),List.getElem?_eq_getElem _⟩
   obtain ⟨ph,hx,_⟩:=hseat cx hj
   replace hx:x=_:=hx
   rw [hx]
  | some d =>
   obtain ⟨e1,e2,nb',pl,s,qs,p⟩:=hpo.2 d hf
   obtain rfl:=p.nb_eq hG e1
   obtain ⟨q,_,n',hx,_⟩:=p.slot j _ hs
   replace hx:x=_:=hx
   rw [hx]
 rcases hfree with ⟨e,rfl⟩ | ⟨O,a,k,rfl⟩
 ·obtain ⟨hfr,⟨c0,cs',qt,hcs,hcm,hq⟩,q,hph,hfin⟩:=e
  subst hcs
  refine ⟨_,_,Cfg.frz1 c hX hG hs (h1:=h) (by rw [hh];exact Frz.refl) (s':=.out 6 23) (.inr rfl) ⟨g,hg,?_⟩ (.inl ⟨rfl,by rw [hh];exact hkn,hdj⟩) (fun cx hj=>?_) (fun m q' hfs=>?_),Falls.set hs trivial⟩
  ·rw [hxwg] at hfr
   subst hfr
   obtain ⟨p1,p2,e1⟩:=hG.wg.ex
   haveI:Go.ConcR.Payload:=⟨0⟩
   have hz:=done_goes H (Wg:=X.wg) hcm hq w ⟨_,_,e1⟩
   rw [← done_enter H] at hz
   exact zg_runs hr hz
  rotate_left
  ·obtain ⟨n',hx,_⟩:=hfs
   replace hx:x=_:=hx
   subst hx
   rcases hph with hph | hph | ⟨hpl,n2,hph⟩
   ·cases hph
   ·cases hph
   ·replace hph:Ph.free q' n'=Ph.free q n2:=hph
    cases hph
    exact ⟨hpl,hfin⟩
  ·obtain ⟨ph,hx,pk⟩:=hseat cx hj
   replace hx:x=_:=hx
   subst hx
   refine ⟨Nat.le_refl _,q,?_,hfin⟩
   generalize cx.st=st at pk
   rcases hph with hph | hph | ⟨_,n2,hph⟩
   rotate_right
   ·replace hph:ph=_:=hph
    rw [hph] at pk
    cases pk
   ·replace hph:ph=_:=hph
    rw [hph] at pk
    cases pk with
    | over hp=>exact .inl ⟨rfl,hp⟩
    | shutO=>exact .inr rfl
   ·replace hph:ph=_:=hph
    rw [hph] at pk
    cases pk with
    | shutC=>exact .inr rfl
 ·obtain ⟨h1,z,q⟩:=a ⟨w,by rw [show h=hp (nb+j+1) from hh];exact c.mem.fits _⟩
  refine ⟨_,_,Cfg.frz1 c hX hG hs (h1:=h1) (by rw [← hh];exact z) (s':=.act ⟨fr,cs,h1,x,k h1 x q⟩) (.inl rfl) ⟨g,hg,.inl hr⟩ ⟨?_,rfl,hdj⟩ (fun cx hj=>?_) (fun m q' hfs=>hfs),Falls.set hs (Relation.TransGen.single (Below.ghost (B:=tHand P cv) (k:=k) h1 x q))⟩
  ·have:Frz (hp (nb+j+1)) h1:=by rw [← hh];exact z
   exact this.kn hkn
  ·obtain ⟨ph,hx,pk⟩:=hseat cx hj
   exact ⟨ph,hx,pk⟩
theorem play_ends (H:WgLib P L) (hi:P.inits.idxOf? f=none) (hQ:∀ v h w',Q v h→After W0 w'→Post v w') :
  ∀ (M:MN P cv L (mEnd P f Q)) (sl:List (Slot P cv L)) (n:Nat) (gs:Array Goroutine) (w:World) (t:Trace) (hp:Nat→Hp) (sc:Option (Nat × Nat)),Cfg W0 gs w t M sl hp→nrun gs=n→EndsW P Post gs w sc t:=by
 intro M
 induction M using (below_wf (P:=P) (B:=mHand P cv L.done L.tWg) (main:=true) (E:=mEnd P f Q)).induction with
 | _ M ihM =>
 intro sl
 induction sl using (Falls.wf (sbel_wf (P:=P) (cv:=cv) (L:=L))).induction with
 | _ sl ihS =>
 intro n
 induction n using Nat.strongRecOn with
 | _ n ihN =>
 intro gs w t hp sc c hn
 -- what falls,ends
 have go:∀ {d:Nat} {sc':Option (Nat × Nat)} {i:Nat},stepT P (crowd gs w sc)=runT P (crowd gs (w.at d) sc') i →
   (∃ gs' w' ops M' sl' hp',runT P (crowd gs (w.at d) sc') i=(.next (crowd gs' w' sc'),ops)∧Cfg W0 gs' w' (t++ops) M' sl' hp'∧Less gs' M' sl' gs M sl)→EndsW P Post gs w sc t:=by
  rintro d sc' i hst ⟨gs',w',ops,M',sl',hp',h1,h2,h3⟩
  refine EndsW.step (hst.trans h1) ?_
  rcases h3 with h3 | ⟨rfl,h3⟩ | ⟨rfl,rfl,h3⟩
  ·exact ihM M' h3 sl' _ gs' w' _ hp' sc' h2 rfl
  ·exact ihS sl' h3 _ gs' w' _ hp' sc' h2 rfl
  ·exact ihN _ (by omega) gs' w' _ hp' sc' h2 rfl
 obtain ⟨i,g,d,sc',hgi,hrun,hst⟩:=crowd_pick (P:=P) (w:=w) (sl:=sc) c.awake c.someone
 have c':=c.at d
 cases i with
 | zero =>
  obtain ⟨g',h0,hm⟩:=c.main
  rw [hgi] at h0;cases h0
  have hr:Runs g M.fr M.cs:=by
   rcases hm with h | ⟨_,_,h,_⟩ | ⟨h,_⟩
   ·exact h
   ·rw [h.status] at hrun;cases hrun
   ·rw [h.status] at hrun;cases hrun
  obtain ⟨fr,cs,h,x,r⟩:=M
  have hfit:Fits h (w.at d):=by
   have:hp 0=h:=c.hp0
   rw [← this];exact c'.mem.fits 0
  cases r with
  | fin e=>exact ends_fin hi hQ c' hgi hr hst
  | priv nx k =>
   obtain ⟨gs',ops,h1,h2⟩:=cfg_priv0 (sc:=sc') c' hgi hr (nx (w.at d) hfit) (k (w.at d) hfit)
   exact go hst ⟨gs',_,ops,_,sl,_,h1,h2,.inl (.priv (w.at d) hfit)⟩
  | act o O at_ ne a k =>
   have a':=a
   obtain ⟨X,hX,ma⟩:=a'
   subst hX
   rcases cfg_book (sc:=sc') c' hgi hr ma with ⟨gs',w',ops,v,h',x',q,h1,h2⟩ | ⟨hp1,hb,hnf⟩ | ⟨hwt,hdf,hnq,hs,hO⟩ | ⟨j,cx,q0,hwt,hdf,had,htk,hj,hst0,hwk,hs,hO⟩
   ·exact go hst ⟨gs',w',ops,_,sl,hp,h1,h2,.inl (.act v h' x' q)⟩
   ·obtain ⟨gs',h1,h2,h3⟩:=cfg_sleep (sc:=sc') c' hgi hr hp1 hb hnf
    exact go hst ⟨gs',_,#[],_,sl,hp,h1,by rw [Array.append_empty];exact h2,.inr (.inr ⟨rfl,rfl,h3⟩)⟩
   ·obtain ⟨gs',ops,h',q,hp',h1,h2⟩:=cfg_acquire (sc:=sc') c' hgi hr hwt hdf hnq hs hO
    exact go hst ⟨gs',_,ops,_,sl,hp',h1,h2,.inl (Below.act (B:=mHand P cv L.done L.tWg) (k:=k) unit h' MX.idle q)⟩
   ·obtain ⟨gs',w',ops,h1,h2⟩:=cfg_shut (sc:=sc') c' hgi hr hwt hdf had htk hj hst0 hwk hs hO
    exact go hst ⟨gs',w',ops,_,sl,hp,h1,h2,.inl (Below.act (B:=mHand P cv L.done L.tWg) (k:=k) unit h _ hO)⟩
  | comm o cases bl sh O at_ rr a k =>
   have a':=a
   rcases a' with ⟨hbl,X,_,_,hX,_⟩ | ht
   ·subst hX
    subst hbl
    obtain ⟨gs',w',ops,M',sl',hp',h1,h2,h3⟩:=cfg_comm0 (sc:=sc') c' hgi hr
    exact go hst ⟨gs',w',ops,M',sl',hp',h1,h2,h3.imp id fun h=>.inr h⟩
   ·obtain ⟨gs',w',ops,M',hp',h1,h2,h3⟩:=cfg_try0 (sc:=sc') c' hgi hr ht
    exact go hst ⟨gs',w',ops,M',sl,hp',h1,h2,.inl h3⟩
  | spawn o dd O at_ rr a k =>
   have a':=a
   rcases a' with ⟨X,s,says,turn,fin,hc,h',s',q',hX,hrest⟩ | ⟨X,fd,hc,h',q0,hX,hf,hwt,hdf,had,hq,hsp,hd,⟨run⟩,hO⟩
   ·subst hX
    obtain ⟨gs',ops,M',sl',hp',h1,h2,h3⟩:=cfg_spawn (sc:=sc') c' hgi hr ⟨X,s,says,turn,fin,hc,h',s',q',rfl,hrest⟩
    exact go hst ⟨gs',_,ops,M',sl',hp',h1,h2,.inl h3⟩
   ·subst hX
    obtain ⟨gs',ops,M',sl',hp',h1,h2,h3⟩:=cfg_spawnF (sc:=sc') c' hgi hr hf hwt hdf had hq hsp hd run hO
    exact go hst ⟨gs',_,ops,M',sl',hp',h1,h2,.inl h3⟩
  | late b tt ds todo f cap args O e a k =>
   subst e
   have a':=a
   obtain ⟨X,hX,d1,d2,d3⟩:=a'
   subst hX
   obtain ⟨gs',w',ops,h1,h2⟩:=cfg_late (sc:=sc') c' hgi hr d1 d2 d3
   exact go hst ⟨gs',w',ops,_,sl,hp,h1,h2,.inl (Below.late (B:=mHand P cv L.done L.tWg) (k:=k) h _ d3)⟩
  | ghost O a k =>
   have a':=a
   rcases a' ⟨w.at d,hfit⟩ with ⟨h1,z,q⟩ | ⟨hx,gm,wg,s,h1,e0,e1,e2,z,hno,q⟩ | ⟨hx,gm,fd,wg,s,h1,h2,pl,sp,hU,hpw,e0,e1,e2,z,hno,hI,hφ,q⟩
   ·exact ihM _ (.ghost h1 x q) sl _ gs w t _ sc (Cfg.frz0 c z (M':=⟨fr,cs,h1,x,k h1 x q⟩) rfl rfl ⟨g,hgi,.inl hr⟩) rfl
   ·exact ihM _ (.ghost h1 _ q) sl _ gs w t _ sc (Cfg.start c hx e0 e1 e2 z hno ⟨fun _=>rfl,fun d hd=>by cases hd⟩ (M':=⟨fr,cs,h1,_,k h1 _ q⟩) rfl rfl ⟨g,hgi,.inl hr⟩) rfl
   ·exact ihM _ (.ghost h1 _ q) sl _ gs w t _ sc (Cfg.startF c hx sp hU hpw e0 e1 e2 z hno hI hφ (M':=⟨fr,cs,h1,_,k h1 _ q⟩) rfl rfl ⟨g,hgi,.inl hr⟩) rfl
 | succ i =>
  have hlt:i<sl.length:=by have:=(Array.getElem?_eq_some_iff.1 hgi).1;have:=c.size;omega
  obtain ⟨s,hs⟩:∃ s,sl[i]?=some s:=⟨sl[i],List.getElem?_eq_getElem hlt⟩
  obtain ⟨g',h1,hsg⟩:=c.thr i s hs
  rw [hgi] at h1;cases h1
  -- in a game,if it isn't one that only leaves
  have ingame:s.stage≠0→∃ X nb j,M.x=.game X∧GameAt X gs w t sl hp nb∧i=nb+j:=by
   intro hne
   have hgame:=c.game
   cases hM:M.x with
   | idle=>rw [hM] at hgame;obtain ⟨m,rfl⟩:=(hgame.old i s hs).out;exact absurd rfl hne
   | game X =>
    rw [hM] at hgame
    obtain ⟨nb,G⟩:=hgame
    refine ⟨X,nb,i-nb,rfl,G,?_⟩
    have hin:nb≤i:=Nat.le_of_not_lt fun hlt=>by obtain ⟨m,rfl⟩:=(G.old i s hlt hs).out;exact hne rfl
    omega
  cases s with
  | out k m =>
   cases k with
   | zero =>
    obtain ⟨gs',ops,m',h1,h2,h3⟩:=cfg_quit (sc:=sc') c' hs hgi hrun
    exact go hst ⟨gs',_,ops,M,_,hp,h1,h3,.inr (.inl ⟨rfl,Falls.set hs (.inr ⟨rfl,h2⟩)⟩)⟩
   | succ k =>
    obtain ⟨X,nb,j,hX,G,rfl⟩:=ingame (by simp [Slot.stage])
    have hg':=c'.game
    rw [hX] at hg'
    obtain ⟨gs',w',ops,k',m',h1,h2,h3⟩:=cfg_out (sc:=sc') c' hX (by
     exact ⟨G.len,G.old,G.seat,G.know,G.chan,G.dist,G.noch,G.nowg,G.wg.at fun a b h=>h.of_heap rfl,G.wgt,G.deaf,G.tok0,G.tok1,G.adp,G.ads,G.adl,G.live,G.park,fun g0 h1 h2 h3=>⟨(G.sleep g0 h1 h2 h3).1,fun h=>(G.sleep g0 h1 h2 h3).2 (h.of_heap rfl)⟩,G.cht⟩:GameAt X gs (w.at d) t sl hp nb) hs hgi
    exact go hst ⟨gs',w',ops,M,_,hp,h1,h3,.inr (.inl ⟨rfl,Falls.set hs h2⟩)⟩
  | act nd =>
   obtain ⟨X,nb,j,hX,G,rfl⟩:=ingame (by simp [Slot.stage])
   have G':GameAt X gs (w.at d) t sl hp nb:=⟨G.len,G.old,G.seat,G.know,G.chan,G.dist,G.noch,G.nowg,G.wg.at fun a b h=>h.of_heap rfl,G.wgt,G.deaf,G.tok0,G.tok1,G.adp,G.ads,G.adl,G.live,G.park,fun g0 h1 h2 h3=>⟨(G.sleep g0 h1 h2 h3).1,fun h=>(G.sleep g0 h1 h2 h3).2 (h.of_heap rfl)⟩,G.cht⟩
   have hr:Runs g nd.fr nd.cs:=by
    rcases hsg with h | ⟨_,_,h,_⟩
    ·exact h
    ·rw [h.status] at hrun;cases hrun
   obtain ⟨fr,cs,h,x,r⟩:=nd
   have hfit:Fits h (w.at d):=by
    have:h=hp (nb+j+1):=(G.know j _ hs).2.1
    rw [this];exact c'.mem.fits _
   cases r with
   | fin e =>
    obtain ⟨sl',hp',h1,h2⟩:=thr_free H (i:=nb+j) c hX G hs hgi hr (.inl ⟨e,rfl⟩)
    exact ihS sl' h2 _ gs w t hp' sc h1 rfl
   | ghost O a k =>
    obtain ⟨sl',hp',h1,h2⟩:=thr_free H (i:=nb+j) c hX G hs hgi hr (.inr ⟨O,a,k,rfl⟩)
    exact ihS sl' h2 _ gs w t hp' sc h1 rfl
   | priv nx k =>
    obtain ⟨gs',ops,h1,h2⟩:=cfg_priv1 (sc:=sc') c' hs hgi hr (nx (w.at d) hfit) (k (w.at d) hfit)
    exact go hst ⟨gs',_,ops,M,_,_,h1,h2,.inr (.inl ⟨rfl,Falls.set hs (Relation.TransGen.single (.priv (w.at d) hfit))⟩)⟩
   | act o O at_ ne a k =>
    obtain ⟨gs',w',ops,v,x',q,h1,h2⟩:=cfg_free (sc:=sc') c' hX G' hs hgi hr
    exact go hst ⟨gs',w',ops,M,_,hp,h1,h2,.inr (.inl ⟨rfl,Falls.set hs (Relation.TransGen.single (Below.act (B:=tHand P cv) (k:=k) v h x' q))⟩)⟩
   | comm o cases bl sh O at_ rr a k =>
    have a':=a
    rcases a' with ⟨hbl,_⟩ | ht | ht
    ·subst hbl
     exact go hst (cfg_comm1 (sc:=sc') c' hX G' hs hgi hr)
    ·exact go hst (cfg_try1 (sc:=sc') c' G' hs hgi hr ht)
    ·exact go hst (cfg_tryF (sc:=sc') c' hX G' hs hgi hr ht)
   | spawn o dd O at_ rr a k=>exact a.elim
   | late b tt ds todo f cap args O e a k=>exact a.elim
theorem good_of_play {args:Array Value} {R:Value→List HProp→MX→Prop} (H:WgLib P L) (hi:P.inits.idxOf? f=none)
  (tr:Tr P (mHand P cv L.done L.tWg) f args.toList [base W0] .idle R) (hx:∀ v L' x',R v L' x'→x'=.idle) (hR:∀ v L' w',R v L' .idle→After W0 w'→Post v w') :
  ∃ M last o w' t',runNT P (M+1) (solo (G (Frame.enter P f args .normal) []) W0) #[]=(.ended o w',t')∧runN P M (solo (G (Frame.enter P f args .normal) []) W0)=.next last ∧
    step P last=.ended o w'∧Conc.Good P Post last o w' t':=by
 let Q:Value→Hp→Prop:=fun v h=>∃ L',R v L' .idle∧Star L' h
 have hst:Star [base W0] (start W0):=⟨start W0,Hp.empty,
  ⟨fun _ _ _ e=>e,fun _ _ _ e=>(by cases e),fun _ _ _ e=>e,fun _ _ _ e=>(by cases e),fun _ _=>.inl rfl,fun _ _ e=>e,fun _ _ e=>(by cases e),fun _=>.inl rfl,fun _ _ e=>e,fun _ _ e=>(by cases e)⟩,fun _ _ _ e=>e,trivial⟩
 have key:Nonempty (Run P (mHand P cv L.done L.tWg) true (mEnd P f Q) (Frame.enter P f args .normal) [] (start W0) .idle) :=
  tr (start W0) .run (fun e _ h' x'=>∃ v,e=.ret v∧x'=.idle∧Q v h') hst (fun v L' x' h' r s=>by obtain rfl:=hx _ _ _ r;exact ⟨v,rfl,rfl,L',r,s⟩) (fun _ _ _ h=>h.elim)
   true _ run_closed [] (fun h=>by cases h) (by
    rintro fr e um' h' x' ha ⟨v,rfl,rfl,hq⟩
    exact ⟨.fin ⟨rfl,rfl,v,ha,hq⟩⟩)
 obtain ⟨run⟩:=key
 have hempty:∀ i,0<i→put (fun _=>Hp.empty) 0 (start W0) i=Hp.empty:=fun i hi=>put_ne (by omega)
 have c:Cfg W0 #[G (Frame.enter P f args .normal) []] W0 #[] (⟨_,_,_,_,run⟩:MN P cv L (mEnd P f Q)) [] (put (fun _=>Hp.empty) 0 (start W0)):=by
  refine ⟨rfl,⟨_,rfl,.inl runs_G⟩,fun i s hi=>by simp at hi,⟨fun i=>?_,fun i j hij=>?_,fun said=>?_,fun i a ha=>?_,fun op ho=>by simp at ho⟩,⟨⟨Go.RowKit.Below.refl _ _,fun _=>rfl⟩,fun i b o v e=>?_,fun i b v e=>?_,trivial⟩,put_self,fun i hi=>hempty i (by simpa using hi),fun i op hi=>by simp at hi,⟨fun b o v e i a ha=>?_,fun b o v e i a ha=>?_,fun b v e i a ha=>?_⟩,⟨fun i s hi=>by simp at hi,rfl,fun g0 h0 hb=>?_⟩,trivial⟩
  ·by_cases h:i=0
   ·subst h;rw [put_self];exact fits_start W0
   ·rw [put_ne h];exact fits_empty
  ·by_cases h:i=0
   ·rw [put_ne (show j≠0 from fun e=>hij (h.trans e.symm))];exact sep_empty.symm
   ·rw [put_ne h];exact sep_empty
  ·rintro ⟨i,j,_,⟨a,b,ha,_⟩,_⟩
   simp [Trace.act?] at ha
  ·simp [touchAt,Trace.act?] at ha
  ·by_cases h:i=0
   ·subst h;rw [put_self] at e;cases e
   ·rw [put_ne h] at e;cases e
  ·by_cases h:i=0
   ·subst h;rw [put_self] at e;cases e
   ·rw [put_ne h] at e;cases e
  ·simp [touchAt,Trace.act?] at ha
  ·simp [touchAt,Trace.act?] at ha
  ·simp [touchAt,Trace.act?] at ha
  ·simp at h0;subst h0;cases hb
 have:=play_ends (Post:=Post) H hi (fun v h w' ⟨L',r,_⟩ ha=>hR v L' w' r ha) _ [] _ _ W0 #[] _ none c rfl
 exact this
end Go.PB
namespace Go.Proofs
section
abbrev Try.link:Go.Conc.Lib.WgLink:={ add:=53,done:=55,wait:=56,relMerge:=72,disable:=73,enable:=74,inBubble:=75,associate:=76,fatal:=77,uOr:=78,uAdd:=65,raceRead:=79,uLoad:=48,uStore:=62,disassociate:=80,semrelease:=81,acquire:=82,isAssociated:=83,uCas:=84,raceWrite:=85,semacquire:=86,orU64:=98,addU64:=96,loadU64:=69,storeU64:=94,casU64:=99,tWgP:=144,tUP:=177,tAssoc:=178,tWg:=132,tAU:=57,tU64:=39,tUint:=126,tU32:=130,tPU32:=181,tPAU:=166,tPU64:=169,tNoCopy:=129,tANoCopy:=54,tAlign64:=55 }
theorem Try.wgLib:Go.Conc.Lib.WgLib Try.prog Try.link :=
 ⟨Try.func53,Try.func55,Try.func56,Try.func72,Try.func73,Try.func74,Try.func75,Try.func76,Try.func77,Try.func78,Try.func65,Try.func79,Try.func48,Try.func62,Try.func80,Try.func81,Try.func82,Try.func83,Try.func84,Try.func85,Try.func86,Try.func98,Try.func96,Try.func69,Try.func94,Try.func99,Try.underlying144,Try.runUnderlying144,Try.sizeOf144,Try.isAgg144,Try.zeroValue144,Try.underlying177,Try.runUnderlying177,Try.sizeOf177,Try.isAgg177,Try.zeroValue177,Try.underlying178,Try.runUnderlying178,Try.sizeOf178,Try.isAgg178,Try.zeroValue178,Try.underlying132,Try.runUnderlying132,Try.sizeOf132,Try.isAgg132,Try.zeroValue132,Try.underlying57,Try.runUnderlying57,Try.sizeOf57,Try.isAgg57,Try.zeroValue57,Try.underlying39,Try.runUnderlying39,Try.sizeOf39,Try.isAgg39,Try.zeroValue39,Try.underlying126,Try.runUnderlying126,Try.sizeOf126,Try.isAgg126,Try.zeroValue126,Try.underlying130,Try.runUnderlying130,Try.sizeOf130,Try.isAgg130,Try.zeroValue130,Try.underlying181,Try.runUnderlying181,Try.sizeOf181,Try.isAgg181,Try.zeroValue181,Try.underlying166,Try.runUnderlying166,Try.sizeOf166,Try.isAgg166,Try.zeroValue166,Try.underlying169,Try.runUnderlying169,Try.sizeOf169,Try.isAgg169,Try.zeroValue169,Try.underlying0,Try.runUnderlying0,Try.sizeOf0,Try.isAgg0,Try.zeroValue0,Try.underlying3,Try.runUnderlying3,Try.sizeOf3,Try.isAgg3,Try.zeroValue3,Try.underlying4,Try.runUnderlying4,Try.sizeOf4,Try.isAgg4,Try.zeroValue4,Try.underlying9,Try.runUnderlying9,Try.sizeOf9,Try.isAgg9,Try.zeroValue9,Try.underlying20,Try.runUnderlying20,Try.sizeOf20,Try.isAgg20,Try.zeroValue20,Try.underlying21,Try.runUnderlying21,Try.sizeOf21,Try.isAgg21,Try.zeroValue21,(by kernel_rfl),(by kernel_rfl)⟩
end
end Go.Proofs
namespace Go.Proofs.Ytmkkanmkjfnpdaa
open Go Go.PB Go.ChangeShapes Go.WideShapes Go.RowKit
section
theorem own:ownKnob Try.prog.godebug=none:=by kernel_rfl
theorem laidOut:laidOutB Try.prog=true:=by kernel_rfl
theorem opens_ints:Opens Try.prog 71 (shSlice shI64):=opens_slice Try.underlying71 (by kernel_rfl) (opens_i64 (by kernel_rfl) (by kernel_rfl)) (by decide)
theorem ints_at {W:World} {v:Value} {l:List Int} (h:(shSlice shI64).rel W [v] l):∃ a cap,v=.slice a l.length cap∧RdsO [base W] a l.length (intC l)∧(∀ v∈l,-9223372036854775808≤v∧v≤9223372036854775807)∧l.length≤cap∧cap≤maxLen:=by
 obtain ⟨p,cap,h1,h3,h4,h2⟩:=h
 cases h1
 have key:∀ i y,l[i]?=some y→(∃ b o,p=some ⟨b,o,none⟩∧Rd [base W] b (o+i) (.int .i64 y))∧(-9223372036854775808≤y∧y≤9223372036854775807):=by
  intro i y hy
  obtain ⟨b,o,vs,rfl,h5,h6,h7,h8,h9⟩:=h2 i y hy
  rw [h7] at h6
  have c0:=h6 0 _ rfl
  simp only [shI64,Nat.mul_one,Nat.add_zero] at c0
  exact ⟨⟨b,o,rfl,Rd.base c0⟩,h8,h9⟩
 refine ⟨p,cap,rfl,⟨by simp [intC],?_⟩,fun v hv=>?_,h3,h4⟩
 ·by_cases h0:0<l.length
  ·obtain ⟨⟨b,o,rfl,_⟩,_⟩:=key 0 l[0] (List.getElem?_eq_getElem h0)
   refine .inr ⟨b,o,rfl,fun i v hi=>?_⟩
   unfold intC at hi;rw [List.getElem?_map] at hi
   cases hy:l[i]? with
   | none=>rw [hy] at hi;cases hi
   | some y =>
    rw [hy] at hi;cases hi
    obtain ⟨⟨b2,o2,e,r⟩,_⟩:=key i y hy
    cases e;exact r
  ·exact .inl (by omega)
 ·obtain ⟨i,hi⟩:=List.mem_iff_getElem?.1 hv
  exact (key i v hi).2
def shMany:Sh (Int × List Int × Int × Int × Unit):=shPair shI64 (shPair (shSlice shI64) (shPair shI64 (shPair shI64 shUnit)))
theorem opens_many:Opens Try.prog 73 shMany :=
 opens_struct (fs:=#[_,_,_,_]) Try.underlying73 (by kernel_rfl) (opensF_cons rfl (opens_i64 (by kernel_rfl) (by kernel_rfl)) rfl (opensF_cons rfl opens_ints rfl (opensF_cons rfl (opens_i64 (by kernel_rfl) (by kernel_rfl)) rfl (opensF_cons rfl (opens_i64 (by kernel_rfl) (by kernel_rfl)) rfl opensF_nil))))
theorem many_at {W:World} {cs:Array Value} {x:Int × List Int × Int × Int × Unit} (h:shMany.rel W (Value.agg cs).cells.toList x):∃ (s:Int) (oa:Option Addr) (oc:Nat) (os:List Int) (t u:Int),cs=#[.int .i64 s,.slice oa os.length oc,.int .i64 t,.int .i64 u]∧(-9223372036854775808≤s∧s≤9223372036854775807)∧RdsO [base W] oa os.length (intC os)∧(∀ v∈os,-9223372036854775808≤v∧v≤9223372036854775807)∧os.length≤9223372036854775807∧(-9223372036854775808≤t∧t≤9223372036854775807)∧(-9223372036854775808≤u∧u≤9223372036854775807):=by
 obtain ⟨l⟩:=cs
 replace h:shMany.rel W l x:=h
 obtain ⟨⟨h1,b1⟩,h7,⟨h3,b3⟩,⟨h4,b4⟩,h9⟩:=h
 obtain ⟨p7,c7,e7,_⟩:=id h7
 simp only [shPair,shI64,shUnit,shSlice] at h1 e7 h3 h4 h9
 match l,h1,e7,h3,h4,h9,h7 with
 | [v0,v1,v2,v3],h1,_,h3,h4,_,h7 =>
  simp at h1 h3 h4
  obtain ⟨oa,oc,e4,hr,hb,hc,hm⟩:=ints_at (v:=v1) h7
  exact ⟨x.1,oa,oc,x.2.1,x.2.2.1,x.2.2.2.1,by rw [h1,e4,h3,h4],b1,hr,hb,by unfold maxLen at hm;omega,b3,b4⟩
 | [],h1,_,_,_,_,_=>simp at h1
 | [_],_,e7,_,_,_,_=>simp at e7
 | [_,_],_,_,h3,_,_,_=>simp at h3
 | [_,_,_],_,_,_,h4,_,_=>simp at h4
 | _::_::_::_::_::_,_,_,_,_,h9,_=>simp at h9
set_option maxRecDepth 100000 in
theorem mirrorTurns_lifted (os:Os) (started:os.Started) (H:Type) (enc:TypeId × Value→H) :
  ReturnsInLeavingWide {} Try.checked os 7 .any (Rows.mirrorTurnsSpec.pre6 enc Try.prog Try.f7 Rows.mirrorTurnsRow.domain false) (Rows.mirrorTurnsSpec.post enc Try.prog Try.f7 false true false false):=by
 refine returnsInLeavingWide_of_change_sized (C:=Try.checked) own started Try.func7
  (ChangeSpec.witness6 (enc:=enc) (C:=Try.checked) false ⟨#[],#[.agg #[.int .i64 0,.slice none 0 0,.int .i64 0,.int .i64 0],.slice none 0 0],[]⟩ 8 (by kernel_rfl) (by kernel_rfl) (by kernel_rfl) (by kernel_rfl)) ?_
 intro W base args ds gs before hval0 hW hcnd hsz _
 have hval:∀ (j:Nat) t v,Try.f7.params[j]?=some t→args[j]?=some v→Value.okWide Try.prog W .any base t v:=hval0
 have hW':=hW
 obtain ⟨p,q,hA0,hV,rfl,hfz,hnd⟩:=hW
 have hA:DataW.TrodAll enc Try.prog W 0 (fun _=>true) true Try.f7.params.toList args.toList ds p:=hA0
 rw [Try.params7] at hA hval
 obtain ⟨v0,v1,d0,d1,p0,p1,rfl,rfl,rfl,h0,h1⟩:=trodAll_two hA
 obtain ⟨a0,rfl,z0⟩:=okWide_struct Try.underlying73 (hval 0 _ v0 rfl rfl)
 obtain ⟨a1,l1,c1,rfl⟩:=okWide_slice Try.underlying71 (hval 1 _ v1 rfl rfl)
 obtain ⟨x0,e0⟩:=arg_one opens_many h0
 obtain ⟨m0,oa0,oc0,os0,t0,u0,rfl,q0,r0,s0,k0,w0,y0⟩:=many_at e0
 obtain ⟨x1,e1⟩:=arg_one opens_ints h1
 obtain ⟨b1,k1,e1,s1⟩:=ints_at e1
 cases e1
 refine good_of_play (cv:=cvT) (L:=Try.link) Try.wgLib (by kernel_rfl) (mTurns_tr (by intro c hc;rw [List.mem_singleton.1 hc];exact dup_base) r0 s0 k0 q0 w0 y0 s1.1 s1.2.1) (fun v L' x' h=>h.2) fun v L' w' hv ha=>?_
 obtain ⟨rfl,-⟩:=hv
 exact post_true laidOut (of_decide_eq_true (by kernel_rfl)) rfl (by kernel_rfl) rfl (fun ds hd=>by match ds,hd with | [_,_],_=>rfl) hW' ha
theorem mirrorTurns:Rows.MirrorTurnsSaid :=
 OpenClaim.holds_of_wide_leaving 7 Try.f7 rfl rfl rfl rfl rfl rfl rfl ⟨rfl,rfl,rfl,rfl,rfl⟩ rfl rfl rfl rfl rfl (by kernel_rfl) Try.func7 (by kernel_rfl)
  (of_decide_eq_true (by kernel_rfl)) (by unfold Func.isWrapper;first | (rw [if_pos (by decide +kernel)];kernel_rfl) | (rw [if_neg (by decide +kernel)];exact ⟨rfl,rfl⟩))
  (fun os started H enc _=>mirrorTurns_lifted os started H enc)
set_option maxRecDepth 100000 in
theorem mirrorTurnsUpto:Rows.MirrorTurnsUptoSaid :=
 upto_of (c:=Rows.mirrorTurnsRow) (k:=Rows.uptoSmall) rfl rfl rfl rfl rfl mirrorTurns (fun f fn h1 h2 os st H enc=>by
  obtain rfl:f=7:=Option.some.inj (h1.symm.trans (show Try.prog.funcNamed "patchbay/patchbaylaw23.MirrorTurns" = some 7 by kernel_rfl))
  obtain rfl:fn=Try.f7:=Option.some.inj (h2.symm.trans Try.func7)
  exact OpenSpec.witness (enc:=enc) (C:=Try.checked) (s:=Rows.OpenSpec.upto Rows.mirrorTurnsSpec) (k:=Rows.uptoSmall) rfl false ⟨#[],#[.agg #[.int .i64 0,.slice none 0 0,.int .i64 0,.int .i64 0],.slice none 0 0],[]⟩ 8 (by kernel_rfl) (by kernel_rfl) (by kernel_rfl) (x:=([.agg [.lit (.int .i64 0),.nil,.lit (.int .i64 0),.lit (.int .i64 0)],.nil],[],[])) (by kernel_rfl) rfl (by kernel_rfl))
end
end Go.Proofs.Ytmkkanmkjfnpdaa
