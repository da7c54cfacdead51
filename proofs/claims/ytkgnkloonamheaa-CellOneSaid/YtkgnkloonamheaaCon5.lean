/-
  Part 5 of 8.
-/
import Derived.Test.YtkgnkloonamheaaCon4
import Derived.Test.YtkgnkloonamheaaCon2
import Derived.Test.YtkgnkloonamheaaCon3
set_option linter.unusedVariables false
set_option linter.unusedSimpArgs false
namespace Go.Proofs.Ytkgnkloonamheaa
open Go Go.PB
attribute [local irreducible] Mo Bin Eql Tr Wo Ap Wle
attribute [local instance] Pass.of_no
section
structure Thr (g:Game) where
 fv:Value
 ini:g.σ→g.σ × g.θ
 M:HProp
section
variable {g:Game}
def startF:List (Thr g)→g.σ→g.σ × List g.θ
 | [],s=>(s,[])
 | t::ts,s=>((startF ts (t.ini s).1).1,(t.ini s).2::(startF ts (t.ini s).1).2)
theorem startF_snoc {t:Thr g}:∀ (l:List (Thr g)) (s:g.σ),startF (l++[t]) s=((t.ini (startF l s).1).1,(startF l s).2++[(t.ini (startF l s).1).2])
 | [],s=>rfl
 | a::l,s=>by simp only [List.cons_append,startF,startF_snoc l]
theorem startF_len:∀ (l:List (Thr g)) (s:g.σ),(startF l s).2.length=l.length
 | [],s=>rfl
 | a::l,s=>by simp [startF,startF_len l]
def ordF (p:PS g) (order:List Int):PS g:=order.foldl (fun p k=>(takeF p k).1) p
def roundF (p:PS g):Nat→PS g × Bool
 | 0=>(p,false)
 | k+1=>((takeF (roundF p k).1 k).1,(takeF (roundF p k).1 k).2||(roundF p k).2)
def restF:Nat→PS g→PS g
 | 0,p=>p
 | n+1,p=>if (roundF p p.qs.length).2=true then restF n (roundF p p.qs.length).1 else (roundF p p.qs.length).1
def playF (ts:List (Thr g)) (s:g.σ) (order:List Int):PS g:=restF 16385 (ordF ⟨(startF ts s).1,(startF ts s).2,[]⟩ order)
def cutC (l:List Nat):List Value:=l.map fun k=>.int .i64 (k:Nat)
theorem roundF_len (p:PS g):∀ n,(roundF p n).1.qs.length=p.qs.length
 | 0=>rfl
 | n+1=>by show (takeF _ _).1.qs.length=_;rw [takeF_len,roundF_len p n]
theorem roundF_le {p:PS g} (h:p.tr.length≤16384):∀ n,(roundF p n).1.tr.length≤16384
 | 0=>h
 | n+1=>takeF_le (roundF_le h n) _
theorem takeF_cases (p:PS g) (k:Int):takeF p k=(p,false)∨∃ (n:Nat) (q:g.θ) (m:Int × Int) (f:g.σ→g.σ × g.θ),k=n∧p.qs[n]?=some q∧g.plan q=some (m,f)∧p.tr.length≠16384∧takeF p k=(⟨(f p.s).1,p.qs.set n (f p.s).2,p.tr++[(n,m)]⟩,true):=by
 by_cases h0:k<0
 ·left;unfold takeF;rw [if_pos h0]
 obtain ⟨n,rfl⟩:∃ n:Nat,k=n:=⟨k.toNat,by omega⟩
 cases hq:p.qs[n]? with
 | none=>left;unfold takeF;rw [if_neg h0,Int.toNat_natCast,hq]
 | some q =>
  cases hpl:g.plan q with
  | none=>left;unfold takeF;rw [if_neg h0,Int.toNat_natCast,hq];simp only [hpl]
  | some mf =>
   obtain ⟨m,f⟩:=mf
   by_cases htr:p.tr.length=16384
   ·left;unfold takeF;rw [if_neg h0,Int.toNat_natCast,hq];simp only [hpl,if_pos htr]
   ·right;refine ⟨n,q,m,f,rfl,hq,hpl,htr,?_⟩
    unfold takeF;rw [if_neg h0,Int.toNat_natCast,hq];simp only [hpl,if_neg htr]
theorem takeF_grow (p:PS g) (k:Int):p.tr.length+(if (takeF p k).2=true then 1 else 0)≤(takeF p k).1.tr.length:=by
 rcases takeF_cases p k with h | ⟨n,q,m,f,_,_,_,_,h⟩ <;> rw [h] <;> simp
theorem roundF_grow (p:PS g):∀ n,p.tr.length+(if (roundF p n).2=true then 1 else 0)≤(roundF p n).1.tr.length
 | 0=>by simp [roundF]
 | n+1=>by
  have h1:=roundF_grow p n
  have h2:=takeF_grow (roundF p n).1 n
  show p.tr.length+(if ((takeF (roundF p n).1 n).2||(roundF p n).2)=true then 1 else 0)≤(takeF (roundF p n).1 n).1.tr.length
  cases h3:(takeF (roundF p n).1 n).2 <;> cases h4:(roundF p n).2 <;> simp [h3,h4] at h1 h2 ⊢ <;> omega
theorem ordF_len (order:List Int):∀ p:PS g,(ordF p order).qs.length=p.qs.length:=by
 induction order with
 | nil=>intro p;rfl
 | cons k l ih=>intro p;show (ordF (takeF p k).1 l).qs.length=_;rw [ih,takeF_len]
theorem ordF_le (order:List Int):∀ p:PS g,p.tr.length≤16384→(ordF p order).tr.length≤16384:=by
 induction order with
 | nil=>intro p h;exact h
 | cons k l ih=>intro p h;exact ih _ (takeF_le h k)
theorem ordF_snoc (p:PS g) (l:List Int) (k:Int):ordF p (l++[k])=(takeF (ordF p l) k).1:=by simp [ordF]
def cutN (g:Game) (qs:List g.θ) (j:Nat):List Nat:=(List.range j).filter fun k=>((qs[k]?).bind g.plan).isSome
theorem cutN_succ {qs:List g.θ} {j:Nat}:cutN g qs (j+1)=cutN g qs j++(if ((qs[j]?).bind g.plan).isSome=true then [j] else []):=by
 unfold cutN
 rw [List.range_succ,List.filter_append]
 congr 1
 simp only [List.filter_cons,List.filter_nil]
def shutS (ids:List SId) (qs:List g.θ) (j:Nat):List (Seat g.σ g.θ):=(List.zip ids qs).mapIdx fun k iq=>if k<j then ⟨iq.1.says,iq.1.turn,iq.1.fin,.shut iq.2⟩ else seatS iq.1 iq.2
theorem shutS_zero {ids:List SId} {qs:List g.θ}:shutS ids qs 0=seatSs ids qs:=by
 apply List.ext_getElem?
 intro k
 simp only [shutS,List.getElem?_mapIdx,seatSs,List.getElem?_zipWith,List.getElem?_zip_eq_some,List.zip,Nat.not_lt_zero,if_false]
 cases ids[k]? <;> cases qs[k]? <;> rfl
theorem shutS_len {ids:List SId} {qs:List g.θ} {j:Nat} (h:ids.length=qs.length):(shutS ids qs j).length=ids.length:=by simp [shutS];omega
theorem shutS_get {ids:List SId} {qs:List g.θ} {j k:Nat} {i:SId} {q:g.θ} (hi:ids[k]?=some i) (hq:qs[k]?=some q):(shutS ids qs j)[k]?=some (if k<j then ⟨i.says,i.turn,i.fin,.shut q⟩ else seatS i q):=by
 simp [shutS,List.getElem?_mapIdx,List.zip,List.getElem?_zipWith,hi,hq]
theorem shutS_succ {ids:List SId} {qs:List g.θ} {j:Nat} {i:SId} {q:g.θ} (hi:ids[j]?=some i) (hq:qs[j]?=some q):(shutS ids qs j).set j ⟨i.says,i.turn,i.fin,.shut q⟩=shutS ids qs (j+1):=by
 apply List.ext_getElem?
 intro k
 have hj:j<(shutS ids qs j).length:=(List.getElem?_eq_some_iff.1 (shutS_get (j:=j) hi hq)).1
 rw [List.getElem?_set]
 by_cases e:j=k
 ·subst e
  rw [if_pos rfl,if_pos hj,shutS_get hi hq,if_pos (by omega)]
 ·rw [if_neg e]
  simp only [shutS,List.getElem?_mapIdx]
  cases (ids.zip qs)[k]? with
  | none=>rfl
  | some iq =>
   simp only [Option.map_some,Option.some.injEq]
   by_cases h:k<j
   ·rw [if_pos h,if_pos (by omega)]
   ·rw [if_neg h,if_neg (by omega)]
theorem shutS_all {ids:List SId} {qs:List g.θ} (h:ids.length=qs.length):(shutS ids qs ids.length).map Seat.fins=qs.map g.Fin:=by
 apply List.ext_getElem?
 intro k
 by_cases hk:k<ids.length
 ·have hi:=List.getElem?_eq_getElem hk
  have hq:=List.getElem?_eq_getElem (show k<qs.length by omega)
  rw [List.getElem?_map,shutS_get hi hq,if_pos hk,List.getElem?_map,hq]
  rfl
 ·rw [List.getElem?_eq_none (by simp [shutS_len h];omega),List.getElem?_eq_none (by simp;omega)]
theorem shutS_closed {ids:List SId} {qs:List g.θ} (h:ids.length=qs.length):∀ s∈shutS ids qs ids.length,s.closed:=by
 intro s hs
 obtain ⟨k,hk⟩:=List.mem_iff_getElem?.1 hs
 have hlt:=(List.getElem?_eq_some_iff.1 hk).1
 rw [shutS_len h] at hlt
 rw [shutS_get (List.getElem?_eq_getElem hlt) (List.getElem?_eq_getElem (show k<qs.length by omega)),if_pos hlt] at hk
 cases hk
 trivial
end
section
variable {g:Game} {ts:List (Thr g)} {s0:g.σ} {F:List HProp} {wg pb rb:Nat} {ov tv:Value}
theorem star_head {c:HProp} {M L:List HProp} {h:Hp} (s:Star (all (c::M)::L) h):Star (c::all M::L) h :=
 star_map (star_open s) (fun _ a=>a) (fun _ st=>star_shut (M:=M) st)
def startInvP (ts:List (Thr g)) (s0:g.σ) (wg pb rb:Nat) (ov tv:Value) (F:List HProp):PB.Inv (Nat × g.σ × List g.θ × List SId × Value) MX where
 e:=fun i=>[(0,ov),(1,tv),(4,.pointer (some ⟨rb,0,none⟩)),(7,.pointer (some ⟨wg,0,none⟩)),(8,.pointer (some ⟨pb,0,none⟩)),(28,tv),(29,.int .i64 (ts.length:Nat)),(30,.int .i64 (i.1:Nat))]
 L:=fun i=>g.U i.2.1::arr pb 0 [i.2.2.2.2,.slice none 0 0,.slice none 0 0]::vec 1 i.2.2.2.2 (ptrs i.2.2.2.1)::all (seatCs g i.2.2.2.1 i.2.2.1)::all ((ts.drop i.1).map Thr.M)::arr rb 0 [.slice none 0 0,.slice none 0 0]::F
 x:=fun i=>gx g wg (seatSs i.2.2.2.1 i.2.2.1) (some i.2.1) 16384 (seatSs i.2.2.2.1 i.2.2.1).length
 ok:=fun i=>i.1≤ts.length∧i.2.2.2.1.length=i.1∧startF (ts.take i.1) s0=(i.2.1,i.2.2.1)
def seatMid (wg pb rb j n:Nat) (ov tv fv:Value) (x:MX) (L:List HProp):PB.Inv (Nat × Nat × Nat × Nat) MX where
 e:=fun i=>[(0,ov),(1,tv),(4,.pointer (some ⟨rb,0,none⟩)),(7,.pointer (some ⟨wg,0,none⟩)),(8,.pointer (some ⟨pb,0,none⟩)),(28,tv),(29,.int .i64 (n:Nat)),(30,.int .i64 (j:Nat)),(10,fv),(11,.pointer (some ⟨i.1,0,none⟩))]
 L:=fun i=>arr i.1 0 [.chan (some i.2.2.1),.chan (some i.2.2.2),.chan (some i.2.1),.int .u8 0,.int .i64 0,.bool false]::ob i.2.1 newChan::ob i.2.2.1 newChan::ob i.2.2.2 newChan::L
 x:=fun _=>x
 ok:=fun _=>True
def ordInv (p0:PS g) (order:List Int) (ids:List SId) (wg pb rb:Nat) (ov:Value) (ss:Value) (F:List HProp):PB.Inv (Nat × Value) MX where
 e:=fun i=>[(4,.pointer (some ⟨rb,0,none⟩)),(7,.pointer (some ⟨wg,0,none⟩)),(8,.pointer (some ⟨pb,0,none⟩)),(49,ov),(50,.int .i64 (order.length:Nat)),(51,.int .i64 (i.1:Nat))]
 L:=fun i=>playL g pb ss i.2 (.slice none 0 0) ids (ordF p0 (order.take i.1)) F
 x:=fun i=>playX g wg ids (ordF p0 (order.take i.1))
 ok:=fun i=>i.1≤order.length
def restInv (I:PS g→Prop) (p0:PS g) (ids:List SId) (wg pb rb:Nat) (ss:Value) (F:List HProp):PB.Inv (Nat × PS g × Value × Bool) MX where
 e:=fun i=>[(4,.pointer (some ⟨rb,0,none⟩)),(7,.pointer (some ⟨wg,0,none⟩)),(8,.pointer (some ⟨pb,0,none⟩)),(14,.bool i.2.2.2)]
 L:=fun i=>playL g pb ss i.2.2.1 (.slice none 0 0) ids i.2.1 F
 x:=fun i=>playX g wg ids i.2.1
 ok:=fun i=>I i.2.1∧i.2.1.qs.length=p0.qs.length∧i.2.1.tr.length≤16384∧(if i.2.2.2=true then restF i.1 i.2.1=restF 16385 p0∧16384<i.2.1.tr.length+i.1 else i.2.1=restF 16385 p0)
def rndInvP (p:PS g) (ids:List SId) (wg pb rb:Nat) (ss:Value) (F:List HProp):PB.Inv (Nat × Value) MX where
 e:=fun i=>[(4,.pointer (some ⟨rb,0,none⟩)),(7,.pointer (some ⟨wg,0,none⟩)),(8,.pointer (some ⟨pb,0,none⟩)),(14,.bool (roundF p i.1).2),(61,.int .i64 (ids.length:Nat)),(62,.int .i64 (i.1:Nat))]
 L:=fun i=>playL g pb ss i.2 (.slice none 0 0) ids (roundF p i.1).1 F
 x:=fun i=>playX g wg ids (roundF p i.1).1
 ok:=fun i=>i.1≤ids.length
def cutInv (p:PS g) (ids:List SId) (wg pb rb:Nat) (ss tsv:Value) (F:List HProp):PB.Inv (Nat × Value) MX where
 e:=fun i=>[(4,.pointer (some ⟨rb,0,none⟩)),(7,.pointer (some ⟨wg,0,none⟩)),(8,.pointer (some ⟨pb,0,none⟩)),(72,ss),(73,.int .i64 (ids.length:Nat)),(74,.int .i64 (i.1:Nat))]
 L:=fun i=>vec 1 i.2 (cutC (cutN g p.qs i.1))::arr pb 0 [ss,tsv,i.2]::vec 1 ss (ptrs ids)::vec 3 tsv (trCP p.tr)::all (seatCs g ids p.qs)::g.U p.s::F
 x:=fun i=>gx g wg (shutS ids p.qs i.1) (some p.s) (16384-p.tr.length) ids.length
 ok:=fun i=>i.1≤ids.length
set_option maxHeartbeats 4000000 in
theorem plays_tr {oa ta:Option Addr} {on oc tn tc:Nat} {order:List Int} (I:PS g→Prop) (hS:∀ j,j<ts.length→g.ok (startF (ts.take j) s0).1) (hI0:I ⟨(startF ts s0).1,(startF ts s0).2,[]⟩) (hIs:∀ p k,I p→I (takeF p k).1) (hIo:∀ p,I p→p.tr.length<16384→g.ok p.s) (hfin:∀ q h,g.Pv q h→g.Fin q h) (hts:∀ t∈ts,ThrOk g t.ini t.fv t.M) (h1:0<ts.length) (h16:ts.length≤16) (hor:order.length≤16384)
  (hrt:RdsO F ta tn (ts.map Thr.fv)) (hro:RdsO F oa on (order.map fun k=>.int .i64 k)) :
  Tr Try.prog mT 57 [.slice oa on oc,.slice ta tn tc] (g.U s0::all (ts.map Thr.M)::F) .idle fun v L' x' =>
   ∃ tv cv,v=.tuple #[.agg #[tv,cv],.int .i64 0]∧x'=.idle∧L'=vec 3 tv (trCP (playF ts s0 order).tr)::vec 1 cv (cutC (cutN g (playF ts s0 order).qs ts.length))::g.U (playF ts s0 order).s::all ((playF ts s0 order).qs.map g.Fin)::F:=by
 refine Tr.post (R:=fun v L' x'=>∃ tv cv,v=.tuple #[.agg #[tv,cv],.int .i64 0]∧x'=MX.idle∧∀ h,Star L' h→Star (vec 3 tv (trCP (playF ts s0 order).tr)::vec 1 cv (cutC (cutN g (playF ts s0 order).qs ts.length))::g.U (playF ts s0 order).s::all ((playF ts s0 order).qs.map g.Fin)::F) h) ?_
  (by rintro v L' x' ⟨tv,cv,rfl,rfl,h2⟩;exact ⟨_,⟨tv,cv,rfl,rfl,rfl⟩,h2⟩)
 have hfn:∀ v∈ts.map Thr.fv,isFn v:=by
  intro v hv
  obtain ⟨t,ht,rfl⟩:=List.mem_map.1 hv
  obtain ⟨f,first,cap,hc,_⟩:=(hts t ht).run
  revert hc
  cases t.fv with
  | func a b c=>exact fun _=>⟨a,b,c,rfl⟩
  | _=>intro hc;cases hc
 have hIord:∀ (l:List Int) (p:PS g),I p→I (ordF p l):=by
  intro l
  induction l with
  | nil=>exact fun p h=>h
  | cons k l ih=>exact fun p h=>ih _ (hIs p k h)
 have hIrnd:∀ (p:PS g) k,I p→I (roundF p k).1:=by
  intro p k h
  induction k with
  | zero=>exact h
  | succ k ih=>exact hIs _ _ ih
 have htn:tn=ts.length:=by have:=hrt.1;simpa using this
 have hon:on=order.length:=by have:=hro.1;simpa using this
 subst htn
 subst hon
 refine tr_of_body Try.func57 rfl Try.ntmps57 (by simp) fun um Q _ hQ=>?_
 simp only [argE,Nat.zero_add,Nat.reduceAdd]
 repeat (first | (apply wo_mo;apply mo_alloc;exact trivial) | refine we_seq ?_ | (refine wR ?_;try simp only [oS]))
 rintro v' L' ⟨rb,rfl,rfl⟩
 repeat (first | refine we_seq ?_ | (refine wR ?_;try simp only [oS]) | refine wo_nil ?_ | refine wM ?_ | refine wA ?_)
 refine wo_call (.cons rfl .nil) trivial (wrong_tr (fun v hv=>.inr (hfn v hv)) hrt.there.there.there (by omega)) ?_
 rintro v' L' x' ⟨⟨k,rfl,hk⟩,rfl,rfl⟩
 obtain rfl:k=0:=by
  rcases hk with ⟨_,h⟩ | ⟨_,h⟩
  ·obtain ⟨_,_,_,h⟩:=hfn _ h;cases h
  ·rw [h,List.length_map,if_neg (by omega),if_neg (by omega)]
 repeat (first | (apply wo_mo;apply mo_allocS;exact trivial) | refine wgtrF ?_ | refine wneqF ?_ | refine we_seq ?_ | (refine wR ?_;try simp only [oS]) | refine wo_nil ?_ | refine wM ?_ | refine wA ?_ | refine wE ?_ | refine wF ?_ | refine we_skip ?_)
 rintro v' L' ⟨wg,rfl,rfl⟩
 repeat (first | refine we_seq ?_ | (refine wR ?_;try simp only [oS]) | refine wo_nil ?_)
 refine wo_begin g s0 (wg:=wg) (R:=arr rb 0 [.slice none 0 0,.slice none 0 0]::g.U s0::all (ts.map Thr.M)::F) (fun h st=>st) ?_
 repeat (first | (apply wo_mo;apply mo_alloc;exact trivial))
 rintro v' L' ⟨pb,rfl,rfl⟩
 repeat (first | refine we_seq ?_ | (refine wR ?_;try simp only [oS]) | refine wo_nil ?_ | refine wM ?_ | refine wE ?_ | refine we_block ?_)
 refine we_star (vec 1 (.slice none 0 0) (ptrs [])::all (seatCs g [] [])::arr pb 0 [.slice none 0 0,.slice none 0 0,.slice none 0 0]::shpC wg 185 2::arr rb 0 [.slice none 0 0,.slice none 0 0]::g.U s0::all (ts.map Thr.M)::F) (fun h st=>vec_nil (star_shut (M:=[]) st)) ?_
 refine we_loopN (startInvP ts s0 wg pb rb (.slice oa order.length oc) (.slice ta ts.length tc) (shpC wg 185 2::F)) (fun i=>ts.length-i.1) (0,s0,[],[],.slice none 0 0) ⟨by omega,rfl,rfl⟩ ⟨rfl,rfl,rfl,rfl,rfl,rfl,rfl,rfl,trivial⟩ (.take (.there (.there (.there (.there (.there .here))))) (.take (.there (.there .here)) (.take .here (.take .here (.take (.there (.there .here)) (.take (.there .here) (.take .here .refl))))))) rfl ?_
 rintro ⟨j,s,qs,ids,ss⟩ ⟨hj,hids,hst⟩
 simp only at hj hids hst
 have hqs:qs.length=j:=by have:=startF_len (ts.take j) s0;rw [hst] at this;simpa [Nat.min_eq_left hj] using this
 have hsl:(seatSs ids qs).length=ids.length:=by simp [seatSs];omega
 simp only [startInvP]
 by_cases hlt:j<ts.length
 ·obtain ⟨tb,to,rfl,hrd⟩:=hrt.rds (by omega)
  have ht:ts[j]?=some ts[j]:=List.getElem?_eq_getElem hlt
  have hrj:=hrd j (ts[j].fv) (by simp [ht])
  have hTO:=hts _ (List.getElem_mem hlt)
  have hdrop:ts.drop j=ts[j]::ts.drop (j+1):=List.drop_eq_getElem_cons hlt
  rw [hdrop]
  refine we_star (g.U s::arr pb 0 [ss,.slice none 0 0,.slice none 0 0]::vec 1 ss (ptrs ids)::all (seatCs g ids qs)::ts[j].M::all ((ts.drop (j+1)).map Thr.M)::arr rb 0 [.slice none 0 0,.slice none 0 0]::shpC wg 185 2::F) (fun h st=>Ent.star (.take (.there (.there .here)) (.take (.there (.there .here)) (.take (.there (.there .here)) (.take (.there (.there .here)) (.take .here (.take .here .refl)))))) (star_head (((.there (.there (.there (.there .here)))):Has _ (all ((ts[j]::ts.drop (j+1)).map Thr.M)) _).star st))) ?_
  repeat (first | (apply wo_po;apply mo_index1;exact rfl;exact rfl;omega;exact gY) | (apply wo_po;apply mo_load;exact rfl;exact .there (.there (.there (.there (.there (.there (.there (.there hrj)))))));exact trivial) | refine wlssT ?_ | refine we_seq ?_ | (refine wR ?_;try simp only [oS]) | refine wo_nil ?_ | refine wA ?_ | refine wT ?_ | refine we_skip ?_ | refine we_block ?_)
  let MI:=seatMid wg pb rb j ts.length (.slice oa order.length oc) (.slice (some ⟨tb,to,none⟩) ts.length tc) ts[j].fv (gx g wg (seatSs ids qs) (some s) 16384 (seatSs ids qs).length) (g.U s::arr pb 0 [ss,.slice none 0 0,.slice none 0 0]::vec 1 ss (ptrs ids)::all (seatCs g ids qs)::ts[j].M::all ((ts.drop (j+1)).map Thr.M)::arr rb 0 [.slice none 0 0,.slice none 0 0]::shpC wg 185 2::F)
  refine we_join MI ?_ ?_
  ·refine we_draw (List.range' 0 6) (by kernel_rfl) ?_
   refine ap_fork3 (f:=1) (g:=2) (ordf:=[1,0,2,3,4,5]) (ordg:=[2,0,1,3,4,5]) (Rf:=[2,3,4,5]) (Rg:=[1,3,4,5]) (by kernel_rfl) (by kernel_rfl) (by kernel_rfl) (by kernel_rfl) (by kernel_rfl) (by kernel_rfl) (by kernel_rfl) (by kernel_rfl) (by kernel_rfl) ?_ ?_ ?_
   ·refine ap1_mo (Pd':=[]) rfl rfl rfl trivial (mo_makeChan (m:=0) (k:=.i64) rfl (by omega) (by omega)) (fun v L' _ p hp=>by cases hp) ?_
    rintro v' L' ⟨ct,rfl,rfl⟩
    refine ap_fork2 (f:=2) (ordf:=[0,2,1,3,4,5]) (Rf:=[3,4,5]) (by kernel_rfl) (by kernel_rfl) (by kernel_rfl) (by kernel_rfl) (by kernel_rfl) ?_ ?_
    ·refine ap1_mo (Pd':=[]) rfl rfl rfl trivial (mo_makeChan (m:=0) (k:=.i64) rfl (by omega) (by omega)) (fun v L' _ p hp=>by cases hp) ?_
     rintro v' L' ⟨ce,rfl,rfl⟩
     refine ap_loud rfl rfl rfl rfl rfl trivial (mo_makeChan (m:=0) (k:=.i64) rfl (by omega) (by omega)) ?_
     rintro v' L' ⟨cs,rfl,rfl⟩
     repeat (first | (apply ap_pure;exact rfl;exact rfl;exact trivial;intro L;apply mo_build (pv:=[(0,_),(1,_),(2,_)]);exact rfl;exact .cons rfl (.cons rfl (.cons rfl .nil));exact rfl))
     refine ap_loud rfl rfl rfl rfl rfl trivial (mo_box rfl) ?_
     rintro v' L' ⟨sb,rfl,rfl⟩
     repeat (first | refine aA ?_ | refine ap_end ?_)
     refine at_mid (B:=mT) (I:=MI) (sb,cs,ct,ce) trivial ?_ ?_ rfl
     exact ⟨rfl,rfl,rfl,rfl,rfl,rfl,rfl,rfl,rfl,rfl,trivial⟩
     repeat (first | exact Ent.refl | (apply Ent.take;(repeat (first | exact Has.here | apply Has.there))) | apply Ent.drop)
    ·refine ap1_mo (Pd':=[]) rfl rfl rfl trivial (mo_makeChan (m:=0) (k:=.i64) rfl (by omega) (by omega)) (fun v L' _ p hp=>by cases hp) ?_
     rintro v' L' ⟨cs,rfl,rfl⟩
     refine ap_loud rfl rfl rfl rfl rfl trivial (mo_makeChan (m:=0) (k:=.i64) rfl (by omega) (by omega)) ?_
     rintro v' L' ⟨ce,rfl,rfl⟩
     repeat (first | (apply ap_pure;exact rfl;exact rfl;exact trivial;intro L;apply mo_build (pv:=[(0,_),(1,_),(2,_)]);exact rfl;exact .cons rfl (.cons rfl (.cons rfl .nil));exact rfl))
     refine ap_loud rfl rfl rfl rfl rfl trivial (mo_box rfl) ?_
     rintro v' L' ⟨sb,rfl,rfl⟩
     repeat (first | refine aA ?_ | refine ap_end ?_)
     refine at_mid (B:=mT) (I:=MI) (sb,cs,ct,ce) trivial ?_ ?_ rfl
     exact ⟨rfl,rfl,rfl,rfl,rfl,rfl,rfl,rfl,rfl,rfl,trivial⟩
     repeat (first | exact Ent.refl | (apply Ent.take;(repeat (first | exact Has.here | apply Has.there))) | apply Ent.drop)
   ·refine ap1_mo (Pd':=[]) rfl rfl rfl trivial (mo_makeChan (m:=0) (k:=.i64) rfl (by omega) (by omega)) (fun v L' _ p hp=>by cases hp) ?_
    rintro v' L' ⟨ce,rfl,rfl⟩
    refine ap_fork2 (f:=2) (ordf:=[1,2,0,3,4,5]) (Rf:=[3,4,5]) (by kernel_rfl) (by kernel_rfl) (by kernel_rfl) (by kernel_rfl) (by kernel_rfl) ?_ ?_
    ·refine ap1_mo (Pd':=[]) rfl rfl rfl trivial (mo_makeChan (m:=0) (k:=.i64) rfl (by omega) (by omega)) (fun v L' _ p hp=>by cases hp) ?_
     rintro v' L' ⟨ct,rfl,rfl⟩
     refine ap_loud rfl rfl rfl rfl rfl trivial (mo_makeChan (m:=0) (k:=.i64) rfl (by omega) (by omega)) ?_
     rintro v' L' ⟨cs,rfl,rfl⟩
     repeat (first | (apply ap_pure;exact rfl;exact rfl;exact trivial;intro L;apply mo_build (pv:=[(0,_),(1,_),(2,_)]);exact rfl;exact .cons rfl (.cons rfl (.cons rfl .nil));exact rfl))
     refine ap_loud rfl rfl rfl rfl rfl trivial (mo_box rfl) ?_
     rintro v' L' ⟨sb,rfl,rfl⟩
     repeat (first | refine aA ?_ | refine ap_end ?_)
     refine at_mid (B:=mT) (I:=MI) (sb,cs,ct,ce) trivial ?_ ?_ rfl
     exact ⟨rfl,rfl,rfl,rfl,rfl,rfl,rfl,rfl,rfl,rfl,trivial⟩
     repeat (first | exact Ent.refl | (apply Ent.take;(repeat (first | exact Has.here | apply Has.there))) | apply Ent.drop)
    ·refine ap1_mo (Pd':=[]) rfl rfl rfl trivial (mo_makeChan (m:=0) (k:=.i64) rfl (by omega) (by omega)) (fun v L' _ p hp=>by cases hp) ?_
     rintro v' L' ⟨cs,rfl,rfl⟩
     refine ap_loud rfl rfl rfl rfl rfl trivial (mo_makeChan (m:=0) (k:=.i64) rfl (by omega) (by omega)) ?_
     rintro v' L' ⟨ct,rfl,rfl⟩
     repeat (first | (apply ap_pure;exact rfl;exact rfl;exact trivial;intro L;apply mo_build (pv:=[(0,_),(1,_),(2,_)]);exact rfl;exact .cons rfl (.cons rfl (.cons rfl .nil));exact rfl))
     refine ap_loud rfl rfl rfl rfl rfl trivial (mo_box rfl) ?_
     rintro v' L' ⟨sb,rfl,rfl⟩
     repeat (first | refine aA ?_ | refine ap_end ?_)
     refine at_mid (B:=mT) (I:=MI) (sb,cs,ct,ce) trivial ?_ ?_ rfl
     exact ⟨rfl,rfl,rfl,rfl,rfl,rfl,rfl,rfl,rfl,rfl,trivial⟩
     repeat (first | exact Ent.refl | (apply Ent.take;(repeat (first | exact Has.here | apply Has.there))) | apply Ent.drop)
   ·refine ap1_mo (Pd':=[]) rfl rfl rfl trivial (mo_makeChan (m:=0) (k:=.i64) rfl (by omega) (by omega)) (fun v L' _ p hp=>by cases hp) ?_
    rintro v' L' ⟨cs,rfl,rfl⟩
    refine ap_fork2 (f:=1) (ordf:=[2,1,0,3,4,5]) (Rf:=[3,4,5]) (by kernel_rfl) (by kernel_rfl) (by kernel_rfl) (by kernel_rfl) (by kernel_rfl) ?_ ?_
    ·refine ap1_mo (Pd':=[]) rfl rfl rfl trivial (mo_makeChan (m:=0) (k:=.i64) rfl (by omega) (by omega)) (fun v L' _ p hp=>by cases hp) ?_
     rintro v' L' ⟨ct,rfl,rfl⟩
     refine ap_loud rfl rfl rfl rfl rfl trivial (mo_makeChan (m:=0) (k:=.i64) rfl (by omega) (by omega)) ?_
     rintro v' L' ⟨ce,rfl,rfl⟩
     repeat (first | (apply ap_pure;exact rfl;exact rfl;exact trivial;intro L;apply mo_build (pv:=[(0,_),(1,_),(2,_)]);exact rfl;exact .cons rfl (.cons rfl (.cons rfl .nil));exact rfl))
     refine ap_loud rfl rfl rfl rfl rfl trivial (mo_box rfl) ?_
     rintro v' L' ⟨sb,rfl,rfl⟩
     repeat (first | refine aA ?_ | refine ap_end ?_)
     refine at_mid (B:=mT) (I:=MI) (sb,cs,ct,ce) trivial ?_ ?_ rfl
     exact ⟨rfl,rfl,rfl,rfl,rfl,rfl,rfl,rfl,rfl,rfl,trivial⟩
     repeat (first | exact Ent.refl | (apply Ent.take;(repeat (first | exact Has.here | apply Has.there))) | apply Ent.drop)
    ·refine ap1_mo (Pd':=[]) rfl rfl rfl trivial (mo_makeChan (m:=0) (k:=.i64) rfl (by omega) (by omega)) (fun v L' _ p hp=>by cases hp) ?_
     rintro v' L' ⟨ce,rfl,rfl⟩
     refine ap_loud rfl rfl rfl rfl rfl trivial (mo_makeChan (m:=0) (k:=.i64) rfl (by omega) (by omega)) ?_
     rintro v' L' ⟨ct,rfl,rfl⟩
     repeat (first | (apply ap_pure;exact rfl;exact rfl;exact trivial;intro L;apply mo_build (pv:=[(0,_),(1,_),(2,_)]);exact rfl;exact .cons rfl (.cons rfl (.cons rfl .nil));exact rfl))
     refine ap_loud rfl rfl rfl rfl rfl trivial (mo_box rfl) ?_
     rintro v' L' ⟨sb,rfl,rfl⟩
     repeat (first | refine aA ?_ | refine ap_end ?_)
     refine at_mid (B:=mT) (I:=MI) (sb,cs,ct,ce) trivial ?_ ?_ rfl
     exact ⟨rfl,rfl,rfl,rfl,rfl,rfl,rfl,rfl,rfl,rfl,trivial⟩
     repeat (first | exact Ent.refl | (apply Ent.take;(repeat (first | exact Has.here | apply Has.there))) | apply Ent.drop)
  ·rintro ⟨sb,cs,ct,ce⟩ _
   simp only [MI,seatMid]
   repeat (first | refine we_seq ?_ | (refine wR ?_;try simp only [oS]) | refine wM ?_)
   refine wo_call (.cons rfl (.cons rfl (.cons rfl .nil))) trivial (Tr.ent (L':=g.U s::ts[j].M::arr sb 0 [.chan (some ct),.chan (some ce),.chan (some cs),.int .u8 0,.int .i64 0,.bool false]::ob cs newChan::ob ct newChan::ob ce newChan::arr pb 0 [ss,.slice none 0 0,.slice none 0 0]::vec 1 ss (ptrs ids)::all (seatCs g ids qs)::all ((ts.drop (j+1)).map Thr.M)::arr rb 0 [.slice none 0 0,.slice none 0 0]::shpC wg 185 2::F) (.take (.there (.there (.there (.there .here)))) (.take (.there (.there (.there (.there (.there (.there (.there .here))))))) (.take .here (.take .here (.take .here (.take .here .refl)))))) (run_tr hTO (by have:=hS j hlt;rw [hst] at this;exact this) hfin (by rw [hsl];omega) (fun h st=>shp_of (.there (.there (.there (.there (.there .here))))) st))) ?_
   rintro v' L' x' ⟨rfl,rfl,rfl⟩
   refine wo_pure (of_has (.there (.there (.there (.there .here)))) (vec_shape (by omega))) ?_
   rintro ⟨sa,sn,sc,rfl,hsn,_⟩
   have hsn:sn=ids.length:=by simp [ptrs] at hsn;omega
   subst hsn
   repeat (first | (apply wo_mo;apply mo_buildSlice (sz:=1) (vs:=[.pointer (some ⟨sb,0,none⟩)]);exact rfl;exact .cons rfl .nil;exact rfl;(intro v hv;cases (List.mem_singleton.1 hv);exact rfl);omega;exact trivial) | (refine wR ?_;try simp only [oS]) | refine wo_nil ?_ | refine wM ?_ | refine wD ?_ | refine wL ?_)
   rintro v' L' ⟨nb,rfl,rfl⟩
   repeat (first | (apply wo_mo;apply mo_append (sz:=1) (new:=[.pointer (some ⟨sb,0,none⟩)]);exact rfl;exact rfl;exact rfl;exact rfl;exact (.there (.there (.there (.there (.there .here)))));exact rfl;exact .inr ⟨_,_,rfl,Rds.all .here⟩;(intro v hv;cases (List.mem_singleton.1 hv);exact rfl);(simp only [sliceLen];omega);exact trivial))
   rintro v' L' rfl
   refine wo_pure (of_has .here (vec_shape (by omega))) ?_
   rintro ⟨ua,un,uc,rfl,hun,_⟩
   repeat (first | refine wS ?_ | (refine wR ?_;try simp only [oS]) | refine wo_nil ?_ | refine wM ?_ | refine wD ?_ | refine wadd ?_)
   have hseats:seatCs g (ids++[⟨sb,cs,ct,ce⟩]) (qs++[(ts[j].ini s).2])=seatCs g ids qs++[seatC g ⟨sb,cs,ct,ce⟩ (ts[j].ini s).2]:=by
    unfold seatCs;rw [List.zipWith_append (by omega)];rfl
   have hseatS:seatSs (ids++[⟨sb,cs,ct,ce⟩]) (qs++[(ts[j].ini s).2])=seatSs ids qs++[seatS ⟨sb,cs,ct,ce⟩ (ts[j].ini s).2]:=by
    unfold seatSs;rw [List.zipWith_append (by omega)];rfl
   refine at_roundS (B:=mT) (I:=startInvP ts s0 wg pb rb (.slice oa order.length oc) (.slice (some ⟨tb,to,none⟩) ts.length tc) (shpC wg 185 2::F)) (R:=fun i'=>ts.length-i'.1<ts.length-j) (j+1,(ts[j].ini s).1,qs++[(ts[j].ini s).2],ids++[⟨sb,cs,ct,ce⟩],.slice ua un uc) (by show ts.length-(j+1)<ts.length-j;omega) ⟨by show j+1≤_;omega,by show (ids++[_]).length=j+1;simp;omega,?_⟩ ?_ (fun h st=>?_) ?_
   ·show startF (ts.take (j+1)) s0=_
    rw [List.take_succ_eq_append_getElem hlt,startF_snoc,hst]
   ·exact ⟨rfl,rfl,rfl,rfl,rfl,rfl,rfl,rfl,trivial⟩
   ·have s1:Star (seatR sb cs ct ce::arr sb 3 (lastC ((g.plan (ts[j].ini s).2).map (·.1)))::all (seatCs g ids qs)::g.U (ts[j].ini s).1::arr pb 0 [.slice ua un uc,.slice none 0 0,.slice none 0 0]::vec 1 (.slice ua un uc) (ptrs ids++[.pointer (some ⟨sb,0,none⟩)])::all ((ts.drop (j+1)).map Thr.M)::arr rb 0 [.slice none 0 0,.slice none 0 0]::shpC wg 185 2::F) h:=Ent.star (.take (.there (.there (.there .here))) (.take (.there (.there (.there .here))) (.take (.there (.there (.there (.there .here)))) (.take (.there (.there .here)) (.take (.there (.there .here)) (.take .here (.drop .refl))))))) st
    have s2:=star_push (c:=seatC g ⟨sb,cs,ct,ce⟩ (ts[j].ini s).2) (star_shut (M:=[_,_]) s1)
    rw [← hseats] at s2
    have e3:ptrs ids++[.pointer (some ⟨sb,0,none⟩)]=ptrs (ids++[⟨sb,cs,ct,ce⟩]):=by simp [ptrs]
    rw [e3] at s2
    exact Ent.star (.take (.there .here) (.take (.there .here) (.take (.there .here) (.take .here .refl)))) s2
   ·show gx g wg (seatSs (ids++[_]) (qs++[_])) _ _ _=_
    rw [hseatS]
    simp only [List.length_append,List.length_singleton]
    rfl
 ·obtain rfl:j=ts.length:=by omega
  rw [List.take_length] at hst
  rw [hsl]
  repeat (first | refine wlssF ?_ | refine we_seq ?_ | (refine wR ?_;try simp only [oS]) | refine wo_nil ?_ | refine wM ?_ | refine wE ?_ | refine wF ?_ | refine we_block ?_ | refine we_exit ?_)
  refine we_star (playL g pb ss (.slice none 0 0) (.slice none 0 0) ids (⟨s,qs,[]⟩:PS g) (arr rb 0 [.slice none 0 0,.slice none 0 0]::shpC wg 185 2::F)) (fun h st=>Ent.star (M:=playL g pb ss (.slice none 0 0) (.slice none 0 0) ids (⟨s,qs,[]⟩:PS g) (arr rb 0 [.slice none 0 0,.slice none 0 0]::shpC wg 185 2::F)) (.take (.there .here) (.take (.there .here) (.take (.there .here) (.take .here (.take .here (.drop .refl)))))) (vec_nil (sz:=3) st)) ?_
  refine we_loopN (ordInv (⟨s,qs,[]⟩:PS g) order ids wg pb rb (.slice oa order.length oc) ss (arr rb 0 [.slice none 0 0,.slice none 0 0]::shpC wg 185 2::F)) (fun i=>order.length-i.1) (0,.slice none 0 0) (Nat.zero_le _) ⟨rfl,rfl,rfl,rfl,rfl,rfl,trivial⟩ .refl rfl ?_
  have hI1:I (⟨s,qs,[]⟩:PS g):=by rw [hst] at hI0;exact hI0
  rintro ⟨i,tsv⟩ hi
  replace hi:i≤order.length:=hi
  have hpl:ids.length=(ordF (⟨s,qs,[]⟩:PS g) (order.take i)).qs.length:=by rw [ordF_len];show ids.length=qs.length;omega
  have hple:=ordF_le (order.take i) (⟨s,qs,[]⟩:PS g) (Nat.zero_le _)
  simp only [ordInv]
  by_cases hlt2:i<order.length
  ·obtain ⟨ob,oo,rfl,hrd⟩:=hro.rds (by omega)
   have hri:=hrd i (.int .i64 order[i]) (by rw [List.getElem?_map,List.getElem?_eq_getElem hlt2];rfl)
   repeat (first | (apply wo_po;apply mo_index1;exact rfl;exact rfl;omega;exact gY) | (apply wo_po;apply mo_load;exact rfl;exact .there (.there (.there (.there (.there (.there (.there hri))))));exact trivial) | refine wlssT ?_ | refine we_seq ?_ | (refine wR ?_;try simp only [oS]) | refine wo_nil ?_ | refine wM ?_ | refine wA ?_ | refine wT ?_ | refine we_skip ?_ | refine we_block ?_)
   refine wo_call (.cons rfl (.cons rfl .nil)) trivial (takes_tr hpl hple (hIo _ (hIord _ _ hI1))) ?_
   rintro v' L' x' ⟨ts',rfl,rfl,rfl⟩
   repeat (first | (refine wR ?_;try simp only [oS]) | refine wo_nil ?_ | refine wM ?_ | refine wadd ?_)
   have htk:(takeF (ordF (⟨s,qs,[]⟩:PS g) (order.take i)) order[i]).1=ordF (⟨s,qs,[]⟩:PS g) (order.take (i+1)):=by
    rw [List.take_succ_eq_append_getElem hlt2,ordF_snoc]
   rw [htk]
   refine at_round (B:=mT) (I:=ordInv (⟨s,qs,[]⟩:PS g) order ids wg pb rb (.slice (some ⟨ob,oo,none⟩) order.length oc) ss (arr rb 0 [.slice none 0 0,.slice none 0 0]::shpC wg 185 2::F)) (R:=fun i'=>order.length-i'.1<order.length-i) (i+1,ts') (by show order.length-(i+1)<order.length-i;omega) (show i+1≤order.length by omega) ?_ .refl rfl
   exact ⟨rfl,rfl,rfl,rfl,rfl,rfl,trivial⟩
  ·obtain rfl:i=order.length:=by omega
   rw [List.take_length] at hpl hple ⊢
   obtain ⟨p1,hp1⟩:∃ p1,ordF (⟨s,qs,[]⟩:PS g) order=p1:=⟨_,rfl⟩
   rw [hp1] at hpl hple ⊢
   repeat (first | refine wlssF ?_ | refine we_seq ?_ | (refine wR ?_;try simp only [oS]) | refine wo_nil ?_ | refine wA ?_ | refine wF ?_ | refine we_block ?_ | refine we_exit ?_)
   refine we_loopN (restInv I p1 ids wg pb rb ss (arr rb 0 [.slice none 0 0,.slice none 0 0]::shpC wg 185 2::F)) (fun i=>if i.2.2.2=true then i.1+1 else 0) (16385,p1,tsv,true) ⟨by rw [← hp1];exact hIord _ _ hI1,rfl,hple,by simp only [if_true];exact ⟨trivial,by omega⟩⟩ ⟨rfl,rfl,rfl,rfl,trivial⟩ .refl rfl ?_
   rintro ⟨n,p,tv2,more⟩ ⟨hIp,hq1,hq2,hq3⟩
   simp only at hIp hq1 hq2 hq3
   simp only [restInv]
   cases more with
   | true =>
    simp only [if_true] at hq3
    obtain ⟨n,rfl⟩:∃ m,n=m+1:=⟨n-1,by omega⟩
    have hpq:p.qs.length=ids.length:=by omega
    refine we_pure (of_has (.there (.there .here)) (vec_shape (by omega))) ?_
    rintro ⟨sa,sn,sc,rfl,hsn,_⟩
    have hsn:sn=ids.length:=by simp [ptrs] at hsn;omega
    subst hsn
    repeat (first | refine we_seq ?_ | (refine wR ?_;try simp only [oS]) | refine wo_nil ?_ | refine wM ?_ | refine wA ?_ | refine wD ?_ | refine wL ?_ | refine wE ?_ | refine wT ?_ | refine we_skip ?_ | refine we_block ?_)
    refine we_loopN (rndInvP p ids wg pb rb (.slice sa ids.length sc) (arr rb 0 [.slice none 0 0,.slice none 0 0]::shpC wg 185 2::F)) (fun i=>ids.length-i.1) (0,tv2) (Nat.zero_le _) ⟨rfl,rfl,rfl,rfl,rfl,rfl,trivial⟩ .refl rfl ?_
    rintro ⟨k,tv3⟩ hk
    replace hk:k≤ids.length:=hk
    simp only [rndInvP]
    by_cases hlt3:k<ids.length
    ·repeat (first | refine wlssT ?_ | refine we_seq ?_ | (refine wR ?_;try simp only [oS]) | refine wo_nil ?_ | refine wM ?_ | refine wA ?_ | refine wT ?_ | refine we_skip ?_ | refine we_block ?_)
     refine wo_call (.cons rfl (.cons rfl .nil)) trivial (takes_tr (by rw [roundF_len];omega) (roundF_le hq2 k) (hIo _ (hIrnd _ _ hIp))) ?_
     rintro v' L' x' ⟨ts',rfl,rfl,rfl⟩
     have hnx:roundF p (k+1)=((takeF (roundF p k).1 k).1,(takeF (roundF p k).1 k).2||(roundF p k).2):=rfl
     have hr1:(roundF p (k+1)).1=(takeF (roundF p k).1 k).1:=rfl
     obtain ⟨b,hb⟩:∃ b,(takeF (roundF p k).1 k).2=b:=⟨_,rfl⟩
     rw [hb,← hr1]
     cases b with
     | true =>
      repeat (first | (refine wR ?_;try simp only [oS]) | refine wo_nil ?_ | refine wM ?_ | refine wA ?_ | (apply wo_no;exact rfl) | refine wK ?_ | refine wadd ?_)
      refine at_round (B:=mT) (I:=rndInvP p ids wg pb rb (.slice sa ids.length sc) (arr rb 0 [.slice none 0 0,.slice none 0 0]::shpC wg 185 2::F)) (R:=fun i'=>ids.length-i'.1<ids.length-k) (k+1,ts') (by show ids.length-(k+1)<ids.length-k;omega) (show k+1≤ids.length by omega) ?_ .refl rfl
      exact ⟨rfl,rfl,rfl,by rw [hnx,hb];rfl,rfl,rfl,trivial⟩
     | false =>
      repeat (first | (refine wR ?_;try simp only [oS]) | refine wo_nil ?_ | refine wM ?_ | refine wA ?_ | refine wJ ?_ | refine wadd ?_)
      refine at_round (B:=mT) (I:=rndInvP p ids wg pb rb (.slice sa ids.length sc) (arr rb 0 [.slice none 0 0,.slice none 0 0]::shpC wg 185 2::F)) (R:=fun i'=>ids.length-i'.1<ids.length-k) (k+1,ts') (by show ids.length-(k+1)<ids.length-k;omega) (show k+1≤ids.length by omega) ?_ .refl rfl
      exact ⟨rfl,rfl,rfl,by rw [hnx,hb];rfl,rfl,rfl,trivial⟩
    ·obtain rfl:k=ids.length:=by omega
     repeat (first | refine wlssF ?_ | refine we_seq ?_ | (refine wR ?_;try simp only [oS]) | refine wo_nil ?_ | refine wF ?_ | refine we_exit ?_)
     have hg:=roundF_grow p ids.length
     have hle3:=roundF_le hq2 ids.length
     have hrest:restF (n+1) p=if (roundF p ids.length).2=true then restF n (roundF p ids.length).1 else (roundF p ids.length).1:=by
      show (if (roundF p p.qs.length).2=true then restF n (roundF p p.qs.length).1 else (roundF p p.qs.length).1)=_
      rw [hpq]
     refine at_round (B:=mT) (I:=restInv I p1 ids wg pb rb (.slice sa ids.length sc) (arr rb 0 [.slice none 0 0,.slice none 0 0]::shpC wg 185 2::F)) (R:=fun i'=>(if i'.2.2.2=true then i'.1+1 else 0)<(if true=true then (n+1)+1 else 0)) (n,(roundF p ids.length).1,tv3,(roundF p ids.length).2) ?_ ⟨hIrnd _ _ hIp,by show (roundF p ids.length).1.qs.length=_;rw [roundF_len];exact hq1,hle3,?_⟩ ?_ .refl rfl
     ·show (if (roundF p ids.length).2=true then n+1 else 0)<(if true=true then (n+1)+1 else 0)
      simp only [if_true]
      split <;> omega
     ·simp only
      rw [hrest] at hq3
      cases hb:(roundF p ids.length).2 with
      | true=>rw [hb] at hq3 hg;simp only [if_true] at hq3 hg ⊢;exact ⟨hq3.1,by omega⟩
      | false=>rw [hb] at hq3;simpa using hq3.1
     ·exact ⟨rfl,rfl,rfl,rfl,trivial⟩
   | false =>
    simp only [Bool.false_eq_true,if_false] at hq3
    have hplay:playF ts s0 order=p:=by rw [hq3,← hp1];unfold playF;rw [hst]
    rw [hplay] at hQ
    have hpq:p.qs.length=ids.length:=by omega
    refine we_pure (of_has (.there (.there .here)) (vec_shape (by omega))) ?_
    rintro ⟨sa,sn,sc,rfl,hsn,_,hnz,hy⟩
    have hsn:sn=ids.length:=by simp [ptrs] at hsn;omega
    subst hsn
    cases sa with
    | none=>have:=hnz rfl;omega
    | some ad =>
    obtain ⟨sb,so,sp⟩:=ad
    have:=hy _ rfl
    simp only [Addr.mk.injEq,true_and] at this
    subst this
    repeat (first | refine we_seq ?_ | (refine wR ?_;try simp only [oS]) | refine wo_nil ?_ | refine wM ?_ | refine wD ?_ | refine wL ?_ | refine wE ?_ | refine wF ?_ | refine we_block ?_ | refine we_exit ?_)
    refine we_star (vec 1 (.slice none 0 0) (cutC (cutN g p.qs 0))::arr pb 0 [.slice (some ⟨sb,so,none⟩) ids.length sc,tv2,.slice none 0 0]::vec 1 (.slice (some ⟨sb,so,none⟩) ids.length sc) (ptrs ids)::vec 3 tv2 (trCP p.tr)::all (seatCs g ids p.qs)::g.U p.s::arr rb 0 [.slice none 0 0,.slice none 0 0]::shpC wg 185 2::F) (fun h st=>vec_nil (Ent.star (.take (.there .here) (.take (.there .here) (.take (.there .here) (.take (.there .here) (.take .here .refl))))) st)) ?_
    refine we_loopN (cutInv p ids wg pb rb (.slice (some ⟨sb,so,none⟩) ids.length sc) tv2 (arr rb 0 [.slice none 0 0,.slice none 0 0]::shpC wg 185 2::F)) (fun i=>ids.length-i.1) (0,.slice none 0 0) (Nat.zero_le _) ⟨rfl,rfl,rfl,rfl,rfl,rfl,trivial⟩ .refl (by simp only [cutInv];rw [shutS_zero]) ?_
    rintro ⟨k,cv⟩ hk
    replace hk:k≤ids.length:=hk
    simp only [cutInv]
    by_cases hlt3:k<ids.length
    ·have hi:ids[k]?=some ids[k]:=List.getElem?_eq_getElem hlt3
     have hq:p.qs[k]?=some (p.qs[k]'(by omega)):=List.getElem?_eq_getElem _
     obtain ⟨i,hie⟩:∃ i,ids[k]=i:=⟨_,rfl⟩
     obtain ⟨q,hqe⟩:∃ q,(p.qs[k]'(by omega))=q:=⟨_,rfl⟩
     rw [hie] at hi
     rw [hqe] at hq
     let er:=all ((seatCs g ids p.qs).eraseIdx k)
     refine we_star (seatR i.sb i.says i.turn i.fin::arr i.sb 3 (lastQ g q)::er::vec 1 cv (cutC (cutN g p.qs k))::arr pb 0 [.slice (some ⟨sb,so,none⟩) ids.length sc,tv2,cv]::vec 1 (.slice (some ⟨sb,so,none⟩) ids.length sc) (ptrs ids)::vec 3 tv2 (trCP p.tr)::g.U p.s::arr rb 0 [.slice none 0 0,.slice none 0 0]::shpC wg 185 2::F) (fun h st=>seat_pick hi hq (((.there (.there (.there (.there .here)))):Has (_::_::_::_::all (seatCs g ids p.qs)::_) _ _).star st)) ?_
     have hback:∀ {cv':Value} {cl:List Value} h,Star (seatR i.sb i.says i.turn i.fin::arr i.sb 3 (lastQ g q)::er::vec 1 cv' cl::arr pb 0 [.slice (some ⟨sb,so,none⟩) ids.length sc,tv2,cv']::vec 1 (.slice (some ⟨sb,so,none⟩) ids.length sc) (ptrs ids)::vec 3 tv2 (trCP p.tr)::g.U p.s::arr rb 0 [.slice none 0 0,.slice none 0 0]::shpC wg 185 2::F) h →
       Star (vec 1 cv' cl::arr pb 0 [.slice (some ⟨sb,so,none⟩) ids.length sc,tv2,cv']::vec 1 (.slice (some ⟨sb,so,none⟩) ids.length sc) (ptrs ids)::vec 3 tv2 (trCP p.tr)::all (seatCs g ids p.qs)::g.U p.s::arr rb 0 [.slice none 0 0,.slice none 0 0]::shpC wg 185 2::F) h:=fun h st=>by
      have s1:=seat_put (q':=q) hi hq st
      rw [set_same hq] at s1
      exact Ent.star (.take (.there .here) (.take (.there .here) (.take (.there .here) (.take (.there .here) (.take .here .refl))))) s1
     have hcl:(cutN g p.qs k).length≤k:=by have:=List.length_filter_le (fun k=>((p.qs[k]?).bind g.plan).isSome) (List.range k);rw [List.length_range] at this;exact this
     have hget:(shutS ids p.qs k)[k]?=some (⟨i.says,i.turn,i.fin,.said q⟩:Seat g.σ g.θ):=by rw [shutS_get hi hq,if_neg (by omega)];rfl
     have hsl2:ids.length=(shutS ids p.qs k).length:=(shutS_len hpq.symm).symm
     have rs:∀ {a b c d e:HProp} {M:List HProp},Rd (a::b::c::d::e::vec 1 (.slice (some ⟨sb,so,none⟩) ids.length sc) (ptrs ids)::M) sb (so+k) (.pointer (some ⟨i.sb,0,none⟩)):=rd_vec (cs:=ptrs ids) (.there (.there (.there (.there (.there .here))))) (by simp [ptrs,hi])
     refine we_pure (of_has (.there (.there (.there .here))) (vec_shape (by omega))) ?_
     rintro ⟨ca,cn,cc,rfl,hcn,_⟩
     have hcn:cn=(cutN g p.qs k).length:=by simp [cutC] at hcn;omega
     subst hcn
     cases hpl2:g.plan q with
     | none =>
      have hlq:lastQ g q=[.int .u8 0,.int .i64 0,.bool true]:=by unfold lastQ;rw [hpl2];rfl
      have hcut:cutN g p.qs (k+1)=cutN g p.qs k:=by rw [cutN_succ,hq];simp [hpl2]
      rw [hlq] at hback ⊢
      have rl:∀ {a:HProp} {M:List HProp},Rd (a::arr i.sb 3 [.int .u8 0,.int .i64 0,.bool true]::M) i.sb 5 (.bool true):=.there (Rd.row (k:=2) rfl rfl)
      have re:∀ {M:List HProp},Rd (seatR i.sb i.says i.turn i.fin::M) i.sb 1 (.chan (some i.fin)):=Rd.fro (k:=1) rfl rfl
      repeat (first | (apply wo_po;apply mo_index1;exact rfl;exact rfl;omega;exact gY) | (apply wo_po;apply mo_load;exact rfl;(first | exact rs | exact rl | exact re);exact trivial) | refine wlssT ?_ | refine we_seq ?_ | (refine wR ?_;try simp only [oS]) | refine wo_nil ?_ | refine wM ?_ | refine wA ?_ | refine wN ?_ | refine wD ?_ | (apply wo_po;apply mo_not;exact rfl;exact gY) | refine wT ?_ | refine wF ?_ | refine we_skip ?_ | refine we_block ?_)
      refine wo_shut (X:=⟨g,wg,shutS ids p.qs k,some p.s,16384-p.tr.length,ids.length,false,.play,none,0⟩) (j:=k) (c:=⟨i.says,i.turn,i.fin,.said q⟩) (q0:=q) rfl rfl rfl hsl2 rfl hget rfl trivial (by decide) ?_
      repeat (first | (refine wR ?_;try simp only [oS]) | refine wo_nil ?_ | refine wM ?_ | refine wadd ?_)
      refine at_roundS (B:=mT) (I:=cutInv p ids wg pb rb (.slice (some ⟨sb,so,none⟩) ids.length sc) tv2 (arr rb 0 [.slice none 0 0,.slice none 0 0]::shpC wg 185 2::F)) (R:=fun i'=>ids.length-i'.1<ids.length-k) (k+1,.slice ca (cutN g p.qs k).length cc) (by show ids.length-(k+1)<ids.length-k;omega) (show k+1≤ids.length by omega) ?_ (fun h st=>?_) ?_
      ·exact ⟨rfl,rfl,rfl,rfl,rfl,rfl,trivial⟩
      ·show Star (vec 1 _ (cutC (cutN g p.qs (k+1)))::_) h
       rw [hcut]
       exact hback h st
      ·simp only [cutInv]
       rw [← shutS_succ hi hq]
     | some mf =>
      obtain ⟨m,f⟩:=mf
      have hlq:lastQ g q=[.int .u8 m.1,.int .i64 m.2,.bool false]:=by unfold lastQ;rw [hpl2];rfl
      have hcut:cutN g p.qs (k+1)=cutN g p.qs k++[k]:=by rw [cutN_succ,hq];simp [hpl2]
      rw [hlq] at hback ⊢
      have rl:∀ {a:HProp} {M:List HProp},Rd (a::arr i.sb 3 [.int .u8 m.1,.int .i64 m.2,.bool false]::M) i.sb 5 (.bool false):=.there (Rd.row (k:=2) rfl rfl)
      have re:∀ {a b:HProp} {M:List HProp},Rd (a::b::seatR i.sb i.says i.turn i.fin::M) i.sb 1 (.chan (some i.fin)):=.there (.there (Rd.fro (k:=1) rfl rfl))
      repeat (first | (apply wo_po;apply mo_index1;exact rfl;exact rfl;omega;exact gY) | (apply wo_po;apply mo_load;exact rfl;(first | exact rs | exact rl);exact trivial) | (apply wo_mo;apply mo_buildSlice (sz:=1) (vs:=[.int .i64 (k:Nat)]);exact rfl;exact .cons rfl .nil;exact rfl;(intro v hv;cases (List.mem_singleton.1 hv);exact rfl);omega;exact trivial) | refine wlssT ?_ | refine we_seq ?_ | (refine wR ?_;try simp only [oS]) | refine wo_nil ?_ | refine wM ?_ | refine wA ?_ | refine wN ?_ | refine wD ?_ | (apply wo_po;apply mo_not;exact rfl;exact gY) | refine wL ?_ | refine wT ?_ | refine we_skip ?_ | refine we_block ?_)
      rintro v' L' ⟨nb,rfl,rfl⟩
      repeat (first | (apply wo_mo;apply mo_append (sz:=1) (new:=[.int .i64 (k:Nat)]);exact rfl;exact rfl;exact rfl;exact rfl;exact (.there (.there (.there (.there .here))));exact rfl;exact .inr ⟨_,_,rfl,Rds.all .here⟩;(intro v hv;cases (List.mem_singleton.1 hv);exact rfl);(simp only [sliceLen];omega);exact trivial))
      rintro v' L' rfl
      refine wo_pure (of_has .here (vec_shape (by omega))) ?_
      rintro ⟨ua,un,uc,rfl,hun,_⟩
      repeat (first | refine wS ?_ | (apply wo_po;apply mo_load;exact rfl;exact re;exact trivial) | (refine wR ?_;try simp only [oS]) | refine wo_nil ?_ | refine wM ?_ | refine wN ?_ | refine wD ?_)
      refine wo_shut (X:=⟨g,wg,shutS ids p.qs k,some p.s,16384-p.tr.length,ids.length,false,.play,none,0⟩) (j:=k) (c:=⟨i.says,i.turn,i.fin,.said q⟩) (q0:=q) rfl rfl rfl hsl2 rfl hget rfl trivial (by decide) ?_
      repeat (first | (refine wR ?_;try simp only [oS]) | refine wo_nil ?_ | refine wM ?_ | refine wadd ?_)
      refine at_roundS (B:=mT) (I:=cutInv p ids wg pb rb (.slice (some ⟨sb,so,none⟩) ids.length sc) tv2 (arr rb 0 [.slice none 0 0,.slice none 0 0]::shpC wg 185 2::F)) (R:=fun i'=>ids.length-i'.1<ids.length-k) (k+1,.slice ua un uc) (by show ids.length-(k+1)<ids.length-k;omega) (show k+1≤ids.length by omega) ?_ (fun h st=>?_) ?_
      ·exact ⟨rfl,rfl,rfl,rfl,rfl,rfl,trivial⟩
      ·show Star (vec 1 _ (cutC (cutN g p.qs (k+1)))::_) h
       have e4:cutC (cutN g p.qs (k+1))=cutC (cutN g p.qs k)++[.int .i64 (k:Nat)]:=by rw [hcut];simp [cutC]
       rw [e4]
       exact hback h (Ent.star (.take (.there (.there .here)) (.take (.there (.there .here)) (.take (.there (.there .here)) (.take .here (.drop .refl))))) st)
      ·simp only [cutInv]
       rw [← shutS_succ hi hq]
    ·obtain rfl:k=ids.length:=by omega
     repeat (first | refine wlssF ?_ | refine we_seq ?_ | (refine wR ?_;try simp only [oS]) | refine wo_nil ?_ | refine wF ?_ | refine we_exit ?_)
     refine wo_call (.cons rfl .nil) trivial (wgWait_tr (X:=⟨g,wg,shutS ids p.qs ids.length,some p.s,16384-p.tr.length,ids.length,false,.play,none,0⟩) rfl (by show ids.length<1000;omega) (shutS_len hpq.symm).symm (shutS_closed hpq.symm) (fun d e=>by cases e) rfl (fun h st=>shp_of (.there (.there (.there (.there (.there (.there (.there .here))))))) st)) ?_
     rintro v' L' x' ⟨rfl,rfl,rfl⟩
     rw [show GX.ends ⟨g,wg,shutS ids p.qs ids.length,some p.s,16384-p.tr.length,ids.length,false,.play,none,0⟩=all (p.qs.map g.Fin) from congrArg all (shutS_all hpq.symm)]
     repeat (first | (apply wo_po;apply mo_loadA (vs:=[tv2,cv]);exact rfl;exact rfl;exact Rds.row (k:=1) (.there (.there .here)) (by intro i v hv;match i,hv with | 0,hv=>exact hv | 1,hv=>exact hv);exact trivial) | refine we_seq ?_ | (refine wR ?_;try simp only [oS]) | refine wo_nil ?_ | refine wD ?_)
     refine wo_pure (of_has (.there .here) (vec_shape (by omega))) ?_
     rintro ⟨ca,cn,cc,rfl,_⟩
     refine wo_pure (of_has (.there (.there (.there (.there .here)))) (vec_shape (by omega))) ?_
     rintro ⟨ta2,tn2,tc2,rfl,_⟩
     repeat (first | (apply wo_pm;apply mo_storeA (c:=0) (k:=0) (a:=0) (vs:=[.slice none 0 0,.slice none 0 0]);exact rfl;exact rfl;exact rfl;(intro w hw;simp [Value.cells] at hw;rcases hw with rfl | rfl <;> rfl);exact rfl;exact Nat.le_refl 2;exact (.there (.there (.there (.there (.there (.there (.there .here)))))));exact trivial) | refine wo_nil ?_ | refine wA ?_ | refine we_ret ?_)
     refine at_leaveM (rs:=[.cell 4 100,.tmp 5]) Try.func57 Try.results57 hQ (.inl rfl) (.cons (.cell (vs:=[.slice ta2 tn2 tc2,.slice ca cn cc]) rfl rfl (Rds.all (.there (.there (.there (.there (.there (.there (.there .here))))))))) (.cons (.tmp rfl) .nil)) ?_
     refine ⟨_,_,rfl,rfl,fun h st=>?_⟩
     rw [← hids]
     exact Ent.star (.take (.there (.there (.there (.there .here)))) (.take (.there .here) (.take (.there (.there (.there (.there .here)))) (.take .here (.drop (.drop (.drop (.drop (.drop .refl))))))))) st
end
end
end Go.Proofs.Ytkgnkloonamheaa
namespace Go.Proofs.Ytkgnkloonamheaa
open Go Go.PB
section
section
variable {g:Game}
theorem ordF_inv {I:PS g→Prop} (hs:∀ p k,I p→I (takeF p k).1):∀ (l:List Int) (p:PS g),I p→I (ordF p l)
 | [],p,h=>h
 | k::l,p,h=>ordF_inv hs l _ (hs p k h)
theorem roundF_inv {I:PS g→Prop} (hs:∀ p k,I p→I (takeF p k).1) {p:PS g} (h:I p):∀ n,I (roundF p n).1
 | 0=>h
 | n+1=>hs _ _ (roundF_inv hs h n)
theorem restF_inv {I:PS g→Prop} (hs:∀ p k,I p→I (takeF p k).1):∀ (n:Nat) (p:PS g),I p→I (restF n p)
 | 0,p,h=>h
 | n+1,p,h=>by
  unfold restF
  split
  ·exact restF_inv hs n _ (roundF_inv hs h _)
  ·exact roundF_inv hs h _
theorem playF_inv {I:PS g→Prop} (hs:∀ p k,I p→I (takeF p k).1) {ts:List (Thr g)} {s:g.σ} {o:List Int} (h0:I ⟨(startF ts s).1,(startF ts s).2,[]⟩):I (playF ts s o) :=
 restF_inv hs _ _ (ordF_inv hs _ _ h0)
theorem roundF_no {p:PS g}:∀ {n:Nat},(roundF p n).2=false→(roundF p n).1=p∧∀ k:Nat,k<n→takeF p k=(p,false)
 | 0,_=>⟨rfl,fun k h=>by omega⟩
 | n+1,h=>by
  have h':((takeF (roundF p n).1 n).2||(roundF p n).2)=false:=h
  rw [Bool.or_eq_false_iff] at h'
  obtain ⟨h1,h2⟩:=roundF_no h'.2
  rw [h1] at h'
  have h3:takeF p n=(p,false):=by
   rcases takeF_cases p n with e | ⟨_,_,_,_,_,_,_,_,e⟩
   ·exact e
   ·rw [e] at h';cases h'.1
  refine ⟨?_,fun k hk=>?_⟩
  ·show (takeF (roundF p n).1 n).1=p
   rw [h1,h3]
  ·by_cases e:k=n
   ·subst e;exact h3
   ·exact h2 k (by omega)
theorem take_stuck {p:PS g} {k:Nat} {q:g.θ} (hq:p.qs[k]?=some q) (h:takeF p k=(p,false)):g.plan q=none∨p.tr.length=16384:=by
 cases hp:g.plan q with
 | none=>exact .inl rfl
 | some mf =>
  obtain ⟨m,f⟩:=mf
  right
  by_cases htr:p.tr.length=16384
  ·exact htr
  ·unfold takeF at h
   rw [if_neg (by omega),Int.toNat_natCast,hq] at h
   simp only [hp,if_neg htr] at h
   have:=congrArg Prod.snd h
   cases this
theorem restF_done:∀ (n:Nat) (p:PS g),p.tr.length≤16384→16384<p.tr.length+n→∀ (k:Nat) q,(restF n p).qs[k]?=some q→g.plan q=none∨(restF n p).tr.length=16384
 | 0,p,h1,h2=>by omega
 | n+1,p,h1,h2=>by
  intro k q hq
  unfold restF at hq ⊢
  have hg:=roundF_grow p p.qs.length
  have hle:=roundF_le h1 p.qs.length
  split at hq
  ·rename_i hm
   rw [if_pos hm]
   rw [if_pos hm] at hg
   exact restF_done n _ hle (by omega) k q hq
  ·rename_i hm
   rw [if_neg hm]
   obtain ⟨e,hk⟩:=roundF_no (Bool.not_eq_true _▸hm:(roundF p p.qs.length).2=false)
   rw [e] at hq ⊢
   exact take_stuck hq (hk k (List.getElem?_eq_some_iff.1 hq).1)
theorem playF_done {ts:List (Thr g)} {s:g.σ} {o:List Int} {k:Nat} {q:g.θ} (hq:(playF ts s o).qs[k]?=some q):g.plan q=none∨(playF ts s o).tr.length=16384 :=
 restF_done 16385 _ (ordF_le _ _ (Nat.zero_le _)) (by omega) k q hq
theorem playF_len {ts:List (Thr g)} {s:g.σ} {o:List Int}:(playF ts s o).qs.length=ts.length :=
 playF_inv (I:=fun p=>p.qs.length=ts.length) (fun p k h=>by rw [takeF_len];exact h) (startF_len ts s)
theorem cutN_nil {qs:List g.θ} {n:Nat} (h:∀ (k:Nat) q,qs[k]?=some q→g.plan q=none):cutN g qs n=[]:=by
 unfold cutN
 rw [List.filter_eq_nil_iff]
 intro k _
 cases hq:qs[k]? with
 | none=>simp
 | some q=>simp [h k q hq]
end
def sumN (l:List Nat):Nat:=l.foldr (·+·) 0
theorem sumN_set:∀ {l:List Nat} {k a b:Nat},l[k]?=some a→sumN (l.set k b)+a=sumN l+b
 | [],_,_,_,h=>by simp at h
 | x::l,0,a,b,h=>by simp at h;subst h;simp only [List.set_cons_zero,sumN,List.foldr_cons];omega
 | x::l,k+1,a,b,h=>by
  have:=sumN_set (l:=l) (k:=k) (a:=a) (b:=b) (by simpa using h)
  simp only [List.set_cons_succ,sumN,List.foldr_cons] at this ⊢
  omega
end
end Go.Proofs.Ytkgnkloonamheaa
namespace Go.Proofs.Ytkgnkloonamheaa
open Go Go.PB
attribute [local irreducible] Mo Bin Eql Tr Wo Ap Wle
section
theorem wds_congr {addr:Nat→Nat × Nat} {N:Nat} {K:List (Nat × Nat × Value)} {f f':Nat→Nat} (e:∀ i,i<N→f i=f' i):∀ h,wds addr N K f h→wds addr N K f' h:=fun h s =>
 ⟨fun w hw=>by rw [← e w hw];exact s.1 w hw,s.2⟩
structure WGm where
 σ:Type
 θ:Type
 ζ:Type
 wf:σ→Nat→Nat
 zf:σ→ζ
 Z:ζ→HProp
 plan:θ→Option ((Int × Int) × (σ→σ × θ))
 ok:σ→Prop
 Pv:θ→HProp
 up:∀ q h,Star [Pv q] h→Pv q h
def WGm.g (G:WGm) (addr:Nat→Nat × Nat) (N:Nat) (K:List (Nat × Nat × Value)):Game where
 σ:=G.σ
 θ:=G.θ
 U:=fun s=>all [wds addr N K (G.wf s),G.Z (G.zf s)]
 plan:=G.plan
 ok:=G.ok
 Pv:=G.Pv
 Fin:=G.Pv
theorem sum_step {α:Type} {φ0 φ1:α→Nat} (h:∀ a,φ1 a≤φ0 a):∀ {l:List α} {k:Nat} {q q':α},l[k]?=some q→φ1 q'+1≤φ0 q→sumN ((l.set k q').map φ1)+1≤sumN (l.map φ0)
 | [],_,_,_,hq,_=>by simp at hq
 | a::l,0,q,q',hq,hl=>by
  simp at hq;subst hq
  have hle:∀ l:List α,sumN (l.map φ1)≤sumN (l.map φ0):=by
   intro l
   induction l with
   | nil=>simp [sumN]
   | cons b l ih=>have:=h b;simp only [List.map_cons,sumN,List.foldr_cons] at ih ⊢;omega
  have:=hle l
  simp only [List.set_cons_zero,List.map_cons,sumN,List.foldr_cons] at this ⊢;omega
 | a::l,k+1,q,q',hq,hl=>by
  have h1:=sum_step h (l:=l) (k:=k) (q:=q) (q':=q') (by simpa using hq) hl
  have h2:=h a
  simp only [List.set_cons_succ,List.map_cons,sumN,List.foldr_cons] at h1 ⊢;omega
theorem sum_le2 {α:Type} {φ0 φ1:α→Nat} {d:Nat} (h:∀ a,φ1 a≤φ0 a+d):∀ (l:List α),sumN (l.map φ1)≤sumN (l.map φ0)+d*l.length
 | []=>by simp [sumN]
 | a::l=>by
  have h1:=sum_le2 h l
  have h2:=h a
  simp only [List.map_cons,sumN,List.foldr_cons,List.length_cons,Nat.mul_add] at h1 ⊢;omega
theorem sum_set {α:Type} {φ:α→Nat} {l:List α} {k:Nat} {q q':α} (hq:l[k]?=some q):sumN ((l.set k q').map φ)+φ q=sumN (l.map φ)+φ q':=by
 rw [List.map_set]
 exact sumN_set (by rw [List.getElem?_map,hq];rfl)
theorem sum_step2 {α:Type} {φ0 φ1:α→Nat} {d:Nat} (h:∀ a,φ1 a≤φ0 a+d) {l:List α} {k:Nat} {q q':α} (hq:l[k]?=some q) (hl:φ1 q'+d*l.length+1≤φ1 q):sumN ((l.set k q').map φ1)+1≤sumN (l.map φ0):=by
 have h1:=sum_set (φ:=φ1) (q':=q') hq
 have h2:=sum_le2 h l
 omega
end
end Go.Proofs.Ytkgnkloonamheaa
namespace Go.Proofs.Ytkgnkloonamheaa
open Go Go.PB
attribute [local irreducible] Mo Bin Eql Tr Wo
section
structure Acc (B:Hand) (gv:Value) where
 S:Type
 C:S→HProp
 x:S→B.X
 step:Int→Nat→S→(S→Prop)→Prop
 addr:Nat→Nat × Nat
 load:Nat→S→(Nat→S→Prop)→Prop
 store:Nat→Nat→S→(S→Prop)→Prop
 cas:Nat→Nat→Nat→S→(Bool→S→Prop)→Prop
 add:Nat→Nat→S→(Nat→S→Prop)→Prop
 swap:Nat→Nat→S→(Nat→S→Prop)→Prop
 gate:(gv=.nilIface∧∀ op w s R,step op w s R→R s) ∨
  ∃ t p f,gv=.iface t p∧Met Try.prog t "Step" f∧Ent' Try.prog f∧∀ op w s R L F,step op w s R→Has L (C s) F →
   Tr Try.prog B f [p,.agg #[.int .u8 op,.int .i64 (w:Nat)]] L (x s) fun v L' x'=>∃ s',R s'∧v=.tuple #[]∧L'=C s'::F∧x'=x s'
 load_ok:∀ w s R L F b o,addr w=(b,o)→load w s R→Has L (C s) F→Tr Try.prog B 63 [.pointer (some ⟨b,o,none⟩)] L (x s) fun v L' x'=>∃ n s',n<18446744073709551616∧R n s'∧v=.int .u64 (n:Nat)∧L'=C s'::F∧x'=x s'
 store_ok:∀ w n s R L F b o,addr w=(b,o)→n<18446744073709551616→store w n s R→Has L (C s) F→Tr Try.prog B 67 [.pointer (some ⟨b,o,none⟩),.int .u64 (n:Nat)] L (x s) fun v L' x'=>∃ s',R s'∧v=.tuple #[]∧L'=C s'::F∧x'=x s'
 cas_ok:∀ w m n s R L F b o,addr w=(b,o)→n<18446744073709551616→cas w m n s R→Has L (C s) F→Tr Try.prog B 89 [.pointer (some ⟨b,o,none⟩),.int .u64 (m:Nat),.int .u64 (n:Nat)] L (x s) fun v L' x'=>∃ q s',R q s'∧v=.bool q∧L'=C s'::F∧x'=x s'
 add_ok:∀ w n s R L F b o,addr w=(b,o)→n<18446744073709551616→add w n s R→Has L (C s) F→Tr Try.prog B 69 [.pointer (some ⟨b,o,none⟩),.int .u64 (n:Nat)] L (x s) fun v L' x'=>∃ m s',m<18446744073709551616∧R m s'∧v=.int .u64 (m:Nat)∧L'=C s'::F∧x'=x s'
 swap_ok:∀ w n s R L F b o,addr w=(b,o)→n<18446744073709551616→swap w n s R→Has L (C s) F→Tr Try.prog B 91 [.pointer (some ⟨b,o,none⟩),.int .u64 (n:Nat)] L (x s) fun v L' x'=>∃ m s',m<18446744073709551616∧R m s'∧v=.int .u64 (m:Nat)∧L'=C s'::F∧x'=x s'
section
variable {B:Hand} [Lets B] {L F L1:List HProp}
theorem load_lone {b o:Nat} {n:Int} {x:B.X} (hr:Rd L b o (.int .u64 n)):Tr Try.prog B 63 [.pointer (some ⟨b,o,none⟩)] L x fun v L' x'=>v=.int .u64 n∧L'=L∧x'=x:=by
 refine tr_of_body Try.func63 rfl Try.ntmps63 (by simp) fun um Q _ hQ=>?_
 simp only [argE,Nat.zero_add,Nat.reduceAdd]
 repeat (first | (apply wo_po;apply mo_ext (args:=[_]);exact .cons rfl .nil;exact at_loadI hr;exact trivial) | (apply wo_pm;apply mo_ext (args:=[_]);exact .cons rfl .nil;exact at_loadI hr;exact trivial) | refine we_seq ?_ | (refine wR ?_;try simp only [oS]) | refine wo_nil ?_ | refine wM ?_ | refine wA ?_ | (apply wo_no;exact rfl) | (apply wo_nu;exact rfl) | refine wK ?_ | refine wJ ?_ | refine wN ?_ | refine wD ?_ | (apply wo_po;apply mo_extract;exact rfl;exact rfl;exact gY) | (apply wo_po;apply mo_not;exact rfl;exact gY) | refine wL ?_ | (apply wo_po;apply mo_bin;exact rfl;exact rfl;exact bin_lss;exact gY) | (apply wo_po;apply mo_bin;exact rfl;exact rfl;exact bin_gtr;exact gY) | (apply wo_po;apply mo_bin;exact rfl;exact rfl;exact bin_leq;exact gY) | (apply wo_po;apply mo_bin;exact rfl;exact rfl;exact bin_geq;exact gY) | (apply wo_po;apply mo_bin;exact rfl;exact rfl;exact bin_eql;exact gY) | (apply wo_po;apply mo_bin;exact rfl;exact rfl;exact bin_neq;exact gY) | refine wadd ?_ | refine wsub ?_ | (apply wo_po;apply mo_bin;exact rfl;exact rfl;apply bin_ne;apply eql_ptr_nil;exact gY) | (apply wo_po;apply mo_bin;exact rfl;exact rfl;apply bin_eq;apply eql_ptr_nil;exact gY) | (apply wo_po;apply mo_bin;exact rfl;exact rfl;apply bin_ne;apply eql_slice_nil;exact gY) | (apply wo_po;apply mo_bin;exact rfl;exact rfl;apply bin_eq;apply eql_slice_nil;exact gY) | (apply wo_po;apply mo_bin;exact rfl;exact rfl;apply bin_ne;apply eql_nil_nil;exact gY) | (apply wo_po;apply mo_bin;exact rfl;exact rfl;apply bin_eq;apply eql_nil_nil;exact gY) | (apply wo_po;apply mo_bin;exact rfl;exact rfl;apply bin_ne;apply eql_iface_nil;exact gY) | refine wE ?_ | (apply wo_po;apply mo_conv;exact rfl;(first | exact wrap_i64 (by omega) (by omega) | exact wrap_u64 (by omega) (by omega));exact gY) | (apply wo_po;apply mo_min;exact rfl;exact rfl;exact gY) | refine wT ?_ | refine wF ?_ | refine we_ret ?_ | refine we_skip ?_ | refine we_label ?_ | refine we_block ?_ | refine we_scope ?_ | refine we_exit ?_)
 (first | refine or1 Try.func63 Try.results63 hQ rfl ?_ | refine on1 Try.func63 Try.results63 hQ rfl ?_)
 exact ⟨rfl,rfl,rfl⟩
theorem store_lone {b o:Nat} {n:Int} {x:B.X} (hw:Wt L b o (.int .u64 n) L1):Tr Try.prog B 67 [.pointer (some ⟨b,o,none⟩),.int .u64 n] L x fun v L' x'=>v=.tuple #[]∧L'=L1∧x'=x:=by
 refine tr_of_body Try.func67 rfl Try.ntmps67 (by simp) fun um Q _ hQ=>?_
 simp only [argE,Nat.zero_add,Nat.reduceAdd]
 repeat (first | (apply wo_po;apply mo_ext (args:=[_,_]);exact .cons rfl (.cons rfl .nil);exact at_storeI rfl hw;exact trivial) | (apply wo_pm;apply mo_ext (args:=[_,_]);exact .cons rfl (.cons rfl .nil);exact at_storeI rfl hw;exact trivial) | refine we_seq ?_ | (refine wR ?_;try simp only [oS]) | refine wo_nil ?_ | refine wM ?_ | refine wA ?_ | (apply wo_no;exact rfl) | (apply wo_nu;exact rfl) | refine wK ?_ | refine wJ ?_ | refine wN ?_ | refine wD ?_ | (apply wo_po;apply mo_extract;exact rfl;exact rfl;exact gY) | (apply wo_po;apply mo_not;exact rfl;exact gY) | refine wL ?_ | (apply wo_po;apply mo_bin;exact rfl;exact rfl;exact bin_lss;exact gY) | (apply wo_po;apply mo_bin;exact rfl;exact rfl;exact bin_gtr;exact gY) | (apply wo_po;apply mo_bin;exact rfl;exact rfl;exact bin_leq;exact gY) | (apply wo_po;apply mo_bin;exact rfl;exact rfl;exact bin_geq;exact gY) | (apply wo_po;apply mo_bin;exact rfl;exact rfl;exact bin_eql;exact gY) | (apply wo_po;apply mo_bin;exact rfl;exact rfl;exact bin_neq;exact gY) | refine wadd ?_ | refine wsub ?_ | (apply wo_po;apply mo_bin;exact rfl;exact rfl;apply bin_ne;apply eql_ptr_nil;exact gY) | (apply wo_po;apply mo_bin;exact rfl;exact rfl;apply bin_eq;apply eql_ptr_nil;exact gY) | (apply wo_po;apply mo_bin;exact rfl;exact rfl;apply bin_ne;apply eql_slice_nil;exact gY) | (apply wo_po;apply mo_bin;exact rfl;exact rfl;apply bin_eq;apply eql_slice_nil;exact gY) | (apply wo_po;apply mo_bin;exact rfl;exact rfl;apply bin_ne;apply eql_nil_nil;exact gY) | (apply wo_po;apply mo_bin;exact rfl;exact rfl;apply bin_eq;apply eql_nil_nil;exact gY) | (apply wo_po;apply mo_bin;exact rfl;exact rfl;apply bin_ne;apply eql_iface_nil;exact gY) | refine wE ?_ | (apply wo_po;apply mo_conv;exact rfl;(first | exact wrap_i64 (by omega) (by omega) | exact wrap_u64 (by omega) (by omega));exact gY) | (apply wo_po;apply mo_min;exact rfl;exact rfl;exact gY) | refine wT ?_ | refine wF ?_ | refine we_ret ?_ | refine we_skip ?_ | refine we_label ?_ | refine we_block ?_ | refine we_scope ?_ | refine we_exit ?_)
 (first | refine or0 Try.func67 Try.results67 hQ ?_ | refine on0 Try.func67 Try.results67 hQ ?_)
 exact ⟨rfl,rfl,rfl⟩
theorem cas_lone {b o:Nat} {n m y:Int} {x:B.X} (hr:Rd L b o (.int .u64 n)) (hw:Wt L b o (.int .u64 y) L1):Tr Try.prog B 89 [.pointer (some ⟨b,o,none⟩),.int .u64 m,.int .u64 y] L x fun v L' x'=>v=.bool (decide (n=m))∧L'=(if n=m then L1 else L)∧x'=x:=by
 refine tr_of_body Try.func89 rfl Try.ntmps89 (by simp) fun um Q _ hQ=>?_
 simp only [argE,Nat.zero_add,Nat.reduceAdd]
 repeat (first | (apply wo_po;apply mo_ext (args:=[_,_,_]);exact .cons rfl (.cons rfl (.cons rfl .nil));exact at_casI hr hw;exact trivial) | (apply wo_pm;apply mo_ext (args:=[_,_,_]);exact .cons rfl (.cons rfl (.cons rfl .nil));exact at_casI hr hw;exact trivial) | refine we_seq ?_ | (refine wR ?_;try simp only [oS]) | refine wo_nil ?_ | refine wM ?_ | refine wA ?_ | (apply wo_no;exact rfl) | (apply wo_nu;exact rfl) | refine wK ?_ | refine wJ ?_ | refine wN ?_ | refine wD ?_ | (apply wo_po;apply mo_extract;exact rfl;exact rfl;exact gY) | (apply wo_po;apply mo_not;exact rfl;exact gY) | refine wL ?_ | (apply wo_po;apply mo_bin;exact rfl;exact rfl;exact bin_lss;exact gY) | (apply wo_po;apply mo_bin;exact rfl;exact rfl;exact bin_gtr;exact gY) | (apply wo_po;apply mo_bin;exact rfl;exact rfl;exact bin_leq;exact gY) | (apply wo_po;apply mo_bin;exact rfl;exact rfl;exact bin_geq;exact gY) | (apply wo_po;apply mo_bin;exact rfl;exact rfl;exact bin_eql;exact gY) | (apply wo_po;apply mo_bin;exact rfl;exact rfl;exact bin_neq;exact gY) | refine wadd ?_ | refine wsub ?_ | (apply wo_po;apply mo_bin;exact rfl;exact rfl;apply bin_ne;apply eql_ptr_nil;exact gY) | (apply wo_po;apply mo_bin;exact rfl;exact rfl;apply bin_eq;apply eql_ptr_nil;exact gY) | (apply wo_po;apply mo_bin;exact rfl;exact rfl;apply bin_ne;apply eql_slice_nil;exact gY) | (apply wo_po;apply mo_bin;exact rfl;exact rfl;apply bin_eq;apply eql_slice_nil;exact gY) | (apply wo_po;apply mo_bin;exact rfl;exact rfl;apply bin_ne;apply eql_nil_nil;exact gY) | (apply wo_po;apply mo_bin;exact rfl;exact rfl;apply bin_eq;apply eql_nil_nil;exact gY) | (apply wo_po;apply mo_bin;exact rfl;exact rfl;apply bin_ne;apply eql_iface_nil;exact gY) | refine wE ?_ | (apply wo_po;apply mo_conv;exact rfl;(first | exact wrap_i64 (by omega) (by omega) | exact wrap_u64 (by omega) (by omega));exact gY) | (apply wo_po;apply mo_min;exact rfl;exact rfl;exact gY) | refine wT ?_ | refine wF ?_ | refine we_ret ?_ | refine we_skip ?_ | refine we_label ?_ | refine we_block ?_ | refine we_scope ?_ | refine we_exit ?_)
 (first | refine or1 Try.func89 Try.results89 hQ rfl ?_ | refine on1 Try.func89 Try.results89 hQ rfl ?_)
 exact ⟨rfl,rfl,rfl⟩
theorem add_lone {b o:Nat} {n y r:Int} {x:B.X} (hr:Rd L b o (.int .u64 n)) (hn:IntKind.u64.wrap (n+y)=r) (hw:Wt L b o (.int .u64 r) L1):Tr Try.prog B 69 [.pointer (some ⟨b,o,none⟩),.int .u64 y] L x fun v L' x'=>v=.int .u64 r∧L'=L1∧x'=x:=by
 refine tr_of_body Try.func69 rfl Try.ntmps69 (by simp) fun um Q _ hQ=>?_
 simp only [argE,Nat.zero_add,Nat.reduceAdd]
 repeat (first | (apply wo_po;apply mo_ext (args:=[_,_]);exact .cons rfl (.cons rfl .nil);exact at_addI hr hn hw;exact trivial) | (apply wo_pm;apply mo_ext (args:=[_,_]);exact .cons rfl (.cons rfl .nil);exact at_addI hr hn hw;exact trivial) | refine we_seq ?_ | (refine wR ?_;try simp only [oS]) | refine wo_nil ?_ | refine wM ?_ | refine wA ?_ | (apply wo_no;exact rfl) | (apply wo_nu;exact rfl) | refine wK ?_ | refine wJ ?_ | refine wN ?_ | refine wD ?_ | (apply wo_po;apply mo_extract;exact rfl;exact rfl;exact gY) | (apply wo_po;apply mo_not;exact rfl;exact gY) | refine wL ?_ | (apply wo_po;apply mo_bin;exact rfl;exact rfl;exact bin_lss;exact gY) | (apply wo_po;apply mo_bin;exact rfl;exact rfl;exact bin_gtr;exact gY) | (apply wo_po;apply mo_bin;exact rfl;exact rfl;exact bin_leq;exact gY) | (apply wo_po;apply mo_bin;exact rfl;exact rfl;exact bin_geq;exact gY) | (apply wo_po;apply mo_bin;exact rfl;exact rfl;exact bin_eql;exact gY) | (apply wo_po;apply mo_bin;exact rfl;exact rfl;exact bin_neq;exact gY) | refine wadd ?_ | refine wsub ?_ | (apply wo_po;apply mo_bin;exact rfl;exact rfl;apply bin_ne;apply eql_ptr_nil;exact gY) | (apply wo_po;apply mo_bin;exact rfl;exact rfl;apply bin_eq;apply eql_ptr_nil;exact gY) | (apply wo_po;apply mo_bin;exact rfl;exact rfl;apply bin_ne;apply eql_slice_nil;exact gY) | (apply wo_po;apply mo_bin;exact rfl;exact rfl;apply bin_eq;apply eql_slice_nil;exact gY) | (apply wo_po;apply mo_bin;exact rfl;exact rfl;apply bin_ne;apply eql_nil_nil;exact gY) | (apply wo_po;apply mo_bin;exact rfl;exact rfl;apply bin_eq;apply eql_nil_nil;exact gY) | (apply wo_po;apply mo_bin;exact rfl;exact rfl;apply bin_ne;apply eql_iface_nil;exact gY) | refine wE ?_ | (apply wo_po;apply mo_conv;exact rfl;(first | exact wrap_i64 (by omega) (by omega) | exact wrap_u64 (by omega) (by omega));exact gY) | (apply wo_po;apply mo_min;exact rfl;exact rfl;exact gY) | refine wT ?_ | refine wF ?_ | refine we_ret ?_ | refine we_skip ?_ | refine we_label ?_ | refine we_block ?_ | refine we_scope ?_ | refine we_exit ?_)
 (first | refine or1 Try.func69 Try.results69 hQ rfl ?_ | refine on1 Try.func69 Try.results69 hQ rfl ?_)
 exact ⟨rfl,rfl,rfl⟩
theorem swap_lone {b o:Nat} {n y:Int} {x:B.X} (hr:Rd L b o (.int .u64 n)) (hw:Wt L b o (.int .u64 y) L1):Tr Try.prog B 91 [.pointer (some ⟨b,o,none⟩),.int .u64 y] L x fun v L' x'=>v=.int .u64 n∧L'=L1∧x'=x:=by
 refine tr_of_body Try.func91 rfl Try.ntmps91 (by simp) fun um Q _ hQ=>?_
 simp only [argE,Nat.zero_add,Nat.reduceAdd]
 repeat (first | (apply wo_po;apply mo_ext (args:=[_,_]);exact .cons rfl (.cons rfl .nil);exact at_swapI hr hw;exact trivial) | (apply wo_pm;apply mo_ext (args:=[_,_]);exact .cons rfl (.cons rfl .nil);exact at_swapI hr hw;exact trivial) | refine we_seq ?_ | (refine wR ?_;try simp only [oS]) | refine wo_nil ?_ | refine wM ?_ | refine wA ?_ | (apply wo_no;exact rfl) | (apply wo_nu;exact rfl) | refine wK ?_ | refine wJ ?_ | refine wN ?_ | refine wD ?_ | (apply wo_po;apply mo_extract;exact rfl;exact rfl;exact gY) | (apply wo_po;apply mo_not;exact rfl;exact gY) | refine wL ?_ | (apply wo_po;apply mo_bin;exact rfl;exact rfl;exact bin_lss;exact gY) | (apply wo_po;apply mo_bin;exact rfl;exact rfl;exact bin_gtr;exact gY) | (apply wo_po;apply mo_bin;exact rfl;exact rfl;exact bin_leq;exact gY) | (apply wo_po;apply mo_bin;exact rfl;exact rfl;exact bin_geq;exact gY) | (apply wo_po;apply mo_bin;exact rfl;exact rfl;exact bin_eql;exact gY) | (apply wo_po;apply mo_bin;exact rfl;exact rfl;exact bin_neq;exact gY) | refine wadd ?_ | refine wsub ?_ | (apply wo_po;apply mo_bin;exact rfl;exact rfl;apply bin_ne;apply eql_ptr_nil;exact gY) | (apply wo_po;apply mo_bin;exact rfl;exact rfl;apply bin_eq;apply eql_ptr_nil;exact gY) | (apply wo_po;apply mo_bin;exact rfl;exact rfl;apply bin_ne;apply eql_slice_nil;exact gY) | (apply wo_po;apply mo_bin;exact rfl;exact rfl;apply bin_eq;apply eql_slice_nil;exact gY) | (apply wo_po;apply mo_bin;exact rfl;exact rfl;apply bin_ne;apply eql_nil_nil;exact gY) | (apply wo_po;apply mo_bin;exact rfl;exact rfl;apply bin_eq;apply eql_nil_nil;exact gY) | (apply wo_po;apply mo_bin;exact rfl;exact rfl;apply bin_ne;apply eql_iface_nil;exact gY) | refine wE ?_ | (apply wo_po;apply mo_conv;exact rfl;(first | exact wrap_i64 (by omega) (by omega) | exact wrap_u64 (by omega) (by omega));exact gY) | (apply wo_po;apply mo_min;exact rfl;exact rfl;exact gY) | refine wT ?_ | refine wF ?_ | refine we_ret ?_ | refine we_skip ?_ | refine we_label ?_ | refine we_block ?_ | refine we_scope ?_ | refine we_exit ?_)
 (first | refine or1 Try.func91 Try.results91 hQ rfl ?_ | refine on1 Try.func91 Try.results91 hQ rfl ?_)
 exact ⟨rfl,rfl,rfl⟩
end
end
end Go.Proofs.Ytkgnkloonamheaa
namespace Go.Proofs.Ytkgnkloonamheaa
open Go Go.PB
attribute [local irreducible] Mo Bin Eql Tr Wo Ap Wle
section
structure CntAt {B:Hand} {gv:Value} (A:Acc B gv) (r:Nat):Prop where
 hdr:∀ s,Rd [A.C s] r 0 (.bool true)
 a:A.addr 0=(r,1)
theorem addm {u v:Nat}:IntKind.u64.wrap ((u:Int)+(v:Int))=(((u+v)%18446744073709551616:Nat):Int):=by
 rw [wrap_u64_mod];omega
theorem subm {u v:Nat} (hv:v<18446744073709551616):IntKind.u64.wrap ((u:Int)-(v:Int))=(((u+18446744073709551616-v)%18446744073709551616:Nat):Int):=by
 rw [wrap_u64_mod];omega
section
variable {B:Hand} [Lets B] {gv:Value} {A:Acc B gv} {r n mo:Nat} {L F:List HProp}
theorem step_tr {op:Int} {s:A.S} {T:A.S→Prop} (hs:A.step op 0 s T) (hh:Has L (A.C s) F) :
  Tr Try.prog B 53 [gv,.int .u8 op] L (A.x s) fun v L' x'=>∃ s',T s'∧v=.tuple #[]∧L'=A.C s'::F∧x'=A.x s':=by
 rcases A.gate with ⟨rfl,hg⟩ | ⟨t,p,f,rfl,hm,he,hg⟩
 ·refine tr_of_body Try.func53 rfl Try.ntmps53 (by simp) fun um Q _ hQ=>?_
  simp only [argE,Nat.zero_add,Nat.reduceAdd]
  repeat (first | refine we_seq ?_ | (refine wR ?_;try simp only [oS]) | refine wo_nil ?_ | refine wM ?_ | (apply wo_po;apply mo_bin;exact rfl;exact rfl;apply bin_ne;apply eql_nil_nil;exact gY) | refine wF ?_ | refine we_skip ?_)
  refine at_ent _ (Ent.take hh .refl) ?_
  (first | refine or0 Try.func53 Try.results53 hQ ?_ | refine on0 Try.func53 Try.results53 hQ ?_)
  exact ⟨s,hg _ _ _ _ hs,rfl,rfl,rfl⟩
 ·refine tr_of_body Try.func53 rfl Try.ntmps53 (by simp) fun um Q _ hQ=>?_
  simp only [argE,Nat.zero_add,Nat.reduceAdd]
  repeat (first | (apply wo_po;apply mo_build (pv:=[(0,_)]);exact rfl;exact .cons rfl .nil;exact rfl;exact trivial) | refine we_seq ?_ | (refine wR ?_;try simp only [oS]) | refine wo_nil ?_ | refine wM ?_ | (apply wo_po;apply mo_bin;exact rfl;exact rfl;apply bin_ne;apply eql_iface_nil;exact gY) | refine wT ?_)
  refine wo_invoke (args:=[_]) rfl (.cons rfl .nil) trivial (hg op 0 s T L F hs hh) ?_
  rintro v L' x' ⟨s',h1,rfl,rfl,rfl⟩
  repeat (first | refine wo_nil ?_)
  (first | refine or0 Try.func53 Try.results53 hQ ?_ | refine on0 Try.func53 Try.results53 hQ ?_)
  exact ⟨s',h1,rfl,rfl,rfl⟩
theorem cthere_tr {x:B.X} (hr:Rd L r 0 (.bool true)):Tr Try.prog B 59 [.pointer (some ⟨r,0,none⟩)] L x fun v L' x'=>v=.bool true∧L'=L∧x'=x:=by
 refine tr_of_body Try.func59 rfl Try.ntmps59 (by simp) fun um Q _ hQ=>?_
 simp only [argE,Nat.zero_add,Nat.reduceAdd]
 repeat (first | (apply wo_po;apply mo_load;exact rfl;exact hr;exact rfl) | refine we_seq ?_ | (refine wR ?_;try simp only [oS]) | refine wo_nil ?_ | refine wM ?_ | refine wA ?_ | refine wK ?_ | refine wN ?_ | refine wD ?_ | (apply wo_po;apply mo_bin;exact rfl;exact rfl;apply bin_ne;apply eql_ptr_nil;exact gY) | refine we_ret ?_)
 (first | refine or1 Try.func59 Try.results59 hQ rfl ?_ | refine on1 Try.func59 Try.results59 hQ rfl ?_)
 exact ⟨rfl,rfl,rfl⟩
theorem fthere_tr {x:B.X} (hr:Rd L r 0 (.bool true)):Tr Try.prog B 66 [.pointer (some ⟨r,0,none⟩)] L x fun v L' x'=>v=.bool true∧L'=L∧x'=x:=by
 refine tr_of_body Try.func66 rfl Try.ntmps66 (by simp) fun um Q _ hQ=>?_
 simp only [argE,Nat.zero_add,Nat.reduceAdd]
 repeat (first | (apply wo_po;apply mo_load;exact rfl;exact hr;exact rfl) | refine we_seq ?_ | (refine wR ?_;try simp only [oS]) | refine wo_nil ?_ | refine wM ?_ | refine wA ?_ | refine wK ?_ | refine wN ?_ | refine wD ?_ | (apply wo_po;apply mo_bin;exact rfl;exact rfl;apply bin_ne;apply eql_ptr_nil;exact gY) | refine we_ret ?_)
 (first | refine or1 Try.func66 Try.results66 hQ rfl ?_ | refine on1 Try.func66 Try.results66 hQ rfl ?_)
 exact ⟨rfl,rfl,rfl⟩
theorem cget_tr (R:CntAt A r) {s:A.S} {Q:Nat→A.S→Prop} (hs:A.step 1 0 s fun s=>A.load 0 s Q) (hh:Has L (A.C s) F) :
  Tr Try.prog B 26 [.pointer (some ⟨r,0,none⟩),gv] L (A.x s) fun v L' x'=>∃ o s',o<18446744073709551616∧Q o s'∧v=.tuple #[.int .u64 (o:Nat),.int .i64 0]∧L'=A.C s'::F∧x'=A.x s':=by
 refine tr_of_body Try.func26 rfl Try.ntmps26 (by simp) fun um Q _ hQ=>?_
 simp only [argE,Nat.zero_add,Nat.reduceAdd]
 repeat (first | refine we_seq ?_ | (refine wR ?_;try simp only [oS]) | refine wo_nil ?_ | refine wM ?_ | refine wA ?_)
 refine wo_call (.cons rfl .nil) trivial (cthere_tr (Rd.of hh (R.hdr s))) ?_
 rintro v1 L1 x1 ⟨rfl,rfl,rfl⟩
 repeat (first | refine we_seq ?_ | (refine wR ?_;try simp only [oS]) | refine wo_nil ?_ | refine wM ?_ | (apply wo_po;apply mo_not;exact rfl;exact gY) | refine wF ?_ | refine we_skip ?_)
 refine wo_call (.cons rfl (.cons rfl .nil)) trivial (step_tr hs hh) ?_
 rintro v1 L1 x1 ⟨s1,h1,rfl,rfl,rfl⟩
 repeat (first | refine we_seq ?_ | (refine wR ?_;try simp only [oS]) | refine wo_nil ?_ | refine wM ?_ | refine wN ?_ | refine wD ?_)
 refine wo_call (.cons rfl .nil) trivial (A.load_ok _ _ _ _ _ _ _ R.a h1 .here) ?_
 rintro v1 L1 x1 ⟨o,s2,ho,h2,rfl,rfl,rfl⟩
 repeat (first | refine wo_nil ?_ | refine wA ?_ | refine we_ret ?_)
 (first | refine or2 Try.func26 Try.results26 hQ rfl rfl ?_ | refine on2 Try.func26 Try.results26 hQ rfl rfl ?_)
 exact ⟨o,s2,ho,h2,rfl,rfl,rfl⟩
theorem fget_tr (R:CntAt A r) {s:A.S} {Q:Nat→A.S→Prop} (hs:A.step 1 0 s fun s=>A.load 0 s Q) (hh:Has L (A.C s) F) :
  Tr Try.prog B 30 [.pointer (some ⟨r,0,none⟩),gv] L (A.x s) fun v L' x'=>∃ o s',o<18446744073709551616∧Q o s'∧v=.tuple #[.bool (decide (((o:Nat):Int)=1)),.int .i64 0]∧L'=A.C s'::F∧x'=A.x s':=by
 refine tr_of_body Try.func30 rfl Try.ntmps30 (by simp) fun um Q _ hQ=>?_
 simp only [argE,Nat.zero_add,Nat.reduceAdd]
 repeat (first | refine we_seq ?_ | (refine wR ?_;try simp only [oS]) | refine wo_nil ?_ | refine wM ?_ | refine wA ?_)
 refine wo_call (.cons rfl .nil) trivial (fthere_tr (Rd.of hh (R.hdr s))) ?_
 rintro v1 L1 x1 ⟨rfl,rfl,rfl⟩
 repeat (first | refine we_seq ?_ | (refine wR ?_;try simp only [oS]) | refine wo_nil ?_ | refine wM ?_ | (apply wo_po;apply mo_not;exact rfl;exact gY) | refine wF ?_ | refine we_skip ?_)
 refine wo_call (.cons rfl (.cons rfl .nil)) trivial (step_tr hs hh) ?_
 rintro v1 L1 x1 ⟨s1,h1,rfl,rfl,rfl⟩
 repeat (first | refine we_seq ?_ | (refine wR ?_;try simp only [oS]) | refine wo_nil ?_ | refine wM ?_ | refine wN ?_ | refine wD ?_)
 refine wo_call (.cons rfl .nil) trivial (A.load_ok _ _ _ _ _ _ _ R.a h1 .here) ?_
 rintro v1 L1 x1 ⟨o,s2,ho,h2,rfl,rfl,rfl⟩
 repeat (first | refine wo_nil ?_ | refine wA ?_ | (apply wo_po;apply mo_bin;exact rfl;exact rfl;exact bin_eql;exact gY) | refine we_ret ?_)
 (first | refine or2 Try.func30 Try.results30 hQ rfl rfl ?_ | refine on2 Try.func30 Try.results30 hQ rfl rfl ?_)
 exact ⟨o,s2,ho,h2,rfl,rfl,rfl⟩
theorem fswap_tr (R:CntAt A r) (hn:n<18446744073709551616) {s:A.S} {Q:Nat→A.S→Prop} (hs:A.step 4 0 s fun s=>A.swap 0 n s Q) (hh:Has L (A.C s) F) :
  Tr Try.prog B 64 [.pointer (some ⟨r,0,none⟩),gv,.int .u64 (n:Nat)] L (A.x s) fun v L' x'=>∃ o s',o<18446744073709551616∧Q o s'∧v=.tuple #[.bool (!decide (((o:Nat):Int)=(n:Nat))),.int .i64 0]∧L'=A.C s'::F∧x'=A.x s':=by
 refine tr_of_body Try.func64 rfl Try.ntmps64 (by simp) fun um Q _ hQ=>?_
 simp only [argE,Nat.zero_add,Nat.reduceAdd]
 repeat (first | refine we_seq ?_ | (refine wR ?_;try simp only [oS]) | refine wo_nil ?_ | refine wM ?_ | refine wA ?_)
 refine wo_call (.cons rfl .nil) trivial (fthere_tr (Rd.of hh (R.hdr s))) ?_
 rintro v1 L1 x1 ⟨rfl,rfl,rfl⟩
 repeat (first | refine we_seq ?_ | (refine wR ?_;try simp only [oS]) | refine wo_nil ?_ | refine wM ?_ | (apply wo_po;apply mo_not;exact rfl;exact gY) | refine wF ?_ | refine we_skip ?_)
 refine wo_call (.cons rfl (.cons rfl .nil)) trivial (step_tr hs hh) ?_
 rintro v1 L1 x1 ⟨s1,h1,rfl,rfl,rfl⟩
 repeat (first | refine we_seq ?_ | (refine wR ?_;try simp only [oS]) | refine wo_nil ?_ | refine wM ?_ | refine wN ?_ | refine wD ?_)
 refine wo_call (.cons rfl (.cons rfl .nil)) trivial (A.swap_ok _ _ _ _ _ _ _ _ R.a hn h1 .here) ?_
 rintro v1 L1 x1 ⟨o,s2,ho,h2,rfl,rfl,rfl⟩
 repeat (first | refine wo_nil ?_ | refine wM ?_ | refine wA ?_ | (apply wo_po;apply mo_bin;exact rfl;exact rfl;exact bin_neq;exact gY) | refine we_ret ?_)
 (first | refine or2 Try.func64 Try.results64 hQ rfl rfl ?_ | refine on2 Try.func64 Try.results64 hQ rfl rfl ?_)
 exact ⟨o,s2,ho,h2,rfl,rfl,rfl⟩
theorem fset_tr (R:CntAt A r) {s:A.S} {Q:Nat→A.S→Prop} (hs:A.step 4 0 s fun s=>A.swap 0 1 s Q) (hh:Has L (A.C s) F) :
  Tr Try.prog B 28 [.pointer (some ⟨r,0,none⟩),gv] L (A.x s) fun v L' x'=>∃ o s',o<18446744073709551616∧Q o s'∧v=.tuple #[.bool (!decide (((o:Nat):Int)=1)),.int .i64 0]∧L'=A.C s'::F∧x'=A.x s':=by
 refine tr_of_body Try.func28 rfl Try.ntmps28 (by simp) fun um Q _ hQ=>?_
 simp only [argE,Nat.zero_add,Nat.reduceAdd]
 repeat (first | refine we_seq ?_ | (refine wR ?_;try simp only [oS]) | refine wo_nil ?_ | refine wM ?_ | refine wA ?_)
 refine wo_call (.cons rfl (.cons rfl (.cons rfl .nil))) trivial (fswap_tr (n:=1) R (by omega) hs hh) ?_
 rintro v1 L1 x1 ⟨o,s2,ho,h2,rfl,rfl,rfl⟩
 repeat (first | refine wo_nil ?_ | refine wA ?_ | (apply wo_po;apply mo_extract;exact rfl;exact rfl;exact gY) | refine we_ret ?_)
 (first | refine or2 Try.func28 Try.results28 hQ rfl rfl ?_ | refine on2 Try.func28 Try.results28 hQ rfl rfl ?_)
 exact ⟨o,s2,ho,h2,rfl,rfl,rfl⟩
def ToTr (A:Acc B gv) (F:List HProp) (fn:FuncId) (caps:List Value) (G:Nat→Nat × Bool):Prop :=
 ∀ s v,v<18446744073709551616→Tr Try.prog B fn ([.int .u64 (v:Nat)]++caps) (A.C s::F) (A.x s) fun w L' x'=>w=.tuple #[.int .u64 ((G v).1:Nat),.bool (G v).2]∧L'=A.C s::F∧x'=A.x s
def ChangeF (A:Acc B gv) (G:Nat→Nat × Bool) (Q:Nat→Bool→A.S→Prop) (X:A.S→Prop) (s:A.S):Prop :=
 A.step 1 0 s fun s=>A.load 0 s fun o s=>if (G o).2=true then A.step 5 0 s fun s=>A.cas 0 o (G o).1 s fun c s=>if c=true then Q (G o).1 true s else X s else Q o false s
def ChangeT (A:Acc B gv) (G:Nat→Nat × Bool) (s:A.S) (Q:Nat→Bool→A.S→Prop):Prop:=∀ X:A.S→Prop,(∀ s,ChangeF A G Q X s→X s)→X s
theorem change_tr (R:CntAt A r) {fn:FuncId} {caps:List Value} {G:Nat→Nat × Bool} [Ent' Try.prog fn] (hfn:ToTr A F fn caps G) (hG:∀ v,v<18446744073709551616→(G v).1<18446744073709551616) {s:A.S} {T:Nat→Bool→A.S→Prop} (hs:ChangeT A G s T) (hh:Has L (A.C s) F) :
  Tr Try.prog B 60 [.pointer (some ⟨r,0,none⟩),gv,.func (.func fn) #[] caps.toArray] L (A.x s) fun v L' x'=>∃ o q s',T o q s'∧v=.tuple #[.int .u64 (o:Nat),.bool q]∧L'=A.C s'::F∧x'=A.x s':=by
 refine tr_of_body Try.func60 rfl Try.ntmps60 (by simp) fun um Q _ hQ=>?_
 simp only [argE,Nat.zero_add,Nat.reduceAdd]
 repeat (first | refine we_seq ?_ | (refine wR ?_;try simp only [oS]) | refine wo_nil ?_ | refine wA ?_ | refine we_label ?_ | refine we_block ?_ | refine we_scope ?_)
 refine we_lfp (ChangeF A G T) (fun s=>A.C s::F) A.x s hs [(0,.pointer (some ⟨r,0,none⟩)),(1,gv),(2,.func (.func fn) #[] caps.toArray)] ⟨rfl,rfl,rfl,trivial⟩ (.take hh .refl) rfl ?_
 clear hs hh
 intro s hs
 repeat (first | refine we_seq ?_ | (refine wR ?_;try simp only [oS]) | refine wM ?_ | refine we_block ?_)
 refine wo_call (.cons rfl (.cons rfl .nil)) trivial (step_tr hs .here) ?_
 rintro v1 L1 x1 ⟨s1,h1,rfl,rfl,rfl⟩
 repeat (first | refine we_seq ?_ | (refine wR ?_;try simp only [oS]) | refine wo_nil ?_ | refine wM ?_ | refine wN ?_ | refine wD ?_)
 refine wo_call (.cons rfl .nil) trivial (A.load_ok _ _ _ _ _ _ _ R.a h1 .here) ?_
 rintro v1 L1 x1 ⟨o,s2,ho,h2,rfl,rfl,rfl⟩
 repeat (first | refine we_seq ?_ | (refine wR ?_;try simp only [oS]) | refine wo_nil ?_ | refine wM ?_ | refine wA ?_)
 refine wo_callv rfl (f:=fn) (first:=[]) (cap:=caps) rfl (.cons rfl .nil) trivial (hfn s2 _ ho) ?_
 rintro v1 L1 x1 ⟨rfl,rfl,rfl⟩
 have hGo:=hG o ho
 obtain ⟨⟨g1,g2⟩,hg⟩:∃ y,G o=y:=⟨_,rfl⟩
 rw [hg] at h2 hGo ⊢
 cases g2
 ·simp only [Bool.false_eq_true,if_false] at h2
  repeat (first | refine we_seq ?_ | (refine wR ?_;try simp only [oS]) | refine wo_nil ?_ | refine wM ?_ | refine wA ?_ | (apply wo_po;apply mo_extract;exact rfl;exact rfl;exact gY) | (apply wo_po;apply mo_not;exact rfl;exact gY) | refine wT ?_ | refine we_ret ?_)
  (first | refine or2 Try.func60 Try.results60 hQ rfl rfl ?_ | refine on2 Try.func60 Try.results60 hQ rfl rfl ?_)
  exact ⟨o,false,s2,h2,rfl,rfl,rfl⟩
 ·simp only [if_true] at h2
  repeat (first | refine we_seq ?_ | (refine wR ?_;try simp only [oS]) | refine wo_nil ?_ | refine wM ?_ | refine wA ?_ | (apply wo_po;apply mo_extract;exact rfl;exact rfl;exact gY) | (apply wo_po;apply mo_not;exact rfl;exact gY) | refine wF ?_ | refine we_skip ?_)
  refine wo_call (.cons rfl (.cons rfl .nil)) trivial (step_tr h2 .here) ?_
  rintro v1 L1 x1 ⟨s3,h3,rfl,rfl,rfl⟩
  repeat (first | refine we_seq ?_ | (refine wR ?_;try simp only [oS]) | refine wo_nil ?_ | refine wM ?_ | refine wN ?_ | refine wD ?_)
  refine wo_call (.cons rfl (.cons rfl (.cons rfl .nil))) trivial (A.cas_ok _ _ _ _ _ _ _ _ _ R.a hGo h3 .here) ?_
  rintro v1 L1 x1 ⟨q,s4,h4,rfl,rfl,rfl⟩
  cases q
  ·simp only [Bool.false_eq_true,if_false] at h4
   repeat (first | refine wo_nil ?_ | (apply wo_po;apply mo_not;exact rfl;exact gY) | refine wT ?_ | refine we_exit ?_)
   exact at_again h4 ⟨rfl,rfl,rfl,trivial⟩ .refl
  ·simp only [if_true] at h4
   repeat (first | refine we_seq ?_ | (refine wR ?_;try simp only [oS]) | refine wo_nil ?_ | refine wM ?_ | refine wA ?_ | (apply wo_po;apply mo_not;exact rfl;exact gY) | refine wF ?_ | refine we_ret ?_ | refine we_skip ?_)
   (first | refine or2 Try.func60 Try.results60 hQ rfl rfl ?_ | refine on2 Try.func60 Try.results60 hQ rfl rfl ?_)
   exact ⟨g1,true,s4,h4,rfl,rfl,rfl⟩
def upG (n mo v:Nat):Nat × Bool:=((v+n)%18446744073709551616,decide (n≤mo∧v≤mo-n))
def downG (n v:Nat):Nat × Bool:=((v+18446744073709551616-n)%18446744073709551616,decide (n≤v))
def maxG (n v:Nat):Nat × Bool:=(n,decide (v<n))
theorem up1_tr {nb mb:Nat} (hn:n<18446744073709551616) (hm:mo<18446744073709551616):ToTr A (arr mb 0 [.int .u64 (mo:Nat)]::arr nb 0 [.int .u64 (n:Nat)]::F) 62 [.pointer (some ⟨nb,0,none⟩),.pointer (some ⟨mb,0,none⟩)] (upG n mo):=by
 intro s v hv
 have a1:IntKind.u64.wrap ((v:Int)+(n:Int))=(((v+n)%18446744073709551616:Nat):Int):=addm
 unfold upG
 simp only [List.cons_append,List.nil_append]
 generalize (v+n)%18446744073709551616=vn at *
 by_cases c:n≤mo
 ·have s1:IntKind.u64.wrap ((mo:Int)-(n:Int))=((mo-n:Nat):Int):=by rw [show (mo:Int)-(n:Int)=((mo-n:Nat):Int) by omega];exact wrap_u64 (by omega) (by omega)
  by_cases d:v≤mo-n
  ·rw [decide_eq_true (⟨c,d⟩:n≤mo∧v≤mo-n)]
   refine tr_of_body Try.func62 rfl Try.ntmps62 (by simp) fun um Q _ hQ=>?_
   simp only [argE,Nat.zero_add,Nat.reduceAdd]
   repeat (first | refine we_seq ?_ | (refine wR ?_;try simp only [oS]) | refine wo_nil ?_ | refine wA ?_)
   refine we_draw (List.range' 0 15) (by kernel_rfl) ?_
   repeat (first | (apply ap_pure;exact rfl;exact rfl;exact gY;intro L;apply mo_bin;exact rfl;exact rfl;apply bin_add;exact a1) | (apply ap_pure;exact rfl;exact rfl;exact gY;intro L;apply mo_bin;exact rfl;exact rfl;apply bin_sub;exact s1) | (apply ap_pure;exact rfl;exact rfl;exact gY;intro L;apply mo_bin;exact rfl;exact rfl;apply bin_leqT;omega) | refine aM ?_ | refine aA ?_ | (apply ap_pure;exact rfl;exact rfl;exact gY;intro L;apply mo_pickT;exact rfl;exact rfl;exact rfl) | refine aL ?_ | refine ap_end ?_)
   repeat (first | refine we_ret ?_)
   (first | refine or2 Try.func62 Try.results62 hQ rfl rfl ?_ | refine on2 Try.func62 Try.results62 hQ rfl rfl ?_)
   exact ⟨rfl,rfl,rfl⟩
  ·rw [decide_eq_false (fun h:n≤mo∧v≤mo-n=>d h.2)]
   refine tr_of_body Try.func62 rfl Try.ntmps62 (by simp) fun um Q _ hQ=>?_
   simp only [argE,Nat.zero_add,Nat.reduceAdd]
   repeat (first | refine we_seq ?_ | (refine wR ?_;try simp only [oS]) | refine wo_nil ?_ | refine wA ?_)
   refine we_draw (List.range' 0 15) (by kernel_rfl) ?_
   repeat (first | (apply ap_pure;exact rfl;exact rfl;exact gY;intro L;apply mo_bin;exact rfl;exact rfl;apply bin_add;exact a1) | (apply ap_pure;exact rfl;exact rfl;exact gY;intro L;apply mo_bin;exact rfl;exact rfl;apply bin_sub;exact s1) | (apply ap_pure;exact rfl;exact rfl;exact gY;intro L;apply mo_bin;exact rfl;exact rfl;apply bin_leqT;omega) | (apply ap_pure;exact rfl;exact rfl;exact gY;intro L;apply mo_bin;exact rfl;exact rfl;apply bin_leqF;omega) | refine aM ?_ | refine aA ?_ | (apply ap_pure;exact rfl;exact rfl;exact gY;intro L;apply mo_pickT;exact rfl;exact rfl;exact rfl) | refine aL ?_ | refine ap_end ?_)
   repeat (first | refine we_ret ?_)
   (first | refine or2 Try.func62 Try.results62 hQ rfl rfl ?_ | refine on2 Try.func62 Try.results62 hQ rfl rfl ?_)
   exact ⟨rfl,rfl,rfl⟩
 ·rw [decide_eq_false (fun h:n≤mo∧v≤mo-n=>c h.1)]
  refine tr_of_body Try.func62 rfl Try.ntmps62 (by simp) fun um Q _ hQ=>?_
  simp only [argE,Nat.zero_add,Nat.reduceAdd]
  repeat (first | refine we_seq ?_ | (refine wR ?_;try simp only [oS]) | refine wo_nil ?_ | refine wA ?_)
  refine we_draw (List.range' 0 15) (by kernel_rfl) ?_
  repeat (first | (apply ap_pure;exact rfl;exact rfl;exact gY;intro L;apply mo_bin;exact rfl;exact rfl;apply bin_add;exact a1) | (apply ap_pure;exact rfl;exact rfl;exact gY;intro L;apply mo_bin;exact rfl;exact rfl;apply bin_leqF;omega) | refine aM ?_ | refine aA ?_ | (apply ap_no;exact rfl;exact rfl;exact rfl;exact rfl) | (apply ap_pure;exact rfl;exact rfl;exact gY;intro L;apply mo_pickF;exact rfl;exact rfl;exact rfl) | refine aL ?_ | refine ap_end ?_)
  repeat (first | refine we_ret ?_)
  (first | refine or2 Try.func62 Try.results62 hQ rfl rfl ?_ | refine on2 Try.func62 Try.results62 hQ rfl rfl ?_)
  exact ⟨rfl,rfl,rfl⟩
theorem max1_tr {nb:Nat}:ToTr A (arr nb 0 [.int .u64 (n:Nat)]::F) 65 [.pointer (some ⟨nb,0,none⟩)] (maxG n):=by
 intro s v hv
 unfold maxG
 simp only [List.cons_append,List.nil_append]
 by_cases c:v<n
 ·rw [decide_eq_true c]
  refine tr_of_body Try.func65 rfl Try.ntmps65 (by simp) fun um Q _ hQ=>?_
  simp only [argE,Nat.zero_add,Nat.reduceAdd]
  repeat (first | refine we_seq ?_ | (refine wR ?_;try simp only [oS]) | refine wo_nil ?_ | refine wA ?_)
  refine we_draw (List.range' 0 6) (by kernel_rfl) ?_
  repeat (first | (apply ap_pure;exact rfl;exact rfl;exact gY;intro L;apply mo_bin;exact rfl;exact rfl;apply bin_gtrT;omega) | refine aM ?_ | refine aA ?_ | refine aL ?_ | refine ap_end ?_)
  repeat (first | refine we_ret ?_)
  (first | refine or2 Try.func65 Try.results65 hQ rfl rfl ?_ | refine on2 Try.func65 Try.results65 hQ rfl rfl ?_)
  exact ⟨rfl,rfl,rfl⟩
 ·rw [decide_eq_false c]
  refine tr_of_body Try.func65 rfl Try.ntmps65 (by simp) fun um Q _ hQ=>?_
  simp only [argE,Nat.zero_add,Nat.reduceAdd]
  repeat (first | refine we_seq ?_ | (refine wR ?_;try simp only [oS]) | refine wo_nil ?_ | refine wA ?_)
  refine we_draw (List.range' 0 6) (by kernel_rfl) ?_
  repeat (first | (apply ap_pure;exact rfl;exact rfl;exact gY;intro L;apply mo_bin;exact rfl;exact rfl;apply bin_gtrF;omega) | refine aM ?_ | refine aA ?_ | refine aL ?_ | refine ap_end ?_)
  repeat (first | refine we_ret ?_)
  (first | refine or2 Try.func65 Try.results65 hQ rfl rfl ?_ | refine on2 Try.func65 Try.results65 hQ rfl rfl ?_)
  exact ⟨rfl,rfl,rfl⟩
theorem cup_tr (R:CntAt A r) (hn:n<18446744073709551616) (hm:mo<18446744073709551616) {s:A.S} {Q:Nat→Bool→A.S→Prop} (hs:ChangeT A (upG n mo) s Q) (hh:Has L (A.C s) F) :
  Tr Try.prog B 25 [.pointer (some ⟨r,0,none⟩),gv,.int .u64 (n:Nat),.int .u64 (mo:Nat)] L (A.x s) fun v L' x'=>∃ o q s',Q o q s'∧v=.tuple #[.int .u64 (o:Nat),.bool q,.int .i64 0]∧L'=A.C s'::F∧x'=A.x s':=by
 refine Tr.post (R:=fun v L' x'=>∃ o q s',Q o q s'∧v=.tuple #[.int .u64 (o:Nat),.bool q,.int .i64 0]∧x'=A.x s'∧∀ h,Star L' h→Star (A.C s'::F) h) ?_ (by rintro v L' x' ⟨o,q,s',h1,rfl,rfl,hs⟩;exact ⟨_,⟨o,q,s',h1,rfl,rfl,rfl⟩,hs⟩)
 refine tr_of_body Try.func25 rfl Try.ntmps25 (by simp) fun um Q _ hQ=>?_
 simp only [argE,Nat.zero_add,Nat.reduceAdd]
 repeat (first | (apply wo_mo;apply mo_box;exact rfl;exact trivial) | refine we_seq ?_ | (refine wR ?_;try simp only [oS]))
 rintro v' L' ⟨nb,rfl,rfl⟩
 refine wo_ent (arr nb 0 [.int .u64 (n:Nat)]::L) .refl ?_
 repeat (first | (apply wo_mo;apply mo_box;exact rfl;exact trivial))
 rintro v' L' ⟨mb,rfl,rfl⟩
 refine wo_ent (arr mb 0 [.int .u64 (mo:Nat)]::arr nb 0 [.int .u64 (n:Nat)]::L) .refl ?_
 repeat (first | refine we_seq ?_ | (refine wR ?_;try simp only [oS]) | refine wo_nil ?_ | refine wM ?_ | refine wA ?_)
 refine wo_call (.cons rfl .nil) trivial (cthere_tr (Rd.of (.there (.there hh)) (R.hdr s))) ?_
 rintro v1 L1 x1 ⟨rfl,rfl,rfl⟩
 refine wo_ent (A.C s::arr mb 0 [.int .u64 (mo:Nat)]::arr nb 0 [.int .u64 (n:Nat)]::F) (.take (.there (.there hh)) .refl) ?_
 repeat (first | (apply wo_po;apply mo_makeFunc (first:=[]) (cap:=[_,_]);exact .nil;exact .cons rfl (.cons rfl .nil);exact trivial) | refine we_seq ?_ | (refine wR ?_;try simp only [oS]) | refine wo_nil ?_ | refine wM ?_ | (apply wo_po;apply mo_not;exact rfl;exact gY) | refine wF ?_ | refine we_skip ?_)
 refine wo_call (.cons rfl (.cons rfl (.cons rfl .nil))) trivial (change_tr R (caps:=[_,_]) (up1_tr hn hm) (fun v hv=>Nat.mod_lt _ (by decide)) hs .here) ?_
 rintro v1 L1 x1 ⟨o,q,s',h1,rfl,rfl,rfl⟩
 repeat (first | refine we_seq ?_ | (refine wR ?_;try simp only [oS]) | refine wo_nil ?_ | refine wM ?_ | refine wA ?_ | (apply wo_po;apply mo_extract;exact rfl;exact rfl;exact gY) | refine we_ret ?_)
 (first | refine or3 Try.func25 Try.results25 hQ rfl rfl rfl ?_ | refine on3 Try.func25 Try.results25 hQ rfl rfl rfl ?_)
 exact ⟨o,q,s',h1,rfl,rfl,fun h st=>Ent.star (.take .here (.drop (.drop .refl))) st⟩
theorem cmax_tr (R:CntAt A r) (hn:n<18446744073709551616) {s:A.S} {Q:Nat→Bool→A.S→Prop} (hs:ChangeT A (maxG n) s Q) (hh:Has L (A.C s) F) :
  Tr Try.prog B 29 [.pointer (some ⟨r,0,none⟩),gv,.int .u64 (n:Nat)] L (A.x s) fun v L' x'=>∃ o q s',Q o q s'∧v=.tuple #[.bool q,.int .i64 0]∧L'=A.C s'::F∧x'=A.x s':=by
 refine Tr.post (R:=fun v L' x'=>∃ o q s',Q o q s'∧v=.tuple #[.bool q,.int .i64 0]∧x'=A.x s'∧∀ h,Star L' h→Star (A.C s'::F) h) ?_ (by rintro v L' x' ⟨o,q,s',h1,rfl,rfl,hs⟩;exact ⟨_,⟨o,q,s',h1,rfl,rfl,rfl⟩,hs⟩)
 refine tr_of_body Try.func29 rfl Try.ntmps29 (by simp) fun um Q _ hQ=>?_
 simp only [argE,Nat.zero_add,Nat.reduceAdd]
 repeat (first | (apply wo_mo;apply mo_box;exact rfl;exact trivial) | refine we_seq ?_ | (refine wR ?_;try simp only [oS]))
 rintro v' L' ⟨nb,rfl,rfl⟩
 refine wo_ent (arr nb 0 [.int .u64 (n:Nat)]::L) .refl ?_
 repeat (first | refine we_seq ?_ | (refine wR ?_;try simp only [oS]) | refine wo_nil ?_ | refine wM ?_ | refine wA ?_)
 refine wo_call (.cons rfl .nil) trivial (cthere_tr (Rd.of (.there hh) (R.hdr s))) ?_
 rintro v1 L1 x1 ⟨rfl,rfl,rfl⟩
 refine wo_ent (A.C s::arr nb 0 [.int .u64 (n:Nat)]::F) (.take (.there hh) .refl) ?_
 repeat (first | (apply wo_po;apply mo_makeFunc (first:=[]) (cap:=[_]);exact .nil;exact .cons rfl .nil;exact trivial) | refine we_seq ?_ | (refine wR ?_;try simp only [oS]) | refine wo_nil ?_ | refine wM ?_ | (apply wo_po;apply mo_not;exact rfl;exact gY) | refine wF ?_ | refine we_skip ?_)
 refine wo_call (.cons rfl (.cons rfl (.cons rfl .nil))) trivial (change_tr R (caps:=[_]) (max1_tr) (fun v hv=>hn) hs .here) ?_
 rintro v1 L1 x1 ⟨o,q,s',h1,rfl,rfl,rfl⟩
 repeat (first | refine we_seq ?_ | (refine wR ?_;try simp only [oS]) | refine wo_nil ?_ | refine wM ?_ | refine wA ?_ | (apply wo_po;apply mo_extract;exact rfl;exact rfl;exact gY) | refine we_ret ?_)
 (first | refine or2 Try.func29 Try.results29 hQ rfl rfl ?_ | refine on2 Try.func29 Try.results29 hQ rfl rfl ?_)
 exact ⟨o,q,s',h1,rfl,rfl,fun h st=>Ent.star (.take .here (.drop .refl)) st⟩
end
end
end Go.Proofs.Ytkgnkloonamheaa
namespace Go.Proofs.Ytkgnkloonamheaa
open Go Go.PB
section
inductive CoSt where
 | a
 | b
 | c (o:Nat)
structure CoQ where
 rl:List (Bool × Nat)
 st:CoSt
 set:Nat
 k:Nat
def coSet (y:Bool × Nat) (rest:List (Bool × Nat)) (set k:Nat) (o:Nat):CoQ:=if y.1=true then ⟨y::rest,.b,set+(if o=1 then 0 else 1),k⟩ else ⟨rest,.a,set+(if o=1 then 0 else 1),k⟩
def coPlan (q:CoQ):Option ((Int × Int) × (Nat × Nat→(Nat × Nat) × CoQ)):=match q.rl with
 | []=>none
 | y::rest=>match q.st with
  | .a=>some ((((4:Nat):Int),((0:Nat):Int)),fun s=>((1,s.2),coSet y rest q.set q.k s.1))
  | .b=>some ((((1:Nat):Int),((0:Nat):Int)),fun s=>(s,if s.2<y.2 then ⟨y::rest,.c s.2,q.set,q.k⟩ else ⟨rest,.a,q.set,q.k⟩))
  | .c o=>some ((((5:Nat):Int),((0:Nat):Int)),fun s=>if s.2=o then ((s.1,y.2),⟨rest,.a,q.set,q.k⟩) else (s,⟨y::rest,.b,q.set,q.k⟩))
structure CoT (vals:List (Bool × Nat)) (s:Nat × Nat) (q:CoQ):Prop where
 suf:∀ y∈vals,y.1=true→y.2≤s.2∨y∈q.rl
 le:∀ y∈q.rl,y∈vals
 f0:s.1=0→q.rl≠[]∧q.st=.a
 ss:q.st=.a∨∃ y rest,q.rl=y::rest∧y.1=true
 cc:∀ o y rest,q.st=.c o→q.rl=y::rest→o<y.2
 len:q.rl.length≤20
structure CoI (M:Nat) (vals:Nat→List (Bool × Nat)) (s:Nat × Nat) (qs:List CoQ):Prop where
 len:qs.length≤6
 fl:s.1≤1
 sum:sumN (qs.map CoQ.set)=s.1
 lo:3≤s.2
 hi:s.2≤M
 th:∀ (k:Nat) q,qs[k]?=some q→CoT (vals k) s q
def coφ (s:Nat × Nat) (q:CoQ):Nat:=match q.rl with
 | []=>0
 | _::rest=>20*rest.length+match q.st with
  | .a=>20
  | .b=>17
  | .c o=>if o=s.2 then 16 else 18
section
variable {M:Nat} {vals:Nat→List (Bool × Nat)} {s s':Nat × Nat} {qs:List CoQ} {k:Nat} {q q':CoQ}
theorem co_up (hs:s.2≤s'.2) (hf:s'.1=0→s.1=0) {v:List (Bool × Nat)} (T:CoT v s q):CoT v s' q :=
 ⟨fun y hy h=>(T.suf y hy h).imp (fun z=>Nat.le_trans z hs) id,T.le,fun h=>T.f0 (hf h),T.ss,T.cc,T.len⟩
theorem co_th (hs:s.2≤s'.2) (hf:s'.1=0→s.1=0) (h:∀ (k:Nat) q,qs[k]?=some q→CoT (vals k) s q) (h':CoT (vals k) s' q'):∀ (j:Nat) q,(qs.set k q')[j]?=some q→CoT (vals j) s' q:=fun j q hj=>by
 rw [List.getElem?_set] at hj
 split at hj
 ·rename_i e
  subst e
  split at hj
  ·cases hj;exact h'
  ·cases hj
 ·exact co_up hs hf (h j q hj)
theorem coφ_le (a:CoQ):coφ s' a≤coφ s a+2:=by
 unfold coφ
 split
 ·omega
 ·split <;> (try split) <;> (try split) <;> omega
theorem coφ_eq (h:s'.2=s.2) (a:CoQ):coφ s' a≤coφ s a:=by
 unfold coφ
 rw [h]
 exact Nat.le_refl _
theorem co_next {rest:List (Bool × Nat)} {set kk:Nat}:coφ s ⟨rest,.a,set,kk⟩≤20*rest.length:=by
 cases rest with
 | nil=>simp [coφ]
 | cons a l=>simp only [coφ,List.length_cons];omega
theorem co_step (hM:∀ k,k<qs.length→∀ y∈vals k,y.1=true→y.2≤M) (I:CoI M vals s qs) (hq:qs[k]?=some q) {m:Int × Int} {f:Nat × Nat→(Nat × Nat) × CoQ} (hp:coPlan q=some (m,f)) :
  CoI M vals (f s).1 (qs.set k (f s).2)∧sumN ((qs.set k (f s).2).map (coφ (f s).1))+1≤sumN (qs.map (coφ s)):=by
 have T:=I.th k q hq
 obtain ⟨i1,i2,i3,i4,i5,i6⟩:=I
 obtain ⟨rl,st,set,kk⟩:=q
 obtain ⟨t1,t2,t3,t4,t5,t6⟩:=T
 obtain ⟨fl,c⟩:=s
 simp only at t1 t2 t3 t4 t5 t6 i2 i3 i4 i5
 cases rl with
 | nil=>cases hp
 | cons y rest =>
  have hy:=t2 y (by simp)
  simp only [List.length_cons] at t6
  cases st with
  | a =>
   obtain ⟨_,rfl⟩:=Prod.mk.inj (Option.some.inj hp)
   obtain ⟨d,hd⟩:∃ d,(if fl=1 then 0 else 1)=d:=⟨_,rfl⟩
   have hd1:fl+d=1:=by rw [← hd];split <;> omega
   by_cases hy1:y.1=true
   ·have e:coSet y rest set kk fl=⟨y::rest,.b,set+d,kk⟩:=by unfold coSet;rw [if_pos hy1,hd]
    simp only [e]
    have h1:=sum_set (φ:=CoQ.set) (q':=⟨y::rest,.b,set+d,kk⟩) hq
    refine ⟨⟨by rw [List.length_set];exact i1,Nat.le_refl 1,?_,i4,i5,co_th (s:=(fl,c)) (Nat.le_refl _) (fun h=>by simp at h) i6 ⟨t1,t2,fun h=>by simp at h,.inr ⟨y,rest,rfl,hy1⟩,fun o y' r h=>(by cases h),by simpa using t6⟩⟩,sum_step (coφ_eq (s:=(fl,c)) (s':=(1,c)) rfl) hq ?_⟩
    ·simp only at h1 ⊢;omega
    ·simp [coφ]
   ·have e:coSet y rest set kk fl=⟨rest,.a,set+d,kk⟩:=by unfold coSet;rw [if_neg hy1,hd]
    simp only [e]
    have h1:=sum_set (φ:=CoQ.set) (q':=⟨rest,.a,set+d,kk⟩) hq
    refine ⟨⟨by rw [List.length_set];exact i1,Nat.le_refl 1,?_,i4,i5,co_th (s:=(fl,c)) (Nat.le_refl _) (fun h=>by simp at h) i6 ⟨fun z hz h=>(t1 z hz h).imp id fun h2=>?_,fun z hz=>t2 z (by simp [hz]),fun h=>by simp at h,.inl rfl,fun o y' r h=>(by cases h),by simp only;omega⟩⟩,sum_step (coφ_eq (s:=(fl,c)) (s':=(1,c)) rfl) hq ?_⟩
    ·simp only at h1 ⊢;omega
    ·rcases List.mem_cons.1 h2 with rfl | h2
     ·exact absurd h hy1
     ·exact h2
    ·have h3:=co_next (s:=(1,c)) (rest:=rest) (set:=set+d) (kk:=kk)
     have e:coφ (fl,c) ⟨y::rest,.a,set,kk⟩=20*rest.length+20:=rfl
     omega
  | b =>
   obtain ⟨_,rfl⟩:=Prod.mk.inj (Option.some.inj hp)
   have f1:fl=0→False:=fun h=>by have:=(t3 h).2;cases this
   have hy1:y.1=true:=by
    rcases t4 with h | ⟨y',r,h,h'⟩
    ·cases h
    ·cases h;exact h'
   by_cases hlt:c<y.2
   ·simp only [if_pos hlt]
    have h1:=sum_set (φ:=CoQ.set) (q':=⟨y::rest,.c c,set,kk⟩) hq
    refine ⟨⟨by rw [List.length_set];exact i1,i2,?_,i4,i5,co_th (s:=(fl,c)) (Nat.le_refl _) id i6 ⟨t1,t2,fun h=>(f1 h).elim,.inr ⟨y,rest,rfl,hy1⟩,fun o y' r h h'=>(by cases h;cases h';exact hlt),by simpa using t6⟩⟩,sum_step (coφ_eq (s:=(fl,c)) (s':=(fl,c)) rfl) hq ?_⟩
    ·simp only at h1 ⊢;omega
    ·simp [coφ]
   ·simp only [if_neg hlt]
    have h1:=sum_set (φ:=CoQ.set) (q':=⟨rest,.a,set,kk⟩) hq
    refine ⟨⟨by rw [List.length_set];exact i1,i2,?_,i4,i5,co_th (s:=(fl,c)) (Nat.le_refl _) id i6 ⟨fun z hz h=>?_,fun z hz=>t2 z (by simp [hz]),fun h=>(f1 h).elim,.inl rfl,fun o y' r h=>(by cases h),by simp only;omega⟩⟩,sum_step (coφ_eq (s:=(fl,c)) (s':=(fl,c)) rfl) hq ?_⟩
    ·simp only at h1 ⊢;omega
    ·rcases t1 z hz h with h2 | h2
     ·exact .inl h2
     ·rcases List.mem_cons.1 h2 with rfl | h2
      ·exact .inl (by simp only;omega)
      ·exact .inr h2
    ·have h3:=co_next (s:=(fl,c)) (rest:=rest) (set:=set) (kk:=kk)
     have e:coφ (fl,c) ⟨y::rest,.b,set,kk⟩=20*rest.length+17:=rfl
     omega
  | c o =>
   obtain ⟨_,rfl⟩:=Prod.mk.inj (Option.some.inj hp)
   have f1:fl=0→False:=fun h=>by have:=(t3 h).2;cases this
   have hy1:y.1=true:=by
    rcases t4 with h | ⟨y',r,h,h'⟩
    ·cases h
    ·cases h;exact h'
   have hoy:=t5 o y rest rfl rfl
   have hyM:=hM k (List.getElem?_eq_some_iff.1 hq).1 y hy hy1
   by_cases e:c=o
   ·subst e
    simp only [if_true]
    have h1:=sum_set (φ:=CoQ.set) (q':=⟨rest,.a,set,kk⟩) hq
    refine ⟨⟨by rw [List.length_set];exact i1,i2,?_,by show 3≤y.2;omega,hyM,co_th (s:=(fl,c)) (by show c≤y.2;omega) id i6 ⟨fun z hz h=>?_,fun z hz=>t2 z (by simp [hz]),fun h=>(f1 h).elim,.inl rfl,fun o y' r h=>(by cases h),by simp only;omega⟩⟩,sum_step2 (d:=2) (fun _=>coφ_le _) hq ?_⟩
    ·simp only at h1 ⊢;omega
    ·rcases t1 z hz h with h2 | h2
     ·exact .inl (by simp only;omega)
     ·rcases List.mem_cons.1 h2 with rfl | h2
      ·exact .inl (Nat.le_refl _)
      ·exact .inr h2
    ·have h3:=co_next (s:=(fl,y.2)) (rest:=rest) (set:=set) (kk:=kk)
     have e3:coφ (fl,y.2) ⟨y::rest,.c c,set,kk⟩=20*rest.length+18:=by
      show 20*rest.length+(if c=y.2 then 16 else 18)=_
      rw [if_neg (by omega)]
     omega
   ·simp only [if_neg e]
    have h1:=sum_set (φ:=CoQ.set) (q':=⟨y::rest,.b,set,kk⟩) hq
    refine ⟨⟨by rw [List.length_set];exact i1,i2,?_,i4,i5,co_th (s:=(fl,c)) (Nat.le_refl _) id i6 ⟨t1,t2,fun h=>(f1 h).elim,.inr ⟨y,rest,rfl,hy1⟩,fun o y' r h=>(by cases h),by simpa using t6⟩⟩,sum_step (coφ_eq (s:=(fl,c)) (s':=(fl,c)) rfl) hq ?_⟩
    ·simp only at h1 ⊢;omega
    ·show 20*rest.length+17+1≤20*rest.length+(if o=c then 16 else 18)
     rw [if_neg fun h=>e h.symm]
     omega
theorem co_k {q:CoQ} {m:Int × Int} {f:Nat × Nat→(Nat × Nat) × CoQ} (hp:coPlan q=some (m,f)) (s:Nat × Nat):(f s).2.k=q.k:=by
 obtain ⟨rl,st,set,kk⟩:=q
 cases rl with
 | nil=>cases hp
 | cons a rest =>
  cases st <;> obtain ⟨_,rfl⟩:=Prod.mk.inj (Option.some.inj hp) <;> dsimp only [coSet] <;> (repeat' split) <;> rfl
theorem co_none {q:CoQ} (h:coPlan q=none):q.rl=[]:=by
 obtain ⟨rl,st,set,kk⟩:=q
 cases rl with
 | nil=>rfl
 | cons a l=>cases st <;> cases h
def cmV (c:Nat) (l:List (Bool × Nat)):Nat:=l.foldl (fun a y=>if y.1=true then max a y.2 else a) c
theorem cmV_lo:∀ (l:List (Bool × Nat)) (c:Nat),c≤cmV c l
 | [],c=>Nat.le_refl c
 | y::l,c=>by
  refine Nat.le_trans ?_ (cmV_lo l _)
  show c≤if y.1=true then max c y.2 else c
  split <;> omega
theorem cmV_ge:∀ (l:List (Bool × Nat)) (c:Nat),∀ y∈l,y.1=true→y.2≤cmV c l
 | [],c,y,hy,_=>by simp at hy
 | z::l,c,y,hy,h=>by
  rcases List.mem_cons.1 hy with rfl | hy
  ·refine Nat.le_trans ?_ (cmV_lo l _)
   show y.2≤if y.1=true then max c y.2 else c
   rw [if_pos h];omega
  ·exact cmV_ge l _ y hy h
theorem cmV_le {B:Nat}:∀ (l:List (Bool × Nat)) (c:Nat),c≤B→(∀ y∈l,y.1=true→y.2≤B)→cmV c l≤B
 | [],c,h,_=>h
 | z::l,c,h,hl=>by
  refine cmV_le l _ ?_ fun y hy=>hl y (by simp [hy])
  show (if z.1=true then max c z.2 else c)≤B
  split
  ·rename_i e
   have:=hl z (by simp) e
   omega
  ·exact h
def cmAll (vals:Nat→List (Bool × Nat)):Nat→Nat
 | 0=>3
 | n+1=>cmV (cmAll vals n) (vals n)
theorem cmAll_ge {n:Nat}:∀ k,k<n→∀ y∈vals k,y.1=true→y.2≤cmAll vals n:=by
 induction n with
 | zero=>intro k hk;omega
 | succ n ih =>
  intro k hk y hy h
  by_cases e:k=n
  ·subst e;exact cmV_ge _ _ y hy h
  ·exact Nat.le_trans (ih k (by omega) y hy h) (cmV_lo _ _)
theorem cmAll_lo {n:Nat}:3≤cmAll vals n:=by
 induction n with
 | zero=>exact Nat.le_refl 3
 | succ n ih=>exact Nat.le_trans ih (cmV_lo _ _)
theorem cmAll_le {B n:Nat} (h3:3≤B) (h:∀ k,k<n→∀ y∈vals k,y.1=true→y.2≤B):cmAll vals n≤B:=by
 induction n with
 | zero=>exact h3
 | succ n ih=>exact cmV_le _ _ (ih fun k hk=>h k (by omega)) (h n (by omega))
theorem co_end {n:Nat} (hn:0<n) (I:CoI (cmAll vals n) vals s qs) (hl:qs.length=n) (h:∀ q∈qs,coPlan q=none):s.1=1∧s.2=cmAll vals n:=by
 have hrl:∀ (k:Nat) q,qs[k]?=some q→q.rl=[]:=fun k q hq=>co_none (h q (List.mem_of_getElem? hq))
 have hq:∀ k,k<n→∃ q,qs[k]?=some q:=fun k hk=>⟨qs[k],List.getElem?_eq_getElem (by omega)⟩
 constructor
 ·obtain ⟨q,h0⟩:=hq 0 hn
  have:=I.fl
  by_cases e:s.1=0
  ·exact absurd (hrl 0 q h0) ((I.th 0 q h0).f0 e).1
  ·omega
 ·refine Nat.le_antisymm I.hi (cmAll_le I.lo fun k hk y hy h1=>?_)
  obtain ⟨q,h0⟩:=hq k hk
  rcases (I.th k q h0).suf y hy h1 with h2 | h2
  ·exact h2
  ·rw [hrl k q h0] at h2;simp at h2
def coV (has:Bool) (v m:Nat):List (Bool × Nat):=(List.range m).map fun i=>(has,(v+18446744073709551616-i)%18446744073709551616)
theorem coV_at {has:Bool} {v m i:Nat} (h:i<m):(coV has v m)[i]?=some (has,(v+18446744073709551616-i)%18446744073709551616):=by
 unfold coV
 rw [List.getElem?_map,List.getElem?_range h];rfl
theorem coV_len {has:Bool} {v m:Nat}:(coV has v m).length=m:=by simp [coV]
theorem coV_drop {has:Bool} {v m i:Nat} (h:i<m):(coV has v m).drop i=(has,(v+18446744073709551616-i)%18446744073709551616)::(coV has v m).drop (i+1):=by
 rw [List.drop_eq_getElem_cons (by rw [coV_len];exact h)]
 congr 1
 exact (List.getElem?_eq_some_iff.1 (coV_at h)).2
theorem coV_mem {has:Bool} {v m:Nat}:∀ y∈coV has v m,y.1=has∧y.2<18446744073709551616:=fun y hy=>by
 obtain ⟨i,_,rfl⟩:=List.mem_map.1 hy
 exact ⟨rfl,Nat.mod_lt _ (by decide)⟩
theorem cmV_snoc {l:List (Bool × Nat)} {c:Nat} {y:Bool × Nat} (h:y.1=true):cmV c (l++[y])=max (cmV c l) y.2:=by
 unfold cmV
 rw [List.foldl_append]
 simp [h]
theorem cmV_none {c:Nat}:∀ (l:List (Bool × Nat)),(∀ y∈l,y.1=false)→cmV c l=c
 | [],_=>rfl
 | a::l,h=>by
  have h1:=h a (by simp)
  show cmV (if a.1=true then max c a.2 else c) l=c
  rw [if_neg (by rw [h1];decide)]
  exact cmV_none l fun y hy=>h y (by simp [hy])
end
end
end Go.Proofs.Ytkgnkloonamheaa
namespace Go.Proofs.Ytkgnkloonamheaa
open Go Go.PB
attribute [local irreducible] Mo Bin Eql Tr Wo Ap Wle
section
variable {B:Hand} {gv:Value}
def viewAcc (A:Acc B gv) (φ:Nat→Nat):Acc B gv where
 S:=A.S
 C:=A.C
 x:=A.x
 step:=A.step
 addr:=fun w=>A.addr (φ w)
 load:=fun w=>A.load (φ w)
 store:=fun w=>A.store (φ w)
 cas:=fun w=>A.cas (φ w)
 add:=fun w=>A.add (φ w)
 swap:=fun w=>A.swap (φ w)
 gate:=A.gate
 load_ok:=fun w=>A.load_ok (φ w)
 store_ok:=fun w=>A.store_ok (φ w)
 cas_ok:=fun w=>A.cas_ok (φ w)
 add_ok:=fun w=>A.add_ok (φ w)
 swap_ok:=fun w=>A.swap_ok (φ w)
end
end Go.Proofs.Ytkgnkloonamheaa
namespace Go.Proofs.Ytkgnkloonamheaa
open Go Go.PB
section
def cbG (most:Nat) (y:Int):Nat→Nat × Bool:=if y<0 then downG y.natAbs else upG y.natAbs most
structure CbQ where
 rl:List Int
 sum:Int
 st:Option Nat
 k:Nat
def cbPlan (most:Nat) (q:CbQ):Option ((Int × Int) × (Nat→Nat × CbQ)):=match q.rl with
 | []=>none
 | y::rest=>match q.st with
  | none=>some ((((1:Nat):Int),((0:Nat):Int)),fun s=>(s,if (cbG most y s).2=true then { q with st:=some s } else { q with rl:=rest }))
  | some o=>some ((((5:Nat):Int),((0:Nat):Int)),fun s=>if s=o then ((cbG most y o).1,{ q with rl:=rest,sum:=q.sum+y,st:=none }) else (s,{ q with st:=none }))
def sumZ (l:List Int):Int:=l.foldr (·+·) 0
structure CbT (most s:Nat) (q:CbQ):Prop where
 ys:∀ y∈q.rl,-128≤y∧y≤127
 ov:q.rl=[]→q.st=none
 sw:∀ o y rest,q.st=some o→q.rl=y::rest→(cbG most y o).2=true
 lo:-128*(40-(q.rl.length:Int))≤q.sum
 hi:q.sum≤128*(40-(q.rl.length:Int))
 len:q.rl.length≤40
structure CbI (most init s:Nat) (qs:List CbQ):Prop where
 len:qs.length≤6
 le:s≤most
 sum:(s:Int)=init+sumZ (qs.map CbQ.sum)
 th:∀ (k:Nat) q,qs[k]?=some q→CbT most s q
section
variable {most init s s':Nat} {qs:List CbQ} {k:Nat} {q q':CbQ}
end
end
end Go.Proofs.Ytkgnkloonamheaa
namespace Go.PB.Mach
section
structure In where
 op:Nat
 on:Nat:=0
 a:Nat:=0
 b:Nat:=0
 c:Nat:=0
 d:Nat:=0
 n:Nat:=0
structure Cl where
 code:List In
 data:List Nat:=[]
structure Wd where
 words:List (List Nat)
 nl:Nat
structure Th where
 calls:List Cl
 call:Nat:=0
 pc:Nat:=0
 r:Nat→Nat:=fun _=>0
 ans:List (Bool × List Nat):=[]
 over:Bool:=false
def fin:In:={ op:=23 }
def Th.cl (t:Th):Cl:=t.calls.getD t.call { code:=[] }
def Th.next (t:Th):In:=t.cl.code.getD t.pc fin
def Th.put (t:Th) (i v:Nat):Th:={ t with r:=upd t.r i (v%18446744073709551616) }
def Th.tell (t:Th) (v:Nat):Th:={ t with ans:=t.ans.modify t.call fun y=>(y.1,y.2++[v]) }
structure Wd.ok (w:Wd):Prop where
 n:w.words.length<1000000
 nl:w.nl<1000000
 len:∀ l∈w.words,l.length<1000000
 lt:∀ l∈w.words,∀ v∈l,v<18446744073709551616
def own (t0:Th) (x:In):Th :=
 let t:={ t0 with pc:=t0.pc+1 }
 match x.op with
 | 6=>t.put x.a x.n
 | 7=>t.put x.a (t.r x.b)
 | 8=>t.put x.a (t.r x.b+t.r x.c+x.n)
 | 9=>t.put x.a (t.r x.b+18446744073709551616-t.r x.c)
 | 10=>t.put x.a (t.r x.b*t.r x.c)
 | 11=>t.put x.a (if t.r x.c=0 then 0 else t.r x.b/t.r x.c)
 | 12=>t.put x.a (t.r x.b &&& t.r x.c)
 | 13=>t.put x.a (t.r x.b ||| t.r x.c)
 | 14=>t.put x.a (t.r x.b*2^x.n)
 | 15=>t.put x.a (t.r x.b/2^x.n)
 | 16=>t.put x.a (max (t.r x.b) (t.r x.c))
 | 17=>t.put x.a (t.cl.data.getD ((t.r x.b+x.n)%18446744073709551616) 0)
 | 18=>{ t with pc:=x.n }
 | 19=>if t.r x.a=t.r x.b then { t with pc:=x.n } else t
 | 20=>if t.r x.a<t.r x.b then { t with pc:=x.n } else t
 | 21=>if 9223372036854775808≤t.r x.a then { t with pc:=x.n } else t
 | 22=>t.tell (t.r x.a)
 | _=>t
def told (op:Nat):Bool:=1≤op&&op≤5
def Th.begun (t:Th):Th:=if t.ans.length=t.call then { t with ans:=t.ans++[(false,[])] } else t
def Th.done (t:Th):Th:={ t with ans:=t.ans.modify t.call fun y=>(true,y.2),call:=t.call+1,pc:=0,r:=fun _=>0 }
def onF:Nat→Th→Option Th
 | 0,_=>none
 | f+1,t =>
  if t.over=true then some t
  else if t.calls.length≤t.call then some { t with over:=true }
  else if told t.begun.next.op=true then some t.begun
  else if t.begun.next.op=23 then onF f t.begun.done
  else onF f (own t.begun t.begun.next)
def Th.place (t:Th):Nat:=(t.r t.next.b+t.next.n)%18446744073709551616
def op1 (x:In) (l:List Nat) (p:Nat) (r:Nat→Nat):List Nat × (Nat→Nat) :=
 let v:=l.getD p 0
 match x.op with
 | 1=>(l,upd r x.a v)
 | 2=>(l.set p (r x.a),r)
 | 3=>(l.set p ((v+r x.c)%18446744073709551616),upd r x.a ((v+r x.c)%18446744073709551616))
 | 4=>(l.set p (r x.c),upd r x.a v)
 | _=>if v=r x.c then (l.set p (r x.d),upd r x.a 1) else (l,upd r x.a 0)
def Wd.row (w:Wd) (on:Nat):List Nat:=w.words.getD on []
def opF (f:Nat) (w:Wd) (t:Th):Option (Wd × Th) :=
 if t.place<(w.row t.next.on).length then
  let y:=op1 t.next (w.row t.next.on) t.place t.r
  (onF f { t with pc:=t.pc+1,r:=y.2 }).map fun t'=>({ w with words:=w.words.set t.next.on y.1 },t')
 else none
def Th.mark (t:Th):Nat × Nat:=(t.next.op,t.place)
structure St where
 w:Wd
 l:List Th
 tr:List (Nat × Nat × Nat):=[]
def turn (f:Nat) (s:St) (k:Nat):Option St :=
 match s.l[k]? with
 | some t=>(opF f s.w t).map fun y=>⟨y.1,s.l.set k y.2,s.tr++[(k,t.mark)]⟩
 | none=>some s
def may (s:St) (k:Nat):Bool:=s.tr.length<16384&&(match s.l[k]? with | some t=>!t.over | none=>false)
def byOrder (f:Nat):St→List (Option Nat)→Option St
 | s,[]=>some s
 | s,none::o=>byOrder f s o
 | s,some k::o=>if may s k=true then (turn f s k).bind fun s=>byOrder f s o else byOrder f s o
def round (f:Nat):Nat→Nat→St→Bool→Option (St × Bool)
 | 0,_,s,q=>some (s,q)
 | m+1,k,s,q=>if may s k=true then (turn f s k).bind fun s=>round f m (k+1) s true else round f m (k+1) s q
def rounds (f:Nat):Nat→St→Option St
 | 0,_=>none
 | g+1,s=>(round f s.l.length 0 s false).bind fun y=>if y.2=true then rounds f g y.1 else some y.1
def begin_ (f:Nat):List Th→Option (List Th)
 | []=>some []
 | t::l=>(onF f t).bind fun t=>(begin_ f l).map fun l=>t::l
def play (f g:Nat) (w:Wd) (o:List (Option Nat)) (l:List (List Cl)):Option St :=
 (begin_ f (l.map fun c=>{ calls:=c })).bind fun l=>(byOrder f ⟨w,l,[]⟩ o).bind fun s=>rounds f g s
def In.ok (x:In):Bool:=1≤x.op&&x.op≤23&&x.a<24&&x.b<24&&x.c<24&&x.d<24&&x.on<1000&&x.n<18446744073709551616&&(!(18≤x.op&&x.op≤21)||x.n<1000000)&&(!(x.op=17)||!(x.a=x.b))&&(!(x.op=14||x.op=15)||x.n<64)
def Cl.ok (c:Cl):Bool:=c.code.all In.ok&&c.data.all (fun v=>v<18446744073709551616)&&c.code.length<1000000&&c.data.length<1000000
end
end Go.PB.Mach
namespace Go.Proofs.Ytkgnkloonamheaa
open Go Go.PB
section
structure Wds where
 W:(Nat→Nat)→Mach.Wd
 un:Mach.Wd→(Nat→Nat)
 ok:(Nat→Nat)→Prop
 fu:Nat
 back:∀ f,W (un (W f))=W f
 okun:∀ f,ok f→ok (un (W f))
def mF (D:Wds) (q:Nat × Mach.Th) (f:Nat→Nat):(Nat→Nat) × (Nat × Mach.Th) :=
 match Mach.opF D.fu (D.W f) q.2 with
 | some y=>(D.un y.1,(q.1,y.2))
 | none=>(f,(q.1,{ q.2 with over:=true }))
def mkII (m:Nat × Nat):Int × Int:=(((m.1:Nat):Int),((m.2:Nat):Int))
def mPlan (D:Wds) (q:Nat × Mach.Th):Option ((Int × Int) × ((Nat→Nat)→(Nat→Nat) × (Nat × Mach.Th))) :=
 if q.2.over=true then none else some (mkII q.2.mark,mF D q)
def mG (D:Wds) (U:(Nat→Nat)→HProp) (Pv:Nat × Mach.Th→HProp):Game where
 σ:=Nat→Nat
 θ:=Nat × Mach.Th
 U:=U
 plan:=mPlan D
 ok:=D.ok
 Pv:=Pv
 Fin:=Pv
def GoodN (D:Wds):Nat→Mach.Th→Prop
 | 0,_=>True
 | n+1,t=>t.over=true∨t.over=false∧∀ f,D.ok f→∃ f' t',Mach.opF D.fu (D.W f) t=some (D.W f',t')∧D.ok f'∧GoodN D n t'
def GoodT (D:Wds) (t:Mach.Th):Prop:=∀ n,GoodN D n t
theorem GoodT.over {D:Wds} {t:Mach.Th} (h:t.over=true):GoodT D t
 | 0=>trivial
 | _+1=>.inl h
theorem GoodT.mk {D:Wds} {t:Mach.Th} (ho:t.over=false) (h:∀ f,D.ok f→∃ f' t',Mach.opF D.fu (D.W f) t=some (D.W f',t')∧D.ok f'∧GoodT D t'):GoodT D t
 | 0=>trivial
 | n+1=>.inr ⟨ho,fun f hf=>by
  obtain ⟨f',t',h1,h2,h3⟩:=h f hf
  exact ⟨f',t',h1,h2,h3 n⟩⟩
theorem GoodT.on {D:Wds} {t:Mach.Th} (g:GoodT D t) (ho:t.over=false):∀ f,D.ok f→∃ f' t',Mach.opF D.fu (D.W f) t=some (D.W f',t')∧D.ok f'∧GoodT D t':=by
 have at_:∀ n f,D.ok f→∃ f' t',Mach.opF D.fu (D.W f) t=some (D.W f',t')∧D.ok f'∧GoodN D n t':=fun n f hf=>by
  rcases g (n+1) with h | ⟨_,h⟩
  ·rw [h] at ho;cases ho
  ·exact h f hf
 intro f hf
 obtain ⟨f',t',h1,h2,_⟩:=at_ 0 f hf
 refine ⟨f',t',h1,h2,fun n=>?_⟩
 obtain ⟨g',u',e1,_,e3⟩:=at_ n f hf
 rw [h1] at e1
 simp only [Option.some.injEq,Prod.mk.injEq] at e1
 rw [e1.2]
 exact e3
section
variable {D:Wds} {U:(Nat→Nat)→HProp} {Pv:Nat × Mach.Th→HProp}
structure Rel (p:PS (mG D U Pv)) (st:Mach.St):Prop where
 w:st.w=D.W p.s
 len:p.qs.length=st.l.length
 qs:∀ k:Nat,p.qs[k]?=(st.l[k]?).map fun t=>(k,t)
 tr:p.tr=st.tr.map fun e=>(e.1,mkII e.2)
 le:st.tr.length≤16384
 good:∀ t∈st.l,GoodT D t
 ok:D.ok p.s
structure Begins (D:Wds) (U:(Nat→Nat)→HProp) (Pv:Nat × Mach.Th→HProp) (k0:Nat) (ts:List (Thr (mG D U Pv))) (cc:List (List Mach.Cl)):Prop where
 len:ts.length=cc.length
 ini:∀ (k:Nat) t c,ts[k]?=some t→cc[k]?=some c→∃ u,Mach.onF D.fu { calls:=c }=some u∧GoodT D u∧∀ s:(mG D U Pv).σ,t.ini s=(s,((k0+k,u):Nat × Mach.Th))
end
end
end Go.Proofs.Ytkgnkloonamheaa
namespace Go.Proofs.Ytkgnkloonamheaa
open Go Go.PB
attribute [local irreducible] Mo Bin Eql Tr Wo
section
variable {B:Hand} [Lets B]
def loneAcc (x:B.X) (addr:Nat→Nat × Nat) (N:Nat) (K:List (Nat × Nat × Value)) (A:Apart addr N K):Acc B .nilIface where
 S:=Nat→Nat
 C:=wds addr N K
 x:=fun _=>x
 step:=fun _ _ s R=>R s
 addr:=addr
 load:=fun w s R=>w<N∧R (s w) s
 store:=fun w n s R=>w<N∧R (upd s w n)
 cas:=fun w a n s R=>w<N∧if s w=a then R true (upd s w n) else R false s
 add:=fun w n s R=>w<N∧R ((s w+n)%18446744073709551616) (upd s w ((s w+n)%18446744073709551616))
 swap:=fun w n s R=>w<N∧R (s w) (upd s w n)
 gate:=.inl ⟨rfl,fun _ _ _ _ h=>h⟩
 load_ok:=fun w s R L F b o ha hl hh=>tr_pure (of_has hh fun h hc=>(hc.1 w hl.1).1) fun hs =>
  (load_lone (rd_wds hh hl.1 ha)).post fun v L' x' ⟨h1,h2,h3⟩=>⟨_,⟨s w,s,hs,hl.2,h1,rfl,h3⟩,fun h st=>hh.star (h2▸st)⟩
 store_ok:=fun w n s R L F b o ha hn hl hh =>
  (store_lone (wt_wds A hh hl.1 ha hn)).mono fun v L' x' ⟨h1,h2,h3⟩=>⟨upd s w n,hl.2,h1,h2,h3⟩
 cas_ok:=fun w m n s R L F b o ha hn hl hh =>
  (cas_lone (rd_wds hh hl.1 ha) (wt_wds A hh hl.1 ha hn)).post fun v L' x' ⟨h1,h2,h3⟩=>by
   obtain ⟨h4,h5⟩:=hl
   by_cases e:s w=m
   ·rw [if_pos e] at h5;rw [if_pos (by omega)] at h2;exact ⟨_,⟨true,_,h5,by rw [h1];simp [e],rfl,h3⟩,fun h st=>h2▸st⟩
   ·rw [if_neg e] at h5;rw [if_neg (by omega)] at h2;exact ⟨_,⟨false,_,h5,by rw [h1];simp;omega,rfl,h3⟩,fun h st=>hh.star (h2▸st)⟩
 add_ok:=fun w n s R L F b o ha hn hl hh =>
  (add_lone (r:=((s w+n)%18446744073709551616:Nat)) (rd_wds hh hl.1 ha) (by rw [wrap_u64_mod];omega) (wt_wds A hh hl.1 ha (Nat.mod_lt _ (by decide)))).mono fun v L' x' ⟨h1,h2,h3⟩=>⟨_,_,Nat.mod_lt _ (by decide),hl.2,h1,h2,h3⟩
 swap_ok:=fun w n s R L F b o ha hn hl hh=>tr_pure (of_has hh fun h hc=>(hc.1 w hl.1).1) fun hs =>
  (swap_lone (rd_wds hh hl.1 ha) (wt_wds A hh hl.1 ha hn)).mono fun v L' x' ⟨h1,h2,h3⟩=>⟨s w,_,hs,hl.2,h1,h2,h3⟩
end
end Go.Proofs.Ytkgnkloonamheaa
namespace Go.Proofs.Ytkgnkloonamheaa
open Go Go.PB
attribute [local irreducible] Mo Bin Eql Tr Wo Ap Wle
section
structure PlS where
 f:Nat→Nat
 g:Nat→Nat
 t:Mach.Th
 n:Nat
section
variable {D:Wds} {addr:Nat→Nat × Nat} {N:Nat} {K:List (Nat × Nat × Value)} {Z:HProp} {Pv:Nat × Mach.Th→HProp} {sb says turn fin wg:Nat}
end
end
section
structure GaS (G:WGm) where
 f:Nat→Nat
 c:G.ζ
 s:G.σ
 q:G.θ
 n:Nat
section
variable {G:WGm} {addr:Nat→Nat × Nat} {N:Nat} {K:List (Nat × Nat × Value)} {sb says turn fin wg:Nat}
def gaC (G:WGm) (addr:Nat→Nat × Nat) (N:Nat) (K:List (Nat × Nat × Value)) (sb says turn fin:Nat) (Pm:HProp) (f:Nat→Nat) (c:G.ζ):HProp:=all [wds addr N K f,G.Z c,seatR sb says turn fin,Pm]
def GaStep (G:WGm) (N:Nat) (Pm:HProp) (op:Int) (w:Nat) (s:GaS G) (R:GaS G→Prop):Prop :=
 ∃ F,G.plan s.q=some ((op,((w:Nat):Int)),F)∧(∀ i,i<N→s.f i=G.wf s.s i)∧s.c=G.zf s.s∧(∀ h,Pm h→G.Pv s.q h)∧∀ s' n,n<s.n→G.ok s'→R ⟨G.wf s',G.zf s',(F s').1,(F s').2,n⟩
theorem ga_step {Pm:HProp} {op:Int} {w:Nat} {s:GaS G} {R:GaS G→Prop} {L F:List HProp} (hs:GaStep G N Pm op w s R) (hh:Has L (gaC G addr N K sb says turn fin Pm s.f s.c) F) :
  Tr Try.prog tH 141 [.pointer (some ⟨sb,0,none⟩),.agg #[.int .u8 op,.int .i64 (w:Nat)]] L (tx (G.g addr N K) says turn fin wg (.busy s.s s.q s.n)) fun v L' x' =>
   ∃ s',R s'∧v=.tuple #[]∧L'=gaC G addr N K sb says turn fin Pm s'.f s'.c::F∧x'=tx (G.g addr N K) says turn fin wg (.busy s'.s s'.q s'.n):=by
 obtain ⟨FF,hp,hfg,hc,hpm,hR⟩:=hs
 refine tr_star ((G.g addr N K).U s.s::seatR sb says turn fin::Pm::F) (fun h st=>?_) ?_
 ·have s1:Star (wds addr N K s.f::G.Z s.c::seatR sb says turn fin::Pm::F) h:=star_open (M:=[_,_,_,_]) (hh.star st)
  rw [hc] at s1
  exact star_shut (M:=[_,_]) (star_map s1 (wds_congr hfg) fun _ z=>z)
 ·refine (seat_tr (g:=G.g addr N K) (mk:=(op,((w:Nat):Int))) (f:=FF) hp .here .here fun h st=>G.up _ _ ?_).post ?_
  ·exact star_map (star_drop st) hpm fun _ z=>trivial
  ·rintro v L' x' ⟨m',s',hm,hok,rfl,rfl,rfl⟩
   refine ⟨_,⟨⟨G.wf s',G.zf s',(FF s').1,(FF s').2,m'⟩,hR s' m' (by omega) hok,rfl,rfl,rfl⟩,fun h st=>?_⟩
   exact star_shut (M:=[_,_,_,_]) (star_open (M:=[_,_]) st)
def gamAcc (G:WGm) (addr:Nat→Nat × Nat) (N:Nat) (K:List (Nat × Nat × Value)) (A:Apart addr N K) (sb says turn fin wg:Nat) (Pm:HProp):Acc tH (gateV sb) where
 S:=GaS G
 C:=fun s=>gaC G addr N K sb says turn fin Pm s.f s.c
 x:=fun s=>tx (G.g addr N K) says turn fin wg (.busy s.s s.q s.n)
 step:=GaStep G N Pm
 addr:=addr
 load:=fun w s R=>w<N∧R (s.f w) s
 store:=fun w n s R=>w<N∧R { s with f:=upd s.f w n }
 cas:=fun w a n s R=>w<N∧if s.f w=a then R true { s with f:=upd s.f w n } else R false s
 add:=fun w n s R=>w<N∧R ((s.f w+n)%18446744073709551616) { s with f:=upd s.f w ((s.f w+n)%18446744073709551616) }
 swap:=fun w n s R=>w<N∧R (s.f w) { s with f:=upd s.f w n }
 gate:=.inr ⟨_,_,141,rfl,inferInstance,inferInstance,fun op w s R L F hs hh=>ga_step hs hh⟩
 load_ok:=fun w s R L F b o ha hl hh=>tr_star _ (fun h st=>star_open (hh.star st)) (tr_pure (of_has .here fun h hc=>(hc.1 w hl.1).1) fun hs =>
  (load_lone (rd_wds .here hl.1 ha)).post fun v L' x' ⟨h1,h2,h3⟩=>⟨_,⟨s.f w,s,hs,hl.2,h1,rfl,h3⟩,fun h st=>star_shut (M:=[_,_,_,_]) (by rw [h2] at st;exact st)⟩)
 store_ok:=fun w n s R L F b o ha hn hl hh=>tr_star _ (fun h st=>star_open (hh.star st))
  ((store_lone (wt_wds A .here hl.1 ha hn)).post fun v L' x' ⟨h1,h2,h3⟩=>⟨_,⟨{ s with f:=upd s.f w n },hl.2,h1,rfl,h3⟩,fun h st=>star_shut (M:=[_,_,_,_]) (by rw [h2] at st;exact st)⟩)
 cas_ok:=fun w m n s R L F b o ha hn hl hh=>tr_star _ (fun h st=>star_open (hh.star st))
  ((cas_lone (rd_wds .here hl.1 ha) (wt_wds A .here hl.1 ha hn)).post fun v L' x' ⟨h1,h2,h3⟩=>by
   obtain ⟨h4,h5⟩:=hl
   by_cases e:s.f w=m
   ·rw [if_pos e] at h5;rw [if_pos (by omega)] at h2;exact ⟨_,⟨true,_,h5,by rw [h1];simp [e],rfl,h3⟩,fun h st=>star_shut (M:=[_,_,_,_]) (by rw [h2] at st;exact st)⟩
   ·rw [if_neg e] at h5;rw [if_neg (by omega)] at h2;exact ⟨_,⟨false,_,h5,by rw [h1];simp;omega,rfl,h3⟩,fun h st=>star_shut (M:=[_,_,_,_]) (by rw [h2] at st;exact st)⟩)
 add_ok:=fun w n s R L F b o ha hn hl hh=>tr_star _ (fun h st=>star_open (hh.star st))
  ((add_lone (r:=((s.f w+n)%18446744073709551616:Nat)) (rd_wds .here hl.1 ha) (by rw [wrap_u64_mod];omega) (wt_wds A .here hl.1 ha (Nat.mod_lt _ (by decide)))).post fun v L' x' ⟨h1,h2,h3⟩=>⟨_,⟨_,{ s with f:=_ },Nat.mod_lt _ (by decide),hl.2,h1,rfl,h3⟩,fun h st=>star_shut (M:=[_,_,_,_]) (by rw [h2] at st;exact st)⟩)
 swap_ok:=fun w n s R L F b o ha hn hl hh=>tr_star _ (fun h st=>star_open (hh.star st)) (tr_pure (of_has .here fun h hc=>(hc.1 w hl.1).1) fun hs =>
  (swap_lone (rd_wds .here hl.1 ha) (wt_wds A .here hl.1 ha hn)).post fun v L' x' ⟨h1,h2,h3⟩=>⟨_,⟨s.f w,{ s with f:=upd s.f w n },hs,hl.2,h1,rfl,h3⟩,fun h st=>star_shut (M:=[_,_,_,_]) (by rw [h2] at st;exact st)⟩)
theorem ga_go {A:Apart addr N K} {Pm:HProp} {op w:Nat} {o:Int} {s:GaS G} {R:GaS G→Prop} {F:G.σ→G.σ × G.θ} (ho:((op:Nat):Int)=o) (hp:G.plan s.q=some ((((op:Nat):Int),((w:Nat):Int)),F)) (hf:∀ i,i<N→s.f i=G.wf s.s i) (hc:s.c=G.zf s.s) (hpm:∀ h,Pm h→G.Pv s.q h)
  (hR:∀ s' n,n<s.n→G.ok s'→R ⟨G.wf s',G.zf s',(F s').1,(F s').2,n⟩):(gamAcc G addr N K A sb says turn fin wg Pm).step o w s R:=by
 subst ho
 exact ⟨F,hp,hf,hc,hpm,hR⟩
end
section
variable {g:Game}
theorem play_ends {I:PS g→Prop} {Φ:PS g→Nat} {ts:List (Thr g)} {s:g.σ} {o:List Int} {n:Nat} (hs:∀ p k,I p→I (takeF p k).1) (hΦ:∀ p k,I p→(takeF p k).2=true→Φ (takeF p k).1+1≤Φ p) (h0:I ⟨(startF ts s).1,(startF ts s).2,[]⟩) (hn:Φ ⟨(startF ts s).1,(startF ts s).2,[]⟩≤n) (hlt:n<16384) :
  I (playF ts s o)∧(playF ts s o).tr.length≤n∧∀ (k:Nat) q,(playF ts s o).qs[k]?=some q→g.plan q=none:=by
 have hJ:I (playF ts s o)∧(playF ts s o).tr.length+Φ (playF ts s o)≤n:=playF_inv (I:=fun p=>I p∧p.tr.length+Φ p≤n) (fun p k h=>⟨hs p k h.1,by
  have h2:=h.2
  rcases takeF_cases p k with e | ⟨m,q,mk,f,hk,hq,hp,htr,e⟩
  ·rw [e];exact h2
  ·have h3:=hΦ p k h.1 (by rw [e])
   have h4:(takeF p k).1.tr.length=p.tr.length+1:=by rw [e];simp
   omega⟩) ⟨h0,by simpa using hn⟩
 refine ⟨hJ.1,by omega,fun k q hq=>(playF_done hq).resolve_right (by omega)⟩
end
end
end Go.Proofs.Ytkgnkloonamheaa
namespace Go.PB
open Go.Conc
section
section
variable {P:Program} {b o:Nat}
theorem atom_load {f:Nat} [x:Exn P f (Extern.Atomic.loadT (.int .u64))] {n:Int}:Atom1 P (callFunc f [Value.pointer (some ⟨b,o,none⟩)].toArray) b o (.int .u64 n) (.int .u64 n) none:=by
 obtain ⟨g,h⟩:=looks_load (P:=P) (f:=f) (a:=⟨b,o,none⟩)
 refine ⟨_,fun e he=>?_,fun w hc _=>h w n hc⟩
 simp at he
 rcases he with rfl | rfl
 ·exact .inl ⟨_,rfl⟩
 ·exact .inr ⟨_,rfl⟩
theorem atom_add {f:Nat} [x:Exn P f (Extern.Atomic.update (Op.intArith .add) .u64 true)] {n d:Int}:Atom1 P (callFunc f [Value.pointer (some ⟨b,o,none⟩),.int .u64 d].toArray) b o (.int .u64 n) (.int .u64 (IntKind.u64.wrap (n+d))) (some (.int .u64 (IntKind.u64.wrap (n+d)))):=by
 obtain ⟨g,h⟩:=adds_add (P:=P) (f:=f) (a:=⟨b,o,none⟩) (d:=d)
 refine ⟨_,fun e he=>?_,fun w hc hf=>h w n hc hf⟩
 simp at he
 rcases he with rfl | rfl | rfl
 ·exact .inl ⟨_,rfl⟩
 ·exact .inr ⟨_,rfl⟩
 ·exact .inr ⟨_,rfl⟩
theorem atom_cas {f:Nat} [x:Exn P f (Extern.Atomic.casT (.int .u64))] {n m y:Int}:Atom1 P (callFunc f [Value.pointer (some ⟨b,o,none⟩),.int .u64 m,.int .u64 y].toArray) b o (.int .u64 n) (.bool (decide (n=m))) (if n=m then some (.int .u64 y) else none):=by
 obtain ⟨g,h⟩:=swaps_cas (P:=P) (f:=f) (a:=⟨b,o,none⟩) (old:=m) (new:=y)
 by_cases hn:n=m
 ·rw [if_pos hn,decide_eq_true hn]
  refine ⟨_,fun e he=>?_,fun w hc hf=>(h w n hc hf).1 hn⟩
  simp at he
  rcases he with rfl | rfl | rfl
  ·exact .inl ⟨_,rfl⟩
  ·exact .inr ⟨_,rfl⟩
  ·exact .inr ⟨_,rfl⟩
 ·rw [if_neg hn,decide_eq_false hn]
  refine ⟨_,fun e he=>?_,fun w hc hf=>(h w n hc hf).2 hn⟩
  simp at he
  rcases he with rfl | rfl
  ·exact .inl ⟨_,rfl⟩
  ·exact .inr ⟨_,rfl⟩
theorem atom_store {f:Nat} [x:Exn P f Extern.Atomic.storeT] {n y:Int}:Atom1 P (callFunc f [Value.pointer (some ⟨b,o,none⟩),.int .u64 y].toArray) b o (.int .u64 n) unit (some (.int .u64 y)):=by
 refine ⟨#[⟨.mark (.extern f),false,true⟩,⟨.cell ⟨b,o,none⟩,true,true⟩],fun e he=>?_,fun w hc hf=>ext_runT (v:=unit) ?_⟩
 ·simp at he
  rcases he with rfl | rfl
  ·exact .inl ⟨_,rfl⟩
  ·exact .inr ⟨_,rfl⟩
 ·show (Sem.bind (store ⟨b,o,none⟩ (.int .u64 y) .atomic) fun _=>(pure unit:Sem Value)).runT P w _=_
  rw [store_runT hc hf rfl]
  rfl
theorem atom_swap {f:Nat} [x:Exn P f (Extern.Atomic.swapT (.int .u64))] {n y:Int}:Atom1 P (callFunc f [Value.pointer (some ⟨b,o,none⟩),.int .u64 y].toArray) b o (.int .u64 n) (.int .u64 n) (some (.int .u64 y)):=by
 refine ⟨#[⟨.mark (.extern f),false,true⟩,⟨.cell ⟨b,o,none⟩,false,true⟩,⟨.cell ⟨b,o,none⟩,true,true⟩],fun e he=>?_,fun w hc hf=>ext_runT (v:=.int .u64 n) ?_⟩
 ·simp at he
  rcases he with rfl | rfl | rfl
  ·exact .inl ⟨_,rfl⟩
  ·exact .inr ⟨_,rfl⟩
  ·exact .inr ⟨_,rfl⟩
 ·show (Sem.bind (Extern.Atomic.read (.int .u64) ⟨b,o,none⟩) fun old=>Sem.bind (store ⟨b,o,none⟩ (.int .u64 y) .atomic) fun _=>(pure old:Sem Value)).runT P w _=_
  rw [read_runT hc,store_runT hc hf rfl]
  rfl
end
theorem wo_atom {P:Program} {cv:Value} {kd:CallKind} {n:Nat} {K:Post (fHand P cv)} {e:Env} {z:Z} {L:List HProp} {l:List OpG} {d:Option Nat} {ty:TypeId} {gd:Option (Nat × Bool)} {op:Op}
  {g:Game} {s1 s2 s3 wg m:Nat} {q:g.θ} {mk:Int × Int} {F:g.σ→g.σ × g.θ} {Rv:g.σ→Value→Prop} (hpl:g.plan q=some (mk,F)) (hg:gYes e gd) (hk:kd≠.early)
  (ha:∀ t,Agree e t→∀ st r,g.ok st→g.U st r→∃ b o old v new,r.own b o=some old∧Atom1 P (execOp (evT t) (opOf op ty)) b o old v new∧g.U (F st).1 (r.lay b o new)∧Rv st v)
  (k:∀ st v m',m=m'+1→g.ok st→Rv st v→Wo P (fHand P cv) kd n l K (setE d v e) z L (⟨g,s1,s2,s3,wg,.free (F st).2 m'⟩:TX)) :
  Wo P (fHand P cv) kd n (⟨d,op,ty,gd⟩::l) K e z L (⟨g,s1,s2,s3,wg,.free q m⟩:TX) :=
 wo_act (R:=fun v L' x'=>∃ st m',m=m'+1∧g.ok st∧Rv st v∧L'=L∧x'=(⟨g,s1,s2,s3,wg,.free (F st).2 m'⟩:TX)) hg hk
  (fun t h O a s qq=>⟨q,m,mk,F,rfl,hpl,fun n' st r e1 h1 h2=>by
   obtain ⟨b,o,old,v,new,c1,c2,c3,c4⟩:=ha t a st r h1 h2
   exact ⟨b,o,old,v,new,c1,c2,c3,qq v L _ h ⟨st,n',e1,h1,c4,rfl,rfl⟩ s⟩⟩)
  (by rintro v L' x' ⟨st,m',h1,h2,h3,rfl,rfl⟩;exact k st v m' h1 h2 h3)
end
end Go.PB
namespace Go.Proofs.Ytkgnkloonamheaa
open Go Go.PB
attribute [local irreducible] Mo Bin Eql Tr Wo Ap Wle
attribute [local instance] Pass.of_no
section
abbrev fH:Hand:=fHand Try.prog cvT
structure ThrT (g:Game) where
 fv:Value
 q0:g.θ
 M:HProp
structure ThrF (g:Game) (N:Nat) (t:ThrT g):Prop where
 run:∃ f first cap,callee? t.fv=some (f,first,cap)∧Ent' Try.prog f∧∀ wg F,Tr Try.prog fH f (first++[.nilIface]++cap) (t.M::F) (tx g 0 0 0 wg (.free t.q0 N)) fun v L' x' =>
  ∃ q' n',x'=tx g 0 0 0 wg (.free q' n')∧g.plan q'=none∧∀ h,Star L' h→Star (g.Fin q'::F) h
section
variable {g:Game}
theorem goesF_tr {N wg tb:Nat} {t:ThrT g} (TO:ThrF g N t) (hfin:∀ q h,g.Pv q h→g.Fin q h) {hc:Hp} (hs:Star [t.M,arr tb 0 [t.fv]] hc) :
  Nonempty (Run Try.prog tH false (tEnd Try.prog 85) (goFr Try.prog { target:=.fn (.func 84) [.pointer (some ⟨wg,0,none⟩),.pointer (some ⟨tb,0,none⟩)].toArray,args:=#[] }) [] hc (tx g 0 0 0 wg (.free t.q0 N))):=by
 obtain ⟨f,first,cap,hcal,en,tr⟩:=TO.run
 have e1:Enterable Try.prog 84:=(inferInstance:Ent' Try.prog 84).ok
 have e3:Enterable Try.prog 85:=(inferInstance:Ent' Try.prog 85).ok
 refine go_runF Try.func84 rfl Try.ntmps84 (by simp) Try.results84 e1 e3 rfl hfin hs ?_
 simp only [argE,Nat.zero_add,Nat.reduceAdd]
 repeat (first | refine we_seq ?_ | (refine wR ?_;try simp only [oS]))
 refine wo_defer (first:=[]) (cap:=[]) (args:=[_]) (vs:=[.pointer (some ⟨wg,0,none⟩)]) rfl (.cons rfl .nil) trivial ?_
 repeat (first | (apply wo_po;apply mo_load;exact rfl;exact .there (Rd.row (k:=0) rfl rfl);exact trivial) | (refine wR ?_;try simp only [oS]) | refine wo_nil ?_)
 refine wo_callv (args:=[_]) rfl hcal (.cons rfl .nil) trivial (tr wg _) ?_
 rintro v L' x' ⟨q',n',rfl,hp,hL⟩
 refine wo_star _ hL ?_
 repeat (first | refine wo_nil ?_)
 exact fun t h _ _ st=>⟨rfl,q',⟨hp,n',rfl⟩,star_map st (fun _ a=>a) (fun _ _=>trivial)⟩
abbrev fx (g:Game) (fd:FreeD g) (wg:Nat) (s:g.σ) (ad nf:Nat):MX:=.game ⟨g,wg,[],some s,0,ad,false,.play,some fd,nf⟩
def freeInv (fd:FreeD g) (ts:List (ThrT g)) (s0:g.σ) (wg:Nat) (tv:Value) (F:List HProp):PB.Inv Nat MX where
 e:=fun i=>[(4,.pointer (some ⟨wg,0,none⟩)),(12,tv),(13,.int .i64 (ts.length:Nat)),(14,.int .i64 (i:Nat))]
 L:=fun i=>all ((ts.drop i).map ThrT.M)::F
 x:=fun i=>fx g fd wg s0 i i
 ok:=fun i=>i≤ts.length
theorem free_tr {fd:FreeD g} {ts:List (ThrT g)} {s0:g.σ} {F:List HProp} {ta:Option Addr} {tn tc:Nat} (hcut:∀ r,g.U s0 r→g.U s0 { r with obj:=fun _=>none }) (hq:fd.q0=ts.map ThrT.q0) (hI:fd.I s0 fd.q0) (hφ:fd.φ s0 fd.q0≤fd.N) (hfin:∀ q h,g.Pv q h→g.Fin q h)
  (hts:∀ t∈ts,ThrF g fd.N t) (h1:0<ts.length) (h16:ts.length≤16) (hrt:RdsO F ta tn (ts.map ThrT.fv)) :
  Tr Try.prog mT 56 [.slice ta tn tc] (g.U s0::all (ts.map ThrT.M)::F) .idle fun v L' x' =>
   ∃ s qs,fd.I s qs∧(∀ q∈qs,g.plan q=none)∧qs.length=ts.length∧v=.int .i64 0∧x'=.idle∧L'=g.U s::all (qs.map g.Fin)::F:=by
 refine Tr.post (R:=fun v L' x'=>∃ s qs,fd.I s qs∧(∀ q∈qs,g.plan q=none)∧qs.length=ts.length∧v=.int .i64 0∧x'=MX.idle∧∀ h,Star L' h→Star (g.U s::all (qs.map g.Fin)::F) h) ?_
  (by rintro v L' x' ⟨s,qs,a1,a2,a3,rfl,rfl,h2⟩;exact ⟨_,⟨s,qs,a1,a2,a3,rfl,rfl,rfl⟩,h2⟩)
 have hfn:∀ v∈ts.map ThrT.fv,isFn v:=by
  intro v hv
  obtain ⟨t,ht,rfl⟩:=List.mem_map.1 hv
  obtain ⟨f,first,cap,hc,_⟩:=(hts t ht).run
  revert hc
  cases t.fv with
  | func a b c=>exact fun _=>⟨a,b,c,rfl⟩
  | _=>intro hc;cases hc
 have htn:tn=ts.length:=by have:=hrt.1;simpa using this
 subst htn
 refine tr_of_body Try.func56 rfl Try.ntmps56 (by simp) fun um Q _ hQ=>?_
 simp only [argE,Nat.zero_add,Nat.reduceAdd]
 repeat (first | refine we_seq ?_ | (refine wR ?_;try simp only [oS]) | refine wo_nil ?_ | refine wM ?_ | refine wA ?_)
 refine wo_call (.cons rfl .nil) trivial (wrong_tr (fun v hv=>.inr (hfn v hv)) hrt.there.there (by omega)) ?_
 rintro v' L' x' ⟨⟨k,rfl,hk⟩,rfl,rfl⟩
 obtain rfl:k=0:=by
  rcases hk with ⟨_,h⟩ | ⟨_,h⟩
  ·obtain ⟨_,_,_,h⟩:=hfn _ h;cases h
  ·rw [h,List.length_map,if_neg (by omega),if_neg (by omega)]
 repeat (first | (apply wo_mo;apply mo_allocS;exact trivial) | refine wneqF ?_ | refine we_seq ?_ | (refine wR ?_;try simp only [oS]) | refine wo_nil ?_ | refine wM ?_ | refine wA ?_ | refine wF ?_ | refine we_skip ?_)
 rintro v' L' ⟨wg,rfl,rfl⟩
 refine wo_beginF g fd s0 (wg:=wg) (R:=all (ts.map ThrT.M)::F) hcut hI hφ (fun h st=>Ent.star (.take (.there (.there .here)) (.take .here (.take .here .refl))) st) ?_
 repeat (first | refine we_seq ?_ | (refine wR ?_;try simp only [oS]) | refine wo_nil ?_ | refine wM ?_ | refine wE ?_ | refine we_block ?_)
 refine we_loopN (freeInv fd ts s0 wg (.slice ta ts.length tc) (shpC wg 185 2::F)) (fun i=>ts.length-i) 0 (Nat.zero_le _) ⟨rfl,rfl,rfl,rfl,trivial⟩ (.take (.there .here) (.take .here .refl)) rfl ?_
 intro j hj
 replace hj:j≤ts.length:=hj
 simp only [freeInv]
 by_cases hlt:j<ts.length
 ·obtain ⟨tb,to,rfl,hrd⟩:=hrt.rds (by omega)
  have ht:ts[j]?=some ts[j]:=List.getElem?_eq_getElem hlt
  have hrj:=hrd j (ts[j].fv) (by simp [ht])
  have hTO:=hts _ (List.getElem_mem hlt)
  have hdrop:ts.drop j=ts[j]::ts.drop (j+1):=List.drop_eq_getElem_cons hlt
  obtain ⟨fa,fb,fc,hfe⟩:=hfn ts[j].fv (List.mem_map.2 ⟨_,List.getElem_mem hlt,rfl⟩)
  rw [hfe] at hrj
  rw [hdrop]
  refine we_star (ts[j].M::all ((ts.drop (j+1)).map ThrT.M)::shpC wg 185 2::F) (fun h st=>star_head st) ?_
  repeat (first | (apply wo_po;apply mo_index1;exact rfl;exact rfl;omega;exact gY) | (apply wo_po;apply mo_load;exact rfl;exact .there (.there (.there hrj));exact trivial) | (apply wo_mo;apply mo_alloc;exact trivial) | refine wlssT ?_ | refine we_seq ?_ | (refine wR ?_;try simp only [oS]) | refine wo_nil ?_ | refine wT ?_ | refine we_skip ?_ | refine we_block ?_)
  rintro v' L' ⟨tb',rfl,rfl⟩
  repeat (first | refine wS ?_ | refine we_seq ?_ | (refine wR ?_;try simp only [oS]) | refine wo_nil ?_)
  refine wo_call (.cons rfl (.cons rfl .nil)) trivial (wgAdd_tr (X:=⟨g,wg,[],some s0,0,j,false,.play,some fd,j⟩) rfl (by show j<1000;omega) (by show j=0+j;omega) rfl rfl (fun h st=>shp_of (.there (.there (.there .here))) st)) ?_
  rintro v1 L1 x1 ⟨rfl,rfl,rfl⟩
  repeat (first | (apply wo_po;apply mo_makeFunc (first:=[]) (cap:=[_,_]) (vf:=[]);exact .nil;exact .cons rfl (.cons rfl .nil);exact trivial) | (refine wR ?_;try simp only [oS]) | refine wo_nil ?_)
  refine wo_startF (X:=⟨g,wg,[],some s0,0,j+1,false,.play,some fd,j⟩) (fd:=fd) (q0:=ts[j].q0) (M:=[ts[j].M,arr tb' 0 [.func fa fb fc]]) (R:=all ((ts.drop (j+1)).map ThrT.M)::shpC wg 185 2::F) (cap:=[_,_]) rfl trivial rfl rfl rfl (by show j+1=0+j+1;omega) (by show fd.q0[j]?=_;rw [hq];simp [ht]) (fun h st=>star_shut (M:=[_,_]) (Ent.star (.take (.there .here) (.take .here (.take .here (.take .here .refl)))) st)) (fun hc st=>goesF_tr (t:=ts[j]) hTO hfin (by rw [hfe];exact st)) ?_
  repeat (first | (refine wR ?_;try simp only [oS]) | refine wo_nil ?_ | refine wM ?_ | refine wadd ?_)
  refine at_round (B:=mT) (I:=freeInv fd ts s0 wg (.slice (some ⟨tb,to,none⟩) ts.length tc) (shpC wg 185 2::F)) (R:=fun i'=>ts.length-i'<ts.length-j) (j+1) (by show ts.length-(j+1)<ts.length-j;omega) (show j+1≤ts.length by omega) ?_ .refl rfl
  exact ⟨rfl,rfl,rfl,rfl,trivial⟩
 ·obtain rfl:j=ts.length:=by omega
  repeat (first | refine wlssF ?_ | refine we_seq ?_ | (refine wR ?_;try simp only [oS]) | refine wo_nil ?_ | refine wF ?_ | refine we_exit ?_)
  refine wo_call (.cons rfl .nil) trivial (wgWait_tr (X:=⟨g,wg,[],some s0,0,ts.length,false,.play,some fd,ts.length⟩) rfl (by show ts.length<1000;omega) (by show ts.length=0+ts.length;omega) (fun s hs=>by cases hs) (fun d hd=>by cases hd;show ts.length=fd.q0.length;rw [hq,List.length_map]) rfl (fun h st=>shp_of (.there .here) st)) ?_
  rintro v' L' x' ⟨rfl,rfl,rfl⟩
  refine wo_star ((fun r=>∃ a:{ p:g.σ × List g.θ // fd.I p.1 p.2∧(∀ q∈p.2,g.plan q=none)∧p.2.length=fd.q0.length },all (g.U a.1.1::a.1.2.map g.Fin) r)::all ((ts.drop ts.length).map ThrT.M)::shpC wg 185 2::F) (fun h st=>star_map st (fun r hr=>?_) fun _ a=>a) ?_
  ·obtain ⟨s,qs,b1,b2,b3,b4⟩:=hr
   exact ⟨⟨(s,qs),b1,b2,b3⟩,b4⟩
  refine wo_ex .here ?_
  rintro ⟨⟨s,qs⟩,b1,b2,b3⟩
  repeat (first | refine we_seq ?_ | (refine wR ?_;try simp only [oS]) | refine wo_nil ?_ | refine wA ?_ | refine we_ret ?_)
  (first | refine or1 Try.func56 Try.results56 hQ rfl ?_ | refine on1 Try.func56 Try.results56 hQ rfl ?_)
  refine ⟨s,qs,b1,b2,by rw [b3,hq,List.length_map],rfl,rfl,fun h st=>?_⟩
  exact Ent.star (.take .here (.take .here (.drop (.drop .refl)))) (star_head st)
end
end
end Go.Proofs.Ytkgnkloonamheaa
namespace Go.PB
open Go.Conc
section
variable {P:Program} {cv:Value} {kd:CallKind} {n:Nat} {K:Post (fHand P cv)} {e:Env} {z:Z} {L:List HProp} {l:List OpG} {d:Option Nat} {ty:TypeId} {gd:Option (Nat × Bool)} {tys:Array TypeId}
 {g:Game} {s1 s2 s3 wg m:Nat} {q:g.θ} {mk:Int × Int} {F:g.σ→g.σ × g.θ} {b o:Nat}
theorem wo_loadF {f:Nat} [x:Exn P f (Extern.Atomic.loadT (.int .u64))] {o1:Operand} (Rv:g.σ→Int→Prop) (hx:ev e o1=some (.pointer (some ⟨b,o,none⟩))) (hpl:g.plan q=some (mk,F)) (hg:gYes e gd) (hk:kd≠.early)
  (ha:∀ st r,g.ok st→g.U st r→∃ v,r.own b o=some (.int .u64 v)∧g.U (F st).1 r∧Rv st v)
  (k:∀ st v m',m=m'+1→g.ok st→Rv st v→Wo P (fHand P cv) kd n l K (setE d (.int .u64 v) e) z L (⟨g,s1,s2,s3,wg,.free (F st).2 m'⟩:TX)) :
  Wo P (fHand P cv) kd n (⟨d,.call ⟨.value (.func f),#[o1],tys⟩,ty,gd⟩::l) K e z L (⟨g,s1,s2,s3,wg,.free q m⟩:TX) :=
 wo_atom (Rv:=fun st v=>∃ w,v=.int .u64 w∧Rv st w) hpl hg hk (fun t a st r h1 h2=>by
  obtain ⟨v,c1,c2,c3⟩:=ha st r h1 h2
  exact ⟨b,o,_,.int .u64 v,none,c1,by rw [exec_call (args:=[o1]) (.cons hx .nil) a];exact atom_load,c2,v,rfl,c3⟩)
  (by rintro st _ m' h1 h2 ⟨w,rfl,h3⟩;exact k st w m' h1 h2 h3)
theorem wo_storeF {f:Nat} [x:Exn P f Extern.Atomic.storeT] {o1 o2:Operand} {y:Int} (hx:ev e o1=some (.pointer (some ⟨b,o,none⟩))) (hy:ev e o2=some (.int .u64 y)) (hpl:g.plan q=some (mk,F)) (hg:gYes e gd) (hk:kd≠.early)
  (ha:∀ st r,g.ok st→g.U st r→∃ v,r.own b o=some (.int .u64 v)∧g.U (F st).1 (r.lay b o (some (.int .u64 y))))
  (k:∀ st m',m=m'+1→g.ok st→Wo P (fHand P cv) kd n l K (setE d unit e) z L (⟨g,s1,s2,s3,wg,.free (F st).2 m'⟩:TX)) :
  Wo P (fHand P cv) kd n (⟨d,.call ⟨.value (.func f),#[o1,o2],tys⟩,ty,gd⟩::l) K e z L (⟨g,s1,s2,s3,wg,.free q m⟩:TX) :=
 wo_atom (Rv:=fun st v=>v=unit) hpl hg hk (fun t a st r h1 h2=>by
  obtain ⟨v,c1,c2⟩:=ha st r h1 h2
  exact ⟨b,o,_,unit,_,c1,by rw [exec_call (args:=[o1,o2]) (.cons hx (.cons hy .nil)) a];exact atom_store,c2,rfl⟩)
  (by rintro st _ m' h1 h2 rfl;exact k st m' h1 h2)
theorem wo_swapF {f:Nat} [x:Exn P f (Extern.Atomic.swapT (.int .u64))] {o1 o2:Operand} {y:Int} (Rv:g.σ→Int→Prop) (hx:ev e o1=some (.pointer (some ⟨b,o,none⟩))) (hy:ev e o2=some (.int .u64 y)) (hpl:g.plan q=some (mk,F)) (hg:gYes e gd) (hk:kd≠.early)
  (ha:∀ st r,g.ok st→g.U st r→∃ v,r.own b o=some (.int .u64 v)∧g.U (F st).1 (r.lay b o (some (.int .u64 y)))∧Rv st v)
  (k:∀ st v m',m=m'+1→g.ok st→Rv st v→Wo P (fHand P cv) kd n l K (setE d (.int .u64 v) e) z L (⟨g,s1,s2,s3,wg,.free (F st).2 m'⟩:TX)) :
  Wo P (fHand P cv) kd n (⟨d,.call ⟨.value (.func f),#[o1,o2],tys⟩,ty,gd⟩::l) K e z L (⟨g,s1,s2,s3,wg,.free q m⟩:TX) :=
 wo_atom (Rv:=fun st v=>∃ w,v=.int .u64 w∧Rv st w) hpl hg hk (fun t a st r h1 h2=>by
  obtain ⟨v,c1,c2,c3⟩:=ha st r h1 h2
  exact ⟨b,o,_,.int .u64 v,_,c1,by rw [exec_call (args:=[o1,o2]) (.cons hx (.cons hy .nil)) a];exact atom_swap,c2,v,rfl,c3⟩)
  (by rintro st _ m' h1 h2 ⟨w,rfl,h3⟩;exact k st w m' h1 h2 h3)
theorem wo_addF {f:Nat} [x:Exn P f (Extern.Atomic.update (Op.intArith .add) .u64 true)] {o1 o2:Operand} {y:Int} (Rv:g.σ→Int→Prop) (hx:ev e o1=some (.pointer (some ⟨b,o,none⟩))) (hy:ev e o2=some (.int .u64 y)) (hpl:g.plan q=some (mk,F)) (hg:gYes e gd) (hk:kd≠.early)
  (ha:∀ st r,g.ok st→g.U st r→∃ v w,r.own b o=some (.int .u64 v)∧IntKind.u64.wrap (v+y)=w∧g.U (F st).1 (r.lay b o (some (.int .u64 w)))∧Rv st w)
  (k:∀ st v m',m=m'+1→g.ok st→Rv st v→Wo P (fHand P cv) kd n l K (setE d (.int .u64 v) e) z L (⟨g,s1,s2,s3,wg,.free (F st).2 m'⟩:TX)) :
  Wo P (fHand P cv) kd n (⟨d,.call ⟨.value (.func f),#[o1,o2],tys⟩,ty,gd⟩::l) K e z L (⟨g,s1,s2,s3,wg,.free q m⟩:TX) :=
 wo_atom (Rv:=fun st v=>∃ w,v=.int .u64 w∧Rv st w) hpl hg hk (fun t a st r h1 h2=>by
  obtain ⟨v,w,c1,rfl,c2,c3⟩:=ha st r h1 h2
  exact ⟨b,o,_,_,_,c1,by rw [exec_call (args:=[o1,o2]) (.cons hx (.cons hy .nil)) a];exact atom_add,c2,_,rfl,c3⟩)
  (by rintro st _ m' h1 h2 ⟨w,rfl,h3⟩;exact k st w m' h1 h2 h3)
theorem wo_casF {f:Nat} [x:Exn P f (Extern.Atomic.casT (.int .u64))] {o1 o2 o3:Operand} {a y:Int} (Rv:g.σ→Bool→Prop) (hx:ev e o1=some (.pointer (some ⟨b,o,none⟩))) (hy:ev e o2=some (.int .u64 a)) (hz:ev e o3=some (.int .u64 y)) (hpl:g.plan q=some (mk,F)) (hg:gYes e gd) (hk:kd≠.early)
  (ha:∀ st r,g.ok st→g.U st r→∃ v,r.own b o=some (.int .u64 v)∧g.U (F st).1 (r.lay b o (if v=a then some (.int .u64 y) else none))∧Rv st (decide (v=a)))
  (k:∀ st v m',m=m'+1→g.ok st→Rv st v→Wo P (fHand P cv) kd n l K (setE d (.bool v) e) z L (⟨g,s1,s2,s3,wg,.free (F st).2 m'⟩:TX)) :
  Wo P (fHand P cv) kd n (⟨d,.call ⟨.value (.func f),#[o1,o2,o3],tys⟩,ty,gd⟩::l) K e z L (⟨g,s1,s2,s3,wg,.free q m⟩:TX) :=
 wo_atom (Rv:=fun st v=>∃ w,v=.bool w∧Rv st w) hpl hg hk (fun t ag st r h1 h2=>by
  obtain ⟨v,c1,c2,c3⟩:=ha st r h1 h2
  exact ⟨b,o,_,_,_,c1,by rw [exec_call (args:=[o1,o2,o3]) (.cons hx (.cons hy (.cons hz .nil))) ag];exact atom_cas,c2,_,rfl,c3⟩)
  (by rintro st _ m' h1 h2 ⟨w,rfl,h3⟩;exact k st w m' h1 h2 h3)
end
end Go.PB
namespace Go.Proofs.Ytkgnkloonamheaa
open Go Go.PB
attribute [local irreducible] Mo Bin Eql Tr Wo Ap Wle
attribute [local instance] Pass.of_no
section
variable {G:WGm} {addr:Nat→Nat × Nat} {N:Nat} {K:List (Nat × Nat × Value)} {wg:Nat} {L F:List HProp} {b o w:Nat}
theorem U_own {s:G.σ} {r:Hp} (hU:(G.g addr N K).U s r) (hw:w<N) (ha:addr w=(b,o)):r.own b o=some (.int .u64 (G.wf s w:Nat))∧G.wf s w<18446744073709551616:=by
 obtain ⟨h1,h2,sp,hc,_⟩:=hU
 have:=hc.1 w hw
 rw [ha] at this
 exact ⟨sp.o1 _ _ _ this.2,this.1⟩
theorem U_keep {s s':G.σ} {r:Hp} (hU:(G.g addr N K).U s r) (hf:∀ i,i<N→G.wf s' i=G.wf s i) (hz:G.zf s'=G.zf s):(G.g addr N K).U s' r:=by
 show Star [_,G.Z (G.zf s')] r
 rw [hz]
 exact star_map hU (wds_congr fun i hi=>(hf i hi).symm) fun _ z=>z
theorem U_lay (A:Apart addr N K) {s s':G.σ} {r:Hp} {n:Nat} (hU:(G.g addr N K).U s r) (hw:w<N) (ha:addr w=(b,o)) (hn:n<18446744073709551616) (hf:∀ i,i<N→G.wf s' i=upd (G.wf s) w n i) (hz:G.zf s'=G.zf s):(G.g addr N K).U s' (r.lay b o (some (.int .u64 (n:Nat)))):=by
 have h1:Star (wds addr N K (upd (G.wf s) w n)::[G.Z (G.zf s)]) (r.set b o (.int .u64 (n:Nat))):=(wt_wds A (.here:Has [wds addr N K (G.wf s),G.Z (G.zf s)] _ _) hw ha hn r hU).2
 show Star [_,G.Z (G.zf s')] _
 rw [hz]
 exact star_map h1 (wds_congr fun i hi=>(hf i hi).symm) fun _ z=>z
structure FrS (G:WGm) where
 q:G.θ
 n:Nat
abbrev frX (G:WGm) (addr:Nat→Nat × Nat) (N:Nat) (K:List (Nat × Nat × Value)) (wg:Nat) (s:FrS G):TX:=tx (G.g addr N K) 0 0 0 wg (.free s.q s.n)
theorem load_free (hw:w<N) (ha:addr w=(b,o)) {q:G.θ} {m:Nat} {mk:Int × Int} {FF:G.σ→G.σ × G.θ} (hpl:G.plan q=some (mk,FF)) (hk:∀ st,G.ok st→(∀ i,i<N→G.wf (FF st).1 i=G.wf st i)∧G.zf (FF st).1=G.zf st) :
  Tr Try.prog fH 63 [.pointer (some ⟨b,o,none⟩)] L (frX G addr N K wg ⟨q,m⟩) fun v L' x'=>∃ st m',m'<m∧G.ok st∧G.wf st w<18446744073709551616∧v=.int .u64 (G.wf st w:Nat)∧L'=L∧x'=frX G addr N K wg ⟨(FF st).2,m'⟩:=by
 refine tr_of_body Try.func63 rfl Try.ntmps63 (by simp) fun um Q _ hQ=>?_
 simp only [argE,Nat.zero_add,Nat.reduceAdd]
 repeat (first | (fail) | refine we_seq ?_ | (refine wR ?_;try simp only [oS]) | refine wo_nil ?_ | refine wM ?_ | refine wA ?_ | (apply wo_no;exact rfl) | (apply wo_nu;exact rfl) | refine wK ?_ | refine wJ ?_ | refine wN ?_ | refine wD ?_ | (apply wo_po;apply mo_extract;exact rfl;exact rfl;exact gY) | (apply wo_po;apply mo_not;exact rfl;exact gY) | refine wL ?_ | (apply wo_po;apply mo_bin;exact rfl;exact rfl;exact bin_lss;exact gY) | (apply wo_po;apply mo_bin;exact rfl;exact rfl;exact bin_gtr;exact gY) | (apply wo_po;apply mo_bin;exact rfl;exact rfl;exact bin_leq;exact gY) | (apply wo_po;apply mo_bin;exact rfl;exact rfl;exact bin_geq;exact gY) | (apply wo_po;apply mo_bin;exact rfl;exact rfl;exact bin_eql;exact gY) | (apply wo_po;apply mo_bin;exact rfl;exact rfl;exact bin_neq;exact gY) | refine wadd ?_ | refine wsub ?_ | (apply wo_po;apply mo_bin;exact rfl;exact rfl;apply bin_ne;apply eql_ptr_nil;exact gY) | (apply wo_po;apply mo_bin;exact rfl;exact rfl;apply bin_eq;apply eql_ptr_nil;exact gY) | (apply wo_po;apply mo_bin;exact rfl;exact rfl;apply bin_ne;apply eql_slice_nil;exact gY) | (apply wo_po;apply mo_bin;exact rfl;exact rfl;apply bin_eq;apply eql_slice_nil;exact gY) | (apply wo_po;apply mo_bin;exact rfl;exact rfl;apply bin_ne;apply eql_nil_nil;exact gY) | (apply wo_po;apply mo_bin;exact rfl;exact rfl;apply bin_eq;apply eql_nil_nil;exact gY) | (apply wo_po;apply mo_bin;exact rfl;exact rfl;apply bin_ne;apply eql_iface_nil;exact gY) | refine wE ?_ | (apply wo_po;apply mo_conv;exact rfl;(first | exact wrap_i64 (by omega) (by omega) | exact wrap_u64 (by omega) (by omega));exact gY) | (apply wo_po;apply mo_min;exact rfl;exact rfl;exact gY) | refine wT ?_ | refine wF ?_ | refine we_ret ?_ | refine we_skip ?_ | refine we_label ?_ | refine we_block ?_ | refine we_scope ?_ | refine we_exit ?_)
 refine wo_loadF (g:=G.g addr N K) (F:=FF) (b:=b) (o:=o) (fun st v=>v=(G.wf st w:Nat)∧G.wf st w<18446744073709551616) rfl hpl trivial (by decide) (fun st r h1 h2=>⟨_,(U_own h2 hw ha).1,U_keep h2 (hk st h1).1 (hk st h1).2,rfl,(U_own h2 hw ha).2⟩) ?_
 rintro st _ m' hm hok ⟨rfl,hlt⟩
 repeat (first | (fail) | refine we_seq ?_ | (refine wR ?_;try simp only [oS]) | refine wo_nil ?_ | refine wM ?_ | refine wA ?_ | (apply wo_no;exact rfl) | (apply wo_nu;exact rfl) | refine wK ?_ | refine wJ ?_ | refine wN ?_ | refine wD ?_ | (apply wo_po;apply mo_extract;exact rfl;exact rfl;exact gY) | (apply wo_po;apply mo_not;exact rfl;exact gY) | refine wL ?_ | (apply wo_po;apply mo_bin;exact rfl;exact rfl;exact bin_lss;exact gY) | (apply wo_po;apply mo_bin;exact rfl;exact rfl;exact bin_gtr;exact gY) | (apply wo_po;apply mo_bin;exact rfl;exact rfl;exact bin_leq;exact gY) | (apply wo_po;apply mo_bin;exact rfl;exact rfl;exact bin_geq;exact gY) | (apply wo_po;apply mo_bin;exact rfl;exact rfl;exact bin_eql;exact gY) | (apply wo_po;apply mo_bin;exact rfl;exact rfl;exact bin_neq;exact gY) | refine wadd ?_ | refine wsub ?_ | (apply wo_po;apply mo_bin;exact rfl;exact rfl;apply bin_ne;apply eql_ptr_nil;exact gY) | (apply wo_po;apply mo_bin;exact rfl;exact rfl;apply bin_eq;apply eql_ptr_nil;exact gY) | (apply wo_po;apply mo_bin;exact rfl;exact rfl;apply bin_ne;apply eql_slice_nil;exact gY) | (apply wo_po;apply mo_bin;exact rfl;exact rfl;apply bin_eq;apply eql_slice_nil;exact gY) | (apply wo_po;apply mo_bin;exact rfl;exact rfl;apply bin_ne;apply eql_nil_nil;exact gY) | (apply wo_po;apply mo_bin;exact rfl;exact rfl;apply bin_eq;apply eql_nil_nil;exact gY) | (apply wo_po;apply mo_bin;exact rfl;exact rfl;apply bin_ne;apply eql_iface_nil;exact gY) | refine wE ?_ | (apply wo_po;apply mo_conv;exact rfl;(first | exact wrap_i64 (by omega) (by omega) | exact wrap_u64 (by omega) (by omega));exact gY) | (apply wo_po;apply mo_min;exact rfl;exact rfl;exact gY) | refine wT ?_ | refine wF ?_ | refine we_ret ?_ | refine we_skip ?_ | refine we_label ?_ | refine we_block ?_ | refine we_scope ?_ | refine we_exit ?_)
 (first | refine or1 Try.func63 Try.results63 hQ rfl ?_ | refine on1 Try.func63 Try.results63 hQ rfl ?_)
 exact ⟨st,m',(by have h0:m=m'+1:=hm;omega),hok,hlt,rfl,rfl,rfl⟩
theorem store_free (A:Apart addr N K) (hw:w<N) (ha:addr w=(b,o)) {n:Nat} (hn:n<18446744073709551616) {q:G.θ} {m:Nat} {mk:Int × Int} {FF:G.σ→G.σ × G.θ} (hpl:G.plan q=some (mk,FF)) (hk:∀ st,G.ok st→(∀ i,i<N→G.wf (FF st).1 i=upd (G.wf st) w n i)∧G.zf (FF st).1=G.zf st) :
  Tr Try.prog fH 67 [.pointer (some ⟨b,o,none⟩),.int .u64 (n:Nat)] L (frX G addr N K wg ⟨q,m⟩) fun v L' x'=>∃ st m',m'<m∧G.ok st∧v=.tuple #[]∧L'=L∧x'=frX G addr N K wg ⟨(FF st).2,m'⟩:=by
 refine tr_of_body Try.func67 rfl Try.ntmps67 (by simp) fun um Q _ hQ=>?_
 simp only [argE,Nat.zero_add,Nat.reduceAdd]
 repeat (first | (fail) | refine we_seq ?_ | (refine wR ?_;try simp only [oS]) | refine wo_nil ?_ | refine wM ?_ | refine wA ?_ | (apply wo_no;exact rfl) | (apply wo_nu;exact rfl) | refine wK ?_ | refine wJ ?_ | refine wN ?_ | refine wD ?_ | (apply wo_po;apply mo_extract;exact rfl;exact rfl;exact gY) | (apply wo_po;apply mo_not;exact rfl;exact gY) | refine wL ?_ | (apply wo_po;apply mo_bin;exact rfl;exact rfl;exact bin_lss;exact gY) | (apply wo_po;apply mo_bin;exact rfl;exact rfl;exact bin_gtr;exact gY) | (apply wo_po;apply mo_bin;exact rfl;exact rfl;exact bin_leq;exact gY) | (apply wo_po;apply mo_bin;exact rfl;exact rfl;exact bin_geq;exact gY) | (apply wo_po;apply mo_bin;exact rfl;exact rfl;exact bin_eql;exact gY) | (apply wo_po;apply mo_bin;exact rfl;exact rfl;exact bin_neq;exact gY) | refine wadd ?_ | refine wsub ?_ | (apply wo_po;apply mo_bin;exact rfl;exact rfl;apply bin_ne;apply eql_ptr_nil;exact gY) | (apply wo_po;apply mo_bin;exact rfl;exact rfl;apply bin_eq;apply eql_ptr_nil;exact gY) | (apply wo_po;apply mo_bin;exact rfl;exact rfl;apply bin_ne;apply eql_slice_nil;exact gY) | (apply wo_po;apply mo_bin;exact rfl;exact rfl;apply bin_eq;apply eql_slice_nil;exact gY) | (apply wo_po;apply mo_bin;exact rfl;exact rfl;apply bin_ne;apply eql_nil_nil;exact gY) | (apply wo_po;apply mo_bin;exact rfl;exact rfl;apply bin_eq;apply eql_nil_nil;exact gY) | (apply wo_po;apply mo_bin;exact rfl;exact rfl;apply bin_ne;apply eql_iface_nil;exact gY) | refine wE ?_ | (apply wo_po;apply mo_conv;exact rfl;(first | exact wrap_i64 (by omega) (by omega) | exact wrap_u64 (by omega) (by omega));exact gY) | (apply wo_po;apply mo_min;exact rfl;exact rfl;exact gY) | refine wT ?_ | refine wF ?_ | refine we_ret ?_ | refine we_skip ?_ | refine we_label ?_ | refine we_block ?_ | refine we_scope ?_ | refine we_exit ?_)
 refine wo_storeF (g:=G.g addr N K) (F:=FF) (b:=b) (o:=o) (y:=(n:Nat)) rfl rfl hpl trivial (by decide) (fun st r h1 h2=>⟨_,(U_own h2 hw ha).1,U_lay A h2 hw ha hn (hk st h1).1 (hk st h1).2⟩) ?_
 rintro st m' hm hok
 repeat (first | (fail) | refine we_seq ?_ | (refine wR ?_;try simp only [oS]) | refine wo_nil ?_ | refine wM ?_ | refine wA ?_ | (apply wo_no;exact rfl) | (apply wo_nu;exact rfl) | refine wK ?_ | refine wJ ?_ | refine wN ?_ | refine wD ?_ | (apply wo_po;apply mo_extract;exact rfl;exact rfl;exact gY) | (apply wo_po;apply mo_not;exact rfl;exact gY) | refine wL ?_ | (apply wo_po;apply mo_bin;exact rfl;exact rfl;exact bin_lss;exact gY) | (apply wo_po;apply mo_bin;exact rfl;exact rfl;exact bin_gtr;exact gY) | (apply wo_po;apply mo_bin;exact rfl;exact rfl;exact bin_leq;exact gY) | (apply wo_po;apply mo_bin;exact rfl;exact rfl;exact bin_geq;exact gY) | (apply wo_po;apply mo_bin;exact rfl;exact rfl;exact bin_eql;exact gY) | (apply wo_po;apply mo_bin;exact rfl;exact rfl;exact bin_neq;exact gY) | refine wadd ?_ | refine wsub ?_ | (apply wo_po;apply mo_bin;exact rfl;exact rfl;apply bin_ne;apply eql_ptr_nil;exact gY) | (apply wo_po;apply mo_bin;exact rfl;exact rfl;apply bin_eq;apply eql_ptr_nil;exact gY) | (apply wo_po;apply mo_bin;exact rfl;exact rfl;apply bin_ne;apply eql_slice_nil;exact gY) | (apply wo_po;apply mo_bin;exact rfl;exact rfl;apply bin_eq;apply eql_slice_nil;exact gY) | (apply wo_po;apply mo_bin;exact rfl;exact rfl;apply bin_ne;apply eql_nil_nil;exact gY) | (apply wo_po;apply mo_bin;exact rfl;exact rfl;apply bin_eq;apply eql_nil_nil;exact gY) | (apply wo_po;apply mo_bin;exact rfl;exact rfl;apply bin_ne;apply eql_iface_nil;exact gY) | refine wE ?_ | (apply wo_po;apply mo_conv;exact rfl;(first | exact wrap_i64 (by omega) (by omega) | exact wrap_u64 (by omega) (by omega));exact gY) | (apply wo_po;apply mo_min;exact rfl;exact rfl;exact gY) | refine wT ?_ | refine wF ?_ | refine we_ret ?_ | refine we_skip ?_ | refine we_label ?_ | refine we_block ?_ | refine we_scope ?_ | refine we_exit ?_)
 (first | refine or0 Try.func67 Try.results67 hQ ?_ | refine on0 Try.func67 Try.results67 hQ ?_)
 exact ⟨st,m',(by have h0:m=m'+1:=hm;omega),hok,rfl,rfl,rfl⟩
theorem swap_free (A:Apart addr N K) (hw:w<N) (ha:addr w=(b,o)) {n:Nat} (hn:n<18446744073709551616) {q:G.θ} {m:Nat} {mk:Int × Int} {FF:G.σ→G.σ × G.θ} (hpl:G.plan q=some (mk,FF)) (hk:∀ st,G.ok st→(∀ i,i<N→G.wf (FF st).1 i=upd (G.wf st) w n i)∧G.zf (FF st).1=G.zf st) :
  Tr Try.prog fH 91 [.pointer (some ⟨b,o,none⟩),.int .u64 (n:Nat)] L (frX G addr N K wg ⟨q,m⟩) fun v L' x'=>∃ st m',m'<m∧G.ok st∧G.wf st w<18446744073709551616∧v=.int .u64 (G.wf st w:Nat)∧L'=L∧x'=frX G addr N K wg ⟨(FF st).2,m'⟩:=by
 refine tr_of_body Try.func91 rfl Try.ntmps91 (by simp) fun um Q _ hQ=>?_
 simp only [argE,Nat.zero_add,Nat.reduceAdd]
 repeat (first | (fail) | refine we_seq ?_ | (refine wR ?_;try simp only [oS]) | refine wo_nil ?_ | refine wM ?_ | refine wA ?_ | (apply wo_no;exact rfl) | (apply wo_nu;exact rfl) | refine wK ?_ | refine wJ ?_ | refine wN ?_ | refine wD ?_ | (apply wo_po;apply mo_extract;exact rfl;exact rfl;exact gY) | (apply wo_po;apply mo_not;exact rfl;exact gY) | refine wL ?_ | (apply wo_po;apply mo_bin;exact rfl;exact rfl;exact bin_lss;exact gY) | (apply wo_po;apply mo_bin;exact rfl;exact rfl;exact bin_gtr;exact gY) | (apply wo_po;apply mo_bin;exact rfl;exact rfl;exact bin_leq;exact gY) | (apply wo_po;apply mo_bin;exact rfl;exact rfl;exact bin_geq;exact gY) | (apply wo_po;apply mo_bin;exact rfl;exact rfl;exact bin_eql;exact gY) | (apply wo_po;apply mo_bin;exact rfl;exact rfl;exact bin_neq;exact gY) | refine wadd ?_ | refine wsub ?_ | (apply wo_po;apply mo_bin;exact rfl;exact rfl;apply bin_ne;apply eql_ptr_nil;exact gY) | (apply wo_po;apply mo_bin;exact rfl;exact rfl;apply bin_eq;apply eql_ptr_nil;exact gY) | (apply wo_po;apply mo_bin;exact rfl;exact rfl;apply bin_ne;apply eql_slice_nil;exact gY) | (apply wo_po;apply mo_bin;exact rfl;exact rfl;apply bin_eq;apply eql_slice_nil;exact gY) | (apply wo_po;apply mo_bin;exact rfl;exact rfl;apply bin_ne;apply eql_nil_nil;exact gY) | (apply wo_po;apply mo_bin;exact rfl;exact rfl;apply bin_eq;apply eql_nil_nil;exact gY) | (apply wo_po;apply mo_bin;exact rfl;exact rfl;apply bin_ne;apply eql_iface_nil;exact gY) | refine wE ?_ | (apply wo_po;apply mo_conv;exact rfl;(first | exact wrap_i64 (by omega) (by omega) | exact wrap_u64 (by omega) (by omega));exact gY) | (apply wo_po;apply mo_min;exact rfl;exact rfl;exact gY) | refine wT ?_ | refine wF ?_ | refine we_ret ?_ | refine we_skip ?_ | refine we_label ?_ | refine we_block ?_ | refine we_scope ?_ | refine we_exit ?_)
 refine wo_swapF (g:=G.g addr N K) (F:=FF) (b:=b) (o:=o) (y:=(n:Nat)) (fun st v=>v=(G.wf st w:Nat)∧G.wf st w<18446744073709551616) rfl rfl hpl trivial (by decide) (fun st r h1 h2=>⟨_,(U_own h2 hw ha).1,U_lay A h2 hw ha hn (hk st h1).1 (hk st h1).2,rfl,(U_own h2 hw ha).2⟩) ?_
 rintro st _ m' hm hok ⟨rfl,hlt⟩
 repeat (first | (fail) | refine we_seq ?_ | (refine wR ?_;try simp only [oS]) | refine wo_nil ?_ | refine wM ?_ | refine wA ?_ | (apply wo_no;exact rfl) | (apply wo_nu;exact rfl) | refine wK ?_ | refine wJ ?_ | refine wN ?_ | refine wD ?_ | (apply wo_po;apply mo_extract;exact rfl;exact rfl;exact gY) | (apply wo_po;apply mo_not;exact rfl;exact gY) | refine wL ?_ | (apply wo_po;apply mo_bin;exact rfl;exact rfl;exact bin_lss;exact gY) | (apply wo_po;apply mo_bin;exact rfl;exact rfl;exact bin_gtr;exact gY) | (apply wo_po;apply mo_bin;exact rfl;exact rfl;exact bin_leq;exact gY) | (apply wo_po;apply mo_bin;exact rfl;exact rfl;exact bin_geq;exact gY) | (apply wo_po;apply mo_bin;exact rfl;exact rfl;exact bin_eql;exact gY) | (apply wo_po;apply mo_bin;exact rfl;exact rfl;exact bin_neq;exact gY) | refine wadd ?_ | refine wsub ?_ | (apply wo_po;apply mo_bin;exact rfl;exact rfl;apply bin_ne;apply eql_ptr_nil;exact gY) | (apply wo_po;apply mo_bin;exact rfl;exact rfl;apply bin_eq;apply eql_ptr_nil;exact gY) | (apply wo_po;apply mo_bin;exact rfl;exact rfl;apply bin_ne;apply eql_slice_nil;exact gY) | (apply wo_po;apply mo_bin;exact rfl;exact rfl;apply bin_eq;apply eql_slice_nil;exact gY) | (apply wo_po;apply mo_bin;exact rfl;exact rfl;apply bin_ne;apply eql_nil_nil;exact gY) | (apply wo_po;apply mo_bin;exact rfl;exact rfl;apply bin_eq;apply eql_nil_nil;exact gY) | (apply wo_po;apply mo_bin;exact rfl;exact rfl;apply bin_ne;apply eql_iface_nil;exact gY) | refine wE ?_ | (apply wo_po;apply mo_conv;exact rfl;(first | exact wrap_i64 (by omega) (by omega) | exact wrap_u64 (by omega) (by omega));exact gY) | (apply wo_po;apply mo_min;exact rfl;exact rfl;exact gY) | refine wT ?_ | refine wF ?_ | refine we_ret ?_ | refine we_skip ?_ | refine we_label ?_ | refine we_block ?_ | refine we_scope ?_ | refine we_exit ?_)
 (first | refine or1 Try.func91 Try.results91 hQ rfl ?_ | refine on1 Try.func91 Try.results91 hQ rfl ?_)
 exact ⟨st,m',(by have h0:m=m'+1:=hm;omega),hok,hlt,rfl,rfl,rfl⟩
theorem add_free (A:Apart addr N K) (hw:w<N) (ha:addr w=(b,o)) {n:Nat} {q:G.θ} {m:Nat} {mk:Int × Int} {FF:G.σ→G.σ × G.θ} (hpl:G.plan q=some (mk,FF)) (hk:∀ st,G.ok st→(∀ i,i<N→G.wf (FF st).1 i=upd (G.wf st) w ((G.wf st w+n)%18446744073709551616) i)∧G.zf (FF st).1=G.zf st) :
  Tr Try.prog fH 69 [.pointer (some ⟨b,o,none⟩),.int .u64 (n:Nat)] L (frX G addr N K wg ⟨q,m⟩) fun v L' x'=>∃ st m',m'<m∧G.ok st∧v=.int .u64 ((G.wf st w+n)%18446744073709551616:Nat)∧L'=L∧x'=frX G addr N K wg ⟨(FF st).2,m'⟩:=by
 refine tr_of_body Try.func69 rfl Try.ntmps69 (by simp) fun um Q _ hQ=>?_
 simp only [argE,Nat.zero_add,Nat.reduceAdd]
 repeat (first | (fail) | refine we_seq ?_ | (refine wR ?_;try simp only [oS]) | refine wo_nil ?_ | refine wM ?_ | refine wA ?_ | (apply wo_no;exact rfl) | (apply wo_nu;exact rfl) | refine wK ?_ | refine wJ ?_ | refine wN ?_ | refine wD ?_ | (apply wo_po;apply mo_extract;exact rfl;exact rfl;exact gY) | (apply wo_po;apply mo_not;exact rfl;exact gY) | refine wL ?_ | (apply wo_po;apply mo_bin;exact rfl;exact rfl;exact bin_lss;exact gY) | (apply wo_po;apply mo_bin;exact rfl;exact rfl;exact bin_gtr;exact gY) | (apply wo_po;apply mo_bin;exact rfl;exact rfl;exact bin_leq;exact gY) | (apply wo_po;apply mo_bin;exact rfl;exact rfl;exact bin_geq;exact gY) | (apply wo_po;apply mo_bin;exact rfl;exact rfl;exact bin_eql;exact gY) | (apply wo_po;apply mo_bin;exact rfl;exact rfl;exact bin_neq;exact gY) | refine wadd ?_ | refine wsub ?_ | (apply wo_po;apply mo_bin;exact rfl;exact rfl;apply bin_ne;apply eql_ptr_nil;exact gY) | (apply wo_po;apply mo_bin;exact rfl;exact rfl;apply bin_eq;apply eql_ptr_nil;exact gY) | (apply wo_po;apply mo_bin;exact rfl;exact rfl;apply bin_ne;apply eql_slice_nil;exact gY) | (apply wo_po;apply mo_bin;exact rfl;exact rfl;apply bin_eq;apply eql_slice_nil;exact gY) | (apply wo_po;apply mo_bin;exact rfl;exact rfl;apply bin_ne;apply eql_nil_nil;exact gY) | (apply wo_po;apply mo_bin;exact rfl;exact rfl;apply bin_eq;apply eql_nil_nil;exact gY) | (apply wo_po;apply mo_bin;exact rfl;exact rfl;apply bin_ne;apply eql_iface_nil;exact gY) | refine wE ?_ | (apply wo_po;apply mo_conv;exact rfl;(first | exact wrap_i64 (by omega) (by omega) | exact wrap_u64 (by omega) (by omega));exact gY) | (apply wo_po;apply mo_min;exact rfl;exact rfl;exact gY) | refine wT ?_ | refine wF ?_ | refine we_ret ?_ | refine we_skip ?_ | refine we_label ?_ | refine we_block ?_ | refine we_scope ?_ | refine we_exit ?_)
 refine wo_addF (g:=G.g addr N K) (F:=FF) (b:=b) (o:=o) (y:=(n:Nat)) (fun st v=>v=(((G.wf st w+n)%18446744073709551616:Nat):Int)) rfl rfl hpl trivial (by decide) (fun st r h1 h2=>⟨_,((G.wf st w+n)%18446744073709551616:Nat),(U_own h2 hw ha).1,by rw [wrap_u64_mod];omega,U_lay A h2 hw ha (Nat.mod_lt _ (by decide)) (hk st h1).1 (hk st h1).2,rfl⟩) ?_
 rintro st _ m' hm hok rfl
 repeat (first | (fail) | refine we_seq ?_ | (refine wR ?_;try simp only [oS]) | refine wo_nil ?_ | refine wM ?_ | refine wA ?_ | (apply wo_no;exact rfl) | (apply wo_nu;exact rfl) | refine wK ?_ | refine wJ ?_ | refine wN ?_ | refine wD ?_ | (apply wo_po;apply mo_extract;exact rfl;exact rfl;exact gY) | (apply wo_po;apply mo_not;exact rfl;exact gY) | refine wL ?_ | (apply wo_po;apply mo_bin;exact rfl;exact rfl;exact bin_lss;exact gY) | (apply wo_po;apply mo_bin;exact rfl;exact rfl;exact bin_gtr;exact gY) | (apply wo_po;apply mo_bin;exact rfl;exact rfl;exact bin_leq;exact gY) | (apply wo_po;apply mo_bin;exact rfl;exact rfl;exact bin_geq;exact gY) | (apply wo_po;apply mo_bin;exact rfl;exact rfl;exact bin_eql;exact gY) | (apply wo_po;apply mo_bin;exact rfl;exact rfl;exact bin_neq;exact gY) | refine wadd ?_ | refine wsub ?_ | (apply wo_po;apply mo_bin;exact rfl;exact rfl;apply bin_ne;apply eql_ptr_nil;exact gY) | (apply wo_po;apply mo_bin;exact rfl;exact rfl;apply bin_eq;apply eql_ptr_nil;exact gY) | (apply wo_po;apply mo_bin;exact rfl;exact rfl;apply bin_ne;apply eql_slice_nil;exact gY) | (apply wo_po;apply mo_bin;exact rfl;exact rfl;apply bin_eq;apply eql_slice_nil;exact gY) | (apply wo_po;apply mo_bin;exact rfl;exact rfl;apply bin_ne;apply eql_nil_nil;exact gY) | (apply wo_po;apply mo_bin;exact rfl;exact rfl;apply bin_eq;apply eql_nil_nil;exact gY) | (apply wo_po;apply mo_bin;exact rfl;exact rfl;apply bin_ne;apply eql_iface_nil;exact gY) | refine wE ?_ | (apply wo_po;apply mo_conv;exact rfl;(first | exact wrap_i64 (by omega) (by omega) | exact wrap_u64 (by omega) (by omega));exact gY) | (apply wo_po;apply mo_min;exact rfl;exact rfl;exact gY) | refine wT ?_ | refine wF ?_ | refine we_ret ?_ | refine we_skip ?_ | refine we_label ?_ | refine we_block ?_ | refine we_scope ?_ | refine we_exit ?_)
 (first | refine or1 Try.func69 Try.results69 hQ rfl ?_ | refine on1 Try.func69 Try.results69 hQ rfl ?_)
 exact ⟨st,m',(by have h0:m=m'+1:=hm;omega),hok,rfl,rfl,rfl⟩
theorem cas_free (A:Apart addr N K) (hw:w<N) (ha:addr w=(b,o)) {a n:Nat} (hn:n<18446744073709551616) {q:G.θ} {m:Nat} {mk:Int × Int} {FF:G.σ→G.σ × G.θ} (hpl:G.plan q=some (mk,FF)) (hk:∀ st,G.ok st→(∀ i,i<N→G.wf (FF st).1 i=(if G.wf st w=a then upd (G.wf st) w n else G.wf st) i)∧G.zf (FF st).1=G.zf st) :
  Tr Try.prog fH 89 [.pointer (some ⟨b,o,none⟩),.int .u64 (a:Nat),.int .u64 (n:Nat)] L (frX G addr N K wg ⟨q,m⟩) fun v L' x'=>∃ st m',m'<m∧G.ok st∧v=.bool (decide (G.wf st w=a))∧L'=L∧x'=frX G addr N K wg ⟨(FF st).2,m'⟩:=by
 refine tr_of_body Try.func89 rfl Try.ntmps89 (by simp) fun um Q _ hQ=>?_
 simp only [argE,Nat.zero_add,Nat.reduceAdd]
 repeat (first | (fail) | refine we_seq ?_ | (refine wR ?_;try simp only [oS]) | refine wo_nil ?_ | refine wM ?_ | refine wA ?_ | (apply wo_no;exact rfl) | (apply wo_nu;exact rfl) | refine wK ?_ | refine wJ ?_ | refine wN ?_ | refine wD ?_ | (apply wo_po;apply mo_extract;exact rfl;exact rfl;exact gY) | (apply wo_po;apply mo_not;exact rfl;exact gY) | refine wL ?_ | (apply wo_po;apply mo_bin;exact rfl;exact rfl;exact bin_lss;exact gY) | (apply wo_po;apply mo_bin;exact rfl;exact rfl;exact bin_gtr;exact gY) | (apply wo_po;apply mo_bin;exact rfl;exact rfl;exact bin_leq;exact gY) | (apply wo_po;apply mo_bin;exact rfl;exact rfl;exact bin_geq;exact gY) | (apply wo_po;apply mo_bin;exact rfl;exact rfl;exact bin_eql;exact gY) | (apply wo_po;apply mo_bin;exact rfl;exact rfl;exact bin_neq;exact gY) | refine wadd ?_ | refine wsub ?_ | (apply wo_po;apply mo_bin;exact rfl;exact rfl;apply bin_ne;apply eql_ptr_nil;exact gY) | (apply wo_po;apply mo_bin;exact rfl;exact rfl;apply bin_eq;apply eql_ptr_nil;exact gY) | (apply wo_po;apply mo_bin;exact rfl;exact rfl;apply bin_ne;apply eql_slice_nil;exact gY) | (apply wo_po;apply mo_bin;exact rfl;exact rfl;apply bin_eq;apply eql_slice_nil;exact gY) | (apply wo_po;apply mo_bin;exact rfl;exact rfl;apply bin_ne;apply eql_nil_nil;exact gY) | (apply wo_po;apply mo_bin;exact rfl;exact rfl;apply bin_eq;apply eql_nil_nil;exact gY) | (apply wo_po;apply mo_bin;exact rfl;exact rfl;apply bin_ne;apply eql_iface_nil;exact gY) | refine wE ?_ | (apply wo_po;apply mo_conv;exact rfl;(first | exact wrap_i64 (by omega) (by omega) | exact wrap_u64 (by omega) (by omega));exact gY) | (apply wo_po;apply mo_min;exact rfl;exact rfl;exact gY) | refine wT ?_ | refine wF ?_ | refine we_ret ?_ | refine we_skip ?_ | refine we_label ?_ | refine we_block ?_ | refine we_scope ?_ | refine we_exit ?_)
 refine wo_casF (g:=G.g addr N K) (F:=FF) (b:=b) (o:=o) (a:=(a:Nat)) (y:=(n:Nat)) (fun st v=>v=decide (G.wf st w=a)) rfl rfl rfl hpl trivial (by decide) (fun st r h1 h2=>⟨_,(U_own h2 hw ha).1,?_,decide_eq_decide.2 (by omega)⟩) ?_
 ·have hk':=hk st h1
  by_cases hw':G.wf st w=a
  ·rw [if_pos hw'] at hk';rw [if_pos (by omega)];exact U_lay A h2 hw ha hn hk'.1 hk'.2
  ·rw [if_neg hw'] at hk';rw [if_neg (by omega)];exact U_keep h2 hk'.1 hk'.2
 rintro st _ m' hm hok rfl
 repeat (first | (fail) | refine we_seq ?_ | (refine wR ?_;try simp only [oS]) | refine wo_nil ?_ | refine wM ?_ | refine wA ?_ | (apply wo_no;exact rfl) | (apply wo_nu;exact rfl) | refine wK ?_ | refine wJ ?_ | refine wN ?_ | refine wD ?_ | (apply wo_po;apply mo_extract;exact rfl;exact rfl;exact gY) | (apply wo_po;apply mo_not;exact rfl;exact gY) | refine wL ?_ | (apply wo_po;apply mo_bin;exact rfl;exact rfl;exact bin_lss;exact gY) | (apply wo_po;apply mo_bin;exact rfl;exact rfl;exact bin_gtr;exact gY) | (apply wo_po;apply mo_bin;exact rfl;exact rfl;exact bin_leq;exact gY) | (apply wo_po;apply mo_bin;exact rfl;exact rfl;exact bin_geq;exact gY) | (apply wo_po;apply mo_bin;exact rfl;exact rfl;exact bin_eql;exact gY) | (apply wo_po;apply mo_bin;exact rfl;exact rfl;exact bin_neq;exact gY) | refine wadd ?_ | refine wsub ?_ | (apply wo_po;apply mo_bin;exact rfl;exact rfl;apply bin_ne;apply eql_ptr_nil;exact gY) | (apply wo_po;apply mo_bin;exact rfl;exact rfl;apply bin_eq;apply eql_ptr_nil;exact gY) | (apply wo_po;apply mo_bin;exact rfl;exact rfl;apply bin_ne;apply eql_slice_nil;exact gY) | (apply wo_po;apply mo_bin;exact rfl;exact rfl;apply bin_eq;apply eql_slice_nil;exact gY) | (apply wo_po;apply mo_bin;exact rfl;exact rfl;apply bin_ne;apply eql_nil_nil;exact gY) | (apply wo_po;apply mo_bin;exact rfl;exact rfl;apply bin_eq;apply eql_nil_nil;exact gY) | (apply wo_po;apply mo_bin;exact rfl;exact rfl;apply bin_ne;apply eql_iface_nil;exact gY) | refine wE ?_ | (apply wo_po;apply mo_conv;exact rfl;(first | exact wrap_i64 (by omega) (by omega) | exact wrap_u64 (by omega) (by omega));exact gY) | (apply wo_po;apply mo_min;exact rfl;exact rfl;exact gY) | refine wT ?_ | refine wF ?_ | refine we_ret ?_ | refine we_skip ?_ | refine we_label ?_ | refine we_block ?_ | refine we_scope ?_ | refine we_exit ?_)
 (first | refine or1 Try.func89 Try.results89 hQ rfl ?_ | refine on1 Try.func89 Try.results89 hQ rfl ?_)
 exact ⟨st,m',(by have h0:m=m'+1:=hm;omega),hok,rfl,rfl,rfl⟩
def FrStep (G:WGm) (N:Nat) (w:Nat) (s:FrS G) (f:G.σ→Nat→Nat) (R:G.σ→FrS G→Prop):Prop :=
 w<N∧∃ mk F,G.plan s.q=some (mk,F)∧(∀ st,G.ok st→(∀ i,i<N→G.wf (F st).1 i=f st i)∧G.zf (F st).1=G.zf st)∧∀ st n,n<s.n→G.ok st→R st ⟨(F st).2,n⟩
def freAcc (G:WGm) (addr:Nat→Nat × Nat) (N:Nat) (K:List (Nat × Nat × Value)) (A:Apart addr N K) (wg:Nat) (Cf:HProp):Acc fH .nilIface where
 S:=FrS G
 C:=fun _=>Cf
 x:=fun s=>frX G addr N K wg s
 step:=fun _ _ s R=>R s
 addr:=addr
 load:=fun w s R=>FrStep G N w s G.wf fun st s'=>R (G.wf st w) s'
 store:=fun w n s R=>FrStep G N w s (fun st=>upd (G.wf st) w n) fun _ s'=>R s'
 cas:=fun w a n s R=>FrStep G N w s (fun st=>if G.wf st w=a then upd (G.wf st) w n else G.wf st) fun st s'=>R (decide (G.wf st w=a)) s'
 add:=fun w n s R=>FrStep G N w s (fun st=>upd (G.wf st) w ((G.wf st w+n)%18446744073709551616)) fun st s'=>R ((G.wf st w+n)%18446744073709551616) s'
 swap:=fun w n s R=>FrStep G N w s (fun st=>upd (G.wf st) w n) fun st s'=>R (G.wf st w) s'
 gate:=.inl ⟨rfl,fun op w s R h=>h⟩
 load_ok:=fun w s R L F b o ha ⟨hw,mk,FF,hpl,hk,hR⟩ hh=>tr_star _ (fun h st=>hh.star st) ((load_free hw ha hpl hk).post fun v L' x' ⟨st,m',h1,h2,h3,h4,h5,h6⟩ =>
  ⟨_,⟨G.wf st w,⟨(FF st).2,m'⟩,h3,hR st m' h1 h2,h4,rfl,h6⟩,fun h st=>by rw [h5] at st;exact st⟩)
 store_ok:=fun w n s R L F b o ha hn ⟨hw,mk,FF,hpl,hk,hR⟩ hh=>tr_star _ (fun h st=>hh.star st) ((store_free A hw ha hn hpl hk).post fun v L' x' ⟨st,m',h1,h2,h4,h5,h6⟩ =>
  ⟨_,⟨⟨(FF st).2,m'⟩,hR st m' h1 h2,h4,rfl,h6⟩,fun h st=>by rw [h5] at st;exact st⟩)
 cas_ok:=fun w a n s R L F b o ha hn ⟨hw,mk,FF,hpl,hk,hR⟩ hh=>tr_star _ (fun h st=>hh.star st) ((cas_free A hw ha hn hpl hk).post fun v L' x' ⟨st,m',h1,h2,h4,h5,h6⟩ =>
  ⟨_,⟨_,⟨(FF st).2,m'⟩,hR st m' h1 h2,h4,rfl,h6⟩,fun h st=>by rw [h5] at st;exact st⟩)
 add_ok:=fun w n s R L F b o ha hn ⟨hw,mk,FF,hpl,hk,hR⟩ hh=>tr_star _ (fun h st=>hh.star st) ((add_free A hw ha hpl hk).post fun v L' x' ⟨st,m',h1,h2,h4,h5,h6⟩ =>
  ⟨_,⟨_,⟨(FF st).2,m'⟩,Nat.mod_lt _ (by decide),hR st m' h1 h2,h4,rfl,h6⟩,fun h st=>by rw [h5] at st;exact st⟩)
 swap_ok:=fun w n s R L F b o ha hn ⟨hw,mk,FF,hpl,hk,hR⟩ hh=>tr_star _ (fun h st=>hh.star st) ((swap_free A hw ha hn hpl hk).post fun v L' x' ⟨st,m',h1,h2,h3,h4,h5,h6⟩ =>
  ⟨_,⟨_,⟨(FF st).2,m'⟩,h3,hR st m' h1 h2,h4,rfl,h6⟩,fun h st=>by rw [h5] at st;exact st⟩)
end
end Go.Proofs.Ytkgnkloonamheaa
namespace Go.Proofs.Ytkgnkloonamheaa
open Go Go.PB
attribute [local irreducible] Mo Bin Eql Tr Wo Ap Wle
section
theorem cut_own2 {A:HProp} (hA:∀ r:Hp,A r→A { r with obj:=fun _=>none }) {r:Hp} (h:Star [A,fun _=>True] r):Star [A,fun _=>True] { r with obj:=fun _=>none }:=by
 obtain ⟨h1,h2,sp,c,h3⟩:=h
 exact ⟨{ h1 with obj:=fun _=>none },{ h2 with obj:=fun _=>none },⟨sp.r1,sp.r2,sp.o1,sp.o2,sp.od,fun _ _ e=>(by cases e),fun _ _ e=>(by cases e),fun _=>.inr rfl,sp.s1,sp.s2⟩,hA _ c,star_one trivial⟩
end
section
section
variable {B:Hand} [Lets B]
def kpAcc (x:B.X) (addr:Nat→Nat × Nat) (N:Nat) (A:Apart addr N []) (Cf:HProp):Acc B .nilIface where
 S:=Nat→Nat
 C:=fun s=>all [wds addr N [] s,Cf]
 x:=fun _=>x
 step:=fun _ _ s R=>R s
 addr:=addr
 load:=fun w s R=>w<N∧R (s w) s
 store:=fun w n s R=>w<N∧R (upd s w n)
 cas:=fun w a n s R=>w<N∧if s w=a then R true (upd s w n) else R false s
 add:=fun w n s R=>w<N∧R ((s w+n)%18446744073709551616) (upd s w ((s w+n)%18446744073709551616))
 swap:=fun w n s R=>w<N∧R (s w) (upd s w n)
 gate:=.inl ⟨rfl,fun _ _ _ _ h=>h⟩
 load_ok:=fun w s R L F b o ha hl hh=>tr_star _ (fun h st=>star_open (hh.star st)) (tr_pure (of_has .here fun h hc=>(hc.1 w hl.1).1) fun hs =>
  (load_lone (rd_wds .here hl.1 ha)).post fun v L' x' ⟨h1,h2,h3⟩=>⟨_,⟨s w,s,hs,hl.2,h1,rfl,h3⟩,fun h st=>star_shut (M:=[_,_]) (by rw [h2] at st;exact st)⟩)
 store_ok:=fun w n s R L F b o ha hn hl hh=>tr_star _ (fun h st=>star_open (hh.star st))
  ((store_lone (wt_wds A .here hl.1 ha hn)).post fun v L' x' ⟨h1,h2,h3⟩=>⟨_,⟨upd s w n,hl.2,h1,rfl,h3⟩,fun h st=>star_shut (M:=[_,_]) (by rw [h2] at st;exact st)⟩)
 cas_ok:=fun w m n s R L F b o ha hn hl hh=>tr_star _ (fun h st=>star_open (hh.star st))
  ((cas_lone (rd_wds .here hl.1 ha) (wt_wds A .here hl.1 ha hn)).post fun v L' x' ⟨h1,h2,h3⟩=>by
   obtain ⟨h4,h5⟩:=hl
   by_cases e:s w=m
   ·rw [if_pos e] at h5;rw [if_pos (by omega)] at h2;exact ⟨_,⟨true,_,h5,by rw [h1];simp [e],rfl,h3⟩,fun h st=>star_shut (M:=[_,_]) (by rw [h2] at st;exact st)⟩
   ·rw [if_neg e] at h5;rw [if_neg (by omega)] at h2;exact ⟨_,⟨false,_,h5,by rw [h1];simp;omega,rfl,h3⟩,fun h st=>star_shut (M:=[_,_]) (by rw [h2] at st;exact st)⟩)
 add_ok:=fun w n s R L F b o ha hn hl hh=>tr_star _ (fun h st=>star_open (hh.star st))
  ((add_lone (r:=((s w+n)%18446744073709551616:Nat)) (rd_wds .here hl.1 ha) (by rw [wrap_u64_mod];omega) (wt_wds A .here hl.1 ha (Nat.mod_lt _ (by decide)))).post fun v L' x' ⟨h1,h2,h3⟩=>⟨_,⟨_,_,Nat.mod_lt _ (by decide),hl.2,h1,rfl,h3⟩,fun h st=>star_shut (M:=[_,_]) (by rw [h2] at st;exact st)⟩)
 swap_ok:=fun w n s R L F b o ha hn hl hh=>tr_star _ (fun h st=>star_open (hh.star st)) (tr_pure (of_has .here fun h hc=>(hc.1 w hl.1).1) fun hs =>
  (swap_lone (rd_wds .here hl.1 ha) (wt_wds A .here hl.1 ha hn)).post fun v L' x' ⟨h1,h2,h3⟩=>⟨_,⟨s w,upd s w n,hs,hl.2,h1,rfl,h3⟩,fun h st=>star_shut (M:=[_,_]) (by rw [h2] at st;exact st)⟩)
end
end
end Go.Proofs.Ytkgnkloonamheaa
namespace Go.Proofs.Ytkgnkloonamheaa
open Go Go.PB
attribute [local irreducible] Mo Bin Eql Tr Wo
section
variable {B:Hand} [Lets B] {L:List HProp} {x:B.X}
theorem tmod_emod {n k:Int} (hk:0<k):(n.tmod k<0→n.tmod k+k=n%k)∧(¬ n.tmod k<0→n.tmod k=n%k):=by
 have h1:=Int.emod_nonneg n (by omega:k≠0)
 have h2:=Int.emod_lt_of_pos n hk
 have h3:n.tmod k=n%k-((if 0≤n∨k ∣ n then 0 else k.natAbs:Nat):Int):=Int.tmod_eq_emod
 have h4:=Int.tmod_lt_of_pos n hk
 split at h3
 ·constructor <;> intro h5 <;> omega
 ·rename_i hn
  have h6:n%k≠0:=fun h=>hn (.inr (Int.dvd_of_emod_eq_zero h))
  constructor <;> intro h5 <;> omega
theorem within_tr {n k:Int} (hn:-9223372036854775808≤n∧n≤9223372036854775807) (hk:0<k∧k≤1000000) :
  Tr Try.prog B 34 [.int .i64 n,.int .i64 k] L x fun v L' x'=>v=.int .i64 (n%k)∧L'=L∧x'=x:=by
 have ht:=tmod_emod (n:=n) hk.1
 have h1:=Int.emod_nonneg n (by omega:k≠0)
 have h2:=Int.emod_lt_of_pos n hk.1
 have hlt:=Int.tmod_lt_of_pos n hk.1
 obtain ⟨m,hm⟩:∃ m,n%k=m:=⟨_,rfl⟩
 obtain ⟨t,hte⟩:∃ t,n.tmod k=t:=⟨_,rfl⟩
 rw [hm] at ht h1 h2
 rw [hte] at ht hlt
 rw [hm]
 by_cases hneg:t<0
 ·have e:=ht.1 hneg
  refine tr_of_body Try.func34 rfl Try.ntmps34 (by simp) fun um Q _ hQ=>?_
  simp only [argE,Nat.zero_add,Nat.reduceAdd]
  repeat (first | (apply wo_po;apply mo_bin;exact rfl;exact rfl;apply bin_rem;omega;exact hte;exact trivial) | refine wlssT ?_ | refine we_seq ?_ | (refine wR ?_;try simp only [oS]) | refine wo_nil ?_ | refine wM ?_ | refine wA ?_ | refine wadd ?_ | refine wT ?_ | refine we_ret ?_)
  (first | refine or1 Try.func34 Try.results34 hQ rfl ?_ | refine on1 Try.func34 Try.results34 hQ rfl ?_)
  exact ⟨by rw [e],rfl,rfl⟩
 ·have e:=ht.2 hneg
  refine tr_of_body Try.func34 rfl Try.ntmps34 (by simp) fun um Q _ hQ=>?_
  simp only [argE,Nat.zero_add,Nat.reduceAdd]
  repeat (first | (apply wo_po;apply mo_bin;exact rfl;exact rfl;apply bin_rem;omega;exact hte;exact trivial) | refine wlssF ?_ | refine we_seq ?_ | (refine wR ?_;try simp only [oS]) | refine wo_nil ?_ | refine wM ?_ | refine wA ?_ | refine wF ?_ | refine we_ret ?_ | refine we_skip ?_)
  (first | refine or1 Try.func34 Try.results34 hQ rfl ?_ | refine on1 Try.func34 Try.results34 hQ rfl ?_)
  exact ⟨by rw [e],rfl,rfl⟩
end
end Go.Proofs.Ytkgnkloonamheaa
namespace Go.Proofs.Ytkgnkloonamheaa
open Go Go.PB
attribute [local irreducible] Mo Bin Eql Tr Wo Ap
section
def intC (l:List Int):List Value:=l.map fun k=>.int .i64 k
def orderF (m:Nat) (l:List Int):List Int:=(l.take 2000).map fun k=>k%((m:Int)+1)
section
variable {B:Hand} [Lets B] {L F:List HProp} {x:B.X}
def orderInv (x:B.X) (u:Value) (m:Nat) (l:List Int) (L:List HProp):Inv (Nat × Value) B.X where
 e:=fun i=>[(0,u),(1,.int .i64 (m:Nat)),(5,i.2),(6,.int .i64 (i.1:Nat))]
 L:=fun i=>vec 1 i.2 (intC ((l.take i.1).map fun k=>k%((m:Int)+1)))::L
 x:=fun _=>x
 ok:=fun i=>i.1≤l.length∧i.1≤2000
theorem order_tr {a:Option Addr} {c m:Nat} {l:List Int} (hr:RdsO L a l.length (intC l)) (hm:m<1000000) (hi:∀ k∈l,-9223372036854775808≤k∧k≤9223372036854775807) :
  Tr Try.prog B 58 [.slice a l.length c,.int .i64 (m:Nat)] L x fun v L' x'=>L'=vec 1 v (intC (orderF m l))::L∧x'=x:=by
 refine tr_of_body Try.func58 rfl Try.ntmps58 (by simp) fun um Q _ hQ=>?_
 simp only [argE,Nat.zero_add,Nat.reduceAdd]
 repeat (first | refine we_seq ?_ | (refine wR ?_;try simp only [oS]) | refine wo_nil ?_ | refine wA ?_ | refine we_block ?_)
 refine we_star (vec 1 (.slice none 0 0) (intC ((l.take 0).map fun k=>k%((m:Int)+1)))::L) (fun h st=>vec_nil st) ?_
 refine we_loopN (orderInv x (.slice a l.length c) m l L) (fun i=>l.length-i.1) (0,.slice none 0 0) ⟨Nat.zero_le _,Nat.zero_le _⟩ ⟨rfl,rfl,rfl,rfl,trivial⟩ .refl rfl ?_
 rintro ⟨i,v⟩ ⟨hil,hi2⟩
 simp only at hil hi2
 simp only [orderInv]
 refine we_pure (of_has .here (vec_shape (by omega))) ?_
 rintro ⟨va,vn,vc,rfl,hvn,_⟩
 have hvn:vn=i:=by simp [intC] at hvn;omega
 subst hvn
 by_cases hlt:vn<l.length
 ·by_cases h2:vn<2000
  ·obtain ⟨b,o,rfl,hrd⟩:=hr.rds (by omega)
   obtain ⟨k,hk⟩:∃ k,l[vn]?=some k:=⟨l[vn],List.getElem?_eq_getElem hlt⟩
   have hrk:∀ {d:HProp},Rd (d::L) b (o+vn) (.int .i64 k):=fun {d}=>.there (hrd vn _ (by simp [intC,hk]))
   repeat (first | (apply wo_po;apply mo_index1;exact rfl;exact rfl;omega;exact trivial) | (apply wo_po;apply mo_load;exact rfl;exact hrk;exact trivial) | refine wlssT ?_ | refine we_seq ?_ | (refine wR ?_;try simp only [oS]) | refine wo_nil ?_ | refine wM ?_ | refine wK ?_ | refine wadd ?_ | refine wE ?_ | refine wT ?_ | refine we_skip ?_ | refine we_block ?_)
   refine wo_call (.cons rfl (.cons rfl .nil)) trivial (within_tr (hi k (List.mem_of_getElem? hk)) (by omega)) ?_
   rintro v1 L1 x1 ⟨rfl,rfl,rfl⟩
   repeat (first | (apply wo_mo;apply mo_buildSlice (sz:=1) (vs:=[.int .i64 (k%((m:Int)+1))]);exact rfl;exact .cons rfl .nil;exact rfl;(intro v hv;cases (List.mem_singleton.1 hv);exact rfl);omega;exact trivial))
   rintro v' L' ⟨nb,rfl,rfl⟩
   repeat (first | (apply wo_mo;apply mo_append (sz:=1) (new:=[.int .i64 (k%((m:Int)+1))]);exact rfl;exact rfl;exact rfl;exact rfl;exact (.there .here);exact rfl;exact .inr ⟨_,_,rfl,Rds.all .here⟩;(intro v hv;cases (List.mem_singleton.1 hv);exact rfl);(simp only [sliceLen];omega);exact trivial))
   rintro v' L' rfl
   repeat (first | (refine wR ?_;try simp only [oS]) | refine wo_nil ?_ | refine wM ?_ | refine wA ?_ | refine wadd ?_)
   refine at_round (I:=orderInv x1 (.slice (some ⟨b,o,none⟩) l.length c) m l L) (R:=fun j=>l.length-j.1<l.length-vn) (vn+1,v') (by show l.length-(vn+1)<l.length-vn;omega) ⟨by omega,by omega⟩ ?_ ?_ rfl
   exact ⟨rfl,rfl,rfl,rfl,trivial⟩
   show Ent _ (vec 1 v' (intC ((l.take (vn+1)).map fun k=>k%((m:Int)+1)))::_)
   rw [show intC ((l.take (vn+1)).map fun k=>k%((m:Int)+1))=intC ((l.take vn).map fun k=>k%((m:Int)+1))++[.int .i64 (k%((m:Int)+1))] by rw [List.take_add_one,hk];simp [intC]]
   exact (.take .here (.drop .refl))
  ·obtain rfl:vn=2000:=by omega
   repeat (first | refine wlssT ?_ | refine wlssF ?_ | refine we_seq ?_ | (refine wR ?_;try simp only [oS]) | refine wo_nil ?_ | refine wM ?_ | refine wA ?_ | refine wK ?_ | refine wE ?_ | refine wF ?_ | refine we_ret ?_ | refine we_exit ?_)
   (first | refine or1 Try.func58 Try.results58 hQ rfl ?_ | refine on1 Try.func58 Try.results58 hQ rfl ?_)
   exact ⟨rfl,rfl⟩
 ·obtain rfl:vn=l.length:=by omega
  repeat (first | refine wlssF ?_ | refine we_seq ?_ | (refine wR ?_;try simp only [oS]) | refine wo_nil ?_ | refine wM ?_ | refine wA ?_ | (apply wo_no;exact rfl) | refine wJ ?_ | refine wE ?_ | refine wF ?_ | refine we_ret ?_ | refine we_exit ?_)
  (first | refine or1 Try.func58 Try.results58 hQ rfl ?_ | refine on1 Try.func58 Try.results58 hQ rfl ?_)
  refine ⟨?_,rfl⟩
  unfold orderF
  rw [List.take_of_length_le (by omega),List.take_of_length_le (by omega)]
end
end
end Go.Proofs.Ytkgnkloonamheaa
namespace Go.PB
open Go
section
def Dup (c:HProp):Prop:=∀ (L:List HProp) (h:Hp),Star (c::L) h→Star (c::c::L) h
theorem dup_fro {b o:Nat} {vs:List Value}:Dup (fro b o vs):=fun L h s=>fro_two s
theorem dup_base {W:World}:Dup (base W):=fun L h s=>by
 obtain ⟨h1,h2,s1,ha,hL⟩:=s
 exact ⟨⟨fun _ _=>none,h1.ro,fun _=>none,fun _=>none⟩,h,⟨fun _ _ _ e=>s1.r1 _ _ _ e,fun _ _ _ e=>e,fun _ _ _ e=>by simp at e,fun _ _ _ e=>e,fun _ _=>.inl rfl,fun _ _ e=>by simp at e,fun _ _ e=>e,fun _=>.inl rfl,fun _ _ e=>by simp at e,fun _ _ e=>e⟩,ha,h1,h2,s1,ha,hL⟩
theorem all_cons {c:HProp} {M L:List HProp} {h:Hp} (s:Star (all (c::M)::L) h):Star (c::all M::L) h :=
 star_map (star_open (M:=c::M) s) (fun _ z=>z) fun _ z=>star_shut z
theorem cons_all {c:HProp} {M L:List HProp} {h:Hp} (s:Star (c::all M::L) h):Star (all (c::M)::L) h :=
 star_shut (M:=c::M) (star_map s (fun _ z=>z) fun _ z=>star_open z)
theorem dup_all:∀ {M:List HProp},(∀ c∈M,Dup c)→Dup (all M)
 | [],_=>fun L h s=>star_shut (M:=[]) s
 | c::M,hM=>fun L h s=>by
  have s1:=hM c (by simp) _ _ (all_cons s)
  have s2:Star (all M::c::c::L) h:=Ent.star (.take (.there (.there .here)) (.take .here (.take .here .refl))) s1
  have s3:=dup_all (fun d hd=>hM d (by simp [hd])) _ _ s2
  have s4:Star (c::all M::c::all M::L) h:=Ent.star (.take (.there (.there .here)) (.take .here (.take (.there .here) (.take .here .refl)))) s3
  exact cons_all (star_map s4 (fun _ z=>z) fun _ z=>star_map z (fun _ z=>z) fun _ z=>cons_all z)
theorem dup_many {c:HProp} (hc:Dup c) {L:List HProp} {h:Hp} (s:Star (c::L) h):∀ n,Star (all (List.replicate n c)::c::L) h
 | 0=>star_shut (M:=[]) s
 | n+1=>by
  have s1:=dup_many hc s n
  have s2:=hc _ _ (star_swap s1)
  have s3:Star (c::all (List.replicate n c)::c::L) h:=Ent.star (.take .here (.take (.there .here) (.take .here .refl))) s2
  rw [List.replicate_succ]
  exact cons_all s3
theorem star_zip:∀ {As Bs L:List HProp} {h:Hp},As.length=Bs.length→Star (all As::all Bs::L) h→Star (all (List.zipWith (fun a b=>all [a,b]) As Bs)::L) h
 | [],[],L,h,_,s=>star_shut (M:=[]) (star_drop (star_drop s))
 | [],b::Bs,L,h,e,s=>by simp at e
 | a::As,[],L,h,e,s=>by simp at e
 | a::As,b::Bs,L,h,e,s=>by
  have s1:=all_cons s
  have s2:Star (all (b::Bs)::a::all As::L) h:=Ent.star (.take (.there (.there .here)) (.take .here (.take .here .refl))) s1
  have s3:=all_cons s2
  have s4:Star (all As::all Bs::a::b::L) h:=Ent.star (.take (.there (.there (.there .here))) (.take (.there .here) (.take (.there .here) (.take .here .refl)))) s3
  have s5:=star_zip (by simpa using e) s4
  have s6:Star (a::b::all (List.zipWith (fun a b=>all [a,b]) As Bs)::L) h:=Ent.star (.take (.there .here) (.take (.there .here) (.take .here .refl))) s5
  exact cons_all (star_shut (M:=[_,_]) s6)
theorem star_tail:∀ {M L:List HProp} {h:Hp},Star (M++L) h→Star (all L::M) h
 | [],L,h,s=>star_shut (L:=[]) (by rw [List.append_nil];exact s)
 | c::M,L,h,s=>star_swap (star_map (L:=M++L) s (fun _ z=>z) fun _ z=>star_tail z)
theorem zeros_rep {n:Nat} {v:Value}:zeros n [v]=List.replicate n v:=by
 unfold zeros
 induction n with
 | zero=>rfl
 | succ n ih=>rw [List.replicate_succ,List.flatten_cons,ih,List.replicate_succ];rfl
theorem rd_item {M L:List HProp} {c:HProp} {k b o:Nat} {v:Value} (e:M[k]?=some c) (r:Rd [c] b o v):Rd (all M::L) b o v:=fun h s=>by
 obtain ⟨h1,h2,sp,hc,hr⟩:=PB.star_pick e s
 exact (Rd.of (R:=all (M.eraseIdx k)::L) .here r) h ⟨h1,h2,sp,hc,hr⟩
end
end Go.PB
namespace Go.Proofs.Ytkgnkloonamheaa
open Go Go.PB
attribute [local irreducible] Mo Bin Eql Tr Wo Ap Wle
attribute [local instance] Pass.of_no
section
theorem rd_upW {L:List HProp}:∀ (M:List HProp) {b o:Nat} {v:Value},Rd L b o v→Rd (M++L) b o v
 | [],b,o,v,h=>h
 | c::M,b,o,v,h=>.there (rd_upW M h)
theorem rdso_upW {L:List HProp} (M:List HProp) {a:Option Addr} {n:Nat} {vs:List Value} (h:RdsO L a n vs):RdsO (M++L) a n vs :=
 ⟨h.1,h.2.imp id fun ⟨b,o,e,r⟩=>⟨b,o,e,fun i v hi=>rd_upW M (r i v hi)⟩⟩
theorem rd_allW {M L:List HProp} {b o:Nat} {v:Value} (r:Rd M b o v):Rd (all M::L) b o v:=fun h s =>
 r h (star_drop (star_tail (star_open s)))
theorem rdso_allW {M L:List HProp} {a:Option Addr} {n:Nat} {vs:List Value} (h:RdsO M a n vs):RdsO (all M::L) a n vs:=⟨h.1,h.2.imp id fun ⟨b,o,e,r⟩=>⟨b,o,e,fun i v hi=>rd_allW (r i v hi)⟩⟩
theorem rdsoW {L F:List HProp} {a:Option Addr} {n c:Nat} {cs:List Value} (hh:Has L (vec 1 (.slice a n c) cs) F) (hn:cs.length=n*1) (hz:a=none→n=0) (hy:∀ y,a=some y→y=⟨y.block,y.off,none⟩):RdsO L a n cs:=by
 refine ⟨by omega,?_⟩
 cases a with
 | none=>exact .inl (hz rfl)
 | some y =>
  obtain ⟨b,o,sp⟩:=y
  cases hy _ rfl
  exact .inr ⟨b,o,rfl,fun i v hi=>rd_vec hh hi⟩
section
variable {g:Game}
def thrW (ts:List (ThrT g)):List (Thr g):=ts.map fun t=>{ fv:=t.fv,ini:=fun s=>(s,t.q0),M:=t.M }
theorem startW:∀ (ts:List (ThrT g)) (s:g.σ),startF (thrW ts) s=(s,ts.map ThrT.q0)
 | [],s=>rfl
 | t::ts,s=>by
  have h:=startW ts s
  show ((startF (thrW ts) s).1,t.q0::(startF (thrW ts) s).2)=_
  rw [h];rfl
theorem startW_take (ts:List (ThrT g)) (s:g.σ) (j:Nat):(startF ((thrW ts).take j) s).1=s:=by
 have:(thrW ts).take j=thrW (ts.take j):=by unfold thrW;rw [List.map_take]
 rw [this,startW]
set_option maxHeartbeats 4000000 in
theorem way_tr {fd:FreeD g} {ts:List (ThrT g)} {s0:g.σ} {F:List HProp} {fr:Bool} {oa ta:Option Addr} {oc tn tc:Nat} {order:List Int} (hcut:∀ r,g.U s0 r→g.U s0 { r with obj:=fun _=>none }) (hq:fd.q0=ts.map ThrT.q0) (hI:fd.I s0 fd.q0) (hφ:fd.φ s0 fd.q0≤fd.N) (hlt:fd.φ s0 fd.q0<16384) (hfin:∀ q h,g.Pv q h→g.Fin q h)
  (htF:∀ t∈ts,ThrF g fd.N t) (htT:∀ t∈ts,ThrOk g (fun s=>(s,t.q0)) t.fv t.M) (h1:0<ts.length) (h16:ts.length≤16) (hrt:RdsO F ta tn (ts.map ThrT.fv)) (hro:RdsO F oa order.length (intC order)) (hoi:∀ k∈order,-9223372036854775808≤k∧k≤9223372036854775807) :
  Tr Try.prog mT 22 [.agg #[.bool fr,.slice oa order.length oc],.slice ta tn tc] (g.U s0::all (ts.map ThrT.M)::F) .idle fun v L' x' =>
   ∃ s qs,fd.I s qs∧(∀ q∈qs,g.plan q=none)∧qs.length=ts.length∧v=.bool true∧x'=.idle∧L'=g.U s::all (qs.map g.Fin)::F:=by
 refine Tr.post (R:=fun v L' x'=>∃ s qs,fd.I s qs∧(∀ q∈qs,g.plan q=none)∧qs.length=ts.length∧v=.bool true∧x'=MX.idle∧∀ h,Star L' h→Star (g.U s::all (qs.map g.Fin)::F) h) ?_
  (by rintro v L' x' ⟨s,qs,a1,a2,a3,rfl,rfl,h2⟩;exact ⟨_,⟨s,qs,a1,a2,a3,rfl,rfl,rfl⟩,h2⟩)
 have htn:tn=ts.length:=by have:=hrt.1;simpa using this
 subst htn
 refine tr_of_body Try.func22 rfl Try.ntmps22 (by simp) fun um Q _ hQ=>?_
 simp only [argE,Nat.zero_add,Nat.reduceAdd]
 repeat (first | (apply wo_mo;apply mo_box;exact rfl;exact trivial) | refine we_seq ?_ | (refine wR ?_;try simp only [oS]))
 rintro v' L' ⟨yb,rfl,rfl⟩
 refine wo_ent (arr yb 0 [.bool fr,.slice oa order.length oc]::g.U s0::all (ts.map ThrT.M)::F) .refl ?_
 cases fr with
 | true =>
  repeat (first | refine we_seq ?_ | (refine wR ?_;try simp only [oS]) | refine wo_nil ?_ | refine wM ?_ | refine wA ?_ | refine wD ?_ | refine wL ?_ | refine wT ?_)
  refine wo_ent (g.U s0::all (ts.map ThrT.M)::F) (.take (.there .here) (.take (.there .here) (.drop .refl))) ?_
  refine wo_call (.cons rfl .nil) trivial (free_tr (fd:=fd) hcut hq hI hφ hfin htF h1 h16 hrt) ?_
  rintro v1 L1 x1 ⟨s,qs,b1,b2,b3,rfl,rfl,rfl⟩
  repeat (first | refine weqlT ?_ | refine wo_nil ?_ | refine wA ?_ | refine we_ret ?_)
  (first | refine or1 Try.func22 Try.results22 hQ rfl ?_ | refine on1 Try.func22 Try.results22 hQ rfl ?_)
  exact ⟨s,qs,b1,b2,b3,rfl,rfl,fun h st=>st⟩
 | false =>
  repeat (first | refine we_seq ?_ | (refine wR ?_;try simp only [oS]) | refine wo_nil ?_ | refine wM ?_ | refine wA ?_ | refine wD ?_ | refine wL ?_ | refine wE ?_ | refine wF ?_ | refine we_skip ?_)
  refine wo_call (.cons rfl (.cons rfl .nil)) trivial (order_tr (m:=ts.length) (rdso_upW [_,_,_] hro) (by omega) hoi) ?_
  rintro odv L1 x1 ⟨rfl,rfl⟩
  refine wo_pure (of_has .here (vec_shape (by omega))) ?_
  rintro ⟨oda,odn,odc,rfl,hodn,_,hodz,hody⟩
  have hol:(orderF ts.length order).length≤4096:=by simp only [orderF,List.length_map,List.length_take];omega
  obtain rfl:odn=(orderF ts.length order).length:=by simp [intC] at hodn;omega
  have hs:∀ (p:PS g) k,fd.I p.s p.qs→fd.I (takeF p k).1.s (takeF p k).1.qs∧((takeF p k).2=true→fd.φ (takeF p k).1.s (takeF p k).1.qs+1≤fd.φ p.s p.qs):=fun p k h=>by
   rcases takeF_cases p k with e | ⟨m,q,mk,f,_,hq,hp,_,e⟩
   ·rw [e];exact ⟨h,fun h=>by cases h⟩
   ·rw [e]
    obtain ⟨b1,b2⟩:=fd.step _ _ _ _ _ _ h hq hp
    exact ⟨b1,fun _=>b2⟩
  have hI0:fd.I (startF (thrW ts) s0).1 (startF (thrW ts) s0).2:=by rw [startW,← hq];exact hI
  have hlen:(thrW ts).length=ts.length:=by simp [thrW]
  have hfv:(thrW ts).map Thr.fv=ts.map ThrT.fv:=by simp [thrW]
  have hM:(thrW ts).map Thr.M=ts.map ThrT.M:=by simp [thrW]
  obtain ⟨hIe,_,hdone⟩:=play_ends (I:=fun p:PS g=>fd.I p.s p.qs) (Φ:=fun p=>fd.φ p.s p.qs) (ts:=thrW ts) (s:=s0) (o:=orderF ts.length order) (n:=fd.φ s0 fd.q0) (fun p k h=>(hs p k h).1) (fun p k h=>(hs p k h).2) hI0 (by show fd.φ (startF (thrW ts) s0).1 (startF (thrW ts) s0).2≤_;rw [startW,← hq];exact Nat.le_refl _) hlt
  have hcn:=cutN_nil (n:=(thrW ts).length) hdone
  refine wo_ent (g.U s0::all (ts.map ThrT.M)::vec 1 (.slice oda (orderF ts.length order).length odc) (intC (orderF ts.length order))::arr yb 0 [.bool false,.slice oa order.length oc]::F) (.take (.there (.there .here)) (.take (.there (.there .here)) (.take .here (.take .here .refl)))) ?_
  rw [← hM]
  repeat (first | refine wM ?_)
  refine wo_call (.cons rfl (.cons rfl .nil)) trivial (plays_tr (ts:=thrW ts) (s0:=s0) (order:=orderF ts.length order) (fun p:PS g=>fd.I p.s p.qs) (fun j hj=>by rw [startW_take];exact fd.ok _ _ hI) hI0 (fun p k h=>(hs p k h).1) (fun p h _=>fd.ok _ _ h) hfin (fun t ht=>?_) (by rw [hlen];exact h1) (by rw [hlen];exact h16) (by omega) (by rw [hfv];exact hrt.there.there) (rdsoW .here (by simp [intC]) hodz hody)) ?_
  ·obtain ⟨u,hu,rfl⟩:=List.mem_map.1 ht
   exact htT u hu
  rintro v1 L1 x1 ⟨tv2,cv2,rfl,rfl,rfl⟩
  rw [hcn]
  have hql:(playF (thrW ts) s0 (orderF ts.length order)).qs.length=ts.length:=by
   rw [playF_len];exact hlen
  generalize playF (thrW ts) s0 (orderF ts.length order)=p at hIe hdone hql hcn ⊢
  refine wo_pure (of_has (.there .here) (vec_shape (by omega))) ?_
  rintro ⟨a2,n2,c2,rfl,hn2',_,_⟩
  obtain rfl:n2=0:=by simp [cutC] at hn2';omega
  refine wo_pure (of_has .here (vec_shape (by omega))) ?_
  rintro ⟨a1,n1,c1,rfl,hn1,_⟩
  repeat (first | (apply wo_mo;apply mo_alloc;exact trivial) | refine wM ?_ | (apply wo_po;apply mo_extract;exact rfl;exact rfl;exact gY))
  rintro v' L' ⟨pb3,rfl,rfl⟩
  repeat (first | (apply wo_pm;apply mo_storeA (c:=0) (k:=0) (a:=0) (vs:=[.slice none 0 0,.slice none 0 0]);exact rfl;exact rfl;exact rfl;(intro w hw;simp [Value.cells] at hw;rcases hw with rfl | rfl <;> rfl);exact rfl;exact Nat.le_refl 2;exact .here;exact trivial) | refine weqlT ?_ | refine we_seq ?_ | (refine wR ?_;try simp only [oS]) | refine wo_nil ?_ | refine wM ?_ | refine wA ?_ | refine wK ?_ | refine wD ?_ | refine wL ?_ | refine wE ?_ | refine we_ret ?_)
  (first | refine or1 Try.func22 Try.results22 hQ rfl ?_ | refine on1 Try.func22 Try.results22 hQ rfl ?_)
  refine ⟨p.s,p.qs,hIe,fun q hq=>?_,hql,rfl,rfl,fun h st=>Ent.star (.take (.there (.there (.there .here))) (.take (.there (.there (.there .here))) (.drop (.drop (.drop (.drop (.drop .refl))))))) st⟩
  obtain ⟨k,hk⟩:=List.mem_iff_getElem?.1 hq
  exact hdone k q hk
end
end
end Go.Proofs.Ytkgnkloonamheaa
namespace Go.Proofs.Ytkgnkloonamheaa
open Go Go.PB
attribute [local irreducible] Mo Bin Eql Tr Wo Ap Wle
section
def cbP (sb gb k:Nat) (sum:Int):HProp:=all [arr sb k [.int .i64 sum],arr gb k [.bool true]]
def cbW (most sb gb:Nat):WGm where
 σ:=Nat
 θ:=CbQ
 ζ:=Unit
 wf:=fun s _=>s
 zf:=fun _=>()
 Z:=fun _ _=>True
 plan:=cbPlan most
 ok:=fun s=>s≤most
 Pv:=fun q=>all [cbP sb gb q.k q.sum]
 up:=fun q h st=>star_open (M:=[_]) st
section
variable {most sb gb r k:Nat} {sa says turn fin wg:Nat} {Pm Cf Ro:HProp} {y sum:Int} {rest:List Int}
theorem all_oneC {p:HProp} {M:List HProp}:∀ h,all (p::M) h→all [p] h:=fun h z=>by
 obtain ⟨h1,h2,sp,c,_⟩:=z
 exact ⟨h1,h2,sp,c,trivial⟩
structure CbS (q:CbQ) (s:GaS (cbW most sb gb)):Prop where
 q:s.q=q
 f:s.f 0=(show Nat from s.s)
end
end
section
def oAddr (r fr:Nat):Nat→Nat × Nat
 | 0=>(fr,1)
 | _+1=>(r,1)
theorem o_apart {r fr:Nat} (hne:fr≠r):Apart (oAddr r fr) 2 [] where
 inj:=fun i j hi hj h=>by
  match i,j,hi,hj with
  | 0,0,_,_=>rfl
  | 1,1,_,_=>rfl
  | 0,1,_,_=>exact absurd (Prod.mk.inj h).1 hne
  | 1,0,_,_=>exact absurd (Prod.mk.inj h).1.symm hne
 fix:=fun i _ k hk=>by simp at hk
def coWf (s:Nat × Nat):Nat→Nat
 | 0=>s.1
 | _+1=>s.2
theorem coWf_all {s:Nat × Nat} {f:Nat→Nat} (h0:f 0=s.1) (h1:f 1=s.2):∀ j,j<2→f j=coWf s j
 | 0,_=>h0
 | 1,_=>h1
def coP (sb k set:Nat):HProp:=arr sb k [.int .i64 (set:Nat)]
def coW (sb:Nat):WGm where
 σ:=Nat × Nat
 θ:=CoQ
 ζ:=Unit
 wf:=coWf
 zf:=fun _=>()
 Z:=fun _ _=>True
 plan:=coPlan
 ok:=fun _=>True
 Pv:=fun q=>all [coP sb q.k q.set]
 up:=fun q h st=>star_open (M:=[_]) st
section
variable {sb r fr k:Nat} {hne:fr≠r} {sa says turn fin wg:Nat} {Pm Cf Ro:HProp} {set:Nat} {y:Bool × Nat} {rest:List (Bool × Nat)}
theorem gv_go {G:WGm} {addr:Nat→Nat × Nat} {N:Nat} {K:List (Nat × Nat × Value)} {A:Apart addr N K} {φ:Nat→Nat} {op w:Nat} {o:Int} {s:GaS G} {R:GaS G→Prop} {F:G.σ→G.σ × G.θ} (ho:((op:Nat):Int)=o) (hp:G.plan s.q=some ((((op:Nat):Int),((w:Nat):Int)),F)) (hf:∀ i,i<N→s.f i=G.wf s.s i) (hc:s.c=G.zf s.s) (hpm:∀ h,Pm h→G.Pv s.q h)
  (hR:∀ s' n,n<s.n→G.ok s'→R ⟨G.wf s',G.zf s',(F s').1,(F s').2,n⟩):(viewAcc (gamAcc G addr N K A sa says turn fin wg Pm) φ).step o w s R:=ga_go (A:=A) (sb:=sa) (says:=says) (turn:=turn) (fin:=fin) (wg:=wg) ho hp hf hc hpm hR
abbrev coA (sb r fr:Nat) (hne:fr≠r) (sa says turn fin wg:Nat) (Pm:HProp):Acc tH (gateV sa):=gamAcc (coW sb) (oAddr r fr) 2 [] (o_apart hne) sa says turn fin wg Pm
abbrev coB (sb r fr:Nat) (hne:fr≠r) (sa says turn fin wg:Nat) (Pm:HProp):Acc tH (gateV sa):=viewAcc (coA sb r fr hne sa says turn fin wg Pm) fun _=>1
theorem coA_at (hC:Rd [Ro] fr 0 (.bool true)) {p:HProp}:CntAt (coA sb r fr hne sa says turn fin wg (all [p,Ro])) fr where
 hdr:=fun s=>rd_allW (.there (.there (.there (rd_allW (.there hC)))))
 a:=rfl
theorem coB_at (hC:Rd [Ro] r 0 (.bool true)) {p:HProp}:CntAt (coB sb r fr hne sa says turn fin wg (all [p,Ro])) r where
 hdr:=fun s=>rd_allW (.there (.there (.there (rd_allW (.there hC)))))
 a:=rfl
structure CoS (q:CoQ) (s:GaS (coW sb)):Prop where
 q:s.q=q
 f0:s.f 0=(show Nat × Nat from s.s).1
 f1:s.f 1=(show Nat × Nat from s.s).2
theorem coA_set {s:GaS (coW sb)} (hs:CoS ⟨y::rest,.a,set,k⟩ s) :
  (coA sb r fr hne sa says turn fin wg (all [coP sb k set,Ro])).step 4 0 s fun s=>(coA sb r fr hne sa says turn fin wg (all [coP sb k set,Ro])).swap 0 1 s fun o s'=>CoS (coSet y rest set k o) s':=by
 obtain ⟨sf,sc,ss,sq,sn⟩:=s
 obtain ⟨hq,h0,h1⟩:=hs
 dsimp only at hq h0 h1
 subst hq
 refine ga_go (G:=coW sb) (N:=2) (op:=4) (R:=fun s=>(coA sb r fr hne sa says turn fin wg (all [coP sb k set,Ro])).swap 0 1 s fun o s'=>CoS (coSet y rest set k o) s') rfl rfl (fun j hj=>coWf_all h0 h1 j hj) rfl all_oneC fun (st:Nat × Nat) m1 hm1 hok=>⟨by omega,?_⟩
 exact ⟨rfl,rfl,rfl⟩
theorem coB_max {s:GaS (coW sb)} (hs:CoS ⟨y::rest,.b,set,k⟩ s) :
  ChangeT (coB sb r fr hne sa says turn fin wg (all [coP sb k set,Ro])) (maxG y.2) s fun o q s'=>CoS ⟨rest,.a,set,k⟩ s':=by
 intro X hX
 suffices H:∀ (N:Nat) (s:GaS (coW sb)),s.n<N→CoS ⟨y::rest,.b,set,k⟩ s→X s from H (s.n+1) s (Nat.lt_succ_self _) hs
 intro N
 induction N with
 | zero=>intro s hN;omega
 | succ N ih =>
  intro s hN hs
  obtain ⟨sf,sc,ss,sq,sn⟩:=s
  obtain ⟨hq,h0,h1⟩:=hs
  dsimp only at hq h0 h1 hN
  subst hq
  refine hX _ ?_
  unfold ChangeF
  refine gv_go (op:=1) rfl rfl (fun j hj=>coWf_all h0 h1 j hj) rfl all_oneC fun (st:Nat × Nat) m1 hm1 hok=>⟨(by show 1<2;omega),?_⟩
  show if decide (st.2<y.2)=true then _ else _
  by_cases c:st.2<y.2
  ·rw [if_pos (by simpa using c)]
   simp only [if_pos c]
   refine gv_go (op:=5) rfl rfl (fun j hj=>coWf_all rfl rfl j hj) rfl all_oneC fun (st2:Nat × Nat) m2 hm2 hok2=>⟨(by show 1<2;omega),?_⟩
   show if st2.2=st.2 then _ else _
   by_cases c3:st2.2=st.2
   ·rw [if_pos c3]
    show ite (true=true) _ _
    rw [if_pos rfl]
    simp only [if_pos c3]
    exact ⟨rfl,rfl,rfl⟩
   ·rw [if_neg c3]
    simp only [if_neg c3]
    show ite (false=true) _ _
    rw [if_neg (by decide)]
    exact ih _ (by dsimp only at hm1 hm2 ⊢;omega) ⟨rfl,rfl,rfl⟩
  ·rw [if_neg (by simpa using c)]
   simp only [if_neg c]
   exact ⟨rfl,rfl,rfl⟩
abbrev coF (sb r fr:Nat) (hne:fr≠r) (wg:Nat) (Cf:HProp):Acc fH .nilIface:=freAcc (coW sb) (oAddr r fr) 2 [] (o_apart hne) wg Cf
abbrev coG (sb r fr:Nat) (hne:fr≠r) (wg:Nat) (Cf:HProp):Acc fH .nilIface:=viewAcc (coF sb r fr hne wg Cf) fun _=>1
theorem coF_at (hC:Rd [Ro] fr 0 (.bool true)) {p:HProp}:CntAt (coF sb r fr hne wg (all [p,Ro])) fr where
 hdr:=fun s=>rd_allW (.there hC)
 a:=rfl
theorem coG_at (hC:Rd [Ro] r 0 (.bool true)) {p:HProp}:CntAt (coG sb r fr hne wg (all [p,Ro])) r where
 hdr:=fun s=>rd_allW (.there hC)
 a:=rfl
def CoE (q:CoQ) (s:FrS (coW sb)):Prop:=s.q=q
theorem coF_set {s:FrS (coW sb)} (hs:CoE ⟨y::rest,.a,set,k⟩ s) :
  (coF sb r fr hne wg Cf).step 4 0 s fun s=>(coF sb r fr hne wg Cf).swap 0 1 s fun o s'=>CoE (coSet y rest set k o) s':=by
 obtain ⟨sq,sn⟩:=s
 have hq:sq=⟨y::rest,.a,set,k⟩:=hs
 subst hq
 refine ⟨by omega,_,_,rfl,fun (st:Nat × Nat) _=>⟨fun i hi=>(coWf_all (s:=(1,st.2)) (f:=upd (coWf st) 0 1) rfl rfl i hi).symm,rfl⟩,fun (st:Nat × Nat) m1 hm1 hok=>rfl⟩
theorem coG_max {s:FrS (coW sb)} (hs:CoE ⟨y::rest,.b,set,k⟩ s) :
  ChangeT (coG sb r fr hne wg Cf) (maxG y.2) s fun o q s'=>CoE ⟨rest,.a,set,k⟩ s':=by
 obtain ⟨sq,sn⟩:=s
 have hq:sq=⟨y::rest,.b,set,k⟩:=hs
 subst hq
 intro X hX
 have key:∀ m,X ⟨(⟨y::rest,.b,set,k⟩:CoQ),m⟩:=by
  intro m
  induction m using Nat.strongRecOn with
  | _ m ih =>
  refine hX _ ?_
  unfold ChangeF
  refine ⟨(by show 1<2;omega),_,_,rfl,fun (st:Nat × Nat) _=>⟨fun i _=>rfl,rfl⟩,fun (st:Nat × Nat) m1 hm1 hok=>?_⟩
  have hm1':m1<m:=hm1
  show if decide (st.2<y.2)=true then _ else _
  by_cases c:st.2<y.2
  ·rw [if_pos (by simpa using c)]
   simp only [if_pos c]
   refine ⟨(by show 1<2;omega),_,_,rfl,fun (st2:Nat × Nat) _=>?_,fun (st2:Nat × Nat) m2 hm2 _=>?_⟩
   ·by_cases c3:st2.2=st.2
    ·refine ⟨fun i hi=>?_,rfl⟩
     simp only [if_pos c3]
     show coWf (st2.1,y.2) i=(if st2.2=st.2 then upd (coWf st2) 1 y.2 else coWf st2) i
     rw [if_pos c3]
     exact (coWf_all (s:=(st2.1,y.2)) (f:=upd (coWf st2) 1 y.2) rfl rfl i hi).symm
    ·refine ⟨fun i hi=>?_,rfl⟩
     simp only [if_neg c3]
     show coWf st2 i=(if st2.2=st.2 then upd (coWf st2) 1 y.2 else coWf st2) i
     rw [if_neg c3]
   ·have hm2':m2<m1:=hm2
    show if decide (st2.2=st.2)=true then _ else _
    by_cases c3:st2.2=st.2
    ·rw [if_pos (by simpa using c3)]
     simp only [if_pos c3]
     exact rfl
    ·rw [if_neg (by simpa using c3)]
     simp only [if_neg c3]
     exact ih m2 (by omega)
  ·rw [if_neg (by simpa using c)]
   simp only [if_neg c]
   exact rfl
 exact key sn
end
end
end Go.Proofs.Ytkgnkloonamheaa
namespace Go.Proofs.Ytkgnkloonamheaa
open Go Go.PB
attribute [local irreducible] Mo Bin Eql Tr Wo Ap Wle
attribute [local instance] Pass.of_no
section
abbrev i8C (l:List Int):List Value:=l.map fun y=>.int .i8 y
structure CbRo (Ro:HProp) (g10 ib xb cb7 mb s9 sb gb r nt k most tl tc:Nat) (ta:Option Addr) (l:List Int):Prop where
 h1:Rd [Ro] g10 0 (.slice (some ⟨gb,0,none⟩) nt nt)
 h2:Rd [Ro] ib 0 (.int .i64 (k:Nat))
 h3:Rd [Ro] xb 0 (.slice ta tl tc)
 h4:k<tl→∃ tb to a c,ta=some ⟨tb,to,none⟩∧Rd [Ro] tb (to+k) (.slice a l.length c)∧RdsO [Ro] a l.length (i8C l)
 h4':¬ k<tl→l=[]
 h5:Rd [Ro] cb7 (0+0) (.pointer (some ⟨r,0,none⟩))
 h6:Rd [Ro] mb 0 (.int .u64 (most:Nat))
 h7:Rd [Ro] s9 0 (.slice (some ⟨sb,0,none⟩) nt nt)
 hC:Rd [Ro] r 0 (.bool true)
 hk:k<nt
 hn:nt≤6
 hm:most<200
 hy:∀ y∈l,-128≤y∧y≤127
section
variable {B:Hand} [Lets B] {gv:Value} {S:Type} {x:S→B.X} {C:Int→S→HProp} {C0:S→HProp} {J:List Int→Int→S→Prop} {Ro:HProp} {F:List HProp} {g10 ib xb cb7 mb s9 sb gb r nt k most tl tc:Nat} {ta:Option Addr} {l:List Int}
end
section
variable {Ro:HProp} {g10 ib xb cb7 mb s9 sb gb r nt k most tl tc:Nat} {ta:Option Addr} {l:List Int}
theorem cb_opG {G:WGm} {addr:Nat→Nat × Nat} {N sb says turn fin:Nat} {K:List (Nat × Nat × Value)} {f:Nat→Nat} {c:G.ζ} {p:HProp} {R:List HProp} {h:Hp} (st:Star (gaC G addr N K sb says turn fin (all [p,Ro]) f c::R) h):Star (p::gaC G addr N K sb says turn fin Ro f c::R) h:=by
 have s1:Star (wds addr N K f::G.Z c::seatR sb says turn fin::all [p,Ro]::R) h:=star_open (M:=[_,_,_,_]) st
 have s2:Star (all [p,Ro]::wds addr N K f::G.Z c::seatR sb says turn fin::R) h:=Ent.star (.take (.there (.there (.there .here))) (.take .here (.take .here (.take .here .refl)))) s1
 have s3:Star (p::Ro::wds addr N K f::G.Z c::seatR sb says turn fin::R) h:=star_open (M:=[_,_]) s2
 have s4:Star (wds addr N K f::G.Z c::seatR sb says turn fin::Ro::p::R) h:=Ent.star (.take (.there (.there .here)) (.take (.there (.there .here)) (.take (.there (.there .here)) (.take (.there .here) (.take .here .refl))))) s3
 exact star_swap (star_shut (M:=[_,_,_,_]) s4)
theorem cb_shG {G:WGm} {addr:Nat→Nat × Nat} {N sb says turn fin:Nat} {K:List (Nat × Nat × Value)} {f:Nat→Nat} {c:G.ζ} {p:HProp} {R:List HProp} {h:Hp} (st:Star (p::gaC G addr N K sb says turn fin Ro f c::R) h):Star (gaC G addr N K sb says turn fin (all [p,Ro]) f c::R) h:=by
 have s1:Star (wds addr N K f::G.Z c::seatR sb says turn fin::Ro::p::R) h:=star_open (M:=[_,_,_,_]) (star_swap st)
 have s2:Star (p::Ro::wds addr N K f::G.Z c::seatR sb says turn fin::R) h:=Ent.star (.take (.there (.there (.there (.there .here)))) (.take (.there (.there (.there .here))) (.take .here (.take .here (.take .here .refl))))) s1
 have s3:Star (all [p,Ro]::wds addr N K f::G.Z c::seatR sb says turn fin::R) h:=star_shut (M:=[_,_]) s2
 exact star_shut (M:=[_,_,_,_]) (Ent.star (.take (.there .here) (.take (.there .here) (.take (.there .here) (.take .here .refl)))) s3)
end
end
end Go.Proofs.Ytkgnkloonamheaa
