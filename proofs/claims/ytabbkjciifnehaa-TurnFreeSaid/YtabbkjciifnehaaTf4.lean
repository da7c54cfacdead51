/-
  Part 4 of 6.
-/
import Derived.Test.YtabbkjciifnehaaTf3
import Derived.Test.YtabbkjciifnehaaTf2
import Derived.Conc.WgGenN2
set_option linter.unusedVariables false
set_option linter.unusedSimpArgs false
namespace Go.Proofs.Ytabbkjciifnehaa
open Go Go.PB
attribute [local irreducible] Mo Bin Eql Tr Wo Ap Wle
attribute [local instance] Pass.of_no
section
structure Thr (g:Game) where
 fv:Value
 ini:g.σ→g.σ × g.θ
 M:HProp
section
variable {g:Game}
def startF:List (Thr g)→g.σ→g.σ × List g.θ
 | [],s=>(s,[])
 | t::ts,s=>((startF ts (t.ini s).1).1,(t.ini s).2::(startF ts (t.ini s).1).2)
theorem startF_snoc {t:Thr g}:∀ (l:List (Thr g)) (s:g.σ),startF (l++[t]) s=((t.ini (startF l s).1).1,(startF l s).2++[(t.ini (startF l s).1).2])
 | [],s=>rfl
 | a::l,s=>by simp only [List.cons_append,startF,startF_snoc l]
theorem startF_len:∀ (l:List (Thr g)) (s:g.σ),(startF l s).2.length=l.length
 | [],s=>rfl
 | a::l,s=>by simp [startF,startF_len l]
def ordF (p:PS g) (order:List Int):PS g:=order.foldl (fun p k=>(takeF p k).1) p
def roundF (p:PS g):Nat→PS g × Bool
 | 0=>(p,false)
 | k+1=>((takeF (roundF p k).1 k).1,(takeF (roundF p k).1 k).2||(roundF p k).2)
def restF:Nat→PS g→PS g
 | 0,p=>p
 | n+1,p=>if (roundF p p.qs.length).2=true then restF n (roundF p p.qs.length).1 else (roundF p p.qs.length).1
def playF (ts:List (Thr g)) (s:g.σ) (order:List Int):PS g:=restF 16385 (ordF ⟨(startF ts s).1,(startF ts s).2,[]⟩ order)
def cutC (l:List Nat):List Value:=l.map fun k=>.int .i64 (k:Nat)
theorem roundF_len (p:PS g):∀ n,(roundF p n).1.qs.length=p.qs.length
 | 0=>rfl
 | n+1=>by show (takeF _ _).1.qs.length=_;rw [takeF_len,roundF_len p n]
theorem roundF_le {p:PS g} (h:p.tr.length≤16384):∀ n,(roundF p n).1.tr.length≤16384
 | 0=>h
 | n+1=>takeF_le (roundF_le h n) _
theorem takeF_cases (p:PS g) (k:Int):takeF p k=(p,false)∨∃ (n:Nat) (q:g.θ) (m:Int × Int) (f:g.σ→g.σ × g.θ),k=n∧p.qs[n]?=some q∧g.plan q=some (m,f)∧p.tr.length≠16384∧takeF p k=(⟨(f p.s).1,p.qs.set n (f p.s).2,p.tr++[(n,m)]⟩,true):=by
 by_cases h0:k<0
 ·left;unfold takeF;rw [if_pos h0]
 obtain ⟨n,rfl⟩:∃ n:Nat,k=n:=⟨k.toNat,by omega⟩
 cases hq:p.qs[n]? with
 | none=>left;unfold takeF;rw [if_neg h0,Int.toNat_natCast,hq]
 | some q =>
  cases hpl:g.plan q with
  | none=>left;unfold takeF;rw [if_neg h0,Int.toNat_natCast,hq];simp only [hpl]
  | some mf =>
   obtain ⟨m,f⟩:=mf
   by_cases htr:p.tr.length=16384
   ·left;unfold takeF;rw [if_neg h0,Int.toNat_natCast,hq];simp only [hpl,if_pos htr]
   ·right;refine ⟨n,q,m,f,rfl,hq,hpl,htr,?_⟩
    unfold takeF;rw [if_neg h0,Int.toNat_natCast,hq];simp only [hpl,if_neg htr]
theorem takeF_grow (p:PS g) (k:Int):p.tr.length+(if (takeF p k).2=true then 1 else 0)≤(takeF p k).1.tr.length:=by
 rcases takeF_cases p k with h | ⟨n,q,m,f,_,_,_,_,h⟩ <;> rw [h] <;> simp
theorem roundF_grow (p:PS g):∀ n,p.tr.length+(if (roundF p n).2=true then 1 else 0)≤(roundF p n).1.tr.length
 | 0=>by simp [roundF]
 | n+1=>by
  have h1:=roundF_grow p n
  have h2:=takeF_grow (roundF p n).1 n
  show p.tr.length+(if ((takeF (roundF p n).1 n).2||(roundF p n).2)=true then 1 else 0)≤(takeF (roundF p n).1 n).1.tr.length
  cases h3:(takeF (roundF p n).1 n).2 <;> cases h4:(roundF p n).2 <;> simp [h3,h4] at h1 h2 ⊢ <;> omega
theorem ordF_len (order:List Int):∀ p:PS g,(ordF p order).qs.length=p.qs.length:=by
 induction order with
 | nil=>intro p;rfl
 | cons k l ih=>intro p;show (ordF (takeF p k).1 l).qs.length=_;rw [ih,takeF_len]
theorem ordF_le (order:List Int):∀ p:PS g,p.tr.length≤16384→(ordF p order).tr.length≤16384:=by
 induction order with
 | nil=>intro p h;exact h
 | cons k l ih=>intro p h;exact ih _ (takeF_le h k)
theorem ordF_snoc (p:PS g) (l:List Int) (k:Int):ordF p (l++[k])=(takeF (ordF p l) k).1:=by simp [ordF]
def cutN (g:Game) (qs:List g.θ) (j:Nat):List Nat:=(List.range j).filter fun k=>((qs[k]?).bind g.plan).isSome
theorem cutN_succ {qs:List g.θ} {j:Nat}:cutN g qs (j+1)=cutN g qs j++(if ((qs[j]?).bind g.plan).isSome=true then [j] else []):=by
 unfold cutN
 rw [List.range_succ,List.filter_append]
 congr 1
 simp only [List.filter_cons,List.filter_nil]
def shutS (ids:List SId) (qs:List g.θ) (j:Nat):List (Seat g.σ g.θ):=(List.zip ids qs).mapIdx fun k iq=>if k<j then ⟨iq.1.says,iq.1.turn,iq.1.fin,.shut iq.2⟩ else seatS iq.1 iq.2
theorem shutS_zero {ids:List SId} {qs:List g.θ}:shutS ids qs 0=seatSs ids qs:=by
 apply List.ext_getElem?
 intro k
 simp only [shutS,List.getElem?_mapIdx,seatSs,List.getElem?_zipWith,List.getElem?_zip_eq_some,List.zip,Nat.not_lt_zero,if_false]
 cases ids[k]? <;> cases qs[k]? <;> rfl
theorem shutS_len {ids:List SId} {qs:List g.θ} {j:Nat} (h:ids.length=qs.length):(shutS ids qs j).length=ids.length:=by simp [shutS];omega
theorem shutS_get {ids:List SId} {qs:List g.θ} {j k:Nat} {i:SId} {q:g.θ} (hi:ids[k]?=some i) (hq:qs[k]?=some q):(shutS ids qs j)[k]?=some (if k<j then ⟨i.says,i.turn,i.fin,.shut q⟩ else seatS i q):=by
 simp [shutS,List.getElem?_mapIdx,List.zip,List.getElem?_zipWith,hi,hq]
theorem shutS_succ {ids:List SId} {qs:List g.θ} {j:Nat} {i:SId} {q:g.θ} (hi:ids[j]?=some i) (hq:qs[j]?=some q):(shutS ids qs j).set j ⟨i.says,i.turn,i.fin,.shut q⟩=shutS ids qs (j+1):=by
 apply List.ext_getElem?
 intro k
 have hj:j<(shutS ids qs j).length:=(List.getElem?_eq_some_iff.1 (shutS_get (j:=j) hi hq)).1
 rw [List.getElem?_set]
 by_cases e:j=k
 ·subst e
  rw [if_pos rfl,if_pos hj,shutS_get hi hq,if_pos (by omega)]
 ·rw [if_neg e]
  simp only [shutS,List.getElem?_mapIdx]
  cases (ids.zip qs)[k]? with
  | none=>rfl
  | some iq =>
   simp only [Option.map_some,Option.some.injEq]
   by_cases h:k<j
   ·rw [if_pos h,if_pos (by omega)]
   ·rw [if_neg h,if_neg (by omega)]
theorem shutS_all {ids:List SId} {qs:List g.θ} (h:ids.length=qs.length):(shutS ids qs ids.length).map Seat.fins=qs.map g.Fin:=by
 apply List.ext_getElem?
 intro k
 by_cases hk:k<ids.length
 ·have hi:=List.getElem?_eq_getElem hk
  have hq:=List.getElem?_eq_getElem (show k<qs.length by omega)
  rw [List.getElem?_map,shutS_get hi hq,if_pos hk,List.getElem?_map,hq]
  rfl
 ·rw [List.getElem?_eq_none (by simp [shutS_len h];omega),List.getElem?_eq_none (by simp;omega)]
theorem shutS_closed {ids:List SId} {qs:List g.θ} (h:ids.length=qs.length):∀ s∈shutS ids qs ids.length,s.closed:=by
 intro s hs
 obtain ⟨k,hk⟩:=List.mem_iff_getElem?.1 hs
 have hlt:=(List.getElem?_eq_some_iff.1 hk).1
 rw [shutS_len h] at hlt
 rw [shutS_get (List.getElem?_eq_getElem hlt) (List.getElem?_eq_getElem (show k<qs.length by omega)),if_pos hlt] at hk
 cases hk
 trivial
end
section
variable {g:Game} {ts:List (Thr g)} {s0:g.σ} {F:List HProp} {wg pb rb:Nat} {ov tv:Value}
theorem star_head {c:HProp} {M L:List HProp} {h:Hp} (s:Star (all (c::M)::L) h):Star (c::all M::L) h :=
 star_map (star_open s) (fun _ a=>a) (fun _ st=>star_shut (M:=M) st)
def startInvP (ts:List (Thr g)) (s0:g.σ) (wg pb rb:Nat) (ov tv:Value) (F:List HProp):PB.Inv (Nat × g.σ × List g.θ × List SId × Value) MX where
 e:=fun i=>[(0,ov),(1,tv),(4,.pointer (some ⟨rb,0,none⟩)),(7,.pointer (some ⟨wg,0,none⟩)),(8,.pointer (some ⟨pb,0,none⟩)),(28,tv),(29,.int .i64 (ts.length:Nat)),(30,.int .i64 (i.1:Nat))]
 L:=fun i=>g.U i.2.1::arr pb 0 [i.2.2.2.2,.slice none 0 0,.slice none 0 0]::vec 1 i.2.2.2.2 (ptrs i.2.2.2.1)::all (seatCs g i.2.2.2.1 i.2.2.1)::all ((ts.drop i.1).map Thr.M)::arr rb 0 [.slice none 0 0,.slice none 0 0]::F
 x:=fun i=>gx g wg (seatSs i.2.2.2.1 i.2.2.1) (some i.2.1) 16384 (seatSs i.2.2.2.1 i.2.2.1).length
 ok:=fun i=>i.1≤ts.length∧i.2.2.2.1.length=i.1∧startF (ts.take i.1) s0=(i.2.1,i.2.2.1)
def seatMid (wg pb rb j n:Nat) (ov tv fv:Value) (x:MX) (L:List HProp):PB.Inv (Nat × Nat × Nat × Nat) MX where
 e:=fun i=>[(0,ov),(1,tv),(4,.pointer (some ⟨rb,0,none⟩)),(7,.pointer (some ⟨wg,0,none⟩)),(8,.pointer (some ⟨pb,0,none⟩)),(28,tv),(29,.int .i64 (n:Nat)),(30,.int .i64 (j:Nat)),(10,fv),(11,.pointer (some ⟨i.1,0,none⟩))]
 L:=fun i=>arr i.1 0 [.chan (some i.2.2.1),.chan (some i.2.2.2),.chan (some i.2.1),.int .u8 0,.int .i64 0,.bool false]::ob i.2.1 newChan::ob i.2.2.1 newChan::ob i.2.2.2 newChan::L
 x:=fun _=>x
 ok:=fun _=>True
def ordInv (p0:PS g) (order:List Int) (ids:List SId) (wg pb rb:Nat) (ov:Value) (ss:Value) (F:List HProp):PB.Inv (Nat × Value) MX where
 e:=fun i=>[(4,.pointer (some ⟨rb,0,none⟩)),(7,.pointer (some ⟨wg,0,none⟩)),(8,.pointer (some ⟨pb,0,none⟩)),(49,ov),(50,.int .i64 (order.length:Nat)),(51,.int .i64 (i.1:Nat))]
 L:=fun i=>playL g pb ss i.2 (.slice none 0 0) ids (ordF p0 (order.take i.1)) F
 x:=fun i=>playX g wg ids (ordF p0 (order.take i.1))
 ok:=fun i=>i.1≤order.length
def restInv (I:PS g→Prop) (p0:PS g) (ids:List SId) (wg pb rb:Nat) (ss:Value) (F:List HProp):PB.Inv (Nat × PS g × Value × Bool) MX where
 e:=fun i=>[(4,.pointer (some ⟨rb,0,none⟩)),(7,.pointer (some ⟨wg,0,none⟩)),(8,.pointer (some ⟨pb,0,none⟩)),(14,.bool i.2.2.2)]
 L:=fun i=>playL g pb ss i.2.2.1 (.slice none 0 0) ids i.2.1 F
 x:=fun i=>playX g wg ids i.2.1
 ok:=fun i=>I i.2.1∧i.2.1.qs.length=p0.qs.length∧i.2.1.tr.length≤16384∧(if i.2.2.2=true then restF i.1 i.2.1=restF 16385 p0∧16384<i.2.1.tr.length+i.1 else i.2.1=restF 16385 p0)
def rndInvP (p:PS g) (ids:List SId) (wg pb rb:Nat) (ss:Value) (F:List HProp):PB.Inv (Nat × Value) MX where
 e:=fun i=>[(4,.pointer (some ⟨rb,0,none⟩)),(7,.pointer (some ⟨wg,0,none⟩)),(8,.pointer (some ⟨pb,0,none⟩)),(14,.bool (roundF p i.1).2),(61,.int .i64 (ids.length:Nat)),(62,.int .i64 (i.1:Nat))]
 L:=fun i=>playL g pb ss i.2 (.slice none 0 0) ids (roundF p i.1).1 F
 x:=fun i=>playX g wg ids (roundF p i.1).1
 ok:=fun i=>i.1≤ids.length
def cutInv (p:PS g) (ids:List SId) (wg pb rb:Nat) (ss tsv:Value) (F:List HProp):PB.Inv (Nat × Value) MX where
 e:=fun i=>[(4,.pointer (some ⟨rb,0,none⟩)),(7,.pointer (some ⟨wg,0,none⟩)),(8,.pointer (some ⟨pb,0,none⟩)),(72,ss),(73,.int .i64 (ids.length:Nat)),(74,.int .i64 (i.1:Nat))]
 L:=fun i=>vec 1 i.2 (cutC (cutN g p.qs i.1))::arr pb 0 [ss,tsv,i.2]::vec 1 ss (ptrs ids)::vec 3 tsv (trCP p.tr)::all (seatCs g ids p.qs)::g.U p.s::F
 x:=fun i=>gx g wg (shutS ids p.qs i.1) (some p.s) (16384-p.tr.length) ids.length
 ok:=fun i=>i.1≤ids.length
set_option maxHeartbeats 4000000 in
theorem plays_tr {oa ta:Option Addr} {on oc tn tc:Nat} {order:List Int} (I:PS g→Prop) (hS:∀ j,j<ts.length→g.ok (startF (ts.take j) s0).1) (hI0:I ⟨(startF ts s0).1,(startF ts s0).2,[]⟩) (hIs:∀ p k,I p→I (takeF p k).1) (hIo:∀ p,I p→p.tr.length<16384→g.ok p.s) (hfin:∀ q h,g.Pv q h→g.Fin q h) (hts:∀ t∈ts,ThrOk g t.ini t.fv t.M) (h1:0<ts.length) (h16:ts.length≤16) (hor:order.length≤16384)
  (hrt:RdsO F ta tn (ts.map Thr.fv)) (hro:RdsO F oa on (order.map fun k=>.int .i64 k)) :
  Tr Try.prog mT 17 [.slice oa on oc,.slice ta tn tc] (g.U s0::all (ts.map Thr.M)::F) .idle fun v L' x' =>
   ∃ tv cv,v=.tuple #[.agg #[tv,cv],.int .i64 0]∧x'=.idle∧L'=vec 3 tv (trCP (playF ts s0 order).tr)::vec 1 cv (cutC (cutN g (playF ts s0 order).qs ts.length))::g.U (playF ts s0 order).s::all ((playF ts s0 order).qs.map g.Fin)::F:=by
 refine Tr.post (R:=fun v L' x'=>∃ tv cv,v=.tuple #[.agg #[tv,cv],.int .i64 0]∧x'=MX.idle∧∀ h,Star L' h→Star (vec 3 tv (trCP (playF ts s0 order).tr)::vec 1 cv (cutC (cutN g (playF ts s0 order).qs ts.length))::g.U (playF ts s0 order).s::all ((playF ts s0 order).qs.map g.Fin)::F) h) ?_
  (by rintro v L' x' ⟨tv,cv,rfl,rfl,h2⟩;exact ⟨_,⟨tv,cv,rfl,rfl,rfl⟩,h2⟩)
 have hfn:∀ v∈ts.map Thr.fv,isFn v:=by
  intro v hv
  obtain ⟨t,ht,rfl⟩:=List.mem_map.1 hv
  obtain ⟨f,first,cap,hc,_⟩:=(hts t ht).run
  revert hc
  cases t.fv with
  | func a b c=>exact fun _=>⟨a,b,c,rfl⟩
  | _=>intro hc;cases hc
 have hIord:∀ (l:List Int) (p:PS g),I p→I (ordF p l):=by
  intro l
  induction l with
  | nil=>exact fun p h=>h
  | cons k l ih=>exact fun p h=>ih _ (hIs p k h)
 have hIrnd:∀ (p:PS g) k,I p→I (roundF p k).1:=by
  intro p k h
  induction k with
  | zero=>exact h
  | succ k ih=>exact hIs _ _ ih
 have htn:tn=ts.length:=by have:=hrt.1;simpa using this
 have hon:on=order.length:=by have:=hro.1;simpa using this
 subst htn
 subst hon
 refine tr_of_body Try.func17 rfl Try.ntmps17 (by simp) fun um Q _ hQ=>?_
 simp only [argE,Nat.zero_add,Nat.reduceAdd]
 repeat (first | (apply wo_mo;apply mo_alloc;exact trivial) | refine we_seq ?_ | (refine wR ?_;try simp only [oS]))
 rintro v' L' ⟨rb,rfl,rfl⟩
 repeat (first | refine we_seq ?_ | (refine wR ?_;try simp only [oS]) | refine wo_nil ?_ | refine wM ?_ | refine wA ?_)
 refine wo_call (.cons rfl .nil) trivial (wrong_tr (fun v hv=>.inr (hfn v hv)) hrt.there.there.there (by omega)) ?_
 rintro v' L' x' ⟨⟨k,rfl,hk⟩,rfl,rfl⟩
 obtain rfl:k=0:=by
  rcases hk with ⟨_,h⟩ | ⟨_,h⟩
  ·obtain ⟨_,_,_,h⟩:=hfn _ h;cases h
  ·rw [h,List.length_map,if_neg (by omega),if_neg (by omega)]
 repeat (first | (apply wo_mo;apply mo_allocS;exact trivial) | refine wgtrF ?_ | refine wneqF ?_ | refine we_seq ?_ | (refine wR ?_;try simp only [oS]) | refine wo_nil ?_ | refine wM ?_ | refine wA ?_ | refine wE ?_ | refine wF ?_ | refine we_skip ?_)
 rintro v' L' ⟨wg,rfl,rfl⟩
 repeat (first | refine we_seq ?_ | (refine wR ?_;try simp only [oS]) | refine wo_nil ?_)
 refine wo_begin g s0 (wg:=wg) (R:=arr rb 0 [.slice none 0 0,.slice none 0 0]::g.U s0::all (ts.map Thr.M)::F) (fun h st=>st) ?_
 repeat (first | (apply wo_mo;apply mo_alloc;exact trivial))
 rintro v' L' ⟨pb,rfl,rfl⟩
 repeat (first | refine we_seq ?_ | (refine wR ?_;try simp only [oS]) | refine wo_nil ?_ | refine wM ?_ | refine wE ?_ | refine we_block ?_)
 refine we_star (vec 1 (.slice none 0 0) (ptrs [])::all (seatCs g [] [])::arr pb 0 [.slice none 0 0,.slice none 0 0,.slice none 0 0]::shpC wg 87 2::arr rb 0 [.slice none 0 0,.slice none 0 0]::g.U s0::all (ts.map Thr.M)::F) (fun h st=>vec_nil (star_shut (M:=[]) st)) ?_
 refine we_loopN (startInvP ts s0 wg pb rb (.slice oa order.length oc) (.slice ta ts.length tc) (shpC wg 87 2::F)) (fun i=>ts.length-i.1) (0,s0,[],[],.slice none 0 0) ⟨by omega,rfl,rfl⟩ ⟨rfl,rfl,rfl,rfl,rfl,rfl,rfl,rfl,trivial⟩ (.take (.there (.there (.there (.there (.there .here))))) (.take (.there (.there .here)) (.take .here (.take .here (.take (.there (.there .here)) (.take (.there .here) (.take .here .refl))))))) rfl ?_
 rintro ⟨j,s,qs,ids,ss⟩ ⟨hj,hids,hst⟩
 simp only at hj hids hst
 have hqs:qs.length=j:=by have:=startF_len (ts.take j) s0;rw [hst] at this;simpa [Nat.min_eq_left hj] using this
 have hsl:(seatSs ids qs).length=ids.length:=by simp [seatSs];omega
 simp only [startInvP]
 by_cases hlt:j<ts.length
 ·obtain ⟨tb,to,rfl,hrd⟩:=hrt.rds (by omega)
  have ht:ts[j]?=some ts[j]:=List.getElem?_eq_getElem hlt
  have hrj:=hrd j (ts[j].fv) (by simp [ht])
  have hTO:=hts _ (List.getElem_mem hlt)
  have hdrop:ts.drop j=ts[j]::ts.drop (j+1):=List.drop_eq_getElem_cons hlt
  rw [hdrop]
  refine we_star (g.U s::arr pb 0 [ss,.slice none 0 0,.slice none 0 0]::vec 1 ss (ptrs ids)::all (seatCs g ids qs)::ts[j].M::all ((ts.drop (j+1)).map Thr.M)::arr rb 0 [.slice none 0 0,.slice none 0 0]::shpC wg 87 2::F) (fun h st=>Ent.star (.take (.there (.there .here)) (.take (.there (.there .here)) (.take (.there (.there .here)) (.take (.there (.there .here)) (.take .here (.take .here .refl)))))) (star_head (((.there (.there (.there (.there .here)))):Has _ (all ((ts[j]::ts.drop (j+1)).map Thr.M)) _).star st))) ?_
  repeat (first | (apply wo_po;apply mo_index1;exact rfl;exact rfl;omega;exact gY) | (apply wo_po;apply mo_load;exact rfl;exact .there (.there (.there (.there (.there (.there (.there (.there hrj)))))));exact trivial) | refine wlssT ?_ | refine we_seq ?_ | (refine wR ?_;try simp only [oS]) | refine wo_nil ?_ | refine wA ?_ | refine wT ?_ | refine we_skip ?_ | refine we_block ?_)
  let MI:=seatMid wg pb rb j ts.length (.slice oa order.length oc) (.slice (some ⟨tb,to,none⟩) ts.length tc) ts[j].fv (gx g wg (seatSs ids qs) (some s) 16384 (seatSs ids qs).length) (g.U s::arr pb 0 [ss,.slice none 0 0,.slice none 0 0]::vec 1 ss (ptrs ids)::all (seatCs g ids qs)::ts[j].M::all ((ts.drop (j+1)).map Thr.M)::arr rb 0 [.slice none 0 0,.slice none 0 0]::shpC wg 87 2::F)
  refine we_join MI ?_ ?_
  ·refine we_draw (List.range' 0 6) (by kernel_rfl) ?_
   refine ap_fork3 (f:=1) (g:=2) (ordf:=[1,0,2,3,4,5]) (ordg:=[2,0,1,3,4,5]) (Rf:=[2,3,4,5]) (Rg:=[1,3,4,5]) (by kernel_rfl) (by kernel_rfl) (by kernel_rfl) (by kernel_rfl) (by kernel_rfl) (by kernel_rfl) (by kernel_rfl) (by kernel_rfl) (by kernel_rfl) ?_ ?_ ?_
   ·refine ap1_mo (Pd':=[]) rfl rfl rfl trivial (mo_makeChan (m:=0) (k:=.i64) rfl (by omega) (by omega)) (fun v L' _ p hp=>by cases hp) ?_
    rintro v' L' ⟨ct,rfl,rfl⟩
    refine ap_fork2 (f:=2) (ordf:=[0,2,1,3,4,5]) (Rf:=[3,4,5]) (by kernel_rfl) (by kernel_rfl) (by kernel_rfl) (by kernel_rfl) (by kernel_rfl) ?_ ?_
    ·refine ap1_mo (Pd':=[]) rfl rfl rfl trivial (mo_makeChan (m:=0) (k:=.i64) rfl (by omega) (by omega)) (fun v L' _ p hp=>by cases hp) ?_
     rintro v' L' ⟨ce,rfl,rfl⟩
     refine ap_loud rfl rfl rfl rfl rfl trivial (mo_makeChan (m:=0) (k:=.i64) rfl (by omega) (by omega)) ?_
     rintro v' L' ⟨cs,rfl,rfl⟩
     repeat (first | (apply ap_pure;exact rfl;exact rfl;exact trivial;intro L;apply mo_build (pv:=[(0,_),(1,_),(2,_)]);exact rfl;exact .cons rfl (.cons rfl (.cons rfl .nil));exact rfl))
     refine ap_loud rfl rfl rfl rfl rfl trivial (mo_box rfl) ?_
     rintro v' L' ⟨sb,rfl,rfl⟩
     repeat (first | refine aA ?_ | refine ap_end ?_)
     refine at_mid (B:=mT) (I:=MI) (sb,cs,ct,ce) trivial ?_ ?_ rfl
     exact ⟨rfl,rfl,rfl,rfl,rfl,rfl,rfl,rfl,rfl,rfl,trivial⟩
     repeat (first | exact Ent.refl | (apply Ent.take;(repeat (first | exact Has.here | apply Has.there))) | apply Ent.drop)
    ·refine ap1_mo (Pd':=[]) rfl rfl rfl trivial (mo_makeChan (m:=0) (k:=.i64) rfl (by omega) (by omega)) (fun v L' _ p hp=>by cases hp) ?_
     rintro v' L' ⟨cs,rfl,rfl⟩
     refine ap_loud rfl rfl rfl rfl rfl trivial (mo_makeChan (m:=0) (k:=.i64) rfl (by omega) (by omega)) ?_
     rintro v' L' ⟨ce,rfl,rfl⟩
     repeat (first | (apply ap_pure;exact rfl;exact rfl;exact trivial;intro L;apply mo_build (pv:=[(0,_),(1,_),(2,_)]);exact rfl;exact .cons rfl (.cons rfl (.cons rfl .nil));exact rfl))
     refine ap_loud rfl rfl rfl rfl rfl trivial (mo_box rfl) ?_
     rintro v' L' ⟨sb,rfl,rfl⟩
     repeat (first | refine aA ?_ | refine ap_end ?_)
     refine at_mid (B:=mT) (I:=MI) (sb,cs,ct,ce) trivial ?_ ?_ rfl
     exact ⟨rfl,rfl,rfl,rfl,rfl,rfl,rfl,rfl,rfl,rfl,trivial⟩
     repeat (first | exact Ent.refl | (apply Ent.take;(repeat (first | exact Has.here | apply Has.there))) | apply Ent.drop)
   ·refine ap1_mo (Pd':=[]) rfl rfl rfl trivial (mo_makeChan (m:=0) (k:=.i64) rfl (by omega) (by omega)) (fun v L' _ p hp=>by cases hp) ?_
    rintro v' L' ⟨ce,rfl,rfl⟩
    refine ap_fork2 (f:=2) (ordf:=[1,2,0,3,4,5]) (Rf:=[3,4,5]) (by kernel_rfl) (by kernel_rfl) (by kernel_rfl) (by kernel_rfl) (by kernel_rfl) ?_ ?_
    ·refine ap1_mo (Pd':=[]) rfl rfl rfl trivial (mo_makeChan (m:=0) (k:=.i64) rfl (by omega) (by omega)) (fun v L' _ p hp=>by cases hp) ?_
     rintro v' L' ⟨ct,rfl,rfl⟩
     refine ap_loud rfl rfl rfl rfl rfl trivial (mo_makeChan (m:=0) (k:=.i64) rfl (by omega) (by omega)) ?_
     rintro v' L' ⟨cs,rfl,rfl⟩
     repeat (first | (apply ap_pure;exact rfl;exact rfl;exact trivial;intro L;apply mo_build (pv:=[(0,_),(1,_),(2,_)]);exact rfl;exact .cons rfl (.cons rfl (.cons rfl .nil));exact rfl))
     refine ap_loud rfl rfl rfl rfl rfl trivial (mo_box rfl) ?_
     rintro v' L' ⟨sb,rfl,rfl⟩
     repeat (first | refine aA ?_ | refine ap_end ?_)
     refine at_mid (B:=mT) (I:=MI) (sb,cs,ct,ce) trivial ?_ ?_ rfl
     exact ⟨rfl,rfl,rfl,rfl,rfl,rfl,rfl,rfl,rfl,rfl,trivial⟩
     repeat (first | exact Ent.refl | (apply Ent.take;(repeat (first | exact Has.here | apply Has.there))) | apply Ent.drop)
    ·refine ap1_mo (Pd':=[]) rfl rfl rfl trivial (mo_makeChan (m:=0) (k:=.i64) rfl (by omega) (by omega)) (fun v L' _ p hp=>by cases hp) ?_
     rintro v' L' ⟨cs,rfl,rfl⟩
     refine ap_loud rfl rfl rfl rfl rfl trivial (mo_makeChan (m:=0) (k:=.i64) rfl (by omega) (by omega)) ?_
     rintro v' L' ⟨ct,rfl,rfl⟩
     repeat (first | (apply ap_pure;exact rfl;exact rfl;exact trivial;intro L;apply mo_build (pv:=[(0,_),(1,_),(2,_)]);exact rfl;exact .cons rfl (.cons rfl (.cons rfl .nil));exact rfl))
     refine ap_loud rfl rfl rfl rfl rfl trivial (mo_box rfl) ?_
     rintro v' L' ⟨sb,rfl,rfl⟩
     repeat (first | refine aA ?_ | refine ap_end ?_)
     refine at_mid (B:=mT) (I:=MI) (sb,cs,ct,ce) trivial ?_ ?_ rfl
     exact ⟨rfl,rfl,rfl,rfl,rfl,rfl,rfl,rfl,rfl,rfl,trivial⟩
     repeat (first | exact Ent.refl | (apply Ent.take;(repeat (first | exact Has.here | apply Has.there))) | apply Ent.drop)
   ·refine ap1_mo (Pd':=[]) rfl rfl rfl trivial (mo_makeChan (m:=0) (k:=.i64) rfl (by omega) (by omega)) (fun v L' _ p hp=>by cases hp) ?_
    rintro v' L' ⟨cs,rfl,rfl⟩
    refine ap_fork2 (f:=1) (ordf:=[2,1,0,3,4,5]) (Rf:=[3,4,5]) (by kernel_rfl) (by kernel_rfl) (by kernel_rfl) (by kernel_rfl) (by kernel_rfl) ?_ ?_
    ·refine ap1_mo (Pd':=[]) rfl rfl rfl trivial (mo_makeChan (m:=0) (k:=.i64) rfl (by omega) (by omega)) (fun v L' _ p hp=>by cases hp) ?_
     rintro v' L' ⟨ct,rfl,rfl⟩
     refine ap_loud rfl rfl rfl rfl rfl trivial (mo_makeChan (m:=0) (k:=.i64) rfl (by omega) (by omega)) ?_
     rintro v' L' ⟨ce,rfl,rfl⟩
     repeat (first | (apply ap_pure;exact rfl;exact rfl;exact trivial;intro L;apply mo_build (pv:=[(0,_),(1,_),(2,_)]);exact rfl;exact .cons rfl (.cons rfl (.cons rfl .nil));exact rfl))
     refine ap_loud rfl rfl rfl rfl rfl trivial (mo_box rfl) ?_
     rintro v' L' ⟨sb,rfl,rfl⟩
     repeat (first | refine aA ?_ | refine ap_end ?_)
     refine at_mid (B:=mT) (I:=MI) (sb,cs,ct,ce) trivial ?_ ?_ rfl
     exact ⟨rfl,rfl,rfl,rfl,rfl,rfl,rfl,rfl,rfl,rfl,trivial⟩
     repeat (first | exact Ent.refl | (apply Ent.take;(repeat (first | exact Has.here | apply Has.there))) | apply Ent.drop)
    ·refine ap1_mo (Pd':=[]) rfl rfl rfl trivial (mo_makeChan (m:=0) (k:=.i64) rfl (by omega) (by omega)) (fun v L' _ p hp=>by cases hp) ?_
     rintro v' L' ⟨ce,rfl,rfl⟩
     refine ap_loud rfl rfl rfl rfl rfl trivial (mo_makeChan (m:=0) (k:=.i64) rfl (by omega) (by omega)) ?_
     rintro v' L' ⟨ct,rfl,rfl⟩
     repeat (first | (apply ap_pure;exact rfl;exact rfl;exact trivial;intro L;apply mo_build (pv:=[(0,_),(1,_),(2,_)]);exact rfl;exact .cons rfl (.cons rfl (.cons rfl .nil));exact rfl))
     refine ap_loud rfl rfl rfl rfl rfl trivial (mo_box rfl) ?_
     rintro v' L' ⟨sb,rfl,rfl⟩
     repeat (first | refine aA ?_ | refine ap_end ?_)
     refine at_mid (B:=mT) (I:=MI) (sb,cs,ct,ce) trivial ?_ ?_ rfl
     exact ⟨rfl,rfl,rfl,rfl,rfl,rfl,rfl,rfl,rfl,rfl,trivial⟩
     repeat (first | exact Ent.refl | (apply Ent.take;(repeat (first | exact Has.here | apply Has.there))) | apply Ent.drop)
  ·rintro ⟨sb,cs,ct,ce⟩ _
   simp only [MI,seatMid]
   repeat (first | refine we_seq ?_ | (refine wR ?_;try simp only [oS]) | refine wM ?_)
   refine wo_call (.cons rfl (.cons rfl (.cons rfl .nil))) trivial (Tr.ent (L':=g.U s::ts[j].M::arr sb 0 [.chan (some ct),.chan (some ce),.chan (some cs),.int .u8 0,.int .i64 0,.bool false]::ob cs newChan::ob ct newChan::ob ce newChan::arr pb 0 [ss,.slice none 0 0,.slice none 0 0]::vec 1 ss (ptrs ids)::all (seatCs g ids qs)::all ((ts.drop (j+1)).map Thr.M)::arr rb 0 [.slice none 0 0,.slice none 0 0]::shpC wg 87 2::F) (.take (.there (.there (.there (.there .here)))) (.take (.there (.there (.there (.there (.there (.there (.there .here))))))) (.take .here (.take .here (.take .here (.take .here .refl)))))) (run_tr hTO (by have:=hS j hlt;rw [hst] at this;exact this) hfin (by rw [hsl];omega) (fun h st=>shp_of (.there (.there (.there (.there (.there .here))))) st))) ?_
   rintro v' L' x' ⟨rfl,rfl,rfl⟩
   refine wo_pure (of_has (.there (.there (.there (.there .here)))) (vec_shape (by omega))) ?_
   rintro ⟨sa,sn,sc,rfl,hsn,_⟩
   have hsn:sn=ids.length:=by simp [ptrs] at hsn;omega
   subst hsn
   repeat (first | (apply wo_mo;apply mo_buildSlice (sz:=1) (vs:=[.pointer (some ⟨sb,0,none⟩)]);exact rfl;exact .cons rfl .nil;exact rfl;(intro v hv;cases (List.mem_singleton.1 hv);exact rfl);omega;exact trivial) | (refine wR ?_;try simp only [oS]) | refine wo_nil ?_ | refine wM ?_ | refine wD ?_ | refine wL ?_)
   rintro v' L' ⟨nb,rfl,rfl⟩
   repeat (first | (apply wo_mo;apply mo_append (sz:=1) (new:=[.pointer (some ⟨sb,0,none⟩)]);exact rfl;exact rfl;exact rfl;exact rfl;exact (.there (.there (.there (.there (.there .here)))));exact rfl;exact .inr ⟨_,_,rfl,Rds.all .here⟩;(intro v hv;cases (List.mem_singleton.1 hv);exact rfl);(simp only [sliceLen];omega);exact trivial))
   rintro v' L' rfl
   refine wo_pure (of_has .here (vec_shape (by omega))) ?_
   rintro ⟨ua,un,uc,rfl,hun,_⟩
   repeat (first | refine wS ?_ | (refine wR ?_;try simp only [oS]) | refine wo_nil ?_ | refine wM ?_ | refine wD ?_ | refine wadd ?_)
   have hseats:seatCs g (ids++[⟨sb,cs,ct,ce⟩]) (qs++[(ts[j].ini s).2])=seatCs g ids qs++[seatC g ⟨sb,cs,ct,ce⟩ (ts[j].ini s).2]:=by
    unfold seatCs;rw [List.zipWith_append (by omega)];rfl
   have hseatS:seatSs (ids++[⟨sb,cs,ct,ce⟩]) (qs++[(ts[j].ini s).2])=seatSs ids qs++[seatS ⟨sb,cs,ct,ce⟩ (ts[j].ini s).2]:=by
    unfold seatSs;rw [List.zipWith_append (by omega)];rfl
   refine at_roundS (B:=mT) (I:=startInvP ts s0 wg pb rb (.slice oa order.length oc) (.slice (some ⟨tb,to,none⟩) ts.length tc) (shpC wg 87 2::F)) (R:=fun i'=>ts.length-i'.1<ts.length-j) (j+1,(ts[j].ini s).1,qs++[(ts[j].ini s).2],ids++[⟨sb,cs,ct,ce⟩],.slice ua un uc) (by show ts.length-(j+1)<ts.length-j;omega) ⟨by show j+1≤_;omega,by show (ids++[_]).length=j+1;simp;omega,?_⟩ ?_ (fun h st=>?_) ?_
   ·show startF (ts.take (j+1)) s0=_
    rw [List.take_succ_eq_append_getElem hlt,startF_snoc,hst]
   ·exact ⟨rfl,rfl,rfl,rfl,rfl,rfl,rfl,rfl,trivial⟩
   ·have s1:Star (seatR sb cs ct ce::arr sb 3 (lastC ((g.plan (ts[j].ini s).2).map (·.1)))::all (seatCs g ids qs)::g.U (ts[j].ini s).1::arr pb 0 [.slice ua un uc,.slice none 0 0,.slice none 0 0]::vec 1 (.slice ua un uc) (ptrs ids++[.pointer (some ⟨sb,0,none⟩)])::all ((ts.drop (j+1)).map Thr.M)::arr rb 0 [.slice none 0 0,.slice none 0 0]::shpC wg 87 2::F) h:=Ent.star (.take (.there (.there (.there .here))) (.take (.there (.there (.there .here))) (.take (.there (.there (.there (.there .here)))) (.take (.there (.there .here)) (.take (.there (.there .here)) (.take .here (.drop .refl))))))) st
    have s2:=star_push (c:=seatC g ⟨sb,cs,ct,ce⟩ (ts[j].ini s).2) (star_shut (M:=[_,_]) s1)
    rw [← hseats] at s2
    have e3:ptrs ids++[.pointer (some ⟨sb,0,none⟩)]=ptrs (ids++[⟨sb,cs,ct,ce⟩]):=by simp [ptrs]
    rw [e3] at s2
    exact Ent.star (.take (.there .here) (.take (.there .here) (.take (.there .here) (.take .here .refl)))) s2
   ·show gx g wg (seatSs (ids++[_]) (qs++[_])) _ _ _=_
    rw [hseatS]
    simp only [List.length_append,List.length_singleton]
    rfl
 ·obtain rfl:j=ts.length:=by omega
  rw [List.take_length] at hst
  rw [hsl]
  repeat (first | refine wlssF ?_ | refine we_seq ?_ | (refine wR ?_;try simp only [oS]) | refine wo_nil ?_ | refine wM ?_ | refine wE ?_ | refine wF ?_ | refine we_block ?_ | refine we_exit ?_)
  refine we_star (playL g pb ss (.slice none 0 0) (.slice none 0 0) ids (⟨s,qs,[]⟩:PS g) (arr rb 0 [.slice none 0 0,.slice none 0 0]::shpC wg 87 2::F)) (fun h st=>Ent.star (M:=playL g pb ss (.slice none 0 0) (.slice none 0 0) ids (⟨s,qs,[]⟩:PS g) (arr rb 0 [.slice none 0 0,.slice none 0 0]::shpC wg 87 2::F)) (.take (.there .here) (.take (.there .here) (.take (.there .here) (.take .here (.take .here (.drop .refl)))))) (vec_nil (sz:=3) st)) ?_
  refine we_loopN (ordInv (⟨s,qs,[]⟩:PS g) order ids wg pb rb (.slice oa order.length oc) ss (arr rb 0 [.slice none 0 0,.slice none 0 0]::shpC wg 87 2::F)) (fun i=>order.length-i.1) (0,.slice none 0 0) (Nat.zero_le _) ⟨rfl,rfl,rfl,rfl,rfl,rfl,trivial⟩ .refl rfl ?_
  have hI1:I (⟨s,qs,[]⟩:PS g):=by rw [hst] at hI0;exact hI0
  rintro ⟨i,tsv⟩ hi
  replace hi:i≤order.length:=hi
  have hpl:ids.length=(ordF (⟨s,qs,[]⟩:PS g) (order.take i)).qs.length:=by rw [ordF_len];show ids.length=qs.length;omega
  have hple:=ordF_le (order.take i) (⟨s,qs,[]⟩:PS g) (Nat.zero_le _)
  simp only [ordInv]
  by_cases hlt2:i<order.length
  ·obtain ⟨ob,oo,rfl,hrd⟩:=hro.rds (by omega)
   have hri:=hrd i (.int .i64 order[i]) (by rw [List.getElem?_map,List.getElem?_eq_getElem hlt2];rfl)
   repeat (first | (apply wo_po;apply mo_index1;exact rfl;exact rfl;omega;exact gY) | (apply wo_po;apply mo_load;exact rfl;exact .there (.there (.there (.there (.there (.there (.there hri))))));exact trivial) | refine wlssT ?_ | refine we_seq ?_ | (refine wR ?_;try simp only [oS]) | refine wo_nil ?_ | refine wM ?_ | refine wA ?_ | refine wT ?_ | refine we_skip ?_ | refine we_block ?_)
   refine wo_call (.cons rfl (.cons rfl .nil)) trivial (takes_tr hpl hple (hIo _ (hIord _ _ hI1))) ?_
   rintro v' L' x' ⟨ts',rfl,rfl,rfl⟩
   repeat (first | (refine wR ?_;try simp only [oS]) | refine wo_nil ?_ | refine wM ?_ | refine wadd ?_)
   have htk:(takeF (ordF (⟨s,qs,[]⟩:PS g) (order.take i)) order[i]).1=ordF (⟨s,qs,[]⟩:PS g) (order.take (i+1)):=by
    rw [List.take_succ_eq_append_getElem hlt2,ordF_snoc]
   rw [htk]
   refine at_round (B:=mT) (I:=ordInv (⟨s,qs,[]⟩:PS g) order ids wg pb rb (.slice (some ⟨ob,oo,none⟩) order.length oc) ss (arr rb 0 [.slice none 0 0,.slice none 0 0]::shpC wg 87 2::F)) (R:=fun i'=>order.length-i'.1<order.length-i) (i+1,ts') (by show order.length-(i+1)<order.length-i;omega) (show i+1≤order.length by omega) ?_ .refl rfl
   exact ⟨rfl,rfl,rfl,rfl,rfl,rfl,trivial⟩
  ·obtain rfl:i=order.length:=by omega
   rw [List.take_length] at hpl hple ⊢
   obtain ⟨p1,hp1⟩:∃ p1,ordF (⟨s,qs,[]⟩:PS g) order=p1:=⟨_,rfl⟩
   rw [hp1] at hpl hple ⊢
   repeat (first | refine wlssF ?_ | refine we_seq ?_ | (refine wR ?_;try simp only [oS]) | refine wo_nil ?_ | refine wA ?_ | refine wF ?_ | refine we_block ?_ | refine we_exit ?_)
   refine we_loopN (restInv I p1 ids wg pb rb ss (arr rb 0 [.slice none 0 0,.slice none 0 0]::shpC wg 87 2::F)) (fun i=>if i.2.2.2=true then i.1+1 else 0) (16385,p1,tsv,true) ⟨by rw [← hp1];exact hIord _ _ hI1,rfl,hple,by simp only [if_true];exact ⟨trivial,by omega⟩⟩ ⟨rfl,rfl,rfl,rfl,trivial⟩ .refl rfl ?_
   rintro ⟨n,p,tv2,more⟩ ⟨hIp,hq1,hq2,hq3⟩
   simp only at hIp hq1 hq2 hq3
   simp only [restInv]
   cases more with
   | true =>
    simp only [if_true] at hq3
    obtain ⟨n,rfl⟩:∃ m,n=m+1:=⟨n-1,by omega⟩
    have hpq:p.qs.length=ids.length:=by omega
    refine we_pure (of_has (.there (.there .here)) (vec_shape (by omega))) ?_
    rintro ⟨sa,sn,sc,rfl,hsn,_⟩
    have hsn:sn=ids.length:=by simp [ptrs] at hsn;omega
    subst hsn
    repeat (first | refine we_seq ?_ | (refine wR ?_;try simp only [oS]) | refine wo_nil ?_ | refine wM ?_ | refine wA ?_ | refine wD ?_ | refine wL ?_ | refine wE ?_ | refine wT ?_ | refine we_skip ?_ | refine we_block ?_)
    refine we_loopN (rndInvP p ids wg pb rb (.slice sa ids.length sc) (arr rb 0 [.slice none 0 0,.slice none 0 0]::shpC wg 87 2::F)) (fun i=>ids.length-i.1) (0,tv2) (Nat.zero_le _) ⟨rfl,rfl,rfl,rfl,rfl,rfl,trivial⟩ .refl rfl ?_
    rintro ⟨k,tv3⟩ hk
    replace hk:k≤ids.length:=hk
    simp only [rndInvP]
    by_cases hlt3:k<ids.length
    ·repeat (first | refine wlssT ?_ | refine we_seq ?_ | (refine wR ?_;try simp only [oS]) | refine wo_nil ?_ | refine wM ?_ | refine wA ?_ | refine wT ?_ | refine we_skip ?_ | refine we_block ?_)
     refine wo_call (.cons rfl (.cons rfl .nil)) trivial (takes_tr (by rw [roundF_len];omega) (roundF_le hq2 k) (hIo _ (hIrnd _ _ hIp))) ?_
     rintro v' L' x' ⟨ts',rfl,rfl,rfl⟩
     have hnx:roundF p (k+1)=((takeF (roundF p k).1 k).1,(takeF (roundF p k).1 k).2||(roundF p k).2):=rfl
     have hr1:(roundF p (k+1)).1=(takeF (roundF p k).1 k).1:=rfl
     obtain ⟨b,hb⟩:∃ b,(takeF (roundF p k).1 k).2=b:=⟨_,rfl⟩
     rw [hb,← hr1]
     cases b with
     | true =>
      repeat (first | (refine wR ?_;try simp only [oS]) | refine wo_nil ?_ | refine wM ?_ | refine wA ?_ | (apply wo_no;exact rfl) | refine wK ?_ | refine wadd ?_)
      refine at_round (B:=mT) (I:=rndInvP p ids wg pb rb (.slice sa ids.length sc) (arr rb 0 [.slice none 0 0,.slice none 0 0]::shpC wg 87 2::F)) (R:=fun i'=>ids.length-i'.1<ids.length-k) (k+1,ts') (by show ids.length-(k+1)<ids.length-k;omega) (show k+1≤ids.length by omega) ?_ .refl rfl
      exact ⟨rfl,rfl,rfl,by rw [hnx,hb];rfl,rfl,rfl,trivial⟩
     | false =>
      repeat (first | (refine wR ?_;try simp only [oS]) | refine wo_nil ?_ | refine wM ?_ | refine wA ?_ | refine wJ ?_ | refine wadd ?_)
      refine at_round (B:=mT) (I:=rndInvP p ids wg pb rb (.slice sa ids.length sc) (arr rb 0 [.slice none 0 0,.slice none 0 0]::shpC wg 87 2::F)) (R:=fun i'=>ids.length-i'.1<ids.length-k) (k+1,ts') (by show ids.length-(k+1)<ids.length-k;omega) (show k+1≤ids.length by omega) ?_ .refl rfl
      exact ⟨rfl,rfl,rfl,by rw [hnx,hb];rfl,rfl,rfl,trivial⟩
    ·obtain rfl:k=ids.length:=by omega
     repeat (first | refine wlssF ?_ | refine we_seq ?_ | (refine wR ?_;try simp only [oS]) | refine wo_nil ?_ | refine wF ?_ | refine we_exit ?_)
     have hg:=roundF_grow p ids.length
     have hle3:=roundF_le hq2 ids.length
     have hrest:restF (n+1) p=if (roundF p ids.length).2=true then restF n (roundF p ids.length).1 else (roundF p ids.length).1:=by
      show (if (roundF p p.qs.length).2=true then restF n (roundF p p.qs.length).1 else (roundF p p.qs.length).1)=_
      rw [hpq]
     refine at_round (B:=mT) (I:=restInv I p1 ids wg pb rb (.slice sa ids.length sc) (arr rb 0 [.slice none 0 0,.slice none 0 0]::shpC wg 87 2::F)) (R:=fun i'=>(if i'.2.2.2=true then i'.1+1 else 0)<(if true=true then (n+1)+1 else 0)) (n,(roundF p ids.length).1,tv3,(roundF p ids.length).2) ?_ ⟨hIrnd _ _ hIp,by show (roundF p ids.length).1.qs.length=_;rw [roundF_len];exact hq1,hle3,?_⟩ ?_ .refl rfl
     ·show (if (roundF p ids.length).2=true then n+1 else 0)<(if true=true then (n+1)+1 else 0)
      simp only [if_true]
      split <;> omega
     ·simp only
      rw [hrest] at hq3
      cases hb:(roundF p ids.length).2 with
      | true=>rw [hb] at hq3 hg;simp only [if_true] at hq3 hg ⊢;exact ⟨hq3.1,by omega⟩
      | false=>rw [hb] at hq3;simpa using hq3.1
     ·exact ⟨rfl,rfl,rfl,rfl,trivial⟩
   | false =>
    simp only [Bool.false_eq_true,if_false] at hq3
    have hplay:playF ts s0 order=p:=by rw [hq3,← hp1];unfold playF;rw [hst]
    rw [hplay] at hQ
    have hpq:p.qs.length=ids.length:=by omega
    refine we_pure (of_has (.there (.there .here)) (vec_shape (by omega))) ?_
    rintro ⟨sa,sn,sc,rfl,hsn,_,hnz,hy⟩
    have hsn:sn=ids.length:=by simp [ptrs] at hsn;omega
    subst hsn
    cases sa with
    | none=>have:=hnz rfl;omega
    | some ad =>
    obtain ⟨sb,so,sp⟩:=ad
    have:=hy _ rfl
    simp only [Addr.mk.injEq,true_and] at this
    subst this
    repeat (first | refine we_seq ?_ | (refine wR ?_;try simp only [oS]) | refine wo_nil ?_ | refine wM ?_ | refine wD ?_ | refine wL ?_ | refine wE ?_ | refine wF ?_ | refine we_block ?_ | refine we_exit ?_)
    refine we_star (vec 1 (.slice none 0 0) (cutC (cutN g p.qs 0))::arr pb 0 [.slice (some ⟨sb,so,none⟩) ids.length sc,tv2,.slice none 0 0]::vec 1 (.slice (some ⟨sb,so,none⟩) ids.length sc) (ptrs ids)::vec 3 tv2 (trCP p.tr)::all (seatCs g ids p.qs)::g.U p.s::arr rb 0 [.slice none 0 0,.slice none 0 0]::shpC wg 87 2::F) (fun h st=>vec_nil (Ent.star (.take (.there .here) (.take (.there .here) (.take (.there .here) (.take (.there .here) (.take .here .refl))))) st)) ?_
    refine we_loopN (cutInv p ids wg pb rb (.slice (some ⟨sb,so,none⟩) ids.length sc) tv2 (arr rb 0 [.slice none 0 0,.slice none 0 0]::shpC wg 87 2::F)) (fun i=>ids.length-i.1) (0,.slice none 0 0) (Nat.zero_le _) ⟨rfl,rfl,rfl,rfl,rfl,rfl,trivial⟩ .refl (by simp only [cutInv];rw [shutS_zero]) ?_
    rintro ⟨k,cv⟩ hk
    replace hk:k≤ids.length:=hk
    simp only [cutInv]
    by_cases hlt3:k<ids.length
    ·have hi:ids[k]?=some ids[k]:=List.getElem?_eq_getElem hlt3
     have hq:p.qs[k]?=some (p.qs[k]'(by omega)):=List.getElem?_eq_getElem _
     obtain ⟨i,hie⟩:∃ i,ids[k]=i:=⟨_,rfl⟩
     obtain ⟨q,hqe⟩:∃ q,(p.qs[k]'(by omega))=q:=⟨_,rfl⟩
     rw [hie] at hi
     rw [hqe] at hq
     let er:=all ((seatCs g ids p.qs).eraseIdx k)
     refine we_star (seatR i.sb i.says i.turn i.fin::arr i.sb 3 (lastQ g q)::er::vec 1 cv (cutC (cutN g p.qs k))::arr pb 0 [.slice (some ⟨sb,so,none⟩) ids.length sc,tv2,cv]::vec 1 (.slice (some ⟨sb,so,none⟩) ids.length sc) (ptrs ids)::vec 3 tv2 (trCP p.tr)::g.U p.s::arr rb 0 [.slice none 0 0,.slice none 0 0]::shpC wg 87 2::F) (fun h st=>seat_pick hi hq (((.there (.there (.there (.there .here)))):Has (_::_::_::_::all (seatCs g ids p.qs)::_) _ _).star st)) ?_
     have hback:∀ {cv':Value} {cl:List Value} h,Star (seatR i.sb i.says i.turn i.fin::arr i.sb 3 (lastQ g q)::er::vec 1 cv' cl::arr pb 0 [.slice (some ⟨sb,so,none⟩) ids.length sc,tv2,cv']::vec 1 (.slice (some ⟨sb,so,none⟩) ids.length sc) (ptrs ids)::vec 3 tv2 (trCP p.tr)::g.U p.s::arr rb 0 [.slice none 0 0,.slice none 0 0]::shpC wg 87 2::F) h →
       Star (vec 1 cv' cl::arr pb 0 [.slice (some ⟨sb,so,none⟩) ids.length sc,tv2,cv']::vec 1 (.slice (some ⟨sb,so,none⟩) ids.length sc) (ptrs ids)::vec 3 tv2 (trCP p.tr)::all (seatCs g ids p.qs)::g.U p.s::arr rb 0 [.slice none 0 0,.slice none 0 0]::shpC wg 87 2::F) h:=fun h st=>by
      have s1:=seat_put (q':=q) hi hq st
      rw [set_same hq] at s1
      exact Ent.star (.take (.there .here) (.take (.there .here) (.take (.there .here) (.take (.there .here) (.take .here .refl))))) s1
     have hcl:(cutN g p.qs k).length≤k:=by have:=List.length_filter_le (fun k=>((p.qs[k]?).bind g.plan).isSome) (List.range k);rw [List.length_range] at this;exact this
     have hget:(shutS ids p.qs k)[k]?=some (⟨i.says,i.turn,i.fin,.said q⟩:Seat g.σ g.θ):=by rw [shutS_get hi hq,if_neg (by omega)];rfl
     have hsl2:ids.length=(shutS ids p.qs k).length:=(shutS_len hpq.symm).symm
     have rs:∀ {a b c d e:HProp} {M:List HProp},Rd (a::b::c::d::e::vec 1 (.slice (some ⟨sb,so,none⟩) ids.length sc) (ptrs ids)::M) sb (so+k) (.pointer (some ⟨i.sb,0,none⟩)):=rd_vec (cs:=ptrs ids) (.there (.there (.there (.there (.there .here))))) (by simp [ptrs,hi])
     refine we_pure (of_has (.there (.there (.there .here))) (vec_shape (by omega))) ?_
     rintro ⟨ca,cn,cc,rfl,hcn,_⟩
     have hcn:cn=(cutN g p.qs k).length:=by simp [cutC] at hcn;omega
     subst hcn
     cases hpl2:g.plan q with
     | none =>
      have hlq:lastQ g q=[.int .u8 0,.int .i64 0,.bool true]:=by unfold lastQ;rw [hpl2];rfl
      have hcut:cutN g p.qs (k+1)=cutN g p.qs k:=by rw [cutN_succ,hq];simp [hpl2]
      rw [hlq] at hback ⊢
      have rl:∀ {a:HProp} {M:List HProp},Rd (a::arr i.sb 3 [.int .u8 0,.int .i64 0,.bool true]::M) i.sb 5 (.bool true):=.there (Rd.row (k:=2) rfl rfl)
      have re:∀ {M:List HProp},Rd (seatR i.sb i.says i.turn i.fin::M) i.sb 1 (.chan (some i.fin)):=Rd.fro (k:=1) rfl rfl
      repeat (first | (apply wo_po;apply mo_index1;exact rfl;exact rfl;omega;exact gY) | (apply wo_po;apply mo_load;exact rfl;(first | exact rs | exact rl | exact re);exact trivial) | refine wlssT ?_ | refine we_seq ?_ | (refine wR ?_;try simp only [oS]) | refine wo_nil ?_ | refine wM ?_ | refine wA ?_ | refine wN ?_ | refine wD ?_ | (apply wo_po;apply mo_not;exact rfl;exact gY) | refine wT ?_ | refine wF ?_ | refine we_skip ?_ | refine we_block ?_)
      refine wo_shut (X:=⟨g,wg,shutS ids p.qs k,some p.s,16384-p.tr.length,ids.length,false,.play,none,0⟩) (j:=k) (c:=⟨i.says,i.turn,i.fin,.said q⟩) (q0:=q) rfl rfl rfl hsl2 rfl hget rfl trivial (by decide) ?_
      repeat (first | (refine wR ?_;try simp only [oS]) | refine wo_nil ?_ | refine wM ?_ | refine wadd ?_)
      refine at_roundS (B:=mT) (I:=cutInv p ids wg pb rb (.slice (some ⟨sb,so,none⟩) ids.length sc) tv2 (arr rb 0 [.slice none 0 0,.slice none 0 0]::shpC wg 87 2::F)) (R:=fun i'=>ids.length-i'.1<ids.length-k) (k+1,.slice ca (cutN g p.qs k).length cc) (by show ids.length-(k+1)<ids.length-k;omega) (show k+1≤ids.length by omega) ?_ (fun h st=>?_) ?_
      ·exact ⟨rfl,rfl,rfl,rfl,rfl,rfl,trivial⟩
      ·show Star (vec 1 _ (cutC (cutN g p.qs (k+1)))::_) h
       rw [hcut]
       exact hback h st
      ·simp only [cutInv]
       rw [← shutS_succ hi hq]
     | some mf =>
      obtain ⟨m,f⟩:=mf
      have hlq:lastQ g q=[.int .u8 m.1,.int .i64 m.2,.bool false]:=by unfold lastQ;rw [hpl2];rfl
      have hcut:cutN g p.qs (k+1)=cutN g p.qs k++[k]:=by rw [cutN_succ,hq];simp [hpl2]
      rw [hlq] at hback ⊢
      have rl:∀ {a:HProp} {M:List HProp},Rd (a::arr i.sb 3 [.int .u8 m.1,.int .i64 m.2,.bool false]::M) i.sb 5 (.bool false):=.there (Rd.row (k:=2) rfl rfl)
      have re:∀ {a b:HProp} {M:List HProp},Rd (a::b::seatR i.sb i.says i.turn i.fin::M) i.sb 1 (.chan (some i.fin)):=.there (.there (Rd.fro (k:=1) rfl rfl))
      repeat (first | (apply wo_po;apply mo_index1;exact rfl;exact rfl;omega;exact gY) | (apply wo_po;apply mo_load;exact rfl;(first | exact rs | exact rl);exact trivial) | (apply wo_mo;apply mo_buildSlice (sz:=1) (vs:=[.int .i64 (k:Nat)]);exact rfl;exact .cons rfl .nil;exact rfl;(intro v hv;cases (List.mem_singleton.1 hv);exact rfl);omega;exact trivial) | refine wlssT ?_ | refine we_seq ?_ | (refine wR ?_;try simp only [oS]) | refine wo_nil ?_ | refine wM ?_ | refine wA ?_ | refine wN ?_ | refine wD ?_ | (apply wo_po;apply mo_not;exact rfl;exact gY) | refine wL ?_ | refine wT ?_ | refine we_skip ?_ | refine we_block ?_)
      rintro v' L' ⟨nb,rfl,rfl⟩
      repeat (first | (apply wo_mo;apply mo_append (sz:=1) (new:=[.int .i64 (k:Nat)]);exact rfl;exact rfl;exact rfl;exact rfl;exact (.there (.there (.there (.there .here))));exact rfl;exact .inr ⟨_,_,rfl,Rds.all .here⟩;(intro v hv;cases (List.mem_singleton.1 hv);exact rfl);(simp only [sliceLen];omega);exact trivial))
      rintro v' L' rfl
      refine wo_pure (of_has .here (vec_shape (by omega))) ?_
      rintro ⟨ua,un,uc,rfl,hun,_⟩
      repeat (first | refine wS ?_ | (apply wo_po;apply mo_load;exact rfl;exact re;exact trivial) | (refine wR ?_;try simp only [oS]) | refine wo_nil ?_ | refine wM ?_ | refine wN ?_ | refine wD ?_)
      refine wo_shut (X:=⟨g,wg,shutS ids p.qs k,some p.s,16384-p.tr.length,ids.length,false,.play,none,0⟩) (j:=k) (c:=⟨i.says,i.turn,i.fin,.said q⟩) (q0:=q) rfl rfl rfl hsl2 rfl hget rfl trivial (by decide) ?_
      repeat (first | (refine wR ?_;try simp only [oS]) | refine wo_nil ?_ | refine wM ?_ | refine wadd ?_)
      refine at_roundS (B:=mT) (I:=cutInv p ids wg pb rb (.slice (some ⟨sb,so,none⟩) ids.length sc) tv2 (arr rb 0 [.slice none 0 0,.slice none 0 0]::shpC wg 87 2::F)) (R:=fun i'=>ids.length-i'.1<ids.length-k) (k+1,.slice ua un uc) (by show ids.length-(k+1)<ids.length-k;omega) (show k+1≤ids.length by omega) ?_ (fun h st=>?_) ?_
      ·exact ⟨rfl,rfl,rfl,rfl,rfl,rfl,trivial⟩
      ·show Star (vec 1 _ (cutC (cutN g p.qs (k+1)))::_) h
       have e4:cutC (cutN g p.qs (k+1))=cutC (cutN g p.qs k)++[.int .i64 (k:Nat)]:=by rw [hcut];simp [cutC]
       rw [e4]
       exact hback h (Ent.star (.take (.there (.there .here)) (.take (.there (.there .here)) (.take (.there (.there .here)) (.take .here (.drop .refl))))) st)
      ·simp only [cutInv]
       rw [← shutS_succ hi hq]
    ·obtain rfl:k=ids.length:=by omega
     repeat (first | refine wlssF ?_ | refine we_seq ?_ | (refine wR ?_;try simp only [oS]) | refine wo_nil ?_ | refine wF ?_ | refine we_exit ?_)
     refine wo_call (.cons rfl .nil) trivial (wgWait_tr (X:=⟨g,wg,shutS ids p.qs ids.length,some p.s,16384-p.tr.length,ids.length,false,.play,none,0⟩) rfl (by show ids.length<1000;omega) (shutS_len hpq.symm).symm (shutS_closed hpq.symm) (fun d e=>by cases e) rfl (fun h st=>shp_of (.there (.there (.there (.there (.there (.there (.there .here))))))) st)) ?_
     rintro v' L' x' ⟨rfl,rfl,rfl⟩
     rw [show GX.ends ⟨g,wg,shutS ids p.qs ids.length,some p.s,16384-p.tr.length,ids.length,false,.play,none,0⟩=all (p.qs.map g.Fin) from congrArg all (shutS_all hpq.symm)]
     repeat (first | (apply wo_po;apply mo_loadA (vs:=[tv2,cv]);exact rfl;exact rfl;exact Rds.row (k:=1) (.there (.there .here)) (by intro i v hv;match i,hv with | 0,hv=>exact hv | 1,hv=>exact hv);exact trivial) | refine we_seq ?_ | (refine wR ?_;try simp only [oS]) | refine wo_nil ?_ | refine wD ?_)
     refine wo_pure (of_has (.there .here) (vec_shape (by omega))) ?_
     rintro ⟨ca,cn,cc,rfl,_⟩
     refine wo_pure (of_has (.there (.there (.there (.there .here)))) (vec_shape (by omega))) ?_
     rintro ⟨ta2,tn2,tc2,rfl,_⟩
     repeat (first | (apply wo_pm;apply mo_storeA (c:=0) (k:=0) (a:=0) (vs:=[.slice none 0 0,.slice none 0 0]);exact rfl;exact rfl;exact rfl;(intro w hw;simp [Value.cells] at hw;rcases hw with rfl | rfl <;> rfl);exact rfl;exact Nat.le_refl 2;exact (.there (.there (.there (.there (.there (.there (.there .here)))))));exact trivial) | refine wo_nil ?_ | refine wA ?_ | refine we_ret ?_)
     refine at_leaveM (rs:=[.cell 4 29,.tmp 5]) Try.func17 Try.results17 hQ (.inl rfl) (.cons (.cell (vs:=[.slice ta2 tn2 tc2,.slice ca cn cc]) rfl rfl (Rds.all (.there (.there (.there (.there (.there (.there (.there .here))))))))) (.cons (.tmp rfl) .nil)) ?_
     refine ⟨_,_,rfl,rfl,fun h st=>?_⟩
     rw [← hids]
     exact Ent.star (.take (.there (.there (.there (.there .here)))) (.take (.there .here) (.take (.there (.there (.there (.there .here)))) (.take .here (.drop (.drop (.drop (.drop (.drop .refl))))))))) st
end
end
section
abbrev fH:Hand:=fHand Try.prog cvT
structure ThrT (g:Game) where
 fv:Value
 q0:g.θ
 M:HProp
structure ThrF (g:Game) (N:Nat) (t:ThrT g):Prop where
 run:∃ f first cap,callee? t.fv=some (f,first,cap)∧Ent' Try.prog f∧∀ wg F,Tr Try.prog fH f (first++[.nilIface]++cap) (t.M::F) (tx g 0 0 0 wg (.free t.q0 N)) fun v L' x' =>
  ∃ q' n',x'=tx g 0 0 0 wg (.free q' n')∧g.plan q'=none∧∀ h,Star L' h→Star (g.Fin q'::F) h
section
variable {g:Game}
theorem goesF_tr {N wg tb:Nat} {t:ThrT g} (TO:ThrF g N t) (hfin:∀ q h,g.Pv q h→g.Fin q h) {hc:Hp} (hs:Star [t.M,arr tb 0 [t.fv]] hc) :
  Nonempty (Run Try.prog tH false (tEnd Try.prog 54) (goFr Try.prog { target:=.fn (.func 53) [.pointer (some ⟨wg,0,none⟩),.pointer (some ⟨tb,0,none⟩)].toArray,args:=#[] }) [] hc (tx g 0 0 0 wg (.free t.q0 N))):=by
 obtain ⟨f,first,cap,hcal,en,tr⟩:=TO.run
 have e1:Enterable Try.prog 53:=(inferInstance:Ent' Try.prog 53).ok
 have e3:Enterable Try.prog 54:=(inferInstance:Ent' Try.prog 54).ok
 refine go_runF Try.func53 rfl Try.ntmps53 (by simp) Try.results53 e1 e3 rfl hfin hs ?_
 simp only [argE,Nat.zero_add,Nat.reduceAdd]
 repeat (first | refine we_seq ?_ | (refine wR ?_;try simp only [oS]))
 refine wo_defer (first:=[]) (cap:=[]) (args:=[_]) (vs:=[.pointer (some ⟨wg,0,none⟩)]) rfl (.cons rfl .nil) trivial ?_
 repeat (first | (apply wo_po;apply mo_load;exact rfl;exact .there (Rd.row (k:=0) rfl rfl);exact trivial) | (refine wR ?_;try simp only [oS]) | refine wo_nil ?_)
 refine wo_callv (args:=[_]) rfl hcal (.cons rfl .nil) trivial (tr wg _) ?_
 rintro v L' x' ⟨q',n',rfl,hp,hL⟩
 refine wo_star _ hL ?_
 repeat (first | refine wo_nil ?_)
 exact fun t h _ _ st=>⟨rfl,q',⟨hp,n',rfl⟩,star_map st (fun _ a=>a) (fun _ _=>trivial)⟩
abbrev fx (g:Game) (fd:FreeD g) (wg:Nat) (s:g.σ) (ad nf:Nat):MX:=.game ⟨g,wg,[],some s,0,ad,false,.play,some fd,nf⟩
def freeInv (fd:FreeD g) (ts:List (ThrT g)) (s0:g.σ) (wg:Nat) (tv:Value) (F:List HProp):PB.Inv Nat MX where
 e:=fun i=>[(4,.pointer (some ⟨wg,0,none⟩)),(12,tv),(13,.int .i64 (ts.length:Nat)),(14,.int .i64 (i:Nat))]
 L:=fun i=>all ((ts.drop i).map ThrT.M)::F
 x:=fun i=>fx g fd wg s0 i i
 ok:=fun i=>i≤ts.length
theorem free_tr {fd:FreeD g} {ts:List (ThrT g)} {s0:g.σ} {F:List HProp} {ta:Option Addr} {tn tc:Nat} (hcut:∀ r,g.U s0 r→g.U s0 { r with obj:=fun _=>none }) (hq:fd.q0=ts.map ThrT.q0) (hI:fd.I s0 fd.q0) (hφ:fd.φ s0 fd.q0≤fd.N) (hfin:∀ q h,g.Pv q h→g.Fin q h)
  (hts:∀ t∈ts,ThrF g fd.N t) (h1:0<ts.length) (h16:ts.length≤16) (hrt:RdsO F ta tn (ts.map ThrT.fv)) :
  Tr Try.prog mT 31 [.slice ta tn tc] (g.U s0::all (ts.map ThrT.M)::F) .idle fun v L' x' =>
   ∃ s qs,fd.I s qs∧(∀ q∈qs,g.plan q=none)∧qs.length=ts.length∧v=.int .i64 0∧x'=.idle∧L'=g.U s::all (qs.map g.Fin)::F:=by
 refine Tr.post (R:=fun v L' x'=>∃ s qs,fd.I s qs∧(∀ q∈qs,g.plan q=none)∧qs.length=ts.length∧v=.int .i64 0∧x'=MX.idle∧∀ h,Star L' h→Star (g.U s::all (qs.map g.Fin)::F) h) ?_
  (by rintro v L' x' ⟨s,qs,a1,a2,a3,rfl,rfl,h2⟩;exact ⟨_,⟨s,qs,a1,a2,a3,rfl,rfl,rfl⟩,h2⟩)
 have hfn:∀ v∈ts.map ThrT.fv,isFn v:=by
  intro v hv
  obtain ⟨t,ht,rfl⟩:=List.mem_map.1 hv
  obtain ⟨f,first,cap,hc,_⟩:=(hts t ht).run
  revert hc
  cases t.fv with
  | func a b c=>exact fun _=>⟨a,b,c,rfl⟩
  | _=>intro hc;cases hc
 have htn:tn=ts.length:=by have:=hrt.1;simpa using this
 subst htn
 refine tr_of_body Try.func31 rfl Try.ntmps31 (by simp) fun um Q _ hQ=>?_
 simp only [argE,Nat.zero_add,Nat.reduceAdd]
 repeat (first | refine we_seq ?_ | (refine wR ?_;try simp only [oS]) | refine wo_nil ?_ | refine wM ?_ | refine wA ?_)
 refine wo_call (.cons rfl .nil) trivial (wrong_tr (fun v hv=>.inr (hfn v hv)) hrt.there.there (by omega)) ?_
 rintro v' L' x' ⟨⟨k,rfl,hk⟩,rfl,rfl⟩
 obtain rfl:k=0:=by
  rcases hk with ⟨_,h⟩ | ⟨_,h⟩
  ·obtain ⟨_,_,_,h⟩:=hfn _ h;cases h
  ·rw [h,List.length_map,if_neg (by omega),if_neg (by omega)]
 repeat (first | (apply wo_mo;apply mo_allocS;exact trivial) | refine wneqF ?_ | refine we_seq ?_ | (refine wR ?_;try simp only [oS]) | refine wo_nil ?_ | refine wM ?_ | refine wA ?_ | refine wF ?_ | refine we_skip ?_)
 rintro v' L' ⟨wg,rfl,rfl⟩
 refine wo_beginF g fd s0 (wg:=wg) (R:=all (ts.map ThrT.M)::F) hcut hI hφ (fun h st=>Ent.star (.take (.there (.there .here)) (.take .here (.take .here .refl))) st) ?_
 repeat (first | refine we_seq ?_ | (refine wR ?_;try simp only [oS]) | refine wo_nil ?_ | refine wM ?_ | refine wE ?_ | refine we_block ?_)
 refine we_loopN (freeInv fd ts s0 wg (.slice ta ts.length tc) (shpC wg 87 2::F)) (fun i=>ts.length-i) 0 (Nat.zero_le _) ⟨rfl,rfl,rfl,rfl,trivial⟩ (.take (.there .here) (.take .here .refl)) rfl ?_
 intro j hj
 replace hj:j≤ts.length:=hj
 simp only [freeInv]
 by_cases hlt:j<ts.length
 ·obtain ⟨tb,to,rfl,hrd⟩:=hrt.rds (by omega)
  have ht:ts[j]?=some ts[j]:=List.getElem?_eq_getElem hlt
  have hrj:=hrd j (ts[j].fv) (by simp [ht])
  have hTO:=hts _ (List.getElem_mem hlt)
  have hdrop:ts.drop j=ts[j]::ts.drop (j+1):=List.drop_eq_getElem_cons hlt
  obtain ⟨fa,fb,fc,hfe⟩:=hfn ts[j].fv (List.mem_map.2 ⟨_,List.getElem_mem hlt,rfl⟩)
  rw [hfe] at hrj
  rw [hdrop]
  refine we_star (ts[j].M::all ((ts.drop (j+1)).map ThrT.M)::shpC wg 87 2::F) (fun h st=>star_head st) ?_
  repeat (first | (apply wo_po;apply mo_index1;exact rfl;exact rfl;omega;exact gY) | (apply wo_po;apply mo_load;exact rfl;exact .there (.there (.there hrj));exact trivial) | (apply wo_mo;apply mo_alloc;exact trivial) | refine wlssT ?_ | refine we_seq ?_ | (refine wR ?_;try simp only [oS]) | refine wo_nil ?_ | refine wT ?_ | refine we_skip ?_ | refine we_block ?_)
  rintro v' L' ⟨tb',rfl,rfl⟩
  repeat (first | refine wS ?_ | refine we_seq ?_ | (refine wR ?_;try simp only [oS]) | refine wo_nil ?_)
  refine wo_call (.cons rfl (.cons rfl .nil)) trivial (wgAdd_tr (X:=⟨g,wg,[],some s0,0,j,false,.play,some fd,j⟩) rfl (by show j<1000;omega) (by show j=0+j;omega) rfl rfl (fun h st=>shp_of (.there (.there (.there .here))) st)) ?_
  rintro v1 L1 x1 ⟨rfl,rfl,rfl⟩
  repeat (first | (apply wo_po;apply mo_makeFunc (first:=[]) (cap:=[_,_]) (vf:=[]);exact .nil;exact .cons rfl (.cons rfl .nil);exact trivial) | (refine wR ?_;try simp only [oS]) | refine wo_nil ?_)
  refine wo_startF (X:=⟨g,wg,[],some s0,0,j+1,false,.play,some fd,j⟩) (fd:=fd) (q0:=ts[j].q0) (M:=[ts[j].M,arr tb' 0 [.func fa fb fc]]) (R:=all ((ts.drop (j+1)).map ThrT.M)::shpC wg 87 2::F) (cap:=[_,_]) rfl trivial rfl rfl rfl (by show j+1=0+j+1;omega) (by show fd.q0[j]?=_;rw [hq];simp [ht]) (fun h st=>star_shut (M:=[_,_]) (Ent.star (.take (.there .here) (.take .here (.take .here (.take .here .refl)))) st)) (fun hc st=>goesF_tr (t:=ts[j]) hTO hfin (by rw [hfe];exact st)) ?_
  repeat (first | (refine wR ?_;try simp only [oS]) | refine wo_nil ?_ | refine wM ?_ | refine wadd ?_)
  refine at_round (B:=mT) (I:=freeInv fd ts s0 wg (.slice (some ⟨tb,to,none⟩) ts.length tc) (shpC wg 87 2::F)) (R:=fun i'=>ts.length-i'<ts.length-j) (j+1) (by show ts.length-(j+1)<ts.length-j;omega) (show j+1≤ts.length by omega) ?_ .refl rfl
  exact ⟨rfl,rfl,rfl,rfl,trivial⟩
 ·obtain rfl:j=ts.length:=by omega
  repeat (first | refine wlssF ?_ | refine we_seq ?_ | (refine wR ?_;try simp only [oS]) | refine wo_nil ?_ | refine wF ?_ | refine we_exit ?_)
  refine wo_call (.cons rfl .nil) trivial (wgWait_tr (X:=⟨g,wg,[],some s0,0,ts.length,false,.play,some fd,ts.length⟩) rfl (by show ts.length<1000;omega) (by show ts.length=0+ts.length;omega) (fun s hs=>by cases hs) (fun d hd=>by cases hd;show ts.length=fd.q0.length;rw [hq,List.length_map]) rfl (fun h st=>shp_of (.there .here) st)) ?_
  rintro v' L' x' ⟨rfl,rfl,rfl⟩
  refine wo_star ((fun r=>∃ a:{ p:g.σ × List g.θ // fd.I p.1 p.2∧(∀ q∈p.2,g.plan q=none)∧p.2.length=fd.q0.length },all (g.U a.1.1::a.1.2.map g.Fin) r)::all ((ts.drop ts.length).map ThrT.M)::shpC wg 87 2::F) (fun h st=>star_map st (fun r hr=>?_) fun _ a=>a) ?_
  ·obtain ⟨s,qs,b1,b2,b3,b4⟩:=hr
   exact ⟨⟨(s,qs),b1,b2,b3⟩,b4⟩
  refine wo_ex .here ?_
  rintro ⟨⟨s,qs⟩,b1,b2,b3⟩
  repeat (first | refine we_seq ?_ | (refine wR ?_;try simp only [oS]) | refine wo_nil ?_ | refine wA ?_ | refine we_ret ?_)
  (first | refine or1 Try.func31 Try.results31 hQ rfl ?_ | refine on1 Try.func31 Try.results31 hQ rfl ?_)
  refine ⟨s,qs,b1,b2,by rw [b3,hq,List.length_map],rfl,rfl,fun h st=>?_⟩
  exact Ent.star (.take .here (.take .here (.drop (.drop .refl)))) (star_head st)
end
end
end Go.Proofs.Ytabbkjciifnehaa
namespace Go.PB
open Go
section
def Dup (c:HProp):Prop:=∀ (L:List HProp) (h:Hp),Star (c::L) h→Star (c::c::L) h
theorem dup_fro {b o:Nat} {vs:List Value}:Dup (fro b o vs):=fun L h s=>fro_two s
theorem dup_base {W:World}:Dup (base W):=fun L h s=>by
 obtain ⟨h1,h2,s1,ha,hL⟩:=s
 exact ⟨⟨fun _ _=>none,h1.ro,fun _=>none,fun _=>none⟩,h,⟨fun _ _ _ e=>s1.r1 _ _ _ e,fun _ _ _ e=>e,fun _ _ _ e=>by simp at e,fun _ _ _ e=>e,fun _ _=>.inl rfl,fun _ _ e=>by simp at e,fun _ _ e=>e,fun _=>.inl rfl,fun _ _ e=>by simp at e,fun _ _ e=>e⟩,ha,h1,h2,s1,ha,hL⟩
theorem all_cons {c:HProp} {M L:List HProp} {h:Hp} (s:Star (all (c::M)::L) h):Star (c::all M::L) h :=
 star_map (star_open (M:=c::M) s) (fun _ z=>z) fun _ z=>star_shut z
theorem cons_all {c:HProp} {M L:List HProp} {h:Hp} (s:Star (c::all M::L) h):Star (all (c::M)::L) h :=
 star_shut (M:=c::M) (star_map s (fun _ z=>z) fun _ z=>star_open z)
theorem dup_all:∀ {M:List HProp},(∀ c∈M,Dup c)→Dup (all M)
 | [],_=>fun L h s=>star_shut (M:=[]) s
 | c::M,hM=>fun L h s=>by
  have s1:=hM c (by simp) _ _ (all_cons s)
  have s2:Star (all M::c::c::L) h:=Ent.star (.take (.there (.there .here)) (.take .here (.take .here .refl))) s1
  have s3:=dup_all (fun d hd=>hM d (by simp [hd])) _ _ s2
  have s4:Star (c::all M::c::all M::L) h:=Ent.star (.take (.there (.there .here)) (.take .here (.take (.there .here) (.take .here .refl)))) s3
  exact cons_all (star_map s4 (fun _ z=>z) fun _ z=>star_map z (fun _ z=>z) fun _ z=>cons_all z)
theorem dup_many {c:HProp} (hc:Dup c) {L:List HProp} {h:Hp} (s:Star (c::L) h):∀ n,Star (all (List.replicate n c)::c::L) h
 | 0=>star_shut (M:=[]) s
 | n+1=>by
  have s1:=dup_many hc s n
  have s2:=hc _ _ (star_swap s1)
  have s3:Star (c::all (List.replicate n c)::c::L) h:=Ent.star (.take .here (.take (.there .here) (.take .here .refl))) s2
  rw [List.replicate_succ]
  exact cons_all s3
theorem star_zip:∀ {As Bs L:List HProp} {h:Hp},As.length=Bs.length→Star (all As::all Bs::L) h→Star (all (List.zipWith (fun a b=>all [a,b]) As Bs)::L) h
 | [],[],L,h,_,s=>star_shut (M:=[]) (star_drop (star_drop s))
 | [],b::Bs,L,h,e,s=>by simp at e
 | a::As,[],L,h,e,s=>by simp at e
 | a::As,b::Bs,L,h,e,s=>by
  have s1:=all_cons s
  have s2:Star (all (b::Bs)::a::all As::L) h:=Ent.star (.take (.there (.there .here)) (.take .here (.take .here .refl))) s1
  have s3:=all_cons s2
  have s4:Star (all As::all Bs::a::b::L) h:=Ent.star (.take (.there (.there (.there .here))) (.take (.there .here) (.take (.there .here) (.take .here .refl)))) s3
  have s5:=star_zip (by simpa using e) s4
  have s6:Star (a::b::all (List.zipWith (fun a b=>all [a,b]) As Bs)::L) h:=Ent.star (.take (.there .here) (.take (.there .here) (.take .here .refl))) s5
  exact cons_all (star_shut (M:=[_,_]) s6)
theorem star_tail:∀ {M L:List HProp} {h:Hp},Star (M++L) h→Star (all L::M) h
 | [],L,h,s=>star_shut (L:=[]) (by rw [List.append_nil];exact s)
 | c::M,L,h,s=>star_swap (star_map (L:=M++L) s (fun _ z=>z) fun _ z=>star_tail z)
theorem zeros_rep {n:Nat} {v:Value}:zeros n [v]=List.replicate n v:=by
 unfold zeros
 induction n with
 | zero=>rfl
 | succ n ih=>rw [List.replicate_succ,List.flatten_cons,ih,List.replicate_succ];rfl
end
end Go.PB
namespace Go.PB
section
section
variable {P:Program} {xt:TypeId} {x y:Operand} {a b:ByteArray}
theorem bin_cat (h:a.size+b.size≤9223372036854775807):Bin P .add xt x y (.string a) (.string b) (.string (a++b)):=by
 intro M hh Q X q
 have:binOp .add xt (.string a) (.string b)=(pure (.string (a++b)):Sem Value):=by
  show Op.stringOp .add a b=_
  unfold Op.stringOp
  have hm:IntKind.i64.max=9223372036854775807:=rfl
  simp only
  rw [if_neg (by rw [hm];omega)]
 rw [this];exact q
theorem bin_streq {r:Bool} (h:(a.toList == b.toList)=r):Bin P .eql xt x y (.string a) (.string b) (.bool r):=by
 subst h
 intro M hh Q X q
 exact q
theorem wpS_partA {M:Mark→Prop} {α:Type} {t:TypeId} {n:Nat} {cs:Array Value} {off:Nat} {kk:Value→Sem α} (ha:aggOf P t=some true) (hz:szOf P t=some n) {h:Hp} {Q:α→Hp→Prop} {X:Value→Hp→Prop} (q:wpS P M (kk (.agg (cs.extract off (off+n)))) h Q X) :
  wpS P M (Sem.bind (part t cs off) kk) h Q X:=by
 refine wpS_bind _ _ ?_
 unfold part
 refine wpS_isAgg (q:=true) ha ?_
 simp only [if_true]
 refine wpS_sizeOf hz ?_
 exact q
theorem eql_turned {t t1:TypeId} {f0 f1 g0 g1:Field} {k0 k1 k2:IntKind} {a0 b0 a1 b1 a2 b2:Int} [p:Und P t (.struct #[f0,f1])] [p1:Und P t1 (.struct #[g0,g1])] [sz:Siz P t1 2] (hs:P.stoodInHeld t=false) (hs1:P.stoodInHeld t1=false) (hg:P.eqGuardType P.depth t=false)
  (n0:f0.name ≠ "_") (n1:f1.name ≠ "_") (m0:g0.name ≠ "_") (m1:g1.name ≠ "_") (o0:f0.offset=0) (o1:f1.offset=1) (q0:g0.offset=0) (q1:g1.offset=1) (ft1:f1.type=t1) (t0:P.underlying f0.type=some (.int k0)) (u0:P.underlying g0.type=some (.int k1)) (u1:P.underlying g1.type=some (.int k2)) :
  Eql P t x y (.agg #[.int k0 a0,.int k1 a1,.int k2 a2]) (.agg #[.int k0 b0,.int k1 b1,.int k2 b2]) (decide (a0=b0∧a1=b1∧a2=b2)) :=
 eql_agg hg fun {M h Q X} q=>by
  rw [equal_def]
  unfold Op.equalIn
  refine wpS_underlying p.ok ?_
  dsimp only
  refine wpS_program (β:=Unit) ?_
  simp only [hs,Bool.false_eq_true,if_false,← Array.forIn_toList,List.forIn_cons,List.forIn_nil,n0,n1,ne_eq,not_false_eq_true,if_true,bind_assoc,pure_bind,o0,o1,ft1]
  have ha:aggOf P t1=some true:=by unfold aggOf;rw [p1.ok];rfl
  refine wpS_partI t0 rfl (wpS_partI t0 rfl (wpS_equalI (d:=9998) t0 ?_))
  by_cases e0:a0=b0
  ·subst e0
   simp only [beq_self_eq_true,Bool.not_true,Bool.false_eq_true,if_false,pure_bind,bind_assoc]
   refine wpS_partA ha sz.ok (wpS_partA ha sz.ok (wpS_bind _ _ ?_))
   refine equalIn_two (d:=9997) p1.ok hs1 m0 m1 q0 q1 u0 u1 ?_
   by_cases e1:a1=b1∧a2=b2
   ·obtain ⟨rfl,rfl⟩:=e1
    simp only [decide_true,and_self,Bool.not_true,Bool.false_eq_true,if_false,pure_bind]
    have q':Q true h:=by simpa using q
    exact q'
   ·simp only [e1,decide_false,Bool.not_false,if_true,pure_bind]
    have q':Q false h:=by simpa [e1] using q
    exact q'
  ·have:(a0 == b0)=false:=by simp [e0]
   simp only [this,Bool.not_false,if_true,pure_bind,bind_assoc]
   have q':Q false h:=by simpa [e0] using q
   exact q'
end
theorem wo_join {P:Program} {B:Hand} {kd:CallKind} {n:Nat} {K:Post B} {e:Env} {z:Z} {L:List HProp} {x:B.X} {l:List OpG} {c:Code} {ι:Type} (I:Inv ι B.X) (w:Wo P B kd n l (midK I n z K) e z L x) (k:∀ i,I.ok i→We P B kd n c K (I.e i) z (I.L i) (I.x i)):Wo P B kd n l (thn P B kd c K) e z L x :=
 fun ops idx h1 h2 t h a1 a2 a3=>fun main S C b kk cs hb ha=>w ops idx h1 h2 t h a1 a2 a3 main S C b kk cs hb fun ex t z' h x q=>ha ex t z' h x (mid_out I k ex t z' h x q)
end
end Go.PB
namespace Go.Proofs.Ytabbkjciifnehaa
open Go Go.PB
attribute [local irreducible] Mo Bin Eql Tr Wo Ap Wle
section
def cntIn (sum all k:Nat):Nat→Option (Nat × Nat)
 | 0=>some (sum,all)
 | r+1=>if 16384<all*(sum+1)/(k+1) then none else cntIn (sum+1) (all*(sum+1)/(k+1)) (k+1) r
def cntF (sum all:Nat):List Nat→Option Nat
 | []=>some all
 | n::l=>(cntIn sum all 0 n).bind fun sa=>cntF sa.1 sa.2 l
def overF (s:Int):List Int→Bool
 | []=>false
 | n::l=>decide (16384-s<n)||overF (s+n) l
def wrongF (l:List Int):Int:=if ∃ n∈l,n<0 then 2 else if 16<l.length then 4 else if overF 0 l=true then 4 else 0
def sumI (l:List Int):Int:=l.foldr (·+·) 0
theorem overF_sum:∀ (l:List Int) (s:Int),(∀ n∈l,0≤n)→s≤16384→overF s l=false→s+sumI l≤16384
 | [],s,_,h,_=>by simpa [sumI] using h
 | n::l,s,hn,h,ho=>by
  simp only [overF,Bool.or_eq_false_iff,decide_eq_false_iff_not] at ho
  have:=overF_sum l (s+n) (fun m hm=>hn m (by simp [hm])) (by omega) ho.2
  simp only [sumI,List.foldr_cons] at this ⊢
  omega
theorem sumI_nonneg:∀ (l:List Int),(∀ n∈l,0≤n)→0≤sumI l
 | [],_=>by simp [sumI]
 | n::l,h=>by
  have h1:=sumI_nonneg l fun m hm=>h m (by simp [hm])
  have h2:=h n (by simp)
  simp only [sumI,List.foldr_cons] at h1 ⊢
  omega
section
variable {B:Hand} [Lets B] {L:List HProp} {x:B.X} {a:Option Addr} {n c:Nat} {l:List Int}
abbrev ints (l:List Int):List Value:=l.map fun k=>.int .i64 k
def minInv (sv:Value) (l:List Int) (L:List HProp) (x:B.X):PB.Inv (Nat × Int) B.X where
 e:=fun i=>[(0,sv),(3,.int .i64 i.2),(4,.int .i64 (i.1:Nat))]
 L:=fun _=>L
 x:=fun _=>x
 ok:=fun i=>i.1≤l.length∧(∀ k v,k<i.1→l[k]?=some v→i.2≤v)∧i.2∈l
theorem min_tr (hr:RdsO L a n (ints l)) (h0:0<l.length) (hb:n≤17592186043904) :
  Tr Try.prog B 51 [.slice a n c] L x fun v L' x'=>(∃ m:Int,v=.int .i64 m∧(m<0↔∃ k∈l,k<0))∧L'=L∧x'=x:=by
 have hn:n=l.length:=by have:=hr.1;simpa using this
 subst hn
 obtain ⟨b,o,rfl,hrd⟩:=hr.rds h0
 have hri:∀ i (h:i<l.length),Rd L b (o+i) (.int .i64 l[i]):=fun i h=>hrd i _ (by rw [List.getElem?_map,List.getElem?_eq_getElem h];rfl)
 refine tr_of_body Try.func51 rfl Try.ntmps51 (by simp) fun um Q _ hQ=>?_
 simp only [argE,Nat.zero_add,Nat.reduceAdd]
 repeat (first | (apply wo_po;apply mo_index1 (j:=0);exact rfl;exact rfl;omega;exact trivial) | (apply wo_po;apply mo_load;exact rfl;exact hri 0 h0;exact trivial) | refine wlssF ?_ | refine we_seq ?_ | (refine wR ?_;try simp only [oS]) | refine wo_nil ?_ | refine wM ?_ | refine wA ?_ | refine wE ?_ | refine wF ?_ | refine we_skip ?_ | refine we_block ?_)
 refine we_loopN (minInv (.slice (some ⟨b,o,none⟩) l.length c) l L x) (fun i=>l.length-i.1) (1,l[0]) ⟨by show 1≤l.length;omega,fun k v hk hv=>?_,List.getElem_mem h0⟩ ⟨rfl,rfl,rfl,trivial⟩ .refl rfl ?_
 ·obtain rfl:k=0:=by simp only at hk;omega
  rw [List.getElem?_eq_getElem h0] at hv;cases hv;exact Int.le_refl _
 rintro ⟨i,m⟩ ⟨hi,hm1,hm2⟩
 simp only at hi hm1 hm2
 simp only [minInv]
 by_cases hlt:i<l.length
 ·repeat (first | (apply wo_po;apply mo_index1;exact rfl;exact rfl;omega;exact gY) | (apply wo_po;apply mo_load;exact rfl;exact hri i hlt;exact trivial) | refine wlssT ?_ | refine we_seq ?_ | (refine wR ?_;try simp only [oS]) | refine wo_nil ?_ | refine wM ?_ | refine wA ?_ | refine wadd ?_ | refine wE ?_ | (apply wo_po;apply mo_min;exact rfl;exact rfl;exact gY) | refine wT ?_ | refine we_skip ?_ | refine we_block ?_)
  refine at_round (I:=minInv (.slice (some ⟨b,o,none⟩) l.length c) l L x) (R:=fun j=>l.length-j.1<l.length-i) (i+1,min m l[i]) (by show l.length-(i+1)<l.length-i;omega) ⟨by show i+1≤l.length;omega,fun k v hk hv=>?_,?_⟩ ⟨rfl,rfl,rfl,trivial⟩ .refl rfl
  ·simp only at hk ⊢
   by_cases e:k=i
   ·subst e;rw [List.getElem?_eq_getElem hlt] at hv;cases hv;exact Int.min_le_right _ _
   ·exact Int.le_trans (Int.min_le_left _ _) (hm1 k v (by omega) hv)
  ·simp only
   rcases Int.le_total m l[i] with h | h
   ·rw [Int.min_eq_left h];exact hm2
   ·rw [Int.min_eq_right h];exact List.getElem_mem hlt
 ·repeat (first | refine wlssF ?_ | refine we_seq ?_ | (refine wR ?_;try simp only [oS]) | refine wo_nil ?_ | refine wM ?_ | refine wA ?_ | refine wE ?_ | refine wF ?_ | refine we_ret ?_ | refine we_exit ?_)
  (first | refine or1 Try.func51 Try.results51 hQ rfl ?_ | refine on1 Try.func51 Try.results51 hQ rfl ?_)
  refine ⟨⟨m,rfl,fun h=>⟨m,hm2,h⟩,?_⟩,rfl,rfl⟩
  rintro ⟨k,hk,hk0⟩
  obtain ⟨j,hj⟩:=List.mem_iff_getElem?.1 hk
  have:=hm1 j k (by have:=(List.getElem?_eq_some_iff.1 hj).1;omega) hj
  omega
def sumInv (sv:Value) (l:List Int) (L:List HProp) (x:B.X):PB.Inv (Nat × Int) B.X where
 e:=fun i=>[(0,sv),(4,.int .i64 i.2),(5,.int .i64 1),(22,sv),(23,.int .i64 (l.length:Nat)),(24,.int .i64 (i.1:Nat))]
 L:=fun _=>L
 x:=fun _=>x
 ok:=fun i=>i.1≤l.length∧0≤i.2∧i.2≤16384∧overF i.2 (l.drop i.1)=overF 0 l
def cntInvP (sv:Value) (l:List Int) (L:List HProp) (x:B.X):PB.Inv (Nat × Nat × Nat) B.X where
 e:=fun i=>[(4,.int .i64 (i.2.1:Nat)),(5,.int .i64 (i.2.2:Nat)),(36,sv),(37,.int .i64 (l.length:Nat)),(38,.int .i64 (i.1:Nat))]
 L:=fun _=>L
 x:=fun _=>x
 ok:=fun i=>i.1≤l.length∧(i.2.1:Int)+sumI (l.drop i.1)≤16384∧i.2.2≤16384∧cntF i.2.1 i.2.2 ((l.drop i.1).map Int.toNat)=cntF 0 1 (l.map Int.toNat)
def cntInv2 (sv:Value) (m n j:Nat) (s0 a0:Nat) (L:List HProp) (x:B.X):PB.Inv (Nat × Nat × Nat) B.X where
 e:=fun i=>[(4,.int .i64 (i.2.1:Nat)),(5,.int .i64 (i.2.2:Nat)),(36,sv),(37,.int .i64 (m:Nat)),(38,.int .i64 (j:Nat)),(42,.int .i64 (n:Nat)),(43,.int .i64 (i.1:Nat))]
 L:=fun _=>L
 x:=fun _=>x
 ok:=fun i=>i.1≤n∧i.2.1=s0+i.1∧i.2.2≤16384∧cntIn i.2.1 i.2.2 i.1 (n-i.1)=cntIn s0 a0 0 n
theorem count_tr (hr:RdsO L a n (ints l)) (hb:n≤17592186043904) :
  Tr Try.prog B 26 [.slice a n c] L x fun v L' x' =>
   v=.tuple #[.int .i64 (if wrongF l≠0 then 0 else ((cntF 0 1 (l.map Int.toNat)).getD 0:Nat)),.int .i64 (if wrongF l≠0 then wrongF l else if (cntF 0 1 (l.map Int.toNat)).isSome=true then 0 else 20)]∧L'=L∧x'=x:=by
 have hn:n=l.length:=by have:=hr.1;simpa using this
 subst hn
 have hri:∀ i (h:i<l.length),∃ b o,a=some ⟨b,o,none⟩∧Rd L b (o+i) (.int .i64 l[i]):=fun i h=>by
  obtain ⟨b,o,e,hrd⟩:=hr.rds (by omega)
  exact ⟨b,o,e,hrd i _ (by rw [List.getElem?_map,List.getElem?_eq_getElem h];rfl)⟩
 by_cases hneg:∃ k∈l,k<0
 ·have hw:wrongF l=2:=by unfold wrongF;rw [if_pos hneg]
  have h0:0<l.length:=by obtain ⟨k,hk,_⟩:=hneg;exact List.length_pos_of_mem hk
  refine tr_of_body Try.func26 rfl Try.ntmps26 (by simp) fun um Q _ hQ=>?_
  simp only [argE,Nat.zero_add,Nat.reduceAdd]
  repeat (first | refine wgtrT ?_ | refine we_seq ?_ | (refine wR ?_;try simp only [oS]) | refine wo_nil ?_ | refine wM ?_ | refine wA ?_ | refine wE ?_)
  refine wo_call (.cons rfl .nil) rfl (min_tr hr h0 hb) ?_
  rintro v' L' x' ⟨⟨m,rfl,hm⟩,rfl,rfl⟩
  have hm0:m<0:=hm.2 hneg
  repeat (first | refine wlssT ?_ | refine we_seq ?_ | (refine wR ?_;try simp only [oS]) | refine wo_nil ?_ | refine wA ?_ | refine wK ?_ | refine wT ?_ | refine we_ret ?_)
  (first | refine or2 Try.func26 Try.results26 hQ rfl rfl ?_ | refine on2 Try.func26 Try.results26 hQ rfl rfl ?_)
  rw [hw]
  exact ⟨rfl,rfl,rfl⟩
 have hpos:∀ k∈l,0≤k:=fun k hk=>by
  by_cases h:0≤k
  ·exact h
  ·exact absurd ⟨k,hk,by omega⟩ hneg
 refine tr_of_body Try.func26 rfl Try.ntmps26 (by simp) fun um Q _ hQ=>?_
 simp only [argE,Nat.zero_add,Nat.reduceAdd]
 repeat (first | refine we_seq ?_ | (refine wR ?_;try simp only [oS]) | refine wo_nil ?_ | refine wM ?_ | refine wA ?_ | (apply wo_po;apply mo_bin;exact rfl;exact rfl;exact bin_gtr;exact gY) | refine wE ?_)
 have hnw:wrongF l=if 16<l.length then 4 else if overF 0 l=true then 4 else 0:=by unfold wrongF;rw [if_neg hneg]
 let MI:PB.Inv Unit B.X:=⟨fun _=>[(0,.slice a l.length c),(2,.int .i64 0),(3,.int .i64 0),(4,.int .i64 0),(5,.int .i64 1),(18,.bool false)],fun _=>L,fun _=>x,fun _=>True⟩
 refine wo_join MI ?_ ?_
 ·by_cases h0:0<l.length
  ·rw [show decide ((0:Int)<((l.length:Nat):Int))=true from decide_eq_true (by omega)]
   repeat (first | refine wM ?_)
   refine wo_call (.cons rfl .nil) rfl (min_tr hr h0 hb) ?_
   rintro v' L' x' ⟨⟨m,rfl,hm⟩,rfl,rfl⟩
   have hm0:¬ m<0:=fun h=>hneg (hm.1 h)
   repeat (first | refine wlssF ?_ | refine wo_nil ?_ | refine wK ?_)
   refine at_mid (I:=MI) () trivial ?_ .refl rfl
   exact ⟨rfl,rfl,rfl,rfl,rfl,rfl,trivial⟩
  ·rw [show decide ((0:Int)<((l.length:Nat):Int))=false from decide_eq_false (by omega)]
   repeat (first | refine wo_nil ?_ | (apply wo_no;exact rfl) | refine wJ ?_)
   refine at_mid (I:=MI) () trivial ?_ .refl rfl
   exact ⟨rfl,rfl,rfl,rfl,rfl,rfl,trivial⟩
 rintro ⟨⟩ _
 simp only [MI]
 by_cases h16:16<l.length
 ·repeat (first | refine wgtrT ?_ | refine we_seq ?_ | (refine wR ?_;try simp only [oS]) | refine wo_nil ?_ | refine wM ?_ | refine wA ?_ | refine wE ?_ | refine wT ?_ | refine wF ?_ | refine we_ret ?_ | refine we_skip ?_)
  (first | refine or2 Try.func26 Try.results26 hQ rfl rfl ?_ | refine on2 Try.func26 Try.results26 hQ rfl rfl ?_)
  rw [hnw,if_pos h16]
  exact ⟨rfl,rfl,rfl⟩
 rw [if_neg h16] at hnw
 repeat (first | refine wgtrF ?_ | refine we_seq ?_ | (refine wR ?_;try simp only [oS]) | refine wo_nil ?_ | refine wM ?_ | refine wE ?_ | refine wF ?_ | refine we_skip ?_ | refine we_block ?_)
 refine we_loopN (sumInv (.slice a l.length c) l L x) (fun i=>l.length-i.1) (0,0) ⟨Nat.zero_le _,Int.le_refl _,by show (0:Int)≤16384;omega,rfl⟩ ⟨rfl,rfl,rfl,rfl,rfl,rfl,trivial⟩ .refl rfl ?_
 rintro ⟨i,s⟩ ⟨hi,hs0,hs1,hov⟩
 simp only at hi hs0 hs1 hov
 simp only [sumInv]
 by_cases hlt:i<l.length
 ·obtain ⟨b,o,rfl,hrd⟩:=hri i hlt
  have hdr:l.drop i=l[i]::l.drop (i+1):=List.drop_eq_getElem_cons hlt
  have hli:=hpos l[i] (List.getElem_mem hlt)
  rw [hdr] at hov
  simp only [overF] at hov
  by_cases hbig:16384-s<l[i]
  ·repeat (first | (apply wo_po;apply mo_index1;exact rfl;exact rfl;omega;exact gY) | (apply wo_po;apply mo_load;exact rfl;exact hrd;exact trivial) | refine wlssT ?_ | refine wgtrT ?_ | refine we_seq ?_ | (refine wR ?_;try simp only [oS]) | refine wo_nil ?_ | refine wM ?_ | refine wA ?_ | refine wsub ?_ | refine wT ?_ | refine we_ret ?_ | refine we_skip ?_ | refine we_block ?_)
   (first | refine or2 Try.func26 Try.results26 hQ rfl rfl ?_ | refine on2 Try.func26 Try.results26 hQ rfl rfl ?_)
   have ho:overF 0 l=true:=by rw [← hov];simp [hbig]
   rw [ho] at hnw
   rw [show wrongF l=4 from hnw]
   exact ⟨rfl,rfl,rfl⟩
  ·repeat (first | (apply wo_po;apply mo_index1;exact rfl;exact rfl;omega;exact gY) | (apply wo_po;apply mo_load;exact rfl;exact hrd;exact trivial) | refine wlssT ?_ | refine wgtrF ?_ | refine we_seq ?_ | (refine wR ?_;try simp only [oS]) | refine wo_nil ?_ | refine wM ?_ | refine wA ?_ | refine wadd ?_ | refine wsub ?_ | refine wT ?_ | refine wF ?_ | refine we_skip ?_ | refine we_block ?_)
   refine at_round (I:=sumInv (.slice (some ⟨b,o,none⟩) l.length c) l L x) (R:=fun j=>l.length-j.1<l.length-i) (i+1,s+l[i]) (by show l.length-(i+1)<l.length-i;omega) ⟨by show i+1≤l.length;omega,by show 0≤s+l[i];omega,by show s+l[i]≤16384;omega,by rw [← hov];simp [hbig]⟩ ⟨rfl,rfl,rfl,rfl,rfl,rfl,trivial⟩ .refl rfl
 obtain rfl:i=l.length:=by omega
 rw [List.drop_length] at hov
 have hov0:overF 0 l=false:=hov.symm
 rw [hov0,if_neg (by decide)] at hnw
 have hsum:=overF_sum l 0 hpos (by omega) hov0
 rw [hnw] at hQ
 simp only [ne_eq,not_true_eq_false,if_false] at hQ
 repeat (first | refine wlssF ?_ | refine we_seq ?_ | (refine wR ?_;try simp only [oS]) | refine wo_nil ?_ | refine wM ?_ | refine wA ?_ | refine wE ?_ | refine wF ?_ | refine we_block ?_ | refine we_exit ?_)
 refine we_loopN (cntInvP (.slice a l.length c) l L x) (fun i=>l.length-i.1) (0,0,1) ⟨Nat.zero_le _,by simpa using hsum,by show 1≤16384;omega,rfl⟩ ⟨rfl,rfl,rfl,rfl,rfl,trivial⟩ .refl rfl ?_
 rintro ⟨i,s2,al⟩ ⟨hi,hs2,hal,hcn⟩
 simp only at hi hs2 hal hcn
 simp only [cntInvP]
 by_cases hlt:i<l.length
 ·obtain ⟨b,o,rfl,hrd⟩:=hri i hlt
  have hdr:l.drop i=l[i]::l.drop (i+1):=List.drop_eq_getElem_cons hlt
  obtain ⟨m,hm⟩:∃ m:Nat,l[i]=m:=⟨l[i].toNat,by have:=hpos l[i] (List.getElem_mem hlt);omega⟩
  have hnn:=sumI_nonneg (l.drop (i+1)) fun n hn=>hpos n (List.mem_of_mem_drop hn)
  rw [hdr,hm] at hcn hs2
  simp only [List.map_cons,Int.toNat_natCast,cntF,sumI,List.foldr_cons] at hcn hs2
  rw [show List.foldr (·+·) 0 (l.drop (i+1))=sumI (l.drop (i+1)) from rfl] at hs2
  rw [hm] at hrd
  repeat (first | (apply wo_po;apply mo_index1;exact rfl;exact rfl;omega;exact gY) | (apply wo_po;apply mo_load;exact rfl;exact hrd;exact trivial) | refine wlssT ?_ | refine we_seq ?_ | (refine wR ?_;try simp only [oS]) | refine wo_nil ?_ | refine wM ?_ | refine wA ?_ | refine wT ?_ | refine we_skip ?_ | refine we_block ?_)
  refine we_loopN (cntInv2 (.slice (some ⟨b,o,none⟩) l.length c) l.length m i s2 al L x) (fun j=>m-j.1) (0,s2,al) ⟨Nat.zero_le _,rfl,hal,rfl⟩ ⟨rfl,rfl,rfl,rfl,rfl,rfl,rfl,trivial⟩ .refl rfl ?_
  rintro ⟨k,s3,a3⟩ ⟨hk,hs3,ha3,hin⟩
  simp only at hk hs3 ha3 hin
  simp only [cntInv2]
  by_cases hkm:k<m
  ·have hprod:a3*(s3+1)≤16384*16384:=Nat.mul_le_mul ha3 (by omega)
   have hdiv:a3*(s3+1)/(k+1)≤16384*16384:=Nat.le_trans (Nat.div_le_self _ _) hprod
   have w1:IntKind.i64.wrap ((a3:Int)*((s3:Int)+1))=((a3*(s3+1):Nat):Int):=by
    rw [show ((a3:Int)*((s3:Int)+1))=((a3*(s3+1):Nat):Int) by simp]
    exact wrap_i64 (by omega) (by omega)
   obtain ⟨q,hq⟩:∃ q,a3*(s3+1)/(k+1)=q:=⟨_,rfl⟩
   rw [hq] at hdiv
   have w2:IntKind.i64.wrap (((a3*(s3+1):Nat):Int).tdiv ((k:Int)+1))=(q:Int):=by
    rw [show ((a3*(s3+1):Nat):Int).tdiv ((k:Int)+1)=(q:Int) by rw [show ((k:Int)+1)=((k+1:Nat):Int) by simp,← Int.ofNat_tdiv,hq]]
    exact wrap_i64 (by omega) (by omega)
   have hstep:m-k=(m-(k+1))+1:=by omega
   rw [hstep] at hin
   simp only [cntIn] at hin
   rw [hq] at hin
   repeat (first | (apply wo_po;apply mo_bin;exact rfl;exact rfl;apply bin_mul;exact w1;exact trivial) | (apply wo_po;apply mo_bin;exact rfl;exact rfl;apply bin_quo;omega;exact w2;exact trivial) | refine wlssT ?_ | refine we_seq ?_ | (refine wR ?_;try simp only [oS]) | refine wo_nil ?_ | refine wM ?_ | refine wA ?_ | (apply wo_po;apply mo_bin;exact rfl;exact rfl;exact bin_gtr;exact gY) | refine wadd ?_ | refine wT ?_ | refine we_skip ?_ | refine we_block ?_)
   by_cases hbig:16384<q
   ·rw [if_pos hbig] at hin
    rw [← hin] at hcn
    repeat (first | refine we_seq ?_ | (refine wR ?_;try simp only [oS]) | refine wo_nil ?_ | refine wA ?_ | refine wT ?_ | refine we_ret ?_)
    (first | refine or2 Try.func26 Try.results26 hQ rfl rfl ?_ | refine on2 Try.func26 Try.results26 hQ rfl rfl ?_)
    rw [← hcn]
    exact ⟨rfl,rfl,rfl⟩
   ·rw [if_neg hbig] at hin
    repeat (first | (refine wR ?_;try simp only [oS]) | refine wo_nil ?_ | refine wM ?_ | refine wadd ?_ | refine wF ?_ | refine we_skip ?_)
    refine at_round (I:=cntInv2 (.slice (some ⟨b,o,none⟩) l.length c) l.length m i s2 al L x) (R:=fun j=>m-j.1<m-k) (k+1,s3+1,q) (by show m-(k+1)<m-k;omega) ⟨by show k+1≤m;omega,by show s3+1=s2+(k+1);omega,by show q≤16384;omega,hin⟩ ⟨by simp only [Int.natCast_add,Int.natCast_one];exact rfl,rfl,rfl,rfl,rfl,rfl,rfl,trivial⟩ .refl rfl
  ·obtain rfl:k=m:=by omega
   rw [Nat.sub_self] at hin
   simp only [cntIn] at hin
   rw [← hin] at hcn
   repeat (first | refine wlssF ?_ | refine we_seq ?_ | (refine wR ?_;try simp only [oS]) | refine wo_nil ?_ | refine wM ?_ | refine wadd ?_ | refine wF ?_ | refine we_exit ?_)
   refine at_round (I:=cntInvP (.slice (some ⟨b,o,none⟩) l.length c) l L x) (R:=fun j=>l.length-j.1<l.length-i) (i+1,s3,a3) (by show l.length-(i+1)<l.length-i;omega) ⟨by show i+1≤l.length;omega,by show (s3:Int)+sumI (l.drop (i+1))≤16384;omega,ha3,hcn⟩ ⟨rfl,rfl,rfl,rfl,rfl,trivial⟩ .refl rfl
 ·obtain rfl:i=l.length:=by omega
  rw [List.drop_length] at hcn
  simp only [List.map_nil,cntF] at hcn
  repeat (first | refine wlssF ?_ | refine we_seq ?_ | (refine wR ?_;try simp only [oS]) | refine wo_nil ?_ | refine wM ?_ | refine wA ?_ | refine wF ?_ | refine we_ret ?_ | refine we_exit ?_)
  (first | refine or2 Try.func26 Try.results26 hQ rfl rfl ?_ | refine on2 Try.func26 Try.results26 hQ rfl rfl ?_)
  rw [← hcn]
  exact ⟨rfl,rfl,rfl⟩
end
end
section
def cat (s:ByteArray) (c:UInt8):ByteArray:=s++ByteArray.mk #[c]
def awPlan:Nat→Option ((Int × Int) × (ByteArray→ByteArray × Nat))
 | 0=>some ((1,1),fun s=>(s++⟨#[97]⟩,1))
 | 1=>some ((3,2),fun s=>(s++⟨#[98]⟩,2))
 | 3=>some ((5,3),fun s=>(s++⟨#[99]⟩,4))
 | _=>none
def awG (bb:Nat):Game where
 σ:=ByteArray
 θ:=Nat
 U:=fun s=>arr bb 0 [.string s]
 plan:=awPlan
 ok:=fun s=>s.size≤1000000
 Pv:=fun _ _=>True
 Fin:=fun _ _=>True
def awT (bb:Nat):List (Thr (awG bb)):=[⟨.func (.func 44) #[] #[.pointer (some ⟨bb,0,none⟩)],fun s=>(s,(0:Nat)),fun _=>True⟩,⟨.func (.func 45) #[] #[.pointer (some ⟨bb,0,none⟩)],fun s=>(s,(3:Nat)),fun _=>True⟩]
theorem star_true {L:List HProp} {h:Hp} (st:Star L h):Star ((fun _=>True)::L) h :=
 star_shut (M:=[]) st
theorem aw1 {bb:Nat}:ThrOk (awG bb) (fun s=>(s,(0:Nat))) (.func (.func 44) #[] #[.pointer (some ⟨bb,0,none⟩)]) fun _=>True where
 run:=by
  refine ⟨_,_,_,rfl,inferInstance,fun sb says turn fin wg s n F hok=>?_⟩
  show Tr Try.prog tH _ [gateV sb,.pointer (some ⟨bb,0,none⟩)] _ (tx (awG bb) says turn fin wg (.busy s (0:Nat) n)) _
  refine tr_of_body Try.func44 rfl Try.ntmps44 (by simp) fun um Q _ hQ=>?_
  simp only [argE,Nat.zero_add,Nat.reduceAdd]
  repeat (first | (apply wo_po;apply mo_build (pv:=[(0,_),(1,_)]);exact rfl;exact .cons rfl (.cons rfl .nil);exact rfl;exact trivial) | refine we_seq ?_ | (refine wR ?_;try simp only [oS]) | refine wM ?_)
  refine wo_invoke (args:=[_]) rfl (.cons rfl .nil) trivial (seat_tr (g:=awG bb) (mk:=(1,1)) (f:=fun s:ByteArray=>(s++ByteArray.mk #[97],(1:Nat))) (q:=(0:Nat)) rfl .here .here (fun _ _=>trivial)) ?_
  rintro v' L' x' ⟨m1,s1,hm1,hs1,rfl,rfl,rfl⟩
  replace hs1:s1.size≤1000000:=hs1
  refine wo_ent (arr bb 0 [.string s1]::seatR sb says turn fin::(fun _=>True)::F) .refl ?_
  repeat (first | (apply wo_po;apply mo_bin;exact rfl;exact rfl;exact bin_cat (by have:(ByteArray.mk #[97]).size=1:=rfl;omega);exact trivial) | refine wS ?_ | refine we_seq ?_ | (refine wR ?_;try simp only [oS]) | refine wo_nil ?_ | refine wM ?_ | refine wL ?_)
  refine wo_ent ((awG bb).U (cat s1 97)::seatR sb says turn fin::(fun _=>True)::F) .refl ?_
  repeat (first | (apply wo_po;apply mo_build (pv:=[(0,_),(1,_)]);exact rfl;exact .cons rfl (.cons rfl .nil);exact rfl;exact trivial))
  refine wo_invoke (args:=[_]) rfl (.cons rfl .nil) trivial (seat_tr (g:=awG bb) (mk:=(3,2)) (f:=fun s:ByteArray=>(s++ByteArray.mk #[98],(2:Nat))) (q:=(1:Nat)) rfl .here .here (fun _ _=>trivial)) ?_
  rintro v' L' x' ⟨m2,s2,hm2,hs2,rfl,rfl,rfl⟩
  replace hs2:s2.size≤1000000:=hs2
  refine wo_ent (arr bb 0 [.string s2]::seatR sb says turn fin::(fun _=>True)::F) .refl ?_
  repeat (first | (apply wo_po;apply mo_bin;exact rfl;exact rfl;exact bin_cat (by have:(ByteArray.mk #[98]).size=1:=rfl;omega);exact trivial) | refine wS ?_ | (refine wR ?_;try simp only [oS]) | refine wo_nil ?_ | refine wL ?_)
  (first | refine or0 Try.func44 Try.results44 hQ ?_ | refine on0 Try.func44 Try.results44 hQ ?_)
  exact ⟨cat s2 98,(2:Nat),m2,rfl,rfl,fun h st=>st⟩
theorem aw2 {bb:Nat}:ThrOk (awG bb) (fun s=>(s,(3:Nat))) (.func (.func 45) #[] #[.pointer (some ⟨bb,0,none⟩)]) fun _=>True where
 run:=by
  refine ⟨_,_,_,rfl,inferInstance,fun sb says turn fin wg s n F hok=>?_⟩
  show Tr Try.prog tH _ [gateV sb,.pointer (some ⟨bb,0,none⟩)] _ (tx (awG bb) says turn fin wg (.busy s (3:Nat) n)) _
  refine tr_of_body Try.func45 rfl Try.ntmps45 (by simp) fun um Q _ hQ=>?_
  simp only [argE,Nat.zero_add,Nat.reduceAdd]
  repeat (first | (apply wo_po;apply mo_build (pv:=[(0,_),(1,_)]);exact rfl;exact .cons rfl (.cons rfl .nil);exact rfl;exact trivial) | refine we_seq ?_ | (refine wR ?_;try simp only [oS]) | refine wM ?_)
  refine wo_invoke (args:=[_]) rfl (.cons rfl .nil) trivial (seat_tr (g:=awG bb) (mk:=(5,3)) (f:=fun s:ByteArray=>(s++ByteArray.mk #[99],(4:Nat))) (q:=(3:Nat)) rfl .here .here (fun _ _=>trivial)) ?_
  rintro v' L' x' ⟨m1,s1,hm1,hs1,rfl,rfl,rfl⟩
  replace hs1:s1.size≤1000000:=hs1
  refine wo_ent (arr bb 0 [.string s1]::seatR sb says turn fin::(fun _=>True)::F) .refl ?_
  repeat (first | (apply wo_po;apply mo_bin;exact rfl;exact rfl;exact bin_cat (by have:(ByteArray.mk #[99]).size=1:=rfl;omega);exact trivial) | refine wS ?_ | (refine wR ?_;try simp only [oS]) | refine wo_nil ?_ | refine wL ?_)
  (first | refine or0 Try.func45 Try.results45 hQ ?_ | refine on0 Try.func45 Try.results45 hQ ?_)
  exact ⟨cat s1 99,(4:Nat),m1,rfl,rfl,fun h st=>st⟩
theorem aw_plays {bb:Nat}:playF (awT bb) (ByteArray.mk #[]) [1,7,0]=(⟨ByteArray.mk #[99,97,98],[(2:Nat),(4:Nat)],[(1,(5,3)),(0,(1,1)),(0,(3,2))]⟩:PS (awG bb)):=by kernel_rfl
theorem awPlan_size:∀ (q:Nat) (m:Int × Int) (f:ByteArray→ByteArray × Nat),awPlan q=some (m,f)→∀ s:ByteArray,(f s).1.size=s.size+1:=by
 intro q m f hp s
 match q,hp with
 | 0,hp=>cases hp;exact ByteArray.size_append
 | 1,hp=>cases hp;exact ByteArray.size_append
 | 3,hp=>cases hp;exact ByteArray.size_append
def awI (bb:Nat) (p:PS (awG bb)):Prop:=ByteArray.size p.s≤p.tr.length
theorem awI_step {bb:Nat} (p:PS (awG bb)) (k:Int) (h:awI bb p):awI bb (takeF p k).1:=by
 rcases takeF_cases p k with e | ⟨n,q,m,f,_,_,hp,_,e⟩
 ·rw [e];exact h
 ·rw [e]
  unfold awI at h ⊢
  simp only [List.length_append,List.length_singleton]
  have:=awPlan_size q m f hp p.s
  omega
theorem eqT {x y:Operand} {a0 b0 a1 b1 a2 b2:Int}:Eql Try.prog 49 x y (.agg #[.int .i64 a0,.int .u8 a1,.int .i64 a2]) (.agg #[.int .i64 b0,.int .u8 b1,.int .i64 b2]) (decide (a0=b0∧a1=b1∧a2=b2)) :=
 haveI p0:Und Try.prog 49 _:=⟨Try.underlying49⟩
 haveI p1:Und Try.prog 47 _:=⟨Try.underlying47⟩
 eql_turned (t1:=47) (p:=p0) (p1:=p1) (by kernel_rfl) (by kernel_rfl) (by kernel_rfl) (by decide) (by decide) (by decide) (by decide) rfl rfl rfl rfl rfl (by kernel_rfl) (by kernel_rfl) (by kernel_rfl)
theorem awakes_tr {L:List HProp}:Tr Try.prog mT 13 [] L .idle fun v L' x'=>v=.bool true∧L'=L∧x'=.idle:=by
 refine Tr.post (R:=fun v L' x'=>v=.bool true∧x'=MX.idle∧∀ h,Star L' h→Star L h) ?_
  (by rintro v L' x' ⟨rfl,rfl,h2⟩;exact ⟨_,⟨rfl,rfl,rfl⟩,h2⟩)
 refine tr_of_body Try.func13 rfl Try.ntmps13 (by simp) fun um Q _ hQ=>?_
 simp only [argE,Nat.zero_add,Nat.reduceAdd]
 repeat (first | (apply wo_mo;apply mo_alloc;exact trivial) | refine we_seq ?_ | (refine wR ?_;try simp only [oS]) | refine wo_nil ?_ | refine wA ?_)
 rintro v' L' ⟨bb,rfl,rfl⟩
 repeat (first | refine wS ?_ | (apply wo_po;apply mo_makeFunc (first:=[]) (cap:=[_]) (vf:=[]);exact .nil;exact .cons rfl .nil;exact trivial) | (apply wo_mo;apply mo_buildSlice (sz:=1) (vs:=[.int .i64 1,.int .i64 7,.int .i64 0]);exact rfl;exact .cons rfl (.cons rfl (.cons rfl .nil));exact rfl;(intro v hv;simp at hv;rcases hv with rfl | rfl | rfl <;> rfl);omega;exact trivial) | refine we_seq ?_ | (refine wR ?_;try simp only [oS]) | refine wo_nil ?_ | refine wA ?_)
 rintro v' L' ⟨ob,rfl,rfl⟩
 repeat (first | (apply wo_mo;apply mo_buildSlice (sz:=1) (vs:=[_,_]);exact rfl;exact .cons rfl (.cons rfl .nil);exact rfl;(intro v hv;simp at hv;rcases hv with rfl | rfl <;> rfl);omega;exact trivial) | refine wM ?_)
 rintro v' L' ⟨tb,rfl,rfl⟩
 refine wo_call (.cons rfl (.cons rfl .nil)) trivial (Tr.ent (L':=(awG bb).U (ByteArray.mk #[])::arr tb 0 [.func (.func 44) #[] #[.pointer (some ⟨bb,0,none⟩)],.func (.func 45) #[] #[.pointer (some ⟨bb,0,none⟩)]]::arr ob 0 [.int .i64 1,.int .i64 7,.int .i64 0]::L) (.take (.there (.there .here)) (.take .here (.take .here .refl))) (tr_star ((awG bb).U (ByteArray.mk #[])::all ((awT bb).map Thr.M)::arr tb 0 [.func (.func 44) #[] #[.pointer (some ⟨bb,0,none⟩)],.func (.func 45) #[] #[.pointer (some ⟨bb,0,none⟩)]]::arr ob 0 [.int .i64 1,.int .i64 7,.int .i64 0]::L)
  (fun h st=>star_map st (fun _ z=>z) fun _ s1=>star_shut (M:=(awT bb).map Thr.M) (star_true (star_true s1)))
  (plays_tr (order:=[1,7,0]) (ts:=awT bb) (s0:=ByteArray.mk #[]) (awI bb) (fun j hj=>by match j,hj with | 0,_=>exact Nat.zero_le _ | 1,_=>exact Nat.zero_le _) (Nat.le_refl 0) awI_step (fun p h1 h2=>by unfold awI at h1;show ByteArray.size p.s≤1000000;omega) (fun _ _ _=>trivial)
   (by intro t ht;simp [awT] at ht;rcases ht with rfl | rfl;exact aw1;exact aw2) (Nat.zero_lt_succ _) (by show 2≤16;omega) (by show 3≤16384;omega)
   ⟨rfl,.inr ⟨_,_,rfl,Rds.all .here⟩⟩ ⟨rfl,.inr ⟨_,_,rfl,Rds.all (.there .here)⟩⟩))) ?_
 rw [aw_plays]
 rintro v' L' x' ⟨tv,cv,rfl,rfl,rfl⟩
 rw [show cutN (awG bb) [(2:Nat),(4:Nat)] (awT bb).length=[] from rfl]
 refine wo_pure (of_has .here (vec_shape (by omega))) ?_
 rintro ⟨a1,n1,c1,rfl,hn1,_,hz1,hy1⟩
 obtain rfl:n1=3:=by rw [trCP_len] at hn1;simp at hn1;omega
 refine wo_pure (of_has (.there .here) (vec_shape (by omega))) ?_
 rintro ⟨a2,n2,c2,rfl,hn2,_⟩
 obtain rfl:n2=0:=by simp [cutC] at hn2;omega
 cases a1 with
 | none=>have:=hz1 rfl;omega
 | some ad =>
 obtain ⟨tb1,to1,sp⟩:=ad
 have:=hy1 _ rfl
 simp only [Addr.mk.injEq,true_and] at this
 subst this
 repeat (first | (apply wo_mo;apply mo_alloc;exact trivial) | refine wM ?_ | (apply wo_po;apply mo_extract;exact rfl;exact rfl;exact gY))
 rintro v' L' ⟨pb,rfl,rfl⟩
 repeat (first | (apply wo_pm;apply mo_storeA (c:=0) (k:=0) (a:=0) (vs:=[.slice none 0 0,.slice none 0 0]);exact rfl;exact rfl;exact rfl;(intro w hw;simp [Value.cells] at hw;rcases hw with rfl | rfl <;> rfl);exact rfl;exact Nat.le_refl 2;exact .here;exact trivial) | (apply wo_mo;apply mo_buildSlice (sz:=1) (vs:=[.int .i64 2,.int .i64 1]);exact rfl;exact .cons rfl (.cons rfl .nil);exact rfl;(intro v hv;simp at hv;rcases hv with rfl | rfl <;> rfl);omega;exact trivial) | refine we_seq ?_ | (refine wR ?_;try simp only [oS]) | refine wo_nil ?_ | refine wA ?_)
 rintro v' L' ⟨qb,rfl,rfl⟩
 skip
 refine wo_call (.cons rfl .nil) trivial (count_tr (l:=[2,1]) ⟨rfl,.inr ⟨_,_,rfl,Rds.all .here⟩⟩ (by omega)) ?_
 rintro v' L' x' ⟨rfl,rfl,rfl⟩
 rw [show (if wrongF [2,1]≠0 then (0:Int) else ((cntF 0 1 ([2,1].map Int.toNat)).getD 0:Nat))=3 by kernel_rfl,show (if wrongF [2,1]≠0 then wrongF [2,1] else if (cntF 0 1 ([2,1].map Int.toNat)).isSome=true then 0 else 20)=0 by kernel_rfl]
 refine wo_ent (arr qb 0 [.int .i64 2,.int .i64 1]::arr pb 0 [.slice (some ⟨tb1,to1,none⟩) 3 c1,.slice a2 0 c2]::vec 3 (.slice (some ⟨tb1,to1,none⟩) 3 c1) (trCP [(1,(5,3)),(0,(1,1)),(0,(3,2))])::arr bb 0 [.string (ByteArray.mk #[99,97,98])]::L) (.take .here (.take .here (.take .here (.take (.there .here) (.drop (.drop (.drop (.drop .refl)))))))) ?_
 have hv:Rds (arr qb 0 [.int .i64 2,.int .i64 1]::arr pb 0 [.slice (some ⟨tb1,to1,none⟩) 3 c1,.slice a2 0 c2]::vec 3 (.slice (some ⟨tb1,to1,none⟩) 3 c1) (trCP [(1,(5,3)),(0,(1,1)),(0,(3,2))])::arr bb 0 [.string (ByteArray.mk #[99,97,98])]::L) tb1 (to1+0*3) [.int .i64 1,.int .u8 5,.int .i64 3]:=by
  intro i v hi
  match i,hi with
  | 0,hi=>cases hi;exact rd_vec (i:=0) (.there (.there .here)) rfl
  | 1,hi=>cases hi;exact rd_vec (i:=1) (.there (.there .here)) rfl
  | 2,hi=>cases hi;exact rd_vec (i:=2) (.there (.there .here)) rfl
 repeat (first | (apply wo_po;apply mo_bin;exact rfl;exact rfl;exact bin_streq (r:=true) (by kernel_rfl);exact rfl) | (apply wo_po;apply mo_index (sz:=3) (j:=0);exact rfl;exact rfl;omega;exact rfl) | (apply wo_po;apply mo_loadA (vs:=[.int .i64 1,.int .u8 5,.int .i64 3]);exact rfl;exact rfl;exact hv;exact rfl) | (apply wo_po;apply mo_build (pv:=[(0,_),(1,_)]);exact rfl;exact .cons rfl (.cons rfl .nil);exact rfl;exact rfl) | (apply wo_po;apply mo_bin;exact rfl;exact rfl;apply bin_eq;exact eqT;exact rfl) | refine weqlT ?_ | refine we_seq ?_ | (refine wR ?_;try simp only [oS]) | refine wo_nil ?_ | refine wM ?_ | refine wA ?_ | refine wK ?_ | refine wD ?_ | (apply wo_po;apply mo_extract;exact rfl;exact rfl;exact gY) | refine wL ?_ | refine wE ?_ | refine we_ret ?_)
 (first | refine or1 Try.func13 Try.results13 hQ rfl ?_ | refine on1 Try.func13 Try.results13 hQ rfl ?_)
 exact ⟨rfl,rfl,fun h st=>Ent.star (.drop (.drop (.drop (.drop .refl)))) st⟩
end
end Go.Proofs.Ytabbkjciifnehaa
namespace Go.Proofs.Ytabbkjciifnehaa
open Go Go.PB
attribute [local irreducible] Mo Bin Eql Tr Wo
section
variable {B:Hand} [Lets B] {L:List HProp} {x:B.X}
theorem tmod_emod {n k:Int} (hk:0<k):(n.tmod k<0→n.tmod k+k=n%k)∧(¬ n.tmod k<0→n.tmod k=n%k):=by
 have h1:=Int.emod_nonneg n (by omega:k≠0)
 have h2:=Int.emod_lt_of_pos n hk
 have h3:n.tmod k=n%k-((if 0≤n∨k ∣ n then 0 else k.natAbs:Nat):Int):=Int.tmod_eq_emod
 have h4:=Int.tmod_lt_of_pos n hk
 split at h3
 ·constructor <;> intro h5 <;> omega
 ·rename_i hn
  have h6:n%k≠0:=fun h=>hn (.inr (Int.dvd_of_emod_eq_zero h))
  constructor <;> intro h5 <;> omega
theorem within_tr {n k:Int} (hn:-9223372036854775808≤n∧n≤9223372036854775807) (hk:0<k∧k≤1000000) :
  Tr Try.prog B 23 [.int .i64 n,.int .i64 k] L x fun v L' x'=>v=.int .i64 (n%k)∧L'=L∧x'=x:=by
 have ht:=tmod_emod (n:=n) hk.1
 have h1:=Int.emod_nonneg n (by omega:k≠0)
 have h2:=Int.emod_lt_of_pos n hk.1
 have hlt:=Int.tmod_lt_of_pos n hk.1
 obtain ⟨m,hm⟩:∃ m,n%k=m:=⟨_,rfl⟩
 obtain ⟨t,hte⟩:∃ t,n.tmod k=t:=⟨_,rfl⟩
 rw [hm] at ht h1 h2
 rw [hte] at ht hlt
 rw [hm]
 by_cases hneg:t<0
 ·have e:=ht.1 hneg
  refine tr_of_body Try.func23 rfl Try.ntmps23 (by simp) fun um Q _ hQ=>?_
  simp only [argE,Nat.zero_add,Nat.reduceAdd]
  repeat (first | (apply wo_po;apply mo_bin;exact rfl;exact rfl;apply bin_rem;omega;exact hte;exact trivial) | refine wlssT ?_ | refine we_seq ?_ | (refine wR ?_;try simp only [oS]) | refine wo_nil ?_ | refine wM ?_ | refine wA ?_ | refine wadd ?_ | refine wT ?_ | refine we_ret ?_)
  (first | refine or1 Try.func23 Try.results23 hQ rfl ?_ | refine on1 Try.func23 Try.results23 hQ rfl ?_)
  exact ⟨by rw [e],rfl,rfl⟩
 ·have e:=ht.2 hneg
  refine tr_of_body Try.func23 rfl Try.ntmps23 (by simp) fun um Q _ hQ=>?_
  simp only [argE,Nat.zero_add,Nat.reduceAdd]
  repeat (first | (apply wo_po;apply mo_bin;exact rfl;exact rfl;apply bin_rem;omega;exact hte;exact trivial) | refine wlssF ?_ | refine we_seq ?_ | (refine wR ?_;try simp only [oS]) | refine wo_nil ?_ | refine wM ?_ | refine wA ?_ | refine wF ?_ | refine we_ret ?_ | refine we_skip ?_)
  (first | refine or1 Try.func23 Try.results23 hQ rfl ?_ | refine on1 Try.func23 Try.results23 hQ rfl ?_)
  exact ⟨by rw [e],rfl,rfl⟩
end
end Go.Proofs.Ytabbkjciifnehaa
namespace Go.Proofs.Ytabbkjciifnehaa
open Go Go.PB
attribute [local irreducible] Mo Bin Eql Tr Wo Ap Wle
attribute [local instance] Pass.of_no
section
theorem star_pre {M F:List HProp}:∀ {h:Hp},Star (M++F) h→Star M h:=by
 induction M with
 | nil=>exact fun _=>trivial
 | cons c M ih=>exact fun s=>star_map s (fun _ z=>z) fun _ z=>ih z
theorem rdo_all {L F:List HProp} {a:Option Addr} {n:Nat} {vs:List Value} (h:RdsO L a n vs):RdsO (all L::F) a n vs :=
 ⟨h.1,h.2.imp id fun ⟨b,o,e,r⟩=>⟨b,o,e,fun i v hi hp st=>r i v hi hp (star_pre (star_open st))⟩⟩
theorem row_cells {b:Nat} {v:Value} {L:List HProp}:∀ (n o:Nat) {h:Hp},Star (arr b o (List.replicate n v)::L) h→Star (all ((List.range' o n).map fun i=>arr b i [v])::L) h
 | 0,o,h,s=>star_shut (M:=[]) (star_drop s)
 | n+1,o,h,s=>by
  rw [List.replicate_succ] at s
  have s1:Star (arr b o [v]::arr b (o+1) (List.replicate n v)::L) h:=star_cut (us:=[v]) s
  rw [List.range'_succ,List.map_cons]
  exact cons_all (star_map s1 (fun _ z=>z) fun _ z=>row_cells n (o+1) z)
theorem star_own {b o:Nat} {v:Value} {c:HProp} (hc:∀ h,c h→h.own b o=some v):∀ {M L:List HProp} {i:Nat} {h:Hp},M[i]?=some c→Star (M++L) h→h.own b o=some v
 | [],L,i,h,e,s=>by simp at e
 | d::M,L,0,h,e,s=>by
  simp at e;subst e
  obtain ⟨h1,h2,s1,hd,_⟩:=s
  exact s1.o1 _ _ _ (hc _ hd)
 | d::M,L,i+1,h,e,s=>by
  obtain ⟨h1,h2,s1,_,hL⟩:=s
  exact s1.o2 _ _ _ (star_own hc (by simpa using e) hL)
theorem rd_pick {b o i:Nat} {v:Value} {c:HProp} {M L:List HProp} (hi:M[i]?=some c) (hc:∀ h,c h→h.own b o=some v):Rd (all M::L) b o v:=fun h st=>⟨rfl,.inl (star_own hc hi (star_open st))⟩
def tfN (l:List Int) (k:Nat):Int:=(l[k]?).getD 0
def tfV (l:List Int) (k:Nat):Int:=IntKind.i64.wrap (IntKind.i64.wrap (IntKind.i64.wrap (0+tfN l k)+(k:Nat))+1)
def tfG (gb:Nat):Game where
 σ:=Unit
 θ:=Nat × Int
 U:=fun _ _=>True
 plan:=fun _=>none
 ok:=fun _=>True
 Pv:=fun q=>arr gb q.1 [.int .i64 q.2]
 Fin:=fun q=>arr gb q.1 [.int .i64 q.2]
abbrev tfF (kb xb gB:Nat):Value:=.func (.func 30) #[] #[.pointer (some ⟨kb,0,none⟩),.pointer (some ⟨xb,0,none⟩),.pointer (some ⟨gB,0,none⟩)]
abbrev tfRo (xb gB gb n:Nat) (a:Option Addr) (n0 c:Nat) (L:List HProp):HProp:=all [fro xb 0 [.slice a n0 c],fro gB 0 [.slice (some ⟨gb,0,none⟩) n n],all L]
def tfM (Ro:HProp) (gb i kb:Nat):HProp:=all [all [Ro,arr kb 0 [.int .i64 (i:Nat)]],arr gb i [.int .i64 0]]
section
variable {kb xb gB gb n n0 c k:Nat} {a:Option Addr} {l:List Int} {L:List HProp}
set_option maxHeartbeats 1000000 in
theorem tf_ok (hr:RdsO L a n0 (ints l)) (hn0:n0≤9223372036854775807) (hk:k<n) (hn:n≤16) :
  ThrF (tfG gb) 0 ⟨tfF kb xb gB,((k,tfV l k):Nat × Int),tfM (tfRo xb gB gb n a n0 c L) gb k kb⟩ where
 run:=by
  refine ⟨_,_,_,rfl,inferInstance,fun wg F=>?_⟩
  show Tr Try.prog fH _ [.nilIface,.pointer (some ⟨kb,0,none⟩),.pointer (some ⟨xb,0,none⟩),.pointer (some ⟨gB,0,none⟩)] _ (tx (tfG gb) 0 0 0 wg (.free ((k,tfV l k):Nat × Int) 0)) _
  refine tr_star (arr kb 0 [.int .i64 (k:Nat)]::fro xb 0 [.slice a n0 c]::fro gB 0 [.slice (some ⟨gb,0,none⟩) n n]::arr gb k [.int .i64 0]::all L::F) (fun h st=>?_) ?_
  ·have s1:Star (all [tfRo xb gB gb n a n0 c L,arr kb 0 [.int .i64 (k:Nat)]]::arr gb k [.int .i64 0]::F) h:=star_open (M:=[_,_]) st
   have s2:Star (tfRo xb gB gb n a n0 c L::arr kb 0 [.int .i64 (k:Nat)]::arr gb k [.int .i64 0]::F) h:=star_open (M:=[_,_]) s1
   have s3:Star (fro xb 0 [.slice a n0 c]::fro gB 0 [.slice (some ⟨gb,0,none⟩) n n]::all L::arr kb 0 [.int .i64 (k:Nat)]::arr gb k [.int .i64 0]::F) h:=star_open (M:=[_,_,_]) s2
   exact Ent.star (.take (.there (.there (.there .here))) (.take .here (.take .here (.take (.there .here) (.take .here .refl))))) s3
  have hnl:n0=l.length:=by have:=hr.1;simpa using this
  have r1:∀ {c1:HProp} {M:List HProp},Rd (c1::fro xb 0 [.slice a n0 c]::M) xb 0 (.slice a n0 c):=.there (Rd.fro (k:=0) rfl rfl)
  have r2:∀ {c1 c2:HProp} {M:List HProp},Rd (c1::c2::fro gB 0 [.slice (some ⟨gb,0,none⟩) n n]::M) gB 0 (.slice (some ⟨gb,0,none⟩) n n):=.there (.there (Rd.fro (k:=0) rfl rfl))
  have r3:∀ {c1 c2 c3:HProp} {M:List HProp},Rd (c1::c2::c3::arr gb k [.int .i64 0]::M) gb (0+k) (.int .i64 0):=.there (.there (.there (Rd.row (k:=0) rfl (by omega))))
  have w1:IntKind.i64.wrap (0+tfN l k)=IntKind.i64.wrap (0+tfN l k):=rfl
  refine tr_of_body Try.func30 rfl Try.ntmps30 (by simp) fun um Q _ hQ=>?_
  simp only [argE,Nat.zero_add,Nat.reduceAdd]
  by_cases hlt:k<n0
  ·obtain ⟨b,o,rfl,hrd⟩:=hr.rds (by omega)
   obtain ⟨v,hv⟩:∃ v,l[k]?=some v:=⟨_,List.getElem?_eq_getElem (by omega)⟩
   have hN:tfN l k=v:=by unfold tfN;rw [hv];rfl
   have hrk:=rdo_all (F:=F) hr
   obtain ⟨b',o',e,hrd'⟩:=hrk.2.resolve_left (by omega)
   cases e
   have hrv:=hrd' k (.int .i64 v) (by rw [List.getElem?_map,hv];rfl)
   repeat (first | (apply wo_po;apply mo_load;exact rfl;(first | exact r1 | exact .there (.there (.there (.there hrv))));exact trivial) | (apply wo_po;apply mo_index1;exact rfl;exact rfl;omega;exact gY) | refine wlssT ?_ | refine we_seq ?_ | (refine wR ?_;try simp only [oS]) | refine wo_nil ?_ | refine wM ?_ | refine wA ?_ | refine wL ?_ | (apply wo_po;apply mo_bin;exact rfl;exact rfl;apply bin_eq;apply eql_nil_nil;exact gY) | refine wE ?_ | refine wT ?_)
   refine we_draw (List.range' 0 13) (by kernel_rfl) ?_
   repeat (first | (apply ap_read;exact rfl;exact rfl;exact trivial;apply mo_load;exact rfl;(first | exact r2 | exact r3)) | (apply ap_pure;exact rfl;exact rfl;exact trivial;intro L;apply mo_index1 (j:=k);exact rfl;exact rfl;omega) | (apply ap_pure;exact rfl;exact rfl;exact trivial;intro L;apply mo_bin;exact rfl;exact rfl;apply bin_add;exact rfl) | refine aM ?_ | refine aL ?_)
   refine ap_loud rfl rfl rfl rfl rfl trivial (mo_store rfl rfl rfl (Wt.row (vs:=[.int .i64 0]) (k:=0) (by simp) (by omega) (.there (.there (.there .here))))) ?_
   rintro v' L' ⟨rfl,rfl⟩
   refine ap_end ?_
   (first | refine or0 Try.func30 Try.results30 hQ ?_ | refine on0 Try.func30 Try.results30 hQ ?_)
   refine ⟨((k,tfV l k):Nat × Int),0,rfl,rfl,fun h st=>?_⟩
   have e:tfV l k=IntKind.i64.wrap (IntKind.i64.wrap (IntKind.i64.wrap (0+v)+(k:Nat))+1):=by unfold tfV;rw [hN]
   show Star (arr gb k [.int .i64 (tfV l k)]::F) h
   rw [e]
   exact Ent.star (.take (.there (.there (.there .here))) (.drop (.drop (.drop (.drop .refl))))) st
  ·have hN:tfN l k=0:=by unfold tfN;rw [List.getElem?_eq_none (by omega)];rfl
   repeat (first | (apply wo_po;apply mo_load;exact rfl;exact r1;exact trivial) | refine wlssF ?_ | refine we_seq ?_ | (refine wR ?_;try simp only [oS]) | refine wo_nil ?_ | refine wM ?_ | refine wA ?_ | refine wL ?_ | (apply wo_po;apply mo_bin;exact rfl;exact rfl;apply bin_eq;apply eql_nil_nil;exact gY) | refine wE ?_ | refine wT ?_ | refine wF ?_ | refine we_skip ?_)
   refine we_draw (List.range' 0 13) (by kernel_rfl) ?_
   repeat (first | (apply ap_read;exact rfl;exact rfl;exact trivial;apply mo_load;exact rfl;(first | exact r2 | exact r3)) | (apply ap_pure;exact rfl;exact rfl;exact trivial;intro L;apply mo_index1 (j:=k);exact rfl;exact rfl;omega) | (apply ap_pure;exact rfl;exact rfl;exact trivial;intro L;apply mo_bin;exact rfl;exact rfl;apply bin_add;exact rfl) | refine aM ?_ | refine aL ?_)
   refine ap_loud rfl rfl rfl rfl rfl trivial (mo_store rfl rfl rfl (Wt.row (vs:=[.int .i64 0]) (k:=0) (by simp) (by omega) (.there (.there (.there .here))))) ?_
   rintro v' L' ⟨rfl,rfl⟩
   refine ap_end ?_
   (first | refine or0 Try.func30 Try.results30 hQ ?_ | refine on0 Try.func30 Try.results30 hQ ?_)
   refine ⟨((k,tfV l k):Nat × Int),0,rfl,rfl,fun h st=>?_⟩
   have e:tfV l k=IntKind.i64.wrap (IntKind.i64.wrap (IntKind.i64.wrap (0+0)+(k:Nat))+1):=by unfold tfV;rw [hN]
   show Star (arr gb k [.int .i64 (tfV l k)]::F) h
   rw [e]
   exact Ent.star (.take (.there (.there (.there .here))) (.drop (.drop (.drop (.drop .refl))))) st
end
end
section
def boxesT (ts:List Nat):List HProp:=ts.mapIdx fun i b=>arr b 0 [.int .i64 (i:Nat)]
theorem boxesT_snoc {ts:List Nat} {b:Nat}:boxesT (ts++[b])=boxesT ts++[arr b 0 [.int .i64 (ts.length:Nat)]]:=by
 unfold boxesT
 rw [List.mapIdx_append]
 simp
theorem dealF {Ro:HProp} (hd:Dup Ro) {gb:Nat} {ts:List Nat} {L:List HProp} {h:Hp} (s:Star (Ro::all (boxesT ts)::arr gb 0 (List.replicate ts.length (.int .i64 0))::L) h):Star (all (ts.mapIdx (tfM Ro gb))::Ro::L) h:=by
 have s1:=dup_many hd s ts.length
 have s2:Star (all (List.replicate ts.length Ro)::all (boxesT ts)::arr gb 0 (List.replicate ts.length (.int .i64 0))::Ro::L) h:=Ent.star (.take .here (.take (.there .here) (.take (.there .here) (.take .here .refl)))) s1
 have s3:=star_zip (by simp [boxesT]) s2
 have s4:=row_cells ts.length 0 (star_swap s3)
 have s6:=star_zip (by simp [boxesT]) (star_swap s4)
 have e:List.zipWith (fun a b=>all [a,b]) (List.zipWith (fun a b=>all [a,b]) (List.replicate ts.length Ro) (boxesT ts)) ((List.range' 0 ts.length).map fun i=>arr gb i [.int .i64 0])=ts.mapIdx (tfM Ro gb):=by
  apply List.ext_getElem?
  intro i
  by_cases hi:i<ts.length
  ·simp [boxesT,tfM,hi,List.getElem?_zipWith,List.getElem?_range']
  ·have h1:(ts.mapIdx (tfM Ro gb))[i]?=none:=List.getElem?_eq_none_iff.2 (by simp;omega)
   rw [h1]
   apply List.getElem?_eq_none_iff.2
   simp [boxesT];omega
 rw [e] at s6
 exact s6
def tfQs (gb:Nat) (l:List Int) (ts:List Nat):List (tfG gb).θ:=ts.mapIdx fun i _=>((i,tfV l i):Nat × Int)
def tfD (gb:Nat) (l:List Int) (ts:List Nat):FreeD (tfG gb) where
 q0:=tfQs gb l ts
 N:=0
 I:=fun _ qs=>qs=tfQs gb l ts
 φ:=fun _ _=>0
 ok:=fun _ _ _=>trivial
 step:=fun _ _ _ _ _ _ _ _ h=>by cases h
def tfTs (xb gB gb:Nat) (Ro:HProp) (l:List Int) (ts:List Nat):List (ThrT (tfG gb)):=ts.mapIdx fun i kb=>⟨tfF kb xb gB,((i,tfV l i):Nat × Int),tfM Ro gb i kb⟩
section
variable {xb gB gb:Nat} {Ro:HProp} {l:List Int} {ts:List Nat}
theorem tfTs_get (i:Nat):(tfTs xb gB gb Ro l ts)[i]?=(ts[i]?).map fun kb=>⟨tfF kb xb gB,((i,tfV l i):Nat × Int),tfM Ro gb i kb⟩:=by
 unfold tfTs;rw [List.getElem?_mapIdx]
theorem tfQs_get (i:Nat):(tfQs gb l ts)[i]?=(ts[i]?).map fun _=>(show (tfG gb).θ from ((i,tfV l i):Nat × Int)):=List.getElem?_mapIdx
theorem tfTs_q:tfQs gb l ts=(tfTs xb gB gb Ro l ts).map ThrT.q0:=by
 apply List.ext_getElem?
 intro i
 rw [List.getElem?_map,tfTs_get,tfQs_get]
 cases ts[i]? <;> rfl
theorem tfTs_f:(tfTs xb gB gb Ro l ts).map ThrT.fv=ts.map fun kb=>tfF kb xb gB:=by
 apply List.ext_getElem?
 intro i
 rw [List.getElem?_map,tfTs_get,List.getElem?_map]
 cases ts[i]? <;> rfl
theorem tfTs_M:(tfTs xb gB gb Ro l ts).map ThrT.M=ts.mapIdx (tfM Ro gb):=by
 apply List.ext_getElem?
 intro i
 rw [List.getElem?_map,tfTs_get,List.getElem?_mapIdx]
 cases ts[i]? <;> rfl
theorem tfTs_len:(tfTs xb gB gb Ro l ts).length=ts.length:=by simp [tfTs]
end
theorem tfV_eq {l:List Int} {k:Nat} (hk:k≤1000):tfV l k=IntKind.i64.wrap (((k:Nat):Int)+1+tfN l k):=by
 unfold tfV
 simp only [IntKind.wrap_i64]
 omega
def tfLoop (n xb gB:Nat) (L:List HProp):PB.Inv (Nat × Value × List Nat × Nat) MX where
 e:=fun i=>[(1,.pointer (some ⟨xb,0,none⟩)),(3,.int .i64 (n:Nat)),(4,.pointer (some ⟨gB,0,none⟩)),(5,i.2.1),(6,.pointer (some ⟨i.2.2.2,0,none⟩))]
 L:=fun i=>vec 1 i.2.1 (i.2.2.1.map fun kb=>tfF kb xb gB)::all (boxesT i.2.2.1)::arr i.2.2.2 0 [.int .i64 (i.1:Nat)]::L
 x:=fun _=>.idle
 ok:=fun i=>i.1≤n∧i.2.2.1.length=i.1
def tfLoop2 (n xb gB:Nat) (L:List HProp):PB.Inv Nat MX where
 e:=fun i=>[(1,.pointer (some ⟨xb,0,none⟩)),(3,.int .i64 (n:Nat)),(4,.pointer (some ⟨gB,0,none⟩)),(7,.int .i64 (i:Nat))]
 L:=fun i=>L
 x:=fun _=>.idle
 ok:=fun i=>i≤n
set_option maxHeartbeats 4000000 in
theorem tFree_tr {L:List HProp} {a:Option Addr} {n0 c:Nat} {l:List Int} (hL:Dup (all L)) (hr0:RdsO L a n0 (ints l)) (hb:n0≤9223372036854775807) :
  Tr Try.prog mT 8 [.slice a n0 c] L .idle fun v L' x'=>v=.bool true∧x'=.idle:=by
 have hn0:n0=l.length:=by have:=hr0.1;simpa using this
 refine tr_of_body Try.func8 rfl Try.ntmps8 (by simp) fun um Q _ hQ=>?_
 simp only [argE,Nat.zero_add,Nat.reduceAdd]
 repeat (first | (apply wo_mo;apply mo_box;exact rfl;exact trivial) | refine we_seq ?_ | (refine wR ?_;try simp only [oS]))
 rintro v' L' ⟨xb,rfl,rfl⟩
 refine wo_ent (arr xb 0 [.slice a n0 c]::L) .refl ?_
 repeat (first | refine we_seq ?_ | (refine wR ?_;try simp only [oS]) | refine wo_nil ?_ | refine wA ?_)
 refine wo_call .nil trivial awakes_tr ?_
 rintro v1 L1 x1 ⟨rfl,rfl,rfl⟩
 repeat (first | refine we_seq ?_ | (refine wR ?_;try simp only [oS]) | refine wo_nil ?_ | (apply wo_po;apply mo_not;exact rfl;exact gY) | refine wL ?_ | refine wE ?_ | refine wF ?_ | refine we_skip ?_)
 refine wo_call (.cons rfl (.cons rfl .nil)) trivial (within_tr (by omega) (by omega)) ?_
 rintro v1 L2 x1 ⟨rfl,rfl,rfl⟩
 have e4:=Int.emod_nonneg ((n0:Nat):Int) (by decide:(15:Int)≠0)
 have e4':=Int.emod_lt_of_pos ((n0:Nat):Int) (by decide:(0:Int)<15)
 obtain ⟨n,hn⟩:∃ n:Nat,1+((n0:Nat):Int)%15=n:=⟨(1+((n0:Nat):Int)%15).toNat,by omega⟩
 have hw0:IntKind.i64.wrap (1+((n0:Nat):Int)%15)=n:=by rw [hn];exact wrap_i64 (by omega) (by omega)
 have hn1:1≤n:=by omega
 have hn16:n≤15:=by omega
 repeat (first | (apply wo_po;apply mo_bin;exact rfl;exact rfl;apply bin_add;exact hw0;exact trivial) | (apply wo_mo;apply mo_make (n:=n);exact rfl;exact rfl;exact rfl;omega;omega;exact trivial) | refine we_seq ?_ | (refine wR ?_;try simp only [oS]) | refine wo_nil ?_ | refine wM ?_ | refine wA ?_)
 rintro v' L' ⟨gb,rfl,rfl⟩
 repeat (first | (apply wo_mo;apply mo_alloc;exact trivial))
 rintro v' L' ⟨gB,rfl,rfl⟩
 repeat (first | refine wS ?_ | refine we_seq ?_ | (refine wR ?_;try simp only [oS]) | refine wo_nil ?_ | refine wA ?_)
 repeat (first | (apply wo_mo;apply mo_alloc;exact trivial))
 rintro v' L' ⟨kb,rfl,rfl⟩
 repeat (first | refine wS ?_ | refine wo_nil ?_ | refine we_block ?_)
 let L3:List HProp:=arr gB 0 [.slice (some ⟨gb,0,none⟩) n n]::arr gb 0 (zeros n [.int .i64 0])::arr xb 0 [.slice a n0 c]::L
 refine we_star (vec 1 (.slice none 0 0) (([]:List Nat).map fun kb=>tfF kb xb gB)::all (boxesT [])::arr kb 0 [.int .i64 ((0:Nat):Int)]::L3) (fun h st=>vec_nil (star_shut (M:=[]) st)) ?_
 refine we_loopN (tfLoop n xb gB L3) (fun i=>n-i.1) (0,.slice none 0 0,[],kb) ⟨Nat.zero_le _,rfl⟩ ⟨rfl,rfl,rfl,rfl,rfl,trivial⟩ .refl rfl ?_
 rintro ⟨i,tv,ks,kb⟩ ⟨hi,hks⟩
 simp only at hi hks
 subst hks
 simp only [tfLoop]
 refine we_pure (of_has .here (vec_shape (by omega))) ?_
 rintro ⟨ta,tn,tc,rfl,htn,_,htz,hty⟩
 have htn:tn=ks.length:=by simp at htn;omega
 subst htn
 by_cases hlt:ks.length<n
 ·repeat (first | (apply wo_po;apply mo_makeFunc (first:=[]) (cap:=[_,_,_]) (vf:=[]);exact .nil;exact .cons rfl (.cons rfl (.cons rfl .nil));exact trivial) | (apply wo_mo;apply mo_buildSlice (sz:=1) (vs:=[tfF kb xb gB]);exact rfl;exact .cons rfl .nil;exact rfl;(intro v hv;cases (List.mem_singleton.1 hv);exact rfl);omega;exact trivial) | refine wlssT ?_ | refine we_seq ?_ | (refine wR ?_;try simp only [oS]) | refine wo_nil ?_ | refine wM ?_ | refine wL ?_ | refine wT ?_ | refine we_skip ?_ | refine we_block ?_)
  rintro v' L' ⟨nb2,rfl,rfl⟩
  repeat (first | (apply wo_mo;apply mo_append (sz:=1) (new:=[tfF kb xb gB]);exact rfl;exact rfl;exact rfl;exact rfl;exact (.there .here);exact rfl;exact .inr ⟨_,_,rfl,Rds.all .here⟩;(intro v hv;cases (List.mem_singleton.1 hv);exact rfl);(simp only [sliceLen];omega);exact trivial))
  rintro v' L' rfl
  repeat (first | (apply wo_mo;apply mo_alloc;exact trivial) | refine we_seq ?_ | (refine wR ?_;try simp only [oS]) | refine wo_nil ?_ | refine wA ?_ | refine wL ?_)
  rintro w' L' ⟨kb2,rfl,rfl⟩
  repeat (first | refine wS ?_ | (refine wR ?_;try simp only [oS]) | refine wo_nil ?_ | refine wL ?_ | refine wadd ?_)
  refine at_roundS (B:=mT) (I:=tfLoop n xb gB L3) (R:=fun j=>n-j.1<n-ks.length) (ks.length+1,v',ks++[kb],kb2) (by show n-(ks.length+1)<n-ks.length;omega) ⟨by show ks.length+1≤n;omega,by simp⟩ ⟨rfl,rfl,rfl,rfl,rfl,trivial⟩ (fun h st=>?_) rfl
  show Star (vec 1 v' ((ks++[kb]).map fun kb=>tfF kb xb gB)::all (boxesT (ks++[kb]))::arr kb2 0 [.int .i64 ((ks.length+1:Nat):Int)]::L3) h
  rw [boxesT_snoc,List.map_append]
  have s1:Star (arr kb 0 [.int .i64 (ks.length:Nat)]::all (boxesT ks)::vec 1 v' ((ks.map fun kb=>tfF kb xb gB)++[tfF kb xb gB])::arr kb2 0 [.int .i64 ((ks.length+1:Nat):Int)]::L3) h:=Ent.star (.take (.there (.there (.there (.there .here)))) (.take (.there (.there (.there .here))) (.take (.there .here) (.take .here (.drop .refl))))) st
  have s2:=star_push s1
  exact Ent.star (.take (.there .here) (.take .here (.take .here .refl))) s2
 ·obtain hke:ks.length=n:=by omega
  obtain ⟨tb,to,rfl⟩:∃ b o,ta=some ⟨b,o,none⟩:=by
   cases ta with
   | none=>have:=htz rfl;omega
   | some y=>exact ⟨y.block,y.off,by rw [hty y rfl]⟩
  repeat (first | refine wlssF ?_ | refine we_seq ?_ | (refine wR ?_;try simp only [oS]) | refine wo_nil ?_ | refine wM ?_ | refine wL ?_ | refine wF ?_ | refine we_exit ?_)
  let Ro:HProp:=tfRo xb gB gb n a n0 c L
  have hRo:Dup Ro:=dup_all (by intro c hc;simp at hc;rcases hc with rfl | rfl | rfl;exact dup_fro;exact dup_fro;exact hL)
  refine wo_frz (b:=xb) (o:=0) (.there (.there (.there (.there (.there .here))))) ?_
  refine wo_frz (b:=gB) (o:=0) (.there (.there (.there (.there .here)))) ?_
  let V:HProp:=vec 1 (.slice (some ⟨tb,to,none⟩) ks.length tc) (ks.map fun kb=>tfF kb xb gB)
  refine wo_call (.cons rfl .nil) trivial (tr_star ((tfG gb).U ()::all ((tfTs xb gB gb Ro l ks).map ThrT.M)::V::[Ro]) (fun h st=>?_)
   (free_tr (g:=tfG gb) (fd:=tfD gb l ks) (ts:=tfTs xb gB gb Ro l ks) (s0:=()) (fun _ _=>trivial) tfTs_q rfl (Nat.le_refl _) (fun _ _ z=>z)
    (fun t ht=>?_) (by rw [tfTs_len];omega) (by rw [tfTs_len];omega) (by rw [tfTs_f];exact ⟨by simp,.inr ⟨tb,to,rfl,fun i v hv=>rd_vec .here hv⟩⟩))) ?_
  ·have s1:Star (all L::fro gB 0 [.slice (some ⟨gb,0,none⟩) n n]::fro xb 0 [.slice a n0 c]::V::all (boxesT ks)::arr kb 0 [.int .i64 (ks.length:Nat)]::arr gb 0 (zeros n [.int .i64 0])::[]) h:=star_tail (M:=[_,_,_,_,_,_]) st
   have s2:Star (fro xb 0 [.slice a n0 c]::fro gB 0 [.slice (some ⟨gb,0,none⟩) n n]::all L::all (boxesT ks)::arr gb 0 (zeros n [.int .i64 0])::V::[]) h:=Ent.star (.take (.there (.there .here)) (.take (.there .here) (.take .here (.take (.there .here) (.take (.there (.there .here)) (.take .here (.drop .refl))))))) s1
   have s3:Star (Ro::all (boxesT ks)::arr gb 0 (zeros n [.int .i64 0])::V::[]) h:=star_shut (M:=[_,_,_]) s2
   rw [zeros_rep,← hke] at s3
   have s4:=dealF hRo s3
   rw [tfTs_M]
   exact star_true (Ent.star (.take .here (.take (.there .here) (.take .here .refl))) s4)
  ·obtain ⟨i,hi⟩:=List.mem_iff_getElem?.1 ht
   rw [tfTs_get] at hi
   obtain ⟨kb',hk,rfl⟩:=Option.map_eq_some_iff.1 hi
   exact tf_ok hr0 hb (by have:=(List.getElem?_eq_some_iff.1 hk).1;omega) (by omega)
  rintro v1 L5 x1 ⟨_,qs,hqs,_,_,rfl,rfl,rfl⟩
  replace hqs:qs=tfQs gb l ks:=hqs
  subst hqs
  repeat (first | refine wneqF ?_ | refine we_seq ?_ | (refine wR ?_;try simp only [oS]) | refine wo_nil ?_ | refine wA ?_ | refine wF ?_ | refine we_skip ?_ | refine we_block ?_)
  let L6:List HProp:=[all ((tfQs gb l ks).map (tfG gb).Fin),V,Ro]
  refine we_star L6 (fun h st=>star_drop st) ?_
  refine we_loopN (tfLoop2 n xb gB L6) (fun i=>n-i) 0 (Nat.zero_le _) ⟨rfl,rfl,rfl,rfl,trivial⟩ .refl rfl ?_
  intro i hi2
  replace hi2:i≤n:=hi2
  simp only [tfLoop2]
  by_cases hlt2:i<n
  ·have hcell:((tfQs gb l ks).map (tfG gb).Fin)[i]?=some (arr gb i [.int .i64 (tfV l i)]):=by
    rw [List.getElem?_map,tfQs_get,List.getElem?_eq_getElem (show i<ks.length by omega)];rfl
   have hgot:Rd L6 gb (0+i) (.int .i64 (tfV l i)):=rd_pick hcell fun h hc=>by have:=hc 0 _ rfl;simpa using this
   have hro:∀ {b o:Nat} {v:Value},Rd [fro xb 0 [.slice a n0 c],fro gB 0 [.slice (some ⟨gb,0,none⟩) n n],all L] b o v→Rd L6 b o v:=fun r=>.there (.there fun h st=>r h (star_pre (star_open st)))
   have q1:Rd L6 xb 0 (.slice a n0 c):=hro (Rd.fro (k:=0) rfl rfl)
   have q2:Rd L6 gB 0 (.slice (some ⟨gb,0,none⟩) n n):=hro (.there (Rd.fro (k:=0) rfl rfl))
   have hV:=tfV_eq (l:=l) (k:=i) (by omega)
   have w1:IntKind.i64.wrap (((i:Nat):Int)+1)=((i:Nat):Int)+1:=wrap_i64 (by omega) (by omega)
   by_cases hlt3:i<n0
   ·obtain ⟨b,o,rfl,hrd⟩:=hr0.rds (by omega)
    obtain ⟨v,hv⟩:∃ v,l[i]?=some v:=⟨_,List.getElem?_eq_getElem (by omega)⟩
    have hN:tfN l i=v:=by unfold tfN;rw [hv];rfl
    have q3:Rd L6 b (o+i) (.int .i64 v):=hro (.there (.there fun h st=>hrd i (.int .i64 v) (by rw [List.getElem?_map,hv];rfl) h (star_pre (star_open st))))
    rw [hN] at hV
    repeat (first | (apply wo_po;apply mo_load;exact rfl;(first | exact q1 | exact q2 | exact q3 | exact hgot);exact trivial) | (apply wo_po;apply mo_index1;exact rfl;exact rfl;omega;exact gY) | (apply wo_po;apply mo_bin;exact rfl;exact rfl;apply bin_add;(first | exact w1 | exact hV.symm);exact gY) | refine wlssT ?_ | refine wneqF ?_ | refine we_seq ?_ | (refine wR ?_;try simp only [oS]) | refine wo_nil ?_ | refine wM ?_ | refine wA ?_ | refine wE ?_ | refine wT ?_ | refine wF ?_ | refine we_skip ?_ | refine we_block ?_)
    refine at_round (B:=mT) (I:=tfLoop2 n xb gB L6) (R:=fun j=>n-j<n-i) (i+1) (by omega) (show i+1≤n by omega) ?_ .refl rfl
    exact ⟨rfl,rfl,rfl,rfl,trivial⟩
   ·have hN:tfN l i=0:=by unfold tfN;rw [List.getElem?_eq_none (by omega)];rfl
    rw [hN,Int.add_zero,w1] at hV
    repeat (first | (apply wo_po;apply mo_load;exact rfl;(first | exact q1 | exact q2 | exact hgot);exact trivial) | (apply wo_po;apply mo_index1;exact rfl;exact rfl;omega;exact gY) | (apply wo_po;apply mo_bin;exact rfl;exact rfl;apply bin_add;exact w1;exact gY) | refine wlssT ?_ | refine wlssF ?_ | refine wneqF ?_ | refine we_seq ?_ | (refine wR ?_;try simp only [oS]) | refine wo_nil ?_ | refine wM ?_ | refine wA ?_ | refine wE ?_ | refine wT ?_ | refine wF ?_ | refine we_skip ?_ | refine we_block ?_)
    refine at_round (B:=mT) (I:=tfLoop2 n xb gB L6) (R:=fun j=>n-j<n-i) (i+1) (by omega) (show i+1≤n by omega) ?_ .refl rfl
    exact ⟨rfl,rfl,rfl,rfl,trivial⟩
  ·obtain rfl:i=n:=by omega
   repeat (first | refine wlssF ?_ | refine we_seq ?_ | (refine wR ?_;try simp only [oS]) | refine wo_nil ?_ | refine wM ?_ | refine wA ?_ | refine wF ?_ | refine we_ret ?_ | refine we_exit ?_)
   (first | refine or1 Try.func8 Try.results8 hQ rfl ?_ | refine on1 Try.func8 Try.results8 hQ rfl ?_)
   exact ⟨rfl,rfl⟩
end
end Go.Proofs.Ytabbkjciifnehaa
namespace Go.PB
open Go.Conc Go.Conc.Lib Go.ConcR.Gen
open Go.ConcR (KK stA smA rd wr mk DC0)
def WgAt (ty:TypeId) (wg:Nat) (w:World) (st sm:Int):Prop:=∃ f:Nat × Nat,w.heap[wg]?=some (.cells #[.int .u64 st,.int .u32 sm] ty f)∧w.frozen? ⟨wg,0,none⟩=false∧w.frozen? ⟨wg,1,none⟩=false
section
variable {ty:TypeId} {wg:Nat} {w w':World} {st sm:Int}
theorem WgAt.cellSt (h:WgAt ty wg w st sm):w.cell? (stA wg)=some (.int .u64 st):=by obtain ⟨f,h,_⟩:=h;simp [World.cell?,stA,h]
theorem WgAt.cellSm (h:WgAt ty wg w st sm):w.cell? (smA wg)=some (.int .u32 sm):=by obtain ⟨f,h,_⟩:=h;simp [World.cell?,smA,h]
theorem WgAt.thaw (h:WgAt ty wg w st sm) (n:Nat) (hn:n<2:=by decide):w.frozen? ⟨wg,n,none⟩=false:=by
 obtain ⟨f,_,h0,h1⟩:=h
 rcases n with _ | _ | n
 ·exact h0
 ·exact h1
 ·omega
theorem WgAt.unique {st' sm':Int} (h:WgAt ty wg w st sm) (h':WgAt ty wg w st' sm'):st=st'∧sm=sm':=by
 obtain ⟨f,h,_⟩:=h
 obtain ⟨f',h',_⟩:=h'
 rw [h] at h'
 simp at h'
 exact ⟨h'.1.1,h'.1.2⟩
theorem WgAt.setSt (h:WgAt ty wg w st sm) (v:Int):WgAt ty wg (w.setCell (stA wg) (.int .u64 v)) v sm:=by
 obtain ⟨f,h,h0,h1⟩:=h
 refine ⟨f,?_,by rw [frozen_setCell];exact h0,by rw [frozen_setCell];exact h1⟩
 simp [World.setCell,stA,Array.getElem?_modify,h]
theorem WgAt.setSm (h:WgAt ty wg w st sm) (v:Int):WgAt ty wg (w.setCell (smA wg) (.int .u32 v)) st v:=by
 obtain ⟨f,h,h0,h1⟩:=h
 refine ⟨f,?_,by rw [frozen_setCell];exact h0,by rw [frozen_setCell];exact h1⟩
 simp [World.setCell,smA,Array.getElem?_modify,h]
theorem WgAt.of_heap (h:WgAt ty wg w st sm) (e:w'.heap[wg]?=w.heap[wg]?):WgAt ty wg w' st sm:=by
 obtain ⟨f,h,h0,h1⟩:=h
 have hf:∀ o,w'.frozen? ⟨wg,o,none⟩=w.frozen? ⟨wg,o,none⟩:=fun o=>by unfold World.frozen?;rw [e]
 exact ⟨f,e.trans h,(hf 0).trans h0,(hf 1).trans h1⟩
def WgLive (ty:TypeId) (Wg:Nat) (w:World):Prop:=∃ st sm,WgAt ty Wg w st sm
end
def RL (ty:TypeId) (Wg:Nat) (w w₁:World):Prop:=WgLive ty Wg w→WgLive ty Wg w₁
theorem live_cell {ty:TypeId} {Wg:Nat} {w:World} (h:WgLive ty Wg w):∃ v,w.cell? ⟨Wg,0,none⟩=some v:=let ⟨_,_,x⟩:=h;⟨_,WgAt.cellSt x⟩
section
variable (P:Program) (ty:TypeId) (Wg:Nat)
def Zg (Stop:Goroutine→World→Prop) (m:Nat) (g:Goroutine) (w:World):Prop:=Goes P false (RL ty Wg) DC0 Stop m g w
def Z4 (g:Goroutine) (w:World):Prop :=
 g.status=.running∧mayWake P g=true∧(WgAt ty Wg w 0 0→∃ g' q,stepG P false g w=.go g' (w.setCell (smA Wg) (.int .u32 1)) (semEvents (smA Wg))∧QuitsD P q 1 g')
def Z3 (g:Goroutine) (w:World):Prop :=
 g.status=.running∧(WgAt ty Wg w 1 0→∃ g' m,stepG P false g w=.go g' (w.setCell (stA Wg) (.int .u64 0)) #[wr (stA Wg)]∧Zg P ty Wg (Z4 P ty Wg) m g' (w.setCell (stA Wg) (.int .u64 0)))
def Z2 (g:Goroutine) (w:World):Prop :=
 g.status=.running∧(WgAt ty Wg w 1 0→∃ g' m,stepG P false g w=.go g' w #[rd (stA Wg)]∧Zg P ty Wg (Z3 P ty Wg) m g' w)
def Z1 (g:Goroutine) (w:World):Prop :=
 g.status=.running∧∀ v wt:Nat,wt≤1→v<2147483647→WgAt ty Wg w ((v+1)*KK+wt) 0 →
  ∃ g',stepG P false g w=.go g' (w.setCell (stA Wg) (.int .u64 (v*KK+wt))) #[rd (stA Wg),wr (stA Wg)] ∧
   ((v=0∧wt=1)→∃ m,Zg P ty Wg (Z2 P ty Wg) m g' (w.setCell (stA Wg) (.int .u64 (v*KK+wt))))∧(¬ (v=0∧wt=1)→∃ q,QuitsD P q 1 g')
def ZK (g:Goroutine) (w:World):Prop :=
 g.status=.running∧∃ g' m,stepG P false g w=.go g' w #[mk .disable]∧Zg P ty Wg (Z1 P ty Wg) m g' w
def ZR (g:Goroutine) (w:World):Prop :=
 g.status=.running∧∃ g' m,stepG P false g w=.go g' w #[mk (.releaseMerge (stA Wg))]∧Zg P ty Wg (ZK P ty Wg) m g' w
end
end Go.PB
namespace Go.PB
open Go.Conc Go.Conc.Lib Go.ConcR.Gen
open Go.ConcR (KK stA smA rd wr mk DC0)
theorem quits_more {P:Program}:∀ {n d:Nat} {g:Goroutine},QuitsD P n d g→QuitsD P (n+1) d g
 | 0,_,_,h=>.inl h
 | _+1,_,_,h=>h.imp id fun ⟨hs,g',es,hm,hst,hq⟩=>⟨hs,g',es,hm,hst,quits_more hq⟩
theorem quits_mono {P:Program} {n n' d:Nat} {g:Goroutine} (h:QuitsD P n d g) (hn:n≤n'):QuitsD P n' d g:=by
 induction hn with
 | refl=>exact h
 | step _ ih=>exact quits_more ih
set_option maxRecDepth 100000 in
set_option maxHeartbeats 8000000 in
theorem add_goes [Go.ConcR.Payload] {P:Program} {L:WgLink} (H:WgLib P L) {Wg:Nat} {b₀:Frame} {a₀:Act} {ops₀:Array Oper} {i₀:Nat} {rest₀:List Nat} {k₀:List Item} {cs:List Frame} {qt:Nat}
  (hT:QuitsD P qt 0 (G (b₀.at (a₀.put ((ops₀[i₀]?).bind (·.dst)) (.tuple #[])) (.inRegion ops₀ rest₀::k₀)) cs)) (w:World) (hK:WgLive L.tWg Wg w) :
  Zg P L.tWg Wg (ZR P L.tWg Wg) 20 (G ((Go.Conc.base L.add).at ⟨#[.pointer (some ⟨Wg,0,none⟩),.int .i64 (-1)]++Array.replicate 115 undef,[]⟩ [.code (body_add L)]) (b₀.at a₀ (.inRegion ops₀ (i₀::rest₀)::k₀)::cs)) w:=by
 lib_facts
 simp only [body_add,addFn,Option.getD_some,Array.replicate_succ,Array.replicate_zero]
 unfold Zg
 have key:∀ {w w₁:World},WgLive L.tWg Wg w→RL L.tWg Wg w w₁→WgLive L.tWg Wg w₁:=fun h r=>r h
 walk_nrm
 repeat (first | u_c stepG_seq key hK | u_c stepG_region_end key hK | u_c stepG_skip key hK | u_reg key hK | u_skip key hK | u_op key hK | u_cond true key hK | u_cond false key hK | u_c stepG_ret' key hK | u_c stepG_block key hK | u_c stepG_loop key hK | u_c stepG_end key hK | u_defer key hK | u_leave1 H.f_uAdd key hK | u_leave1 H.f_uLoad key hK | u_leave0 H.f_uStore key hK | u_call H.f_uAdd (nm_uAdd L) uAddFn key hK | u_call H.f_uLoad (nm_uLoad L) uLoadFn key hK | u_call H.f_uStore (nm_uStore L) uStoreFn key hK | u_bub key hK)
 u_conv H.underlying_tWgP H.room_tWg (live_cell hK).choose_spec key hK
 refine Goes.stop (fun w₁ h₁=>?_)
 replace hK:=key hK h₁
 clear h₁
 refine ⟨rfl,_,30,stepG_markAt .releaseMerge (by simp) rfl rfl (by k_ne) rfl H.f_relMerge (x_relMerge_n L) (x_relMerge_b L) (x_relMerge_x L) (x_relMerge_f L) (by simp [Act.eval,stA]),?_⟩
 unfold Zg
 walk_nrm
 repeat (first | u_c stepG_seq key hK | u_c stepG_region_end key hK | u_c stepG_skip key hK | u_reg key hK | u_skip key hK | u_op key hK | u_cond true key hK | u_cond false key hK | u_c stepG_ret' key hK | u_c stepG_block key hK | u_c stepG_loop key hK | u_c stepG_end key hK | u_defer key hK | u_leave1 H.f_uAdd key hK | u_leave1 H.f_uLoad key hK | u_leave0 H.f_uStore key hK | u_call H.f_uAdd (nm_uAdd L) uAddFn key hK | u_call H.f_uLoad (nm_uLoad L) uLoadFn key hK | u_call H.f_uStore (nm_uStore L) uStoreFn key hK | u_bub key hK)
 refine Goes.stop (fun w₁ h₁=>?_)
 replace hK:=key hK h₁
 clear h₁
 refine ⟨rfl,_,80,stepG_mark0 .disable (by simp) rfl rfl (by k_ne) rfl H.f_disable (x_disable_n L) (x_disable_b L) (x_disable_x L) (x_disable_f L),?_⟩
 unfold Zg
 walk_nrm
 repeat (first | u_c stepG_seq key hK | u_c stepG_region_end key hK | u_c stepG_skip key hK | u_reg key hK | u_skip key hK | u_op key hK | u_cond true key hK | u_cond false key hK | u_c stepG_ret' key hK | u_c stepG_block key hK | u_c stepG_loop key hK | u_c stepG_end key hK | u_defer key hK | u_leave1 H.f_uAdd key hK | u_leave1 H.f_uLoad key hK | u_leave0 H.f_uStore key hK | u_call H.f_uAdd (nm_uAdd L) uAddFn key hK | u_call H.f_uLoad (nm_uLoad L) uLoadFn key hK | u_call H.f_uStore (nm_uStore L) uStoreFn key hK | u_bub key hK)
 refine Goes.stop (fun w₁ h₁=>?_)
 clear h₁ hK
 refine ⟨rfl,fun v wt hwt hv hw=>?_⟩
 have e0:IntKind.u64.wrap (KK+18446744069414584320)=0:=by decide
 have e1:IntKind.u64.wrap (KK+1+18446744069414584320)=1:=by decide
 rcases Nat.eq_zero_or_pos v with rfl | hvp <;> (obtain rfl | rfl:wt=0∨wt=1:=by omega)
 ·-- nobody is left,nobody waits
  replace hw:WgAt L.tWg Wg w₁ KK 0:=by simpa using hw
  have z:((0:Nat):Int)*KK+((0:Nat):Int)=0:=by simp
  rw [z]
  refine ⟨_,(stepG_add_atomic rfl rfl (by k_ne) rfl H.f_addU64 (x_addU64_n L) (x_addU64_b L) (x_addU64_x L) .u64 (x_addU64_f L) rfl rfl (WgAt.cellSt hw) (WgAt.thaw hw 0)).trans (by rw [e0];rfl),fun hl=>absurd hl.2 (by decide),fun _=>⟨qt+200,?_⟩⟩
  clear hw
  walk_nrm
  q_val (.int .u64 0)
  q_c stepG_region_end
  q_c stepG_ret'
  q_leave1 H.f_uAdd
  q_val (.int .u64 0)
  q_c stepG_region_end
  q_c stepG_seq
  q_c stepG_seq
  q_reg
  q_val (.int .u64 0)
  q_val (.int .u64 0)
  q_val (.bool false)
  q_val (.bool false)
  q_skip
  q_skip
  q_val (.bool false)
  q_c stepG_region_end
  q_cond false
  q_c stepG_skip
  q_c stepG_seq
  q_reg
  q_val (.int .u64 0)
  q_val (.int .u64 0)
  q_val (.int .i32 0)
  q_val (.int .i32 0)
  q_c stepG_region_end
  q_c stepG_seq
  q_reg
  q_val (.int .u64 0)
  q_val (.int .u64 0)
  q_val (.int .u32 0)
  q_val (.int .u32 0)
  q_c stepG_region_end
  q_c stepG_seq
  q_c stepG_seq
  q_reg
  q_val (.bool true)
  q_val (.int .i64 (-1))
  q_val (.bool false)
  q_val (.bool false)
  q_val (.bool false)
  q_skip
  q_skip
  q_skip
  q_skip
  q_val (.bool false)
  q_c stepG_region_end
  q_cond false
  q_c stepG_skip
  q_c stepG_seq
  q_c stepG_seq
  q_reg
  q_val (.int .i32 0)
  q_val (.bool false)
  q_c stepG_region_end
  q_cond false
  q_c stepG_skip
  q_c stepG_seq
  q_c stepG_seq
  q_reg
  q_val (.int .u32 0)
  q_val (.bool false)
  q_val (.bool false)
  q_skip
  q_skip
  q_val (.bool false)
  q_val (.bool false)
  q_skip
  q_skip
  q_skip
  q_skip
  q_val (.bool false)
  q_c stepG_region_end
  q_cond false
  q_c stepG_skip
  q_c stepG_seq
  q_c stepG_seq
  q_reg
  q_val (.int .i32 0)
  q_val (.bool false)
  q_val (.bool false)
  q_val (.int .u32 0)
  q_val (.bool true)
  q_val (.bool true)
  q_c stepG_region_end
  q_cond true
  q_c stepG_ret'
  q_enable
  q_leave0 H.f_add
  exact quits_mono hT (by omega)
 ·-- nobody is left,the starter waits: the last one
  replace hw:WgAt L.tWg Wg w₁ (KK+1) 0:=by simpa using hw
  have z:((0:Nat):Int)*KK+((1:Nat):Int)=1:=by simp
  rw [z]
  refine ⟨_,(stepG_add_atomic rfl rfl (by k_ne) rfl H.f_addU64 (x_addU64_n L) (x_addU64_b L) (x_addU64_x L) .u64 (x_addU64_f L) rfl rfl (WgAt.cellSt hw) (WgAt.thaw hw 0)).trans (by rw [e1];rfl),fun _=>⟨150,?_⟩,fun hl=>absurd ⟨rfl,rfl⟩ hl⟩
  have hK:WgLive L.tWg Wg (w₁.setCell (stA Wg) (.int .u64 1)):=⟨_,_,WgAt.setSt hw 1⟩
  clear hw
  unfold Zg
  walk_nrm
  u_op key hK
  u_c stepG_region_end key hK
  u_c stepG_ret' key hK
  u_leave1 H.f_uAdd key hK
  u_op key hK
  u_c stepG_region_end key hK
  u_c stepG_seq key hK
  u_c stepG_seq key hK
  u_reg key hK
  u_op key hK
  u_op key hK
  u_op key hK
  u_op key hK
  u_skip key hK
  u_skip key hK
  u_op key hK
  u_c stepG_region_end key hK
  u_cond false key hK
  u_c stepG_skip key hK
  u_c stepG_seq key hK
  u_reg key hK
  u_op key hK
  u_op key hK
  u_op key hK
  u_op key hK
  u_c stepG_region_end key hK
  u_c stepG_seq key hK
  u_reg key hK
  u_op key hK
  u_op key hK
  u_op key hK
  u_op key hK
  u_c stepG_region_end key hK
  u_c stepG_seq key hK
  u_c stepG_seq key hK
  u_reg key hK
  u_op key hK
  u_op key hK
  u_op key hK
  u_op key hK
  u_op key hK
  u_skip key hK
  u_skip key hK
  u_skip key hK
  u_skip key hK
  u_op key hK
  u_c stepG_region_end key hK
  u_cond false key hK
  u_c stepG_skip key hK
  u_c stepG_seq key hK
  u_c stepG_seq key hK
  u_reg key hK
  u_op key hK
  u_op key hK
  u_c stepG_region_end key hK
  u_cond false key hK
  u_c stepG_skip key hK
  u_c stepG_seq key hK
  u_c stepG_seq key hK
  u_reg key hK
  u_op key hK
  u_op key hK
  u_op key hK
  u_op key hK
  u_op key hK
  u_op key hK
  u_op key hK
  u_skip key hK
  u_skip key hK
  u_skip key hK
  u_skip key hK
  u_op key hK
  u_c stepG_region_end key hK
  u_cond false key hK
  u_c stepG_skip key hK
  u_c stepG_seq key hK
  u_c stepG_seq key hK
  u_reg key hK
  u_op key hK
  u_op key hK
  u_op key hK
  u_op key hK
  u_op key hK
  u_op key hK
  u_c stepG_region_end key hK
  u_cond false key hK
  u_c stepG_skip key hK
  u_c stepG_seq key hK
  u_c stepG_seq key hK
  u_reg key hK
  u_op key hK
  u_op key hK
  u_op key hK
  u_call H.f_uLoad (nm_uLoad L) uLoadFn key hK
  u_c stepG_seq key hK
  u_reg key hK
  u_op key hK
  u_c stepG_region_end key hK
  u_c stepG_seq key hK
  u_reg key hK
  u_op key hK
  u_op key hK
  u_op key hK
  refine Goes.stop (fun w₂ h₂=>?_)
  clear h₂ hK
  refine ⟨rfl,fun hw=>⟨_,60,stepG_load_atomic rfl rfl (by k_ne) rfl H.f_loadU64 (x_loadU64_n L) (x_loadU64_b L) (x_loadU64_x L) .u64 (x_loadU64_f L) rfl (WgAt.cellSt hw),?_⟩⟩
  have hK:WgLive L.tWg Wg w₂:=⟨_,_,hw⟩
  clear hw
  unfold Zg
  walk_nrm
  u_op key hK
  u_c stepG_region_end key hK
  u_c stepG_ret' key hK
  u_leave1 H.f_uLoad key hK
  u_op key hK
  u_op key hK
  u_c stepG_region_end key hK
  u_cond false key hK
  u_c stepG_skip key hK
  u_c stepG_seq key hK
  u_reg key hK
  u_op key hK
  u_op key hK
  u_op key hK
  u_call H.f_uStore (nm_uStore L) uStoreFn key hK
  u_reg key hK
  u_op key hK
  u_op key hK
  u_op key hK
  u_op key hK
  refine Goes.stop (fun w₃ h₃=>?_)
  clear h₃ hK
  refine ⟨rfl,fun hw=>⟨_,60,stepG_store_atomic rfl rfl (by k_ne) rfl H.f_storeU64 (x_storeU64_n L) (x_storeU64_b L) (x_storeU64_x L) (x_storeU64_f L) rfl rfl (WgAt.cellSt hw) (WgAt.thaw hw 0),?_⟩⟩
  have hK:WgLive L.tWg Wg (w₃.setCell (stA Wg) (.int .u64 0)):=⟨_,_,WgAt.setSt hw 0⟩
  clear hw
  unfold Zg
  walk_nrm
  u_c stepG_region_end key hK
  u_c stepG_end key hK
  u_leave0 H.f_uStore key hK
  u_c stepG_region_end key hK
  u_c stepG_seq key hK
  u_c stepG_seq key hK
  u_reg key hK
  u_op key hK
  u_c stepG_region_end key hK
  u_cond false key hK
  u_c stepG_skip key hK
  u_c stepG_block key hK
  u_c stepG_loop key hK
  u_c stepG_seq key hK
  u_c stepG_seq key hK
  u_reg key hK
  u_op key hK
  u_op key hK
  u_c stepG_region_end key hK
  u_cond true key hK
  u_c stepG_skip key hK
  u_c stepG_seq key hK
  u_c stepG_block key hK
  u_reg key hK
  u_op key hK
  u_op key hK
  u_op key hK
  refine Goes.stop (fun w₄ h₄=>?_)
  clear h₄ hK
  refine ⟨rfl,mayWake_entry rfl rfl H.f_semrelease (x_semrelease_b L),fun hw=>⟨_,qt+40,(stepG_semrelease rfl rfl (by k_ne) rfl H.f_semrelease (x_semrelease_n L) (x_semrelease_b L) (x_semrelease_x L) (x_semrelease_f L) (by simp [Act.eval,smA]) (WgAt.cellSm hw) (WgAt.thaw hw 1)).trans (by rfl),?_⟩⟩
  clear hw
  walk_nrm
  q_c stepG_region_end
  q_c stepG_inBlock
  q_reg
  q_val (.int .u32 1)
  q_val (.int .u32 0)
  q_val (.int .u32 0)
  q_c stepG_region_end
  q_c stepG_inLoop
  q_c stepG_seq
  q_c stepG_seq
  q_reg
  q_val (.int .u32 0)
  q_val (.bool false)
  q_c stepG_region_end
  q_cond false
  q_exit
  q_c stepG_end
  q_enable
  q_leave0 H.f_add
  exact quits_mono hT (by omega)
 ·-- some are left,nobody waits
  replace hw:WgAt L.tWg Wg w₁ (((v:Nat)+1)*KK+0) 0:=by simpa using hw
  have z:((v:Nat):Int)*KK+((0:Nat):Int)=(v:Int)*KK+0:=by simp
  rw [z]
  have eS:IntKind.u64.wrap (((v:Nat)+1)*KK+0+18446744069414584320)=(v:Int)*KK+0:=by rw [IntKind.wrap_u64];simp only [KK];omega
  obtain ⟨S,hS⟩:∃ S:Int,S=(v:Int)*KK+0:=⟨_,rfl⟩
  rw [← hS] at eS ⊢
  have a1:S/4294967296=(v:Int):=by rw [hS];simp only [KK];omega
  have a2:0≤S∧S<9223372036854775808:=by rw [hS];simp only [KK];omega
  have b1:bits .and .u64 S 2147483648=0:=by rw [hS];have:=Go.ConcN.st_flag v 0 (by omega) (by omega);simpa [KK] using this
  have b2:bits .and .u64 S 2147483647=0:=by rw [hS];have:=Go.ConcN.st_waiters v 0 (by omega) (by omega);simpa [KK] using this
  clear hS z
  refine ⟨_,(stepG_add_atomic rfl rfl (by k_ne) rfl H.f_addU64 (x_addU64_n L) (x_addU64_b L) (x_addU64_x L) .u64 (x_addU64_f L) rfl rfl (WgAt.cellSt hw) (WgAt.thaw hw 0)).trans (by rw [eS];rfl),fun hl=>absurd hl.1 (by omega),fun _=>⟨qt+150,?_⟩⟩
  clear hw
  walk_nrm
  q_vn (.int .u64 S)
  q_c stepG_region_end
  q_c stepG_ret'
  q_leave1 H.f_uAdd
  q_vn (.int .u64 S)
  q_c stepG_region_end
  q_c stepG_seq
  q_c stepG_seq
  q_reg
  q_vn (.int .u64 S)
  q_vn (.int .u64 0)
  q_vn (.bool false)
  q_vn (.bool false)
  q_skip
  q_skip
  q_vn (.bool false)
  q_c stepG_region_end
  q_cond false
  q_c stepG_skip
  q_c stepG_seq
  q_reg
  q_vn (.int .u64 S)
  q_vn (.int .u64 (v:Int))
  q_vn (.int .i32 (v:Int))
  q_vn (.int .i32 (v:Int))
  q_c stepG_region_end
  q_c stepG_seq
  q_reg
  q_vn (.int .u64 S)
  q_vn (.int .u64 0)
  q_vn (.int .u32 0)
  q_vn (.int .u32 0)
  q_c stepG_region_end
  q_c stepG_seq
  q_c stepG_seq
  q_reg
  q_vn (.bool true)
  q_vn (.int .i64 (-1))
  q_vn (.bool false)
  q_vn (.bool false)
  q_vn (.bool false)
  q_skip
  q_skip
  q_skip
  q_skip
  q_vn (.bool false)
  q_c stepG_region_end
  q_cond false
  q_c stepG_skip
  q_c stepG_seq
  q_c stepG_seq
  q_reg
  q_vn (.int .i32 (v:Int))
  q_vn (.bool false)
  q_c stepG_region_end
  q_cond false
  q_c stepG_skip
  q_c stepG_seq
  q_c stepG_seq
  q_reg
  q_vn (.int .u32 0)
  q_vn (.bool false)
  q_vn (.bool false)
  q_skip
  q_skip
  q_vn (.bool false)
  q_vn (.bool false)
  q_skip
  q_skip
  q_skip
  q_skip
  q_vn (.bool false)
  q_c stepG_region_end
  q_cond false
  q_c stepG_skip
  q_c stepG_seq
  q_c stepG_seq
  q_reg
  q_vn (.int .i32 (v:Int))
  q_vn (.bool true)
  q_vn (.bool true)
  q_skip
  q_skip
  q_vn (.bool true)
  q_c stepG_region_end
  q_cond true
  q_c stepG_ret'
  q_enable
  q_leave0 H.f_add
  exact quits_mono hT (by omega)
 ·-- some are left,the starter waits
  replace hw:WgAt L.tWg Wg w₁ (((v:Nat)+1)*KK+1) 0:=by simpa using hw
  have z:((v:Nat):Int)*KK+((1:Nat):Int)=(v:Int)*KK+1:=by simp
  rw [z]
  have eS:IntKind.u64.wrap (((v:Nat)+1)*KK+1+18446744069414584320)=(v:Int)*KK+1:=by rw [IntKind.wrap_u64];simp only [KK];omega
  obtain ⟨S,hS⟩:∃ S:Int,S=(v:Int)*KK+1:=⟨_,rfl⟩
  rw [← hS] at eS ⊢
  have a1:S/4294967296=(v:Int):=by rw [hS];simp only [KK];omega
  have a2:0≤S∧S<9223372036854775808:=by rw [hS];simp only [KK];omega
  have b1:bits .and .u64 S 2147483648=0:=by rw [hS];have:=Go.ConcN.st_flag v 1 (by omega) (by omega);simpa [KK] using this
  have b2:bits .and .u64 S 2147483647=1:=by rw [hS];have:=Go.ConcN.st_waiters v 1 (by omega) (by omega);simpa [KK] using this
  clear hS z
  refine ⟨_,(stepG_add_atomic rfl rfl (by k_ne) rfl H.f_addU64 (x_addU64_n L) (x_addU64_b L) (x_addU64_x L) .u64 (x_addU64_f L) rfl rfl (WgAt.cellSt hw) (WgAt.thaw hw 0)).trans (by rw [eS];rfl),fun hl=>absurd hl.1 (by omega),fun _=>⟨qt+150,?_⟩⟩
  clear hw
  walk_nrm
  q_vn (.int .u64 S)
  q_c stepG_region_end
  q_c stepG_ret'
  q_leave1 H.f_uAdd
  q_vn (.int .u64 S)
  q_c stepG_region_end
  q_c stepG_seq
  q_c stepG_seq
  q_reg
  q_vn (.int .u64 S)
  q_vn (.int .u64 0)
  q_vn (.bool false)
  q_vn (.bool false)
  q_skip
  q_skip
  q_vn (.bool false)
  q_c stepG_region_end
  q_cond false
  q_c stepG_skip
  q_c stepG_seq
  q_reg
  q_vn (.int .u64 S)
  q_vn (.int .u64 (v:Int))
  q_vn (.int .i32 (v:Int))
  q_vn (.int .i32 (v:Int))
  q_c stepG_region_end
  q_c stepG_seq
  q_reg
  q_vn (.int .u64 S)
  q_vn (.int .u64 1)
  q_vn (.int .u32 1)
  q_vn (.int .u32 1)
  q_c stepG_region_end
  q_c stepG_seq
  q_c stepG_seq
  q_reg
  q_vn (.bool true)
  q_vn (.int .i64 (-1))
  q_vn (.bool false)
  q_vn (.bool false)
  q_vn (.bool false)
  q_skip
  q_skip
  q_skip
  q_skip
  q_vn (.bool false)
  q_c stepG_region_end
  q_cond false
  q_c stepG_skip
  q_c stepG_seq
  q_c stepG_seq
  q_reg
  q_vn (.int .i32 (v:Int))
  q_vn (.bool false)
  q_c stepG_region_end
  q_cond false
  q_c stepG_skip
  q_c stepG_seq
  q_c stepG_seq
  q_reg
  q_vn (.int .u32 1)
  q_vn (.bool true)
  q_vn (.bool true)
  q_vn (.int .i64 (-1))
  q_vn (.bool false)
  q_vn (.bool false)
  q_vn (.bool false)
  q_skip
  q_skip
  q_skip
  q_skip
  q_vn (.bool false)
  q_c stepG_region_end
  q_cond false
  q_c stepG_skip
  q_c stepG_seq
  q_c stepG_seq
  q_reg
  q_vn (.int .i32 (v:Int))
  q_vn (.bool true)
  q_vn (.bool true)
  q_skip
  q_skip
  q_vn (.bool true)
  q_c stepG_region_end
  q_cond true
  q_c stepG_ret'
  q_enable
  q_leave0 H.f_add
  exact quits_mono hT (by omega)
end Go.PB
namespace Go.PB
open Go.Conc Go.Conc.Lib Go.ConcR.Gen
open Go.ConcR (KK stA smA rd wr mk DC0)
set_option maxRecDepth 100000 in
theorem add_goes2 [Go.ConcR.Payload] {P:Program} {L:WgLink} (H:WgLib P L) {Wg:Nat} {b₀:Frame} {a₀:Act} {ops₀:Array Oper} {i₀:Nat} {rest₀:List Nat} {k₀:List Item} {cs:List Frame} {qt:Nat}
  (hT:QuitsD P qt 0 (G (b₀.at (a₀.put ((ops₀[i₀]?).bind (·.dst)) (.tuple #[])) (.inRegion ops₀ rest₀::k₀)) cs)) (w:World) (hK:WgLive L.tWg Wg w) :
  Zg P L.tWg Wg (ZR P L.tWg Wg) 20 (G ((Go.Conc.base L.add).at ⟨#[.pointer (some ⟨Wg,0,none⟩),.int .i64 (-1),undef,undef,undef,undef,undef,undef,undef,undef,undef,undef,undef,undef,undef,undef,undef,undef,undef,undef,undef,undef,undef,undef,undef,undef,undef,undef,undef,undef,undef,undef,undef,undef,undef,undef,undef,undef,undef,undef,undef,undef,undef,undef,undef,undef,undef,undef,undef,undef,undef,undef,undef,undef,undef,undef,undef,undef,undef,undef,undef,undef,undef,undef,undef,undef,undef,undef,undef,undef,undef,undef,undef,undef,undef,undef,undef,undef,undef,undef,undef,undef,undef,undef,undef,undef,undef,undef,undef,undef,undef,undef,undef,undef,undef,undef,undef,undef,undef,undef,undef,undef,undef,undef,undef,undef,undef,undef,undef,undef,undef,undef,undef,undef,undef,undef,undef],[]⟩ [.code (body_add L)]) (b₀.at a₀ (.inRegion ops₀ (i₀::rest₀)::k₀)::cs)) w:=by
 have e:(#[.pointer (some ⟨Wg,0,none⟩),.int .i64 (-1),undef,undef,undef,undef,undef,undef,undef,undef,undef,undef,undef,undef,undef,undef,undef,undef,undef,undef,undef,undef,undef,undef,undef,undef,undef,undef,undef,undef,undef,undef,undef,undef,undef,undef,undef,undef,undef,undef,undef,undef,undef,undef,undef,undef,undef,undef,undef,undef,undef,undef,undef,undef,undef,undef,undef,undef,undef,undef,undef,undef,undef,undef,undef,undef,undef,undef,undef,undef,undef,undef,undef,undef,undef,undef,undef,undef,undef,undef,undef,undef,undef,undef,undef,undef,undef,undef,undef,undef,undef,undef,undef,undef,undef,undef,undef,undef,undef,undef,undef,undef,undef,undef,undef,undef,undef,undef,undef,undef,undef,undef,undef,undef,undef,undef,undef]:Array Value)=#[.pointer (some ⟨Wg,0,none⟩),.int .i64 (-1)]++Array.replicate 115 undef:=by kernel_rfl
 rw [e]
 exact add_goes H hT w hK
set_option maxHeartbeats 8000000 in
set_option maxRecDepth 100000 in
theorem done_goes [Go.ConcR.Payload] {P:Program} {L:WgLink} (H:WgLib P L) {Wg:Nat} {c:Frame} {cs:List Frame} {qt:Nat} (hcm:c.mode=.returning) (hT:QuitsD P qt 0 (G c cs)) (w:World) (hK:WgLive L.tWg Wg w) :
  Zg P L.tWg Wg (ZR P L.tWg Wg) 23 (G ((baseD L.done).at ⟨#[.pointer (some ⟨Wg,0,none⟩),undef,undef,undef],[]⟩ [.code (body_done L)]) (c::cs)) w:=by
 lib_facts
 have hA:=@add_goes2 _ P L H Wg
 unfold Zg at hA ⊢
 have key:∀ {w w₁:World},WgLive L.tWg Wg w→RL L.tWg Wg w w₁→WgLive L.tWg Wg w₁:=fun h r=>r h
 simp only [body_done,body_add,doneFn,addFn,Option.getD_some] at hA ⊢
 u_reg key hK
 u_op key hK
 u_in key hK
 refine goes_call rfl rfl (by k_ne) rfl H.f_add (nm_add L) rfl ⟨by u_nil,?_⟩
 walk_nrmf addFn
 refine hA (qt:=qt+3) ?_ _ hK
 q_c stepG_region_end
 q_c stepG_end
 exact QuitsD.leaveD rfl rfl H.f_done rfl hcm hT
theorem done_enter {P:Program} {L:WgLink} (H:WgLib P L) {v:Value}:Frame.enter P L.done #[v] .deferred=(baseD L.done).at ⟨#[v,undef,undef,undef],[]⟩ [.code (body_done L)]:=by
 simp [Frame.enter,H.f_done,body_done,doneFn]
 rfl
end Go.PB
