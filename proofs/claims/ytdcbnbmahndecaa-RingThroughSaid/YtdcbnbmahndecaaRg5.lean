/-
  Part 5 of 8.
-/
import Derived.Test.YtdcbnbmahndecaaRg4
import Derived.Test.YtdcbnbmahndecaaRg2
import Derived.Test.YtdcbnbmahndecaaRg3
set_option linter.unusedVariables false
set_option linter.unusedSimpArgs false
namespace Go.Proofs.Ytdcbnbmahndecaa
open Go Go.PB
attribute [local irreducible] Mo Bin Eql Tr Wo Ap Wle
attribute [local instance] Pass.of_no
section
structure Thr (g:Game) where
 fv:Value
 ini:g.σ→g.σ × g.θ
 M:HProp
section
variable {g:Game}
def startF:List (Thr g)→g.σ→g.σ × List g.θ
 | [],s=>(s,[])
 | t::ts,s=>((startF ts (t.ini s).1).1,(t.ini s).2::(startF ts (t.ini s).1).2)
theorem startF_snoc {t:Thr g}:∀ (l:List (Thr g)) (s:g.σ),startF (l++[t]) s=((t.ini (startF l s).1).1,(startF l s).2++[(t.ini (startF l s).1).2])
 | [],s=>rfl
 | a::l,s=>by simp only [List.cons_append,startF,startF_snoc l]
theorem startF_len:∀ (l:List (Thr g)) (s:g.σ),(startF l s).2.length=l.length
 | [],s=>rfl
 | a::l,s=>by simp [startF,startF_len l]
def ordF (p:PS g) (order:List Int):PS g:=order.foldl (fun p k=>(takeF p k).1) p
def roundF (p:PS g):Nat→PS g × Bool
 | 0=>(p,false)
 | k+1=>((takeF (roundF p k).1 k).1,(takeF (roundF p k).1 k).2||(roundF p k).2)
def restF:Nat→PS g→PS g
 | 0,p=>p
 | n+1,p=>if (roundF p p.qs.length).2=true then restF n (roundF p p.qs.length).1 else (roundF p p.qs.length).1
def playF (ts:List (Thr g)) (s:g.σ) (order:List Int):PS g:=restF 16385 (ordF ⟨(startF ts s).1,(startF ts s).2,[]⟩ order)
def cutC (l:List Nat):List Value:=l.map fun k=>.int .i64 (k:Nat)
theorem roundF_len (p:PS g):∀ n,(roundF p n).1.qs.length=p.qs.length
 | 0=>rfl
 | n+1=>by show (takeF _ _).1.qs.length=_;rw [takeF_len,roundF_len p n]
theorem roundF_le {p:PS g} (h:p.tr.length≤16384):∀ n,(roundF p n).1.tr.length≤16384
 | 0=>h
 | n+1=>takeF_le (roundF_le h n) _
theorem takeF_cases (p:PS g) (k:Int):takeF p k=(p,false)∨∃ (n:Nat) (q:g.θ) (m:Int × Int) (f:g.σ→g.σ × g.θ),k=n∧p.qs[n]?=some q∧g.plan q=some (m,f)∧p.tr.length≠16384∧takeF p k=(⟨(f p.s).1,p.qs.set n (f p.s).2,p.tr++[(n,m)]⟩,true):=by
 by_cases h0:k<0
 ·left;unfold takeF;rw [if_pos h0]
 obtain ⟨n,rfl⟩:∃ n:Nat,k=n:=⟨k.toNat,by omega⟩
 cases hq:p.qs[n]? with
 | none=>left;unfold takeF;rw [if_neg h0,Int.toNat_natCast,hq]
 | some q =>
  cases hpl:g.plan q with
  | none=>left;unfold takeF;rw [if_neg h0,Int.toNat_natCast,hq];simp only [hpl]
  | some mf =>
   obtain ⟨m,f⟩:=mf
   by_cases htr:p.tr.length=16384
   ·left;unfold takeF;rw [if_neg h0,Int.toNat_natCast,hq];simp only [hpl,if_pos htr]
   ·right;refine ⟨n,q,m,f,rfl,hq,hpl,htr,?_⟩
    unfold takeF;rw [if_neg h0,Int.toNat_natCast,hq];simp only [hpl,if_neg htr]
theorem takeF_grow (p:PS g) (k:Int):p.tr.length+(if (takeF p k).2=true then 1 else 0)≤(takeF p k).1.tr.length:=by
 rcases takeF_cases p k with h | ⟨n,q,m,f,_,_,_,_,h⟩ <;> rw [h] <;> simp
theorem roundF_grow (p:PS g):∀ n,p.tr.length+(if (roundF p n).2=true then 1 else 0)≤(roundF p n).1.tr.length
 | 0=>by simp [roundF]
 | n+1=>by
  have h1:=roundF_grow p n
  have h2:=takeF_grow (roundF p n).1 n
  show p.tr.length+(if ((takeF (roundF p n).1 n).2||(roundF p n).2)=true then 1 else 0)≤(takeF (roundF p n).1 n).1.tr.length
  cases h3:(takeF (roundF p n).1 n).2 <;> cases h4:(roundF p n).2 <;> simp [h3,h4] at h1 h2 ⊢ <;> omega
theorem ordF_len (order:List Int):∀ p:PS g,(ordF p order).qs.length=p.qs.length:=by
 induction order with
 | nil=>intro p;rfl
 | cons k l ih=>intro p;show (ordF (takeF p k).1 l).qs.length=_;rw [ih,takeF_len]
theorem ordF_le (order:List Int):∀ p:PS g,p.tr.length≤16384→(ordF p order).tr.length≤16384:=by
 induction order with
 | nil=>intro p h;exact h
 | cons k l ih=>intro p h;exact ih _ (takeF_le h k)
theorem ordF_snoc (p:PS g) (l:List Int) (k:Int):ordF p (l++[k])=(takeF (ordF p l) k).1:=by simp [ordF]
def cutN (g:Game) (qs:List g.θ) (j:Nat):List Nat:=(List.range j).filter fun k=>((qs[k]?).bind g.plan).isSome
theorem cutN_succ {qs:List g.θ} {j:Nat}:cutN g qs (j+1)=cutN g qs j++(if ((qs[j]?).bind g.plan).isSome=true then [j] else []):=by
 unfold cutN
 rw [List.range_succ,List.filter_append]
 congr 1
 simp only [List.filter_cons,List.filter_nil]
def shutS (ids:List SId) (qs:List g.θ) (j:Nat):List (Seat g.σ g.θ):=(List.zip ids qs).mapIdx fun k iq=>if k<j then ⟨iq.1.says,iq.1.turn,iq.1.fin,.shut iq.2⟩ else seatS iq.1 iq.2
theorem shutS_zero {ids:List SId} {qs:List g.θ}:shutS ids qs 0=seatSs ids qs:=by
 apply List.ext_getElem?
 intro k
 simp only [shutS,List.getElem?_mapIdx,seatSs,List.getElem?_zipWith,List.getElem?_zip_eq_some,List.zip,Nat.not_lt_zero,if_false]
 cases ids[k]? <;> cases qs[k]? <;> rfl
theorem shutS_len {ids:List SId} {qs:List g.θ} {j:Nat} (h:ids.length=qs.length):(shutS ids qs j).length=ids.length:=by simp [shutS];omega
theorem shutS_get {ids:List SId} {qs:List g.θ} {j k:Nat} {i:SId} {q:g.θ} (hi:ids[k]?=some i) (hq:qs[k]?=some q):(shutS ids qs j)[k]?=some (if k<j then ⟨i.says,i.turn,i.fin,.shut q⟩ else seatS i q):=by
 simp [shutS,List.getElem?_mapIdx,List.zip,List.getElem?_zipWith,hi,hq]
theorem shutS_succ {ids:List SId} {qs:List g.θ} {j:Nat} {i:SId} {q:g.θ} (hi:ids[j]?=some i) (hq:qs[j]?=some q):(shutS ids qs j).set j ⟨i.says,i.turn,i.fin,.shut q⟩=shutS ids qs (j+1):=by
 apply List.ext_getElem?
 intro k
 have hj:j<(shutS ids qs j).length:=(List.getElem?_eq_some_iff.1 (shutS_get (j:=j) hi hq)).1
 rw [List.getElem?_set]
 by_cases e:j=k
 ·subst e
  rw [if_pos rfl,if_pos hj,shutS_get hi hq,if_pos (by omega)]
 ·rw [if_neg e]
  simp only [shutS,List.getElem?_mapIdx]
  cases (ids.zip qs)[k]? with
  | none=>rfl
  | some iq =>
   simp only [Option.map_some,Option.some.injEq]
   by_cases h:k<j
   ·rw [if_pos h,if_pos (by omega)]
   ·rw [if_neg h,if_neg (by omega)]
theorem shutS_all {ids:List SId} {qs:List g.θ} (h:ids.length=qs.length):(shutS ids qs ids.length).map Seat.fins=qs.map g.Fin:=by
 apply List.ext_getElem?
 intro k
 by_cases hk:k<ids.length
 ·have hi:=List.getElem?_eq_getElem hk
  have hq:=List.getElem?_eq_getElem (show k<qs.length by omega)
  rw [List.getElem?_map,shutS_get hi hq,if_pos hk,List.getElem?_map,hq]
  rfl
 ·rw [List.getElem?_eq_none (by simp [shutS_len h];omega),List.getElem?_eq_none (by simp;omega)]
theorem shutS_closed {ids:List SId} {qs:List g.θ} (h:ids.length=qs.length):∀ s∈shutS ids qs ids.length,s.closed:=by
 intro s hs
 obtain ⟨k,hk⟩:=List.mem_iff_getElem?.1 hs
 have hlt:=(List.getElem?_eq_some_iff.1 hk).1
 rw [shutS_len h] at hlt
 rw [shutS_get (List.getElem?_eq_getElem hlt) (List.getElem?_eq_getElem (show k<qs.length by omega)),if_pos hlt] at hk
 cases hk
 trivial
end
section
variable {g:Game} {ts:List (Thr g)} {s0:g.σ} {F:List HProp} {wg pb rb:Nat} {ov tv:Value}
theorem star_head {c:HProp} {M L:List HProp} {h:Hp} (s:Star (all (c::M)::L) h):Star (c::all M::L) h :=
 star_map (star_open s) (fun _ a=>a) (fun _ st=>star_shut (M:=M) st)
def startInvP (ts:List (Thr g)) (s0:g.σ) (wg pb rb:Nat) (ov tv:Value) (F:List HProp):PB.Inv (Nat × g.σ × List g.θ × List SId × Value) MX where
 e:=fun i=>[(0,ov),(1,tv),(4,.pointer (some ⟨rb,0,none⟩)),(7,.pointer (some ⟨wg,0,none⟩)),(8,.pointer (some ⟨pb,0,none⟩)),(28,tv),(29,.int .i64 (ts.length:Nat)),(30,.int .i64 (i.1:Nat))]
 L:=fun i=>g.U i.2.1::arr pb 0 [i.2.2.2.2,.slice none 0 0,.slice none 0 0]::vec 1 i.2.2.2.2 (ptrs i.2.2.2.1)::all (seatCs g i.2.2.2.1 i.2.2.1)::all ((ts.drop i.1).map Thr.M)::arr rb 0 [.slice none 0 0,.slice none 0 0]::F
 x:=fun i=>gx g wg (seatSs i.2.2.2.1 i.2.2.1) (some i.2.1) 16384 (seatSs i.2.2.2.1 i.2.2.1).length
 ok:=fun i=>i.1≤ts.length∧i.2.2.2.1.length=i.1∧startF (ts.take i.1) s0=(i.2.1,i.2.2.1)
def seatMid (wg pb rb j n:Nat) (ov tv fv:Value) (x:MX) (L:List HProp):PB.Inv (Nat × Nat × Nat × Nat) MX where
 e:=fun i=>[(0,ov),(1,tv),(4,.pointer (some ⟨rb,0,none⟩)),(7,.pointer (some ⟨wg,0,none⟩)),(8,.pointer (some ⟨pb,0,none⟩)),(28,tv),(29,.int .i64 (n:Nat)),(30,.int .i64 (j:Nat)),(10,fv),(11,.pointer (some ⟨i.1,0,none⟩))]
 L:=fun i=>arr i.1 0 [.chan (some i.2.2.1),.chan (some i.2.2.2),.chan (some i.2.1),.int .u8 0,.int .i64 0,.bool false]::ob i.2.1 newChan::ob i.2.2.1 newChan::ob i.2.2.2 newChan::L
 x:=fun _=>x
 ok:=fun _=>True
def ordInv (p0:PS g) (order:List Int) (ids:List SId) (wg pb rb:Nat) (ov:Value) (ss:Value) (F:List HProp):PB.Inv (Nat × Value) MX where
 e:=fun i=>[(4,.pointer (some ⟨rb,0,none⟩)),(7,.pointer (some ⟨wg,0,none⟩)),(8,.pointer (some ⟨pb,0,none⟩)),(49,ov),(50,.int .i64 (order.length:Nat)),(51,.int .i64 (i.1:Nat))]
 L:=fun i=>playL g pb ss i.2 (.slice none 0 0) ids (ordF p0 (order.take i.1)) F
 x:=fun i=>playX g wg ids (ordF p0 (order.take i.1))
 ok:=fun i=>i.1≤order.length
def restInv (I:PS g→Prop) (p0:PS g) (ids:List SId) (wg pb rb:Nat) (ss:Value) (F:List HProp):PB.Inv (Nat × PS g × Value × Bool) MX where
 e:=fun i=>[(4,.pointer (some ⟨rb,0,none⟩)),(7,.pointer (some ⟨wg,0,none⟩)),(8,.pointer (some ⟨pb,0,none⟩)),(14,.bool i.2.2.2)]
 L:=fun i=>playL g pb ss i.2.2.1 (.slice none 0 0) ids i.2.1 F
 x:=fun i=>playX g wg ids i.2.1
 ok:=fun i=>I i.2.1∧i.2.1.qs.length=p0.qs.length∧i.2.1.tr.length≤16384∧(if i.2.2.2=true then restF i.1 i.2.1=restF 16385 p0∧16384<i.2.1.tr.length+i.1 else i.2.1=restF 16385 p0)
def rndInvP (p:PS g) (ids:List SId) (wg pb rb:Nat) (ss:Value) (F:List HProp):PB.Inv (Nat × Value) MX where
 e:=fun i=>[(4,.pointer (some ⟨rb,0,none⟩)),(7,.pointer (some ⟨wg,0,none⟩)),(8,.pointer (some ⟨pb,0,none⟩)),(14,.bool (roundF p i.1).2),(61,.int .i64 (ids.length:Nat)),(62,.int .i64 (i.1:Nat))]
 L:=fun i=>playL g pb ss i.2 (.slice none 0 0) ids (roundF p i.1).1 F
 x:=fun i=>playX g wg ids (roundF p i.1).1
 ok:=fun i=>i.1≤ids.length
def cutInv (p:PS g) (ids:List SId) (wg pb rb:Nat) (ss tsv:Value) (F:List HProp):PB.Inv (Nat × Value) MX where
 e:=fun i=>[(4,.pointer (some ⟨rb,0,none⟩)),(7,.pointer (some ⟨wg,0,none⟩)),(8,.pointer (some ⟨pb,0,none⟩)),(72,ss),(73,.int .i64 (ids.length:Nat)),(74,.int .i64 (i.1:Nat))]
 L:=fun i=>vec 1 i.2 (cutC (cutN g p.qs i.1))::arr pb 0 [ss,tsv,i.2]::vec 1 ss (ptrs ids)::vec 3 tsv (trCP p.tr)::all (seatCs g ids p.qs)::g.U p.s::F
 x:=fun i=>gx g wg (shutS ids p.qs i.1) (some p.s) (16384-p.tr.length) ids.length
 ok:=fun i=>i.1≤ids.length
set_option maxHeartbeats 4000000 in
theorem plays_tr {oa ta:Option Addr} {on oc tn tc:Nat} {order:List Int} (I:PS g→Prop) (hS:∀ j,j<ts.length→g.ok (startF (ts.take j) s0).1) (hI0:I ⟨(startF ts s0).1,(startF ts s0).2,[]⟩) (hIs:∀ p k,I p→I (takeF p k).1) (hIo:∀ p,I p→p.tr.length<16384→g.ok p.s) (hfin:∀ q h,g.Pv q h→g.Fin q h) (hts:∀ t∈ts,ThrOk g t.ini t.fv t.M) (h1:0<ts.length) (h16:ts.length≤16) (hor:order.length≤16384)
  (hrt:RdsO F ta tn (ts.map Thr.fv)) (hro:RdsO F oa on (order.map fun k=>.int .i64 k)) :
  Tr Try.prog mT 28 [.slice oa on oc,.slice ta tn tc] (g.U s0::all (ts.map Thr.M)::F) .idle fun v L' x' =>
   ∃ tv cv,v=.tuple #[.agg #[tv,cv],.int .i64 0]∧x'=.idle∧L'=vec 3 tv (trCP (playF ts s0 order).tr)::vec 1 cv (cutC (cutN g (playF ts s0 order).qs ts.length))::g.U (playF ts s0 order).s::all ((playF ts s0 order).qs.map g.Fin)::F:=by
 refine Tr.post (R:=fun v L' x'=>∃ tv cv,v=.tuple #[.agg #[tv,cv],.int .i64 0]∧x'=MX.idle∧∀ h,Star L' h→Star (vec 3 tv (trCP (playF ts s0 order).tr)::vec 1 cv (cutC (cutN g (playF ts s0 order).qs ts.length))::g.U (playF ts s0 order).s::all ((playF ts s0 order).qs.map g.Fin)::F) h) ?_
  (by rintro v L' x' ⟨tv,cv,rfl,rfl,h2⟩;exact ⟨_,⟨tv,cv,rfl,rfl,rfl⟩,h2⟩)
 have hfn:∀ v∈ts.map Thr.fv,isFn v:=by
  intro v hv
  obtain ⟨t,ht,rfl⟩:=List.mem_map.1 hv
  obtain ⟨f,first,cap,hc,_⟩:=(hts t ht).run
  revert hc
  cases t.fv with
  | func a b c=>exact fun _=>⟨a,b,c,rfl⟩
  | _=>intro hc;cases hc
 have hIord:∀ (l:List Int) (p:PS g),I p→I (ordF p l):=by
  intro l
  induction l with
  | nil=>exact fun p h=>h
  | cons k l ih=>exact fun p h=>ih _ (hIs p k h)
 have hIrnd:∀ (p:PS g) k,I p→I (roundF p k).1:=by
  intro p k h
  induction k with
  | zero=>exact h
  | succ k ih=>exact hIs _ _ ih
 have htn:tn=ts.length:=by have:=hrt.1;simpa using this
 have hon:on=order.length:=by have:=hro.1;simpa using this
 subst htn
 subst hon
 refine tr_of_body Try.func28 rfl Try.ntmps28 (by simp) fun um Q _ hQ=>?_
 simp only [argE,Nat.zero_add,Nat.reduceAdd]
 repeat (first | (apply wo_mo;apply mo_alloc;exact trivial) | refine we_seq ?_ | (refine wR ?_;try simp only [oS]))
 rintro v' L' ⟨rb,rfl,rfl⟩
 repeat (first | refine we_seq ?_ | (refine wR ?_;try simp only [oS]) | refine wo_nil ?_ | refine wM ?_ | refine wA ?_)
 refine wo_call (.cons rfl .nil) trivial (wrong_tr (fun v hv=>.inr (hfn v hv)) hrt.there.there.there (by omega)) ?_
 rintro v' L' x' ⟨⟨k,rfl,hk⟩,rfl,rfl⟩
 obtain rfl:k=0:=by
  rcases hk with ⟨_,h⟩ | ⟨_,h⟩
  ·obtain ⟨_,_,_,h⟩:=hfn _ h;cases h
  ·rw [h,List.length_map,if_neg (by omega),if_neg (by omega)]
 repeat (first | (apply wo_mo;apply mo_allocS;exact trivial) | refine wgtrF ?_ | refine wneqF ?_ | refine we_seq ?_ | (refine wR ?_;try simp only [oS]) | refine wo_nil ?_ | refine wM ?_ | refine wA ?_ | refine wE ?_ | refine wF ?_ | refine we_skip ?_)
 rintro v' L' ⟨wg,rfl,rfl⟩
 repeat (first | refine we_seq ?_ | (refine wR ?_;try simp only [oS]) | refine wo_nil ?_)
 refine wo_begin g s0 (wg:=wg) (R:=arr rb 0 [.slice none 0 0,.slice none 0 0]::g.U s0::all (ts.map Thr.M)::F) (fun h st=>st) ?_
 repeat (first | (apply wo_mo;apply mo_alloc;exact trivial))
 rintro v' L' ⟨pb,rfl,rfl⟩
 repeat (first | refine we_seq ?_ | (refine wR ?_;try simp only [oS]) | refine wo_nil ?_ | refine wM ?_ | refine wE ?_ | refine we_block ?_)
 refine we_star (vec 1 (.slice none 0 0) (ptrs [])::all (seatCs g [] [])::arr pb 0 [.slice none 0 0,.slice none 0 0,.slice none 0 0]::shpC wg 122 2::arr rb 0 [.slice none 0 0,.slice none 0 0]::g.U s0::all (ts.map Thr.M)::F) (fun h st=>vec_nil (star_shut (M:=[]) st)) ?_
 refine we_loopN (startInvP ts s0 wg pb rb (.slice oa order.length oc) (.slice ta ts.length tc) (shpC wg 122 2::F)) (fun i=>ts.length-i.1) (0,s0,[],[],.slice none 0 0) ⟨by omega,rfl,rfl⟩ ⟨rfl,rfl,rfl,rfl,rfl,rfl,rfl,rfl,trivial⟩ (.take (.there (.there (.there (.there (.there .here))))) (.take (.there (.there .here)) (.take .here (.take .here (.take (.there (.there .here)) (.take (.there .here) (.take .here .refl))))))) rfl ?_
 rintro ⟨j,s,qs,ids,ss⟩ ⟨hj,hids,hst⟩
 simp only at hj hids hst
 have hqs:qs.length=j:=by have:=startF_len (ts.take j) s0;rw [hst] at this;simpa [Nat.min_eq_left hj] using this
 have hsl:(seatSs ids qs).length=ids.length:=by simp [seatSs];omega
 simp only [startInvP]
 by_cases hlt:j<ts.length
 ·obtain ⟨tb,to,rfl,hrd⟩:=hrt.rds (by omega)
  have ht:ts[j]?=some ts[j]:=List.getElem?_eq_getElem hlt
  have hrj:=hrd j (ts[j].fv) (by simp [ht])
  have hTO:=hts _ (List.getElem_mem hlt)
  have hdrop:ts.drop j=ts[j]::ts.drop (j+1):=List.drop_eq_getElem_cons hlt
  rw [hdrop]
  refine we_star (g.U s::arr pb 0 [ss,.slice none 0 0,.slice none 0 0]::vec 1 ss (ptrs ids)::all (seatCs g ids qs)::ts[j].M::all ((ts.drop (j+1)).map Thr.M)::arr rb 0 [.slice none 0 0,.slice none 0 0]::shpC wg 122 2::F) (fun h st=>Ent.star (.take (.there (.there .here)) (.take (.there (.there .here)) (.take (.there (.there .here)) (.take (.there (.there .here)) (.take .here (.take .here .refl)))))) (star_head (((.there (.there (.there (.there .here)))):Has _ (all ((ts[j]::ts.drop (j+1)).map Thr.M)) _).star st))) ?_
  repeat (first | (apply wo_po;apply mo_index1;exact rfl;exact rfl;omega;exact gY) | (apply wo_po;apply mo_load;exact rfl;exact .there (.there (.there (.there (.there (.there (.there (.there hrj)))))));exact trivial) | refine wlssT ?_ | refine we_seq ?_ | (refine wR ?_;try simp only [oS]) | refine wo_nil ?_ | refine wA ?_ | refine wT ?_ | refine we_skip ?_ | refine we_block ?_)
  let MI:=seatMid wg pb rb j ts.length (.slice oa order.length oc) (.slice (some ⟨tb,to,none⟩) ts.length tc) ts[j].fv (gx g wg (seatSs ids qs) (some s) 16384 (seatSs ids qs).length) (g.U s::arr pb 0 [ss,.slice none 0 0,.slice none 0 0]::vec 1 ss (ptrs ids)::all (seatCs g ids qs)::ts[j].M::all ((ts.drop (j+1)).map Thr.M)::arr rb 0 [.slice none 0 0,.slice none 0 0]::shpC wg 122 2::F)
  refine we_join MI ?_ ?_
  ·refine we_draw (List.range' 0 6) (by kernel_rfl) ?_
   refine ap_fork3 (f:=1) (g:=2) (ordf:=[1,0,2,3,4,5]) (ordg:=[2,0,1,3,4,5]) (Rf:=[2,3,4,5]) (Rg:=[1,3,4,5]) (by kernel_rfl) (by kernel_rfl) (by kernel_rfl) (by kernel_rfl) (by kernel_rfl) (by kernel_rfl) (by kernel_rfl) (by kernel_rfl) (by kernel_rfl) ?_ ?_ ?_
   ·refine ap1_mo (Pd':=[]) rfl rfl rfl trivial (mo_makeChan (m:=0) (k:=.i64) rfl (by omega) (by omega)) (fun v L' _ p hp=>by cases hp) ?_
    rintro v' L' ⟨ct,rfl,rfl⟩
    refine ap_fork2 (f:=2) (ordf:=[0,2,1,3,4,5]) (Rf:=[3,4,5]) (by kernel_rfl) (by kernel_rfl) (by kernel_rfl) (by kernel_rfl) (by kernel_rfl) ?_ ?_
    ·refine ap1_mo (Pd':=[]) rfl rfl rfl trivial (mo_makeChan (m:=0) (k:=.i64) rfl (by omega) (by omega)) (fun v L' _ p hp=>by cases hp) ?_
     rintro v' L' ⟨ce,rfl,rfl⟩
     refine ap_loud rfl rfl rfl rfl rfl trivial (mo_makeChan (m:=0) (k:=.i64) rfl (by omega) (by omega)) ?_
     rintro v' L' ⟨cs,rfl,rfl⟩
     repeat (first | (apply ap_pure;exact rfl;exact rfl;exact trivial;intro L;apply mo_build (pv:=[(0,_),(1,_),(2,_)]);exact rfl;exact .cons rfl (.cons rfl (.cons rfl .nil));exact rfl))
     refine ap_loud rfl rfl rfl rfl rfl trivial (mo_box rfl) ?_
     rintro v' L' ⟨sb,rfl,rfl⟩
     repeat (first | refine aA ?_ | refine ap_end ?_)
     refine at_mid (B:=mT) (I:=MI) (sb,cs,ct,ce) trivial ?_ ?_ rfl
     exact ⟨rfl,rfl,rfl,rfl,rfl,rfl,rfl,rfl,rfl,rfl,trivial⟩
     repeat (first | exact Ent.refl | (apply Ent.take;(repeat (first | exact Has.here | apply Has.there))) | apply Ent.drop)
    ·refine ap1_mo (Pd':=[]) rfl rfl rfl trivial (mo_makeChan (m:=0) (k:=.i64) rfl (by omega) (by omega)) (fun v L' _ p hp=>by cases hp) ?_
     rintro v' L' ⟨cs,rfl,rfl⟩
     refine ap_loud rfl rfl rfl rfl rfl trivial (mo_makeChan (m:=0) (k:=.i64) rfl (by omega) (by omega)) ?_
     rintro v' L' ⟨ce,rfl,rfl⟩
     repeat (first | (apply ap_pure;exact rfl;exact rfl;exact trivial;intro L;apply mo_build (pv:=[(0,_),(1,_),(2,_)]);exact rfl;exact .cons rfl (.cons rfl (.cons rfl .nil));exact rfl))
     refine ap_loud rfl rfl rfl rfl rfl trivial (mo_box rfl) ?_
     rintro v' L' ⟨sb,rfl,rfl⟩
     repeat (first | refine aA ?_ | refine ap_end ?_)
     refine at_mid (B:=mT) (I:=MI) (sb,cs,ct,ce) trivial ?_ ?_ rfl
     exact ⟨rfl,rfl,rfl,rfl,rfl,rfl,rfl,rfl,rfl,rfl,trivial⟩
     repeat (first | exact Ent.refl | (apply Ent.take;(repeat (first | exact Has.here | apply Has.there))) | apply Ent.drop)
   ·refine ap1_mo (Pd':=[]) rfl rfl rfl trivial (mo_makeChan (m:=0) (k:=.i64) rfl (by omega) (by omega)) (fun v L' _ p hp=>by cases hp) ?_
    rintro v' L' ⟨ce,rfl,rfl⟩
    refine ap_fork2 (f:=2) (ordf:=[1,2,0,3,4,5]) (Rf:=[3,4,5]) (by kernel_rfl) (by kernel_rfl) (by kernel_rfl) (by kernel_rfl) (by kernel_rfl) ?_ ?_
    ·refine ap1_mo (Pd':=[]) rfl rfl rfl trivial (mo_makeChan (m:=0) (k:=.i64) rfl (by omega) (by omega)) (fun v L' _ p hp=>by cases hp) ?_
     rintro v' L' ⟨ct,rfl,rfl⟩
     refine ap_loud rfl rfl rfl rfl rfl trivial (mo_makeChan (m:=0) (k:=.i64) rfl (by omega) (by omega)) ?_
     rintro v' L' ⟨cs,rfl,rfl⟩
     repeat (first | (apply ap_pure;exact rfl;exact rfl;exact trivial;intro L;apply mo_build (pv:=[(0,_),(1,_),(2,_)]);exact rfl;exact .cons rfl (.cons rfl (.cons rfl .nil));exact rfl))
     refine ap_loud rfl rfl rfl rfl rfl trivial (mo_box rfl) ?_
     rintro v' L' ⟨sb,rfl,rfl⟩
     repeat (first | refine aA ?_ | refine ap_end ?_)
     refine at_mid (B:=mT) (I:=MI) (sb,cs,ct,ce) trivial ?_ ?_ rfl
     exact ⟨rfl,rfl,rfl,rfl,rfl,rfl,rfl,rfl,rfl,rfl,trivial⟩
     repeat (first | exact Ent.refl | (apply Ent.take;(repeat (first | exact Has.here | apply Has.there))) | apply Ent.drop)
    ·refine ap1_mo (Pd':=[]) rfl rfl rfl trivial (mo_makeChan (m:=0) (k:=.i64) rfl (by omega) (by omega)) (fun v L' _ p hp=>by cases hp) ?_
     rintro v' L' ⟨cs,rfl,rfl⟩
     refine ap_loud rfl rfl rfl rfl rfl trivial (mo_makeChan (m:=0) (k:=.i64) rfl (by omega) (by omega)) ?_
     rintro v' L' ⟨ct,rfl,rfl⟩
     repeat (first | (apply ap_pure;exact rfl;exact rfl;exact trivial;intro L;apply mo_build (pv:=[(0,_),(1,_),(2,_)]);exact rfl;exact .cons rfl (.cons rfl (.cons rfl .nil));exact rfl))
     refine ap_loud rfl rfl rfl rfl rfl trivial (mo_box rfl) ?_
     rintro v' L' ⟨sb,rfl,rfl⟩
     repeat (first | refine aA ?_ | refine ap_end ?_)
     refine at_mid (B:=mT) (I:=MI) (sb,cs,ct,ce) trivial ?_ ?_ rfl
     exact ⟨rfl,rfl,rfl,rfl,rfl,rfl,rfl,rfl,rfl,rfl,trivial⟩
     repeat (first | exact Ent.refl | (apply Ent.take;(repeat (first | exact Has.here | apply Has.there))) | apply Ent.drop)
   ·refine ap1_mo (Pd':=[]) rfl rfl rfl trivial (mo_makeChan (m:=0) (k:=.i64) rfl (by omega) (by omega)) (fun v L' _ p hp=>by cases hp) ?_
    rintro v' L' ⟨cs,rfl,rfl⟩
    refine ap_fork2 (f:=1) (ordf:=[2,1,0,3,4,5]) (Rf:=[3,4,5]) (by kernel_rfl) (by kernel_rfl) (by kernel_rfl) (by kernel_rfl) (by kernel_rfl) ?_ ?_
    ·refine ap1_mo (Pd':=[]) rfl rfl rfl trivial (mo_makeChan (m:=0) (k:=.i64) rfl (by omega) (by omega)) (fun v L' _ p hp=>by cases hp) ?_
     rintro v' L' ⟨ct,rfl,rfl⟩
     refine ap_loud rfl rfl rfl rfl rfl trivial (mo_makeChan (m:=0) (k:=.i64) rfl (by omega) (by omega)) ?_
     rintro v' L' ⟨ce,rfl,rfl⟩
     repeat (first | (apply ap_pure;exact rfl;exact rfl;exact trivial;intro L;apply mo_build (pv:=[(0,_),(1,_),(2,_)]);exact rfl;exact .cons rfl (.cons rfl (.cons rfl .nil));exact rfl))
     refine ap_loud rfl rfl rfl rfl rfl trivial (mo_box rfl) ?_
     rintro v' L' ⟨sb,rfl,rfl⟩
     repeat (first | refine aA ?_ | refine ap_end ?_)
     refine at_mid (B:=mT) (I:=MI) (sb,cs,ct,ce) trivial ?_ ?_ rfl
     exact ⟨rfl,rfl,rfl,rfl,rfl,rfl,rfl,rfl,rfl,rfl,trivial⟩
     repeat (first | exact Ent.refl | (apply Ent.take;(repeat (first | exact Has.here | apply Has.there))) | apply Ent.drop)
    ·refine ap1_mo (Pd':=[]) rfl rfl rfl trivial (mo_makeChan (m:=0) (k:=.i64) rfl (by omega) (by omega)) (fun v L' _ p hp=>by cases hp) ?_
     rintro v' L' ⟨ce,rfl,rfl⟩
     refine ap_loud rfl rfl rfl rfl rfl trivial (mo_makeChan (m:=0) (k:=.i64) rfl (by omega) (by omega)) ?_
     rintro v' L' ⟨ct,rfl,rfl⟩
     repeat (first | (apply ap_pure;exact rfl;exact rfl;exact trivial;intro L;apply mo_build (pv:=[(0,_),(1,_),(2,_)]);exact rfl;exact .cons rfl (.cons rfl (.cons rfl .nil));exact rfl))
     refine ap_loud rfl rfl rfl rfl rfl trivial (mo_box rfl) ?_
     rintro v' L' ⟨sb,rfl,rfl⟩
     repeat (first | refine aA ?_ | refine ap_end ?_)
     refine at_mid (B:=mT) (I:=MI) (sb,cs,ct,ce) trivial ?_ ?_ rfl
     exact ⟨rfl,rfl,rfl,rfl,rfl,rfl,rfl,rfl,rfl,rfl,trivial⟩
     repeat (first | exact Ent.refl | (apply Ent.take;(repeat (first | exact Has.here | apply Has.there))) | apply Ent.drop)
  ·rintro ⟨sb,cs,ct,ce⟩ _
   simp only [MI,seatMid]
   repeat (first | refine we_seq ?_ | (refine wR ?_;try simp only [oS]) | refine wM ?_)
   refine wo_call (.cons rfl (.cons rfl (.cons rfl .nil))) trivial (Tr.ent (L':=g.U s::ts[j].M::arr sb 0 [.chan (some ct),.chan (some ce),.chan (some cs),.int .u8 0,.int .i64 0,.bool false]::ob cs newChan::ob ct newChan::ob ce newChan::arr pb 0 [ss,.slice none 0 0,.slice none 0 0]::vec 1 ss (ptrs ids)::all (seatCs g ids qs)::all ((ts.drop (j+1)).map Thr.M)::arr rb 0 [.slice none 0 0,.slice none 0 0]::shpC wg 122 2::F) (.take (.there (.there (.there (.there .here)))) (.take (.there (.there (.there (.there (.there (.there (.there .here))))))) (.take .here (.take .here (.take .here (.take .here .refl)))))) (run_tr hTO (by have:=hS j hlt;rw [hst] at this;exact this) hfin (by rw [hsl];omega) (fun h st=>shp_of (.there (.there (.there (.there (.there .here))))) st))) ?_
   rintro v' L' x' ⟨rfl,rfl,rfl⟩
   refine wo_pure (of_has (.there (.there (.there (.there .here)))) (vec_shape (by omega))) ?_
   rintro ⟨sa,sn,sc,rfl,hsn,_⟩
   have hsn:sn=ids.length:=by simp [ptrs] at hsn;omega
   subst hsn
   repeat (first | (apply wo_mo;apply mo_buildSlice (sz:=1) (vs:=[.pointer (some ⟨sb,0,none⟩)]);exact rfl;exact .cons rfl .nil;exact rfl;(intro v hv;cases (List.mem_singleton.1 hv);exact rfl);omega;exact trivial) | (refine wR ?_;try simp only [oS]) | refine wo_nil ?_ | refine wM ?_ | refine wD ?_ | refine wL ?_)
   rintro v' L' ⟨nb,rfl,rfl⟩
   repeat (first | (apply wo_mo;apply mo_append (sz:=1) (new:=[.pointer (some ⟨sb,0,none⟩)]);exact rfl;exact rfl;exact rfl;exact rfl;exact (.there (.there (.there (.there (.there .here)))));exact rfl;exact .inr ⟨_,_,rfl,Rds.all .here⟩;(intro v hv;cases (List.mem_singleton.1 hv);exact rfl);(simp only [sliceLen];omega);exact trivial))
   rintro v' L' rfl
   refine wo_pure (of_has .here (vec_shape (by omega))) ?_
   rintro ⟨ua,un,uc,rfl,hun,_⟩
   repeat (first | refine wS ?_ | (refine wR ?_;try simp only [oS]) | refine wo_nil ?_ | refine wM ?_ | refine wD ?_ | refine wadd ?_)
   have hseats:seatCs g (ids++[⟨sb,cs,ct,ce⟩]) (qs++[(ts[j].ini s).2])=seatCs g ids qs++[seatC g ⟨sb,cs,ct,ce⟩ (ts[j].ini s).2]:=by
    unfold seatCs;rw [List.zipWith_append (by omega)];rfl
   have hseatS:seatSs (ids++[⟨sb,cs,ct,ce⟩]) (qs++[(ts[j].ini s).2])=seatSs ids qs++[seatS ⟨sb,cs,ct,ce⟩ (ts[j].ini s).2]:=by
    unfold seatSs;rw [List.zipWith_append (by omega)];rfl
   refine at_roundS (B:=mT) (I:=startInvP ts s0 wg pb rb (.slice oa order.length oc) (.slice (some ⟨tb,to,none⟩) ts.length tc) (shpC wg 122 2::F)) (R:=fun i'=>ts.length-i'.1<ts.length-j) (j+1,(ts[j].ini s).1,qs++[(ts[j].ini s).2],ids++[⟨sb,cs,ct,ce⟩],.slice ua un uc) (by show ts.length-(j+1)<ts.length-j;omega) ⟨by show j+1≤_;omega,by show (ids++[_]).length=j+1;simp;omega,?_⟩ ?_ (fun h st=>?_) ?_
   ·show startF (ts.take (j+1)) s0=_
    rw [List.take_succ_eq_append_getElem hlt,startF_snoc,hst]
   ·exact ⟨rfl,rfl,rfl,rfl,rfl,rfl,rfl,rfl,trivial⟩
   ·have s1:Star (seatR sb cs ct ce::arr sb 3 (lastC ((g.plan (ts[j].ini s).2).map (·.1)))::all (seatCs g ids qs)::g.U (ts[j].ini s).1::arr pb 0 [.slice ua un uc,.slice none 0 0,.slice none 0 0]::vec 1 (.slice ua un uc) (ptrs ids++[.pointer (some ⟨sb,0,none⟩)])::all ((ts.drop (j+1)).map Thr.M)::arr rb 0 [.slice none 0 0,.slice none 0 0]::shpC wg 122 2::F) h:=Ent.star (.take (.there (.there (.there .here))) (.take (.there (.there (.there .here))) (.take (.there (.there (.there (.there .here)))) (.take (.there (.there .here)) (.take (.there (.there .here)) (.take .here (.drop .refl))))))) st
    have s2:=star_push (c:=seatC g ⟨sb,cs,ct,ce⟩ (ts[j].ini s).2) (star_shut (M:=[_,_]) s1)
    rw [← hseats] at s2
    have e3:ptrs ids++[.pointer (some ⟨sb,0,none⟩)]=ptrs (ids++[⟨sb,cs,ct,ce⟩]):=by simp [ptrs]
    rw [e3] at s2
    exact Ent.star (.take (.there .here) (.take (.there .here) (.take (.there .here) (.take .here .refl)))) s2
   ·show gx g wg (seatSs (ids++[_]) (qs++[_])) _ _ _=_
    rw [hseatS]
    simp only [List.length_append,List.length_singleton]
    rfl
 ·obtain rfl:j=ts.length:=by omega
  rw [List.take_length] at hst
  rw [hsl]
  repeat (first | refine wlssF ?_ | refine we_seq ?_ | (refine wR ?_;try simp only [oS]) | refine wo_nil ?_ | refine wM ?_ | refine wE ?_ | refine wF ?_ | refine we_block ?_ | refine we_exit ?_)
  refine we_star (playL g pb ss (.slice none 0 0) (.slice none 0 0) ids (⟨s,qs,[]⟩:PS g) (arr rb 0 [.slice none 0 0,.slice none 0 0]::shpC wg 122 2::F)) (fun h st=>Ent.star (M:=playL g pb ss (.slice none 0 0) (.slice none 0 0) ids (⟨s,qs,[]⟩:PS g) (arr rb 0 [.slice none 0 0,.slice none 0 0]::shpC wg 122 2::F)) (.take (.there .here) (.take (.there .here) (.take (.there .here) (.take .here (.take .here (.drop .refl)))))) (vec_nil (sz:=3) st)) ?_
  refine we_loopN (ordInv (⟨s,qs,[]⟩:PS g) order ids wg pb rb (.slice oa order.length oc) ss (arr rb 0 [.slice none 0 0,.slice none 0 0]::shpC wg 122 2::F)) (fun i=>order.length-i.1) (0,.slice none 0 0) (Nat.zero_le _) ⟨rfl,rfl,rfl,rfl,rfl,rfl,trivial⟩ .refl rfl ?_
  have hI1:I (⟨s,qs,[]⟩:PS g):=by rw [hst] at hI0;exact hI0
  rintro ⟨i,tsv⟩ hi
  replace hi:i≤order.length:=hi
  have hpl:ids.length=(ordF (⟨s,qs,[]⟩:PS g) (order.take i)).qs.length:=by rw [ordF_len];show ids.length=qs.length;omega
  have hple:=ordF_le (order.take i) (⟨s,qs,[]⟩:PS g) (Nat.zero_le _)
  simp only [ordInv]
  by_cases hlt2:i<order.length
  ·obtain ⟨ob,oo,rfl,hrd⟩:=hro.rds (by omega)
   have hri:=hrd i (.int .i64 order[i]) (by rw [List.getElem?_map,List.getElem?_eq_getElem hlt2];rfl)
   repeat (first | (apply wo_po;apply mo_index1;exact rfl;exact rfl;omega;exact gY) | (apply wo_po;apply mo_load;exact rfl;exact .there (.there (.there (.there (.there (.there (.there hri))))));exact trivial) | refine wlssT ?_ | refine we_seq ?_ | (refine wR ?_;try simp only [oS]) | refine wo_nil ?_ | refine wM ?_ | refine wA ?_ | refine wT ?_ | refine we_skip ?_ | refine we_block ?_)
   refine wo_call (.cons rfl (.cons rfl .nil)) trivial (takes_tr hpl hple (hIo _ (hIord _ _ hI1))) ?_
   rintro v' L' x' ⟨ts',rfl,rfl,rfl⟩
   repeat (first | (refine wR ?_;try simp only [oS]) | refine wo_nil ?_ | refine wM ?_ | refine wadd ?_)
   have htk:(takeF (ordF (⟨s,qs,[]⟩:PS g) (order.take i)) order[i]).1=ordF (⟨s,qs,[]⟩:PS g) (order.take (i+1)):=by
    rw [List.take_succ_eq_append_getElem hlt2,ordF_snoc]
   rw [htk]
   refine at_round (B:=mT) (I:=ordInv (⟨s,qs,[]⟩:PS g) order ids wg pb rb (.slice (some ⟨ob,oo,none⟩) order.length oc) ss (arr rb 0 [.slice none 0 0,.slice none 0 0]::shpC wg 122 2::F)) (R:=fun i'=>order.length-i'.1<order.length-i) (i+1,ts') (by show order.length-(i+1)<order.length-i;omega) (show i+1≤order.length by omega) ?_ .refl rfl
   exact ⟨rfl,rfl,rfl,rfl,rfl,rfl,trivial⟩
  ·obtain rfl:i=order.length:=by omega
   rw [List.take_length] at hpl hple ⊢
   obtain ⟨p1,hp1⟩:∃ p1,ordF (⟨s,qs,[]⟩:PS g) order=p1:=⟨_,rfl⟩
   rw [hp1] at hpl hple ⊢
   repeat (first | refine wlssF ?_ | refine we_seq ?_ | (refine wR ?_;try simp only [oS]) | refine wo_nil ?_ | refine wA ?_ | refine wF ?_ | refine we_block ?_ | refine we_exit ?_)
   refine we_loopN (restInv I p1 ids wg pb rb ss (arr rb 0 [.slice none 0 0,.slice none 0 0]::shpC wg 122 2::F)) (fun i=>if i.2.2.2=true then i.1+1 else 0) (16385,p1,tsv,true) ⟨by rw [← hp1];exact hIord _ _ hI1,rfl,hple,by simp only [if_true];exact ⟨trivial,by omega⟩⟩ ⟨rfl,rfl,rfl,rfl,trivial⟩ .refl rfl ?_
   rintro ⟨n,p,tv2,more⟩ ⟨hIp,hq1,hq2,hq3⟩
   simp only at hIp hq1 hq2 hq3
   simp only [restInv]
   cases more with
   | true =>
    simp only [if_true] at hq3
    obtain ⟨n,rfl⟩:∃ m,n=m+1:=⟨n-1,by omega⟩
    have hpq:p.qs.length=ids.length:=by omega
    refine we_pure (of_has (.there (.there .here)) (vec_shape (by omega))) ?_
    rintro ⟨sa,sn,sc,rfl,hsn,_⟩
    have hsn:sn=ids.length:=by simp [ptrs] at hsn;omega
    subst hsn
    repeat (first | refine we_seq ?_ | (refine wR ?_;try simp only [oS]) | refine wo_nil ?_ | refine wM ?_ | refine wA ?_ | refine wD ?_ | refine wL ?_ | refine wE ?_ | refine wT ?_ | refine we_skip ?_ | refine we_block ?_)
    refine we_loopN (rndInvP p ids wg pb rb (.slice sa ids.length sc) (arr rb 0 [.slice none 0 0,.slice none 0 0]::shpC wg 122 2::F)) (fun i=>ids.length-i.1) (0,tv2) (Nat.zero_le _) ⟨rfl,rfl,rfl,rfl,rfl,rfl,trivial⟩ .refl rfl ?_
    rintro ⟨k,tv3⟩ hk
    replace hk:k≤ids.length:=hk
    simp only [rndInvP]
    by_cases hlt3:k<ids.length
    ·repeat (first | refine wlssT ?_ | refine we_seq ?_ | (refine wR ?_;try simp only [oS]) | refine wo_nil ?_ | refine wM ?_ | refine wA ?_ | refine wT ?_ | refine we_skip ?_ | refine we_block ?_)
     refine wo_call (.cons rfl (.cons rfl .nil)) trivial (takes_tr (by rw [roundF_len];omega) (roundF_le hq2 k) (hIo _ (hIrnd _ _ hIp))) ?_
     rintro v' L' x' ⟨ts',rfl,rfl,rfl⟩
     have hnx:roundF p (k+1)=((takeF (roundF p k).1 k).1,(takeF (roundF p k).1 k).2||(roundF p k).2):=rfl
     have hr1:(roundF p (k+1)).1=(takeF (roundF p k).1 k).1:=rfl
     obtain ⟨b,hb⟩:∃ b,(takeF (roundF p k).1 k).2=b:=⟨_,rfl⟩
     rw [hb,← hr1]
     cases b with
     | true =>
      repeat (first | (refine wR ?_;try simp only [oS]) | refine wo_nil ?_ | refine wM ?_ | refine wA ?_ | (apply wo_no;exact rfl) | refine wK ?_ | refine wadd ?_)
      refine at_round (B:=mT) (I:=rndInvP p ids wg pb rb (.slice sa ids.length sc) (arr rb 0 [.slice none 0 0,.slice none 0 0]::shpC wg 122 2::F)) (R:=fun i'=>ids.length-i'.1<ids.length-k) (k+1,ts') (by show ids.length-(k+1)<ids.length-k;omega) (show k+1≤ids.length by omega) ?_ .refl rfl
      exact ⟨rfl,rfl,rfl,by rw [hnx,hb];rfl,rfl,rfl,trivial⟩
     | false =>
      repeat (first | (refine wR ?_;try simp only [oS]) | refine wo_nil ?_ | refine wM ?_ | refine wA ?_ | refine wJ ?_ | refine wadd ?_)
      refine at_round (B:=mT) (I:=rndInvP p ids wg pb rb (.slice sa ids.length sc) (arr rb 0 [.slice none 0 0,.slice none 0 0]::shpC wg 122 2::F)) (R:=fun i'=>ids.length-i'.1<ids.length-k) (k+1,ts') (by show ids.length-(k+1)<ids.length-k;omega) (show k+1≤ids.length by omega) ?_ .refl rfl
      exact ⟨rfl,rfl,rfl,by rw [hnx,hb];rfl,rfl,rfl,trivial⟩
    ·obtain rfl:k=ids.length:=by omega
     repeat (first | refine wlssF ?_ | refine we_seq ?_ | (refine wR ?_;try simp only [oS]) | refine wo_nil ?_ | refine wF ?_ | refine we_exit ?_)
     have hg:=roundF_grow p ids.length
     have hle3:=roundF_le hq2 ids.length
     have hrest:restF (n+1) p=if (roundF p ids.length).2=true then restF n (roundF p ids.length).1 else (roundF p ids.length).1:=by
      show (if (roundF p p.qs.length).2=true then restF n (roundF p p.qs.length).1 else (roundF p p.qs.length).1)=_
      rw [hpq]
     refine at_round (B:=mT) (I:=restInv I p1 ids wg pb rb (.slice sa ids.length sc) (arr rb 0 [.slice none 0 0,.slice none 0 0]::shpC wg 122 2::F)) (R:=fun i'=>(if i'.2.2.2=true then i'.1+1 else 0)<(if true=true then (n+1)+1 else 0)) (n,(roundF p ids.length).1,tv3,(roundF p ids.length).2) ?_ ⟨hIrnd _ _ hIp,by show (roundF p ids.length).1.qs.length=_;rw [roundF_len];exact hq1,hle3,?_⟩ ?_ .refl rfl
     ·show (if (roundF p ids.length).2=true then n+1 else 0)<(if true=true then (n+1)+1 else 0)
      simp only [if_true]
      split <;> omega
     ·simp only
      rw [hrest] at hq3
      cases hb:(roundF p ids.length).2 with
      | true=>rw [hb] at hq3 hg;simp only [if_true] at hq3 hg ⊢;exact ⟨hq3.1,by omega⟩
      | false=>rw [hb] at hq3;simpa using hq3.1
     ·exact ⟨rfl,rfl,rfl,rfl,trivial⟩
   | false =>
    simp only [Bool.false_eq_true,if_false] at hq3
    have hplay:playF ts s0 order=p:=by rw [hq3,← hp1];unfold playF;rw [hst]
    rw [hplay] at hQ
    have hpq:p.qs.length=ids.length:=by omega
    refine we_pure (of_has (.there (.there .here)) (vec_shape (by omega))) ?_
    rintro ⟨sa,sn,sc,rfl,hsn,_,hnz,hy⟩
    have hsn:sn=ids.length:=by simp [ptrs] at hsn;omega
    subst hsn
    cases sa with
    | none=>have:=hnz rfl;omega
    | some ad =>
    obtain ⟨sb,so,sp⟩:=ad
    have:=hy _ rfl
    simp only [Addr.mk.injEq,true_and] at this
    subst this
    repeat (first | refine we_seq ?_ | (refine wR ?_;try simp only [oS]) | refine wo_nil ?_ | refine wM ?_ | refine wD ?_ | refine wL ?_ | refine wE ?_ | refine wF ?_ | refine we_block ?_ | refine we_exit ?_)
    refine we_star (vec 1 (.slice none 0 0) (cutC (cutN g p.qs 0))::arr pb 0 [.slice (some ⟨sb,so,none⟩) ids.length sc,tv2,.slice none 0 0]::vec 1 (.slice (some ⟨sb,so,none⟩) ids.length sc) (ptrs ids)::vec 3 tv2 (trCP p.tr)::all (seatCs g ids p.qs)::g.U p.s::arr rb 0 [.slice none 0 0,.slice none 0 0]::shpC wg 122 2::F) (fun h st=>vec_nil (Ent.star (.take (.there .here) (.take (.there .here) (.take (.there .here) (.take (.there .here) (.take .here .refl))))) st)) ?_
    refine we_loopN (cutInv p ids wg pb rb (.slice (some ⟨sb,so,none⟩) ids.length sc) tv2 (arr rb 0 [.slice none 0 0,.slice none 0 0]::shpC wg 122 2::F)) (fun i=>ids.length-i.1) (0,.slice none 0 0) (Nat.zero_le _) ⟨rfl,rfl,rfl,rfl,rfl,rfl,trivial⟩ .refl (by simp only [cutInv];rw [shutS_zero]) ?_
    rintro ⟨k,cv⟩ hk
    replace hk:k≤ids.length:=hk
    simp only [cutInv]
    by_cases hlt3:k<ids.length
    ·have hi:ids[k]?=some ids[k]:=List.getElem?_eq_getElem hlt3
     have hq:p.qs[k]?=some (p.qs[k]'(by omega)):=List.getElem?_eq_getElem _
     obtain ⟨i,hie⟩:∃ i,ids[k]=i:=⟨_,rfl⟩
     obtain ⟨q,hqe⟩:∃ q,(p.qs[k]'(by omega))=q:=⟨_,rfl⟩
     rw [hie] at hi
     rw [hqe] at hq
     let er:=all ((seatCs g ids p.qs).eraseIdx k)
     refine we_star (seatR i.sb i.says i.turn i.fin::arr i.sb 3 (lastQ g q)::er::vec 1 cv (cutC (cutN g p.qs k))::arr pb 0 [.slice (some ⟨sb,so,none⟩) ids.length sc,tv2,cv]::vec 1 (.slice (some ⟨sb,so,none⟩) ids.length sc) (ptrs ids)::vec 3 tv2 (trCP p.tr)::g.U p.s::arr rb 0 [.slice none 0 0,.slice none 0 0]::shpC wg 122 2::F) (fun h st=>seat_pick hi hq (((.there (.there (.there (.there .here)))):Has (_::_::_::_::all (seatCs g ids p.qs)::_) _ _).star st)) ?_
     have hback:∀ {cv':Value} {cl:List Value} h,Star (seatR i.sb i.says i.turn i.fin::arr i.sb 3 (lastQ g q)::er::vec 1 cv' cl::arr pb 0 [.slice (some ⟨sb,so,none⟩) ids.length sc,tv2,cv']::vec 1 (.slice (some ⟨sb,so,none⟩) ids.length sc) (ptrs ids)::vec 3 tv2 (trCP p.tr)::g.U p.s::arr rb 0 [.slice none 0 0,.slice none 0 0]::shpC wg 122 2::F) h →
       Star (vec 1 cv' cl::arr pb 0 [.slice (some ⟨sb,so,none⟩) ids.length sc,tv2,cv']::vec 1 (.slice (some ⟨sb,so,none⟩) ids.length sc) (ptrs ids)::vec 3 tv2 (trCP p.tr)::all (seatCs g ids p.qs)::g.U p.s::arr rb 0 [.slice none 0 0,.slice none 0 0]::shpC wg 122 2::F) h:=fun h st=>by
      have s1:=seat_put (q':=q) hi hq st
      rw [set_same hq] at s1
      exact Ent.star (.take (.there .here) (.take (.there .here) (.take (.there .here) (.take (.there .here) (.take .here .refl))))) s1
     have hcl:(cutN g p.qs k).length≤k:=by have:=List.length_filter_le (fun k=>((p.qs[k]?).bind g.plan).isSome) (List.range k);rw [List.length_range] at this;exact this
     have hget:(shutS ids p.qs k)[k]?=some (⟨i.says,i.turn,i.fin,.said q⟩:Seat g.σ g.θ):=by rw [shutS_get hi hq,if_neg (by omega)];rfl
     have hsl2:ids.length=(shutS ids p.qs k).length:=(shutS_len hpq.symm).symm
     have rs:∀ {a b c d e:HProp} {M:List HProp},Rd (a::b::c::d::e::vec 1 (.slice (some ⟨sb,so,none⟩) ids.length sc) (ptrs ids)::M) sb (so+k) (.pointer (some ⟨i.sb,0,none⟩)):=rd_vec (cs:=ptrs ids) (.there (.there (.there (.there (.there .here))))) (by simp [ptrs,hi])
     refine we_pure (of_has (.there (.there (.there .here))) (vec_shape (by omega))) ?_
     rintro ⟨ca,cn,cc,rfl,hcn,_⟩
     have hcn:cn=(cutN g p.qs k).length:=by simp [cutC] at hcn;omega
     subst hcn
     cases hpl2:g.plan q with
     | none =>
      have hlq:lastQ g q=[.int .u8 0,.int .i64 0,.bool true]:=by unfold lastQ;rw [hpl2];rfl
      have hcut:cutN g p.qs (k+1)=cutN g p.qs k:=by rw [cutN_succ,hq];simp [hpl2]
      rw [hlq] at hback ⊢
      have rl:∀ {a:HProp} {M:List HProp},Rd (a::arr i.sb 3 [.int .u8 0,.int .i64 0,.bool true]::M) i.sb 5 (.bool true):=.there (Rd.row (k:=2) rfl rfl)
      have re:∀ {M:List HProp},Rd (seatR i.sb i.says i.turn i.fin::M) i.sb 1 (.chan (some i.fin)):=Rd.fro (k:=1) rfl rfl
      repeat (first | (apply wo_po;apply mo_index1;exact rfl;exact rfl;omega;exact gY) | (apply wo_po;apply mo_load;exact rfl;(first | exact rs | exact rl | exact re);exact trivial) | refine wlssT ?_ | refine we_seq ?_ | (refine wR ?_;try simp only [oS]) | refine wo_nil ?_ | refine wM ?_ | refine wA ?_ | refine wN ?_ | refine wD ?_ | (apply wo_po;apply mo_not;exact rfl;exact gY) | refine wT ?_ | refine wF ?_ | refine we_skip ?_ | refine we_block ?_)
      refine wo_shut (X:=⟨g,wg,shutS ids p.qs k,some p.s,16384-p.tr.length,ids.length,false,.play,none,0⟩) (j:=k) (c:=⟨i.says,i.turn,i.fin,.said q⟩) (q0:=q) rfl rfl rfl hsl2 rfl hget rfl trivial (by decide) ?_
      repeat (first | (refine wR ?_;try simp only [oS]) | refine wo_nil ?_ | refine wM ?_ | refine wadd ?_)
      refine at_roundS (B:=mT) (I:=cutInv p ids wg pb rb (.slice (some ⟨sb,so,none⟩) ids.length sc) tv2 (arr rb 0 [.slice none 0 0,.slice none 0 0]::shpC wg 122 2::F)) (R:=fun i'=>ids.length-i'.1<ids.length-k) (k+1,.slice ca (cutN g p.qs k).length cc) (by show ids.length-(k+1)<ids.length-k;omega) (show k+1≤ids.length by omega) ?_ (fun h st=>?_) ?_
      ·exact ⟨rfl,rfl,rfl,rfl,rfl,rfl,trivial⟩
      ·show Star (vec 1 _ (cutC (cutN g p.qs (k+1)))::_) h
       rw [hcut]
       exact hback h st
      ·simp only [cutInv]
       rw [← shutS_succ hi hq]
     | some mf =>
      obtain ⟨m,f⟩:=mf
      have hlq:lastQ g q=[.int .u8 m.1,.int .i64 m.2,.bool false]:=by unfold lastQ;rw [hpl2];rfl
      have hcut:cutN g p.qs (k+1)=cutN g p.qs k++[k]:=by rw [cutN_succ,hq];simp [hpl2]
      rw [hlq] at hback ⊢
      have rl:∀ {a:HProp} {M:List HProp},Rd (a::arr i.sb 3 [.int .u8 m.1,.int .i64 m.2,.bool false]::M) i.sb 5 (.bool false):=.there (Rd.row (k:=2) rfl rfl)
      have re:∀ {a b:HProp} {M:List HProp},Rd (a::b::seatR i.sb i.says i.turn i.fin::M) i.sb 1 (.chan (some i.fin)):=.there (.there (Rd.fro (k:=1) rfl rfl))
      repeat (first | (apply wo_po;apply mo_index1;exact rfl;exact rfl;omega;exact gY) | (apply wo_po;apply mo_load;exact rfl;(first | exact rs | exact rl);exact trivial) | (apply wo_mo;apply mo_buildSlice (sz:=1) (vs:=[.int .i64 (k:Nat)]);exact rfl;exact .cons rfl .nil;exact rfl;(intro v hv;cases (List.mem_singleton.1 hv);exact rfl);omega;exact trivial) | refine wlssT ?_ | refine we_seq ?_ | (refine wR ?_;try simp only [oS]) | refine wo_nil ?_ | refine wM ?_ | refine wA ?_ | refine wN ?_ | refine wD ?_ | (apply wo_po;apply mo_not;exact rfl;exact gY) | refine wL ?_ | refine wT ?_ | refine we_skip ?_ | refine we_block ?_)
      rintro v' L' ⟨nb,rfl,rfl⟩
      repeat (first | (apply wo_mo;apply mo_append (sz:=1) (new:=[.int .i64 (k:Nat)]);exact rfl;exact rfl;exact rfl;exact rfl;exact (.there (.there (.there (.there .here))));exact rfl;exact .inr ⟨_,_,rfl,Rds.all .here⟩;(intro v hv;cases (List.mem_singleton.1 hv);exact rfl);(simp only [sliceLen];omega);exact trivial))
      rintro v' L' rfl
      refine wo_pure (of_has .here (vec_shape (by omega))) ?_
      rintro ⟨ua,un,uc,rfl,hun,_⟩
      repeat (first | refine wS ?_ | (apply wo_po;apply mo_load;exact rfl;exact re;exact trivial) | (refine wR ?_;try simp only [oS]) | refine wo_nil ?_ | refine wM ?_ | refine wN ?_ | refine wD ?_)
      refine wo_shut (X:=⟨g,wg,shutS ids p.qs k,some p.s,16384-p.tr.length,ids.length,false,.play,none,0⟩) (j:=k) (c:=⟨i.says,i.turn,i.fin,.said q⟩) (q0:=q) rfl rfl rfl hsl2 rfl hget rfl trivial (by decide) ?_
      repeat (first | (refine wR ?_;try simp only [oS]) | refine wo_nil ?_ | refine wM ?_ | refine wadd ?_)
      refine at_roundS (B:=mT) (I:=cutInv p ids wg pb rb (.slice (some ⟨sb,so,none⟩) ids.length sc) tv2 (arr rb 0 [.slice none 0 0,.slice none 0 0]::shpC wg 122 2::F)) (R:=fun i'=>ids.length-i'.1<ids.length-k) (k+1,.slice ua un uc) (by show ids.length-(k+1)<ids.length-k;omega) (show k+1≤ids.length by omega) ?_ (fun h st=>?_) ?_
      ·exact ⟨rfl,rfl,rfl,rfl,rfl,rfl,trivial⟩
      ·show Star (vec 1 _ (cutC (cutN g p.qs (k+1)))::_) h
       have e4:cutC (cutN g p.qs (k+1))=cutC (cutN g p.qs k)++[.int .i64 (k:Nat)]:=by rw [hcut];simp [cutC]
       rw [e4]
       exact hback h (Ent.star (.take (.there (.there .here)) (.take (.there (.there .here)) (.take (.there (.there .here)) (.take .here (.drop .refl))))) st)
      ·simp only [cutInv]
       rw [← shutS_succ hi hq]
    ·obtain rfl:k=ids.length:=by omega
     repeat (first | refine wlssF ?_ | refine we_seq ?_ | (refine wR ?_;try simp only [oS]) | refine wo_nil ?_ | refine wF ?_ | refine we_exit ?_)
     refine wo_call (.cons rfl .nil) trivial (wgWait_tr (X:=⟨g,wg,shutS ids p.qs ids.length,some p.s,16384-p.tr.length,ids.length,false,.play,none,0⟩) rfl (by show ids.length<1000;omega) (shutS_len hpq.symm).symm (shutS_closed hpq.symm) (fun d e=>by cases e) rfl (fun h st=>shp_of (.there (.there (.there (.there (.there (.there (.there .here))))))) st)) ?_
     rintro v' L' x' ⟨rfl,rfl,rfl⟩
     rw [show GX.ends ⟨g,wg,shutS ids p.qs ids.length,some p.s,16384-p.tr.length,ids.length,false,.play,none,0⟩=all (p.qs.map g.Fin) from congrArg all (shutS_all hpq.symm)]
     repeat (first | (apply wo_po;apply mo_loadA (vs:=[tv2,cv]);exact rfl;exact rfl;exact Rds.row (k:=1) (.there (.there .here)) (by intro i v hv;match i,hv with | 0,hv=>exact hv | 1,hv=>exact hv);exact trivial) | refine we_seq ?_ | (refine wR ?_;try simp only [oS]) | refine wo_nil ?_ | refine wD ?_)
     refine wo_pure (of_has (.there .here) (vec_shape (by omega))) ?_
     rintro ⟨ca,cn,cc,rfl,_⟩
     refine wo_pure (of_has (.there (.there (.there (.there .here)))) (vec_shape (by omega))) ?_
     rintro ⟨ta2,tn2,tc2,rfl,_⟩
     repeat (first | (apply wo_pm;apply mo_storeA (c:=0) (k:=0) (a:=0) (vs:=[.slice none 0 0,.slice none 0 0]);exact rfl;exact rfl;exact rfl;(intro w hw;simp [Value.cells] at hw;rcases hw with rfl | rfl <;> rfl);exact rfl;exact Nat.le_refl 2;exact (.there (.there (.there (.there (.there (.there (.there .here)))))));exact trivial) | refine wo_nil ?_ | refine wA ?_ | refine we_ret ?_)
     refine at_leaveM (rs:=[.cell 4 76,.tmp 5]) Try.func28 Try.results28 hQ (.inl rfl) (.cons (.cell (vs:=[.slice ta2 tn2 tc2,.slice ca cn cc]) rfl rfl (Rds.all (.there (.there (.there (.there (.there (.there (.there .here))))))))) (.cons (.tmp rfl) .nil)) ?_
     refine ⟨_,_,rfl,rfl,fun h st=>?_⟩
     rw [← hids]
     exact Ent.star (.take (.there (.there (.there (.there .here)))) (.take (.there .here) (.take (.there (.there (.there (.there .here)))) (.take .here (.drop (.drop (.drop (.drop (.drop .refl))))))))) st
end
end
end Go.Proofs.Ytdcbnbmahndecaa
namespace Go.Proofs.Ytdcbnbmahndecaa
open Go Go.PB
section
section
variable {g:Game}
theorem ordF_inv {I:PS g→Prop} (hs:∀ p k,I p→I (takeF p k).1):∀ (l:List Int) (p:PS g),I p→I (ordF p l)
 | [],p,h=>h
 | k::l,p,h=>ordF_inv hs l _ (hs p k h)
theorem roundF_inv {I:PS g→Prop} (hs:∀ p k,I p→I (takeF p k).1) {p:PS g} (h:I p):∀ n,I (roundF p n).1
 | 0=>h
 | n+1=>hs _ _ (roundF_inv hs h n)
theorem restF_inv {I:PS g→Prop} (hs:∀ p k,I p→I (takeF p k).1):∀ (n:Nat) (p:PS g),I p→I (restF n p)
 | 0,p,h=>h
 | n+1,p,h=>by
  unfold restF
  split
  ·exact restF_inv hs n _ (roundF_inv hs h _)
  ·exact roundF_inv hs h _
theorem playF_inv {I:PS g→Prop} (hs:∀ p k,I p→I (takeF p k).1) {ts:List (Thr g)} {s:g.σ} {o:List Int} (h0:I ⟨(startF ts s).1,(startF ts s).2,[]⟩):I (playF ts s o) :=
 restF_inv hs _ _ (ordF_inv hs _ _ h0)
theorem roundF_no {p:PS g}:∀ {n:Nat},(roundF p n).2=false→(roundF p n).1=p∧∀ k:Nat,k<n→takeF p k=(p,false)
 | 0,_=>⟨rfl,fun k h=>by omega⟩
 | n+1,h=>by
  have h':((takeF (roundF p n).1 n).2||(roundF p n).2)=false:=h
  rw [Bool.or_eq_false_iff] at h'
  obtain ⟨h1,h2⟩:=roundF_no h'.2
  rw [h1] at h'
  have h3:takeF p n=(p,false):=by
   rcases takeF_cases p n with e | ⟨_,_,_,_,_,_,_,_,e⟩
   ·exact e
   ·rw [e] at h';cases h'.1
  refine ⟨?_,fun k hk=>?_⟩
  ·show (takeF (roundF p n).1 n).1=p
   rw [h1,h3]
  ·by_cases e:k=n
   ·subst e;exact h3
   ·exact h2 k (by omega)
theorem take_stuck {p:PS g} {k:Nat} {q:g.θ} (hq:p.qs[k]?=some q) (h:takeF p k=(p,false)):g.plan q=none∨p.tr.length=16384:=by
 cases hp:g.plan q with
 | none=>exact .inl rfl
 | some mf =>
  obtain ⟨m,f⟩:=mf
  right
  by_cases htr:p.tr.length=16384
  ·exact htr
  ·unfold takeF at h
   rw [if_neg (by omega),Int.toNat_natCast,hq] at h
   simp only [hp,if_neg htr] at h
   have:=congrArg Prod.snd h
   cases this
theorem restF_done:∀ (n:Nat) (p:PS g),p.tr.length≤16384→16384<p.tr.length+n→∀ (k:Nat) q,(restF n p).qs[k]?=some q→g.plan q=none∨(restF n p).tr.length=16384
 | 0,p,h1,h2=>by omega
 | n+1,p,h1,h2=>by
  intro k q hq
  unfold restF at hq ⊢
  have hg:=roundF_grow p p.qs.length
  have hle:=roundF_le h1 p.qs.length
  split at hq
  ·rename_i hm
   rw [if_pos hm]
   rw [if_pos hm] at hg
   exact restF_done n _ hle (by omega) k q hq
  ·rename_i hm
   rw [if_neg hm]
   obtain ⟨e,hk⟩:=roundF_no (Bool.not_eq_true _▸hm:(roundF p p.qs.length).2=false)
   rw [e] at hq ⊢
   exact take_stuck hq (hk k (List.getElem?_eq_some_iff.1 hq).1)
theorem playF_done {ts:List (Thr g)} {s:g.σ} {o:List Int} {k:Nat} {q:g.θ} (hq:(playF ts s o).qs[k]?=some q):g.plan q=none∨(playF ts s o).tr.length=16384 :=
 restF_done 16385 _ (ordF_le _ _ (Nat.zero_le _)) (by omega) k q hq
theorem cutN_nil {qs:List g.θ} {n:Nat} (h:∀ (k:Nat) q,qs[k]?=some q→g.plan q=none):cutN g qs n=[]:=by
 unfold cutN
 rw [List.filter_eq_nil_iff]
 intro k _
 cases hq:qs[k]? with
 | none=>simp
 | some q=>simp [h k q hq]
end
def sumN (l:List Nat):Nat:=l.foldr (·+·) 0
end
end Go.Proofs.Ytdcbnbmahndecaa
namespace Go.Proofs.Ytdcbnbmahndecaa
open Go Go.PB
attribute [local irreducible] Mo Bin Eql Tr Wo Ap Wle
section
theorem wds_congr {addr:Nat→Nat × Nat} {N:Nat} {K:List (Nat × Nat × Value)} {f f':Nat→Nat} (e:∀ i,i<N→f i=f' i):∀ h,wds addr N K f h→wds addr N K f' h:=fun h s =>
 ⟨fun w hw=>by rw [← e w hw];exact s.1 w hw,s.2⟩
structure WGm where
 σ:Type
 θ:Type
 ζ:Type
 wf:σ→Nat→Nat
 zf:σ→ζ
 Z:ζ→HProp
 plan:θ→Option ((Int × Int) × (σ→σ × θ))
 ok:σ→Prop
 Pv:θ→HProp
 up:∀ q h,Star [Pv q] h→Pv q h
def WGm.g (G:WGm) (addr:Nat→Nat × Nat) (N:Nat) (K:List (Nat × Nat × Value)):Game where
 σ:=G.σ
 θ:=G.θ
 U:=fun s=>all [wds addr N K (G.wf s),G.Z (G.zf s)]
 plan:=G.plan
 ok:=G.ok
 Pv:=G.Pv
 Fin:=G.Pv
end
end Go.Proofs.Ytdcbnbmahndecaa
namespace Go.Proofs.Ytdcbnbmahndecaa
open Go Go.PB
attribute [local irreducible] Mo Bin Eql Tr Wo
section
structure Acc (B:Hand) (gv:Value) where
 S:Type
 C:S→HProp
 x:S→B.X
 step:Int→Nat→S→(S→Prop)→Prop
 addr:Nat→Nat × Nat
 load:Nat→S→(Nat→S→Prop)→Prop
 store:Nat→Nat→S→(S→Prop)→Prop
 cas:Nat→Nat→Nat→S→(Bool→S→Prop)→Prop
 add:Nat→Nat→S→(Nat→S→Prop)→Prop
 swap:Nat→Nat→S→(Nat→S→Prop)→Prop
 gate:(gv=.nilIface∧∀ op w s R,step op w s R→R s) ∨
  ∃ t p f,gv=.iface t p∧Met Try.prog t "Step" f∧Ent' Try.prog f∧∀ op w s R L F,step op w s R→Has L (C s) F →
   Tr Try.prog B f [p,.agg #[.int .u8 op,.int .i64 (w:Nat)]] L (x s) fun v L' x'=>∃ s',R s'∧v=.tuple #[]∧L'=C s'::F∧x'=x s'
 load_ok:∀ w s R L F b o,addr w=(b,o)→load w s R→Has L (C s) F→Tr Try.prog B 58 [.pointer (some ⟨b,o,none⟩)] L (x s) fun v L' x'=>∃ n s',n<18446744073709551616∧R n s'∧v=.int .u64 (n:Nat)∧L'=C s'::F∧x'=x s'
 store_ok:∀ w n s R L F b o,addr w=(b,o)→n<18446744073709551616→store w n s R→Has L (C s) F→Tr Try.prog B 59 [.pointer (some ⟨b,o,none⟩),.int .u64 (n:Nat)] L (x s) fun v L' x'=>∃ s',R s'∧v=.tuple #[]∧L'=C s'::F∧x'=x s'
 cas_ok:∀ w m n s R L F b o,addr w=(b,o)→n<18446744073709551616→cas w m n s R→Has L (C s) F→Tr Try.prog B 68 [.pointer (some ⟨b,o,none⟩),.int .u64 (m:Nat),.int .u64 (n:Nat)] L (x s) fun v L' x'=>∃ q s',R q s'∧v=.bool q∧L'=C s'::F∧x'=x s'
 add_ok:∀ w n s R L F b o,addr w=(b,o)→n<18446744073709551616→add w n s R→Has L (C s) F→Tr Try.prog B 82 [.pointer (some ⟨b,o,none⟩),.int .u64 (n:Nat)] L (x s) fun v L' x'=>∃ m s',m<18446744073709551616∧R m s'∧v=.int .u64 (m:Nat)∧L'=C s'::F∧x'=x s'
section
variable {B:Hand} [Lets B] {L F L1:List HProp}
theorem load_lone {b o:Nat} {n:Int} {x:B.X} (hr:Rd L b o (.int .u64 n)):Tr Try.prog B 58 [.pointer (some ⟨b,o,none⟩)] L x fun v L' x'=>v=.int .u64 n∧L'=L∧x'=x:=by
 refine tr_of_body Try.func58 rfl Try.ntmps58 (by simp) fun um Q _ hQ=>?_
 simp only [argE,Nat.zero_add,Nat.reduceAdd]
 repeat (first | (apply wo_po;apply mo_ext (args:=[_]);exact .cons rfl .nil;exact at_loadI hr;exact trivial) | refine we_seq ?_ | (refine wR ?_;try simp only [oS]) | refine wo_nil ?_ | refine wM ?_ | refine wA ?_ | refine wN ?_ | refine wD ?_ | refine we_ret ?_)
 (first | refine or1 Try.func58 Try.results58 hQ rfl ?_ | refine on1 Try.func58 Try.results58 hQ rfl ?_)
 exact ⟨rfl,rfl,rfl⟩
theorem store_lone {b o:Nat} {n:Int} {x:B.X} (hw:Wt L b o (.int .u64 n) L1):Tr Try.prog B 59 [.pointer (some ⟨b,o,none⟩),.int .u64 n] L x fun v L' x'=>v=.tuple #[]∧L'=L1∧x'=x:=by
 refine tr_of_body Try.func59 rfl Try.ntmps59 (by simp) fun um Q _ hQ=>?_
 simp only [argE,Nat.zero_add,Nat.reduceAdd]
 repeat (first | (apply wo_pm;apply mo_ext (args:=[_,_]);exact .cons rfl (.cons rfl .nil);exact at_storeI rfl hw;exact trivial) | (refine wR ?_;try simp only [oS]) | refine wo_nil ?_ | refine wM ?_ | refine wN ?_ | refine wD ?_)
 (first | refine or0 Try.func59 Try.results59 hQ ?_ | refine on0 Try.func59 Try.results59 hQ ?_)
 exact ⟨rfl,rfl,rfl⟩
theorem cas_lone {b o:Nat} {n m y:Int} {x:B.X} (hr:Rd L b o (.int .u64 n)) (hw:Wt L b o (.int .u64 y) L1):Tr Try.prog B 68 [.pointer (some ⟨b,o,none⟩),.int .u64 m,.int .u64 y] L x fun v L' x'=>v=.bool (decide (n=m))∧L'=(if n=m then L1 else L)∧x'=x:=by
 refine tr_of_body Try.func68 rfl Try.ntmps68 (by simp) fun um Q _ hQ=>?_
 simp only [argE,Nat.zero_add,Nat.reduceAdd]
 repeat (first | (apply wo_pm;apply mo_ext (args:=[_,_,_]);exact .cons rfl (.cons rfl (.cons rfl .nil));exact at_casI hr hw;exact trivial) | refine we_seq ?_ | (refine wR ?_;try simp only [oS]) | refine wo_nil ?_ | refine wM ?_ | refine wA ?_ | refine wN ?_ | refine wD ?_ | refine we_ret ?_)
 (first | refine or1 Try.func68 Try.results68 hQ rfl ?_ | refine on1 Try.func68 Try.results68 hQ rfl ?_)
 exact ⟨rfl,rfl,rfl⟩
theorem add_lone {b o:Nat} {n y r:Int} {x:B.X} (hr:Rd L b o (.int .u64 n)) (hn:IntKind.u64.wrap (n+y)=r) (hw:Wt L b o (.int .u64 r) L1):Tr Try.prog B 82 [.pointer (some ⟨b,o,none⟩),.int .u64 y] L x fun v L' x'=>v=.int .u64 r∧L'=L1∧x'=x:=by
 refine tr_of_body Try.func82 rfl Try.ntmps82 (by simp) fun um Q _ hQ=>?_
 simp only [argE,Nat.zero_add,Nat.reduceAdd]
 repeat (first | (apply wo_pm;apply mo_ext (args:=[_,_]);exact .cons rfl (.cons rfl .nil);exact at_addI hr hn hw;exact trivial) | refine we_seq ?_ | (refine wR ?_;try simp only [oS]) | refine wo_nil ?_ | refine wM ?_ | refine wA ?_ | refine wN ?_ | refine wD ?_ | refine we_ret ?_)
 (first | refine or1 Try.func82 Try.results82 hQ rfl ?_ | refine on1 Try.func82 Try.results82 hQ rfl ?_)
 exact ⟨rfl,rfl,rfl⟩
end
end
end Go.Proofs.Ytdcbnbmahndecaa
namespace Go.Proofs.Ytdcbnbmahndecaa
open Go Go.PB
attribute [local irreducible] Mo Bin Eql Tr Wo Ap
section
structure RingAt {B:Hand} {gv:Value} (A:Acc B gv) (r b n k:Nat):Prop where
 hn:n=2^k
 hk:k≤10
 hdr:∀ s,Rd [A.C s] r 2 (.slice (some ⟨b,0,none⟩) n n)
 a0:A.addr 0=(r,0)
 a1:A.addr 1=(r,1)
 a2:∀ i:Nat,i<n→A.addr (2+i)=(b,i)
section
variable {B:Hand} [Lets B] {gv:Value} {A:Acc B gv} {r b n k:Nat} {L F:List HProp}
theorem slot_tr (R:RingAt A r b n k) {p:Nat} (h1:p<18446744073709551616) {s:A.S} (hh:Has L (A.C s) F) :
  Tr Try.prog B 40 [.pointer (some ⟨r,0,none⟩),.int .u64 p] L (A.x s) fun v L' x'=>v=.tuple #[.int .i64 ((2+p%n:Nat)),.pointer (some ⟨b,p%n,none⟩)]∧L'=L∧x'=A.x s:=by
 have hr:=Rd.of hh (R.hdr s)
 have hpow:=and_pow2 R.hn R.hk (p:=p) (by omega) (by omega)
 have hle:n≤1024:=by rw [R.hn];exact pow_le R.hk
 have hpos:0<n:=by rw [R.hn];exact Nat.two_pow_pos k
 obtain ⟨m,hm⟩:∃ m,p%n=m:=⟨_,rfl⟩
 have hmod:m<n:=by rw [← hm];exact Nat.mod_lt _ hpos
 rw [Int.toNat_natCast,hm] at hpow
 rw [hm]
 refine tr_of_body Try.func40 rfl Try.ntmps40 (by simp) fun um Q _ hQ=>?_
 simp only [argE,Nat.zero_add,Nat.reduceAdd]
 repeat (first | (apply wo_po;apply mo_load;exact rfl;exact hr;exact trivial) | (apply wo_po;apply mo_bin;exact rfl;exact rfl;apply bin_and;exact hpow;exact trivial) | refine we_seq ?_ | (refine wR ?_;try simp only [oS]) | refine wo_nil ?_ | refine wM ?_ | refine wA ?_ | refine wN ?_ | refine wD ?_ | refine wsub ?_ | refine wE ?_ | (apply wo_po;apply mo_conv;exact rfl;(first | exact wrap_i64 (by omega) (by omega) | exact wrap_u64 (by omega) (by omega));exact gY))
 refine we_draw [0,1,2,3,4,5,6,7,8,9] (by kernel_rfl) ?_
 repeat (first | (apply ap_read;exact rfl;exact rfl;exact trivial;apply mo_load;exact rfl;exact hr) | (apply ap_pure;exact rfl;exact rfl;exact trivial;intro L;apply mo_indexAddr;exact rfl;exact rfl;omega;omega;exact (show 0+((m:Int)).toNat*1=m by simp)) | refine aM ?_ | refine aA ?_ | refine aN ?_ | refine aD ?_ | (apply ap_pure;exact rfl;exact rfl;exact gY;intro L;apply mo_bin;exact rfl;exact rfl;apply bin_add;exact wrap_i64 (by omega) (by omega)) | refine ap_end ?_)
 refine we_ret ?_
 (first | refine or2 Try.func40 Try.results40 hQ rfl rfl ?_ | refine on2 Try.func40 Try.results40 hQ rfl rfl ?_)
 refine ⟨?_,rfl,rfl⟩
 simp
theorem there_tr (R:RingAt A r b n k) {s:A.S} (hh:Has L (A.C s) F) :
  Tr Try.prog B 38 [.pointer (some ⟨r,0,none⟩)] L (A.x s) fun v L' x'=>v=.bool true∧L'=L∧x'=A.x s:=by
 have hr:=Rd.of hh (R.hdr s)
 refine tr_of_body Try.func38 rfl Try.ntmps38 (by simp) fun um Q _ hQ=>?_
 simp only [argE,Nat.zero_add,Nat.reduceAdd]
 repeat (first | (apply wo_po;apply mo_load;exact rfl;exact hr;exact rfl) | refine we_seq ?_ | (refine wR ?_;try simp only [oS]) | refine wo_nil ?_ | refine wM ?_ | refine wA ?_ | refine wK ?_ | refine wN ?_ | refine wD ?_ | (apply wo_po;apply mo_bin;exact rfl;exact rfl;apply bin_ne;apply eql_ptr_nil;exact gY) | (apply wo_po;apply mo_bin;exact rfl;exact rfl;apply bin_ne;apply eql_slice_nil;exact gY) | refine we_ret ?_)
 (first | refine or1 Try.func38 Try.results38 hQ rfl ?_ | refine on1 Try.func38 Try.results38 hQ rfl ?_)
 exact ⟨rfl,rfl,rfl⟩
theorem step_tr {op:Int} {w:Nat} {s:A.S} {T:A.S→Prop} (hs:A.step op w s T) (hh:Has L (A.C s) F) :
  Tr Try.prog B 57 [gv,.int .u8 op,.int .i64 w] L (A.x s) fun v L' x'=>∃ s',T s'∧v=.tuple #[]∧L'=A.C s'::F∧x'=A.x s':=by
 rcases A.gate with ⟨rfl,hg⟩ | ⟨t,p,f,rfl,hm,he,hg⟩
 ·refine tr_of_body Try.func57 rfl Try.ntmps57 (by simp) fun um Q _ hQ=>?_
  simp only [argE,Nat.zero_add,Nat.reduceAdd]
  repeat (first | refine we_seq ?_ | (refine wR ?_;try simp only [oS]) | refine wo_nil ?_ | refine wM ?_ | (apply wo_po;apply mo_bin;exact rfl;exact rfl;apply bin_ne;apply eql_nil_nil;exact gY) | refine wF ?_ | refine we_skip ?_)
  refine at_ent _ (Ent.take hh .refl) ?_
  (first | refine or0 Try.func57 Try.results57 hQ ?_ | refine on0 Try.func57 Try.results57 hQ ?_)
  exact ⟨s,hg _ _ _ _ hs,rfl,rfl,rfl⟩
 ·refine tr_of_body Try.func57 rfl Try.ntmps57 (by simp) fun um Q _ hQ=>?_
  simp only [argE,Nat.zero_add,Nat.reduceAdd]
  repeat (first | (apply wo_po;apply mo_build (pv:=[(0,_),(1,_)]);exact rfl;exact .cons rfl (.cons rfl .nil);exact rfl;exact trivial) | refine we_seq ?_ | (refine wR ?_;try simp only [oS]) | refine wo_nil ?_ | refine wM ?_ | (apply wo_po;apply mo_bin;exact rfl;exact rfl;apply bin_ne;apply eql_iface_nil;exact gY) | refine wT ?_)
  refine wo_invoke (args:=[_]) rfl (.cons rfl .nil) trivial (hg op w s T L F hs hh) ?_
  rintro v L' x' ⟨s',h1,rfl,rfl,rfl⟩
  repeat (first | refine wo_nil ?_)
  (first | refine or0 Try.func57 Try.results57 hQ ?_ | refine on0 Try.func57 Try.results57 hQ ?_)
  exact ⟨s',h1,rfl,rfl,rfl⟩
theorem load_tr {w b' o':Nat} {s:A.S} {Q:Nat→A.S→Prop} (ha:A.addr w=(b',o')) (hs:A.step 1 w s fun s=>A.load w s Q) (hh:Has L (A.C s) F) :
  Tr Try.prog B 39 [gv,.int .i64 w,.pointer (some ⟨b',o',none⟩)] L (A.x s) fun v L' x'=>∃ n s',n<18446744073709551616∧Q n s'∧v=.int .u64 (n:Nat)∧L'=A.C s'::F∧x'=A.x s':=by
 refine tr_of_body Try.func39 rfl Try.ntmps39 (by simp) fun um Q _ hQ=>?_
 simp only [argE,Nat.zero_add,Nat.reduceAdd]
 repeat (first | refine we_seq ?_ | (refine wR ?_;try simp only [oS]) | refine wo_nil ?_ | refine wM ?_ | refine wA ?_)
 refine wo_call (.cons rfl (.cons rfl (.cons rfl .nil))) trivial (step_tr hs hh) ?_
 rintro v L' x' ⟨s1,h1,rfl,rfl,rfl⟩
 repeat (first | refine we_seq ?_ | (refine wR ?_;try simp only [oS]) | refine wo_nil ?_ | refine wM ?_)
 refine wo_call (.cons rfl .nil) trivial (A.load_ok _ _ _ _ _ _ _ ha h1 .here) ?_
 rintro v L' x' ⟨m,s2,h2,h3,rfl,rfl,rfl⟩
 repeat (first | refine wo_nil ?_ | refine wA ?_ | refine we_ret ?_)
 (first | refine or1 Try.func39 Try.results39 hQ rfl ?_ | refine on1 Try.func39 Try.results39 hQ rfl ?_)
 exact ⟨m,s2,h2,h3,rfl,rfl,rfl⟩
theorem store_tr {w b' o' m:Nat} {s:A.S} {Q:A.S→Prop} (ha:A.addr w=(b',o')) (hm:m<18446744073709551616) (hs:A.step 2 w s fun s=>A.store w m s Q) (hh:Has L (A.C s) F) :
  Tr Try.prog B 41 [gv,.int .i64 w,.pointer (some ⟨b',o',none⟩),.int .u64 m] L (A.x s) fun v L' x'=>∃ s',Q s'∧v=.tuple #[]∧L'=A.C s'::F∧x'=A.x s':=by
 refine tr_of_body Try.func41 rfl Try.ntmps41 (by simp) fun um Q _ hQ=>?_
 simp only [argE,Nat.zero_add,Nat.reduceAdd]
 repeat (first | refine we_seq ?_ | (refine wR ?_;try simp only [oS]) | refine wM ?_)
 refine wo_call (.cons rfl (.cons rfl (.cons rfl .nil))) trivial (step_tr hs hh) ?_
 rintro v L' x' ⟨s1,h1,rfl,rfl,rfl⟩
 repeat (first | (refine wR ?_;try simp only [oS]) | refine wo_nil ?_ | refine wM ?_)
 refine wo_call (.cons rfl (.cons rfl .nil)) trivial (A.store_ok _ _ _ _ _ _ _ _ ha hm h1 .here) ?_
 rintro v L' x' ⟨s2,h3,rfl,rfl,rfl⟩
 repeat (first | refine wo_nil ?_)
 (first | refine or0 Try.func41 Try.results41 hQ ?_ | refine on0 Try.func41 Try.results41 hQ ?_)
 exact ⟨s2,h3,rfl,rfl,rfl⟩
def PutT (A:Acc B gv) (n v:Nat) (s:A.S) (Q:Bool→A.S→Prop):Prop :=
 A.step 1 1 s fun s=>A.load 1 s fun p s=>A.step 1 0 s fun s=>A.load 0 s fun t s =>
  if n≤(p+18446744073709551616-t)%18446744073709551616 then Q false s
  else A.step 2 (2+p%n) s fun s=>A.store (2+p%n) v s fun s=>A.step 2 1 s fun s=>A.store 1 ((p+1)%18446744073709551616) s (Q true)
theorem put_tr (R:RingAt A r b n k) {v:Nat} (hv:v<18446744073709551616) {s:A.S} {Q:Bool→A.S→Prop} (hs:PutT A n v s Q) (hh:Has L (A.C s) F) :
  Tr Try.prog B 12 [.pointer (some ⟨r,0,none⟩),gv,.int .u64 v] L (A.x s) fun v' L' x'=>∃ q s',Q q s'∧v'=.tuple #[.bool q,.int .i64 0]∧L'=A.C s'::F∧x'=A.x s':=by
 have hle:n≤1024:=by rw [R.hn];exact pow_le R.hk
 have hpos:0<n:=by rw [R.hn];exact Nat.two_pow_pos k
 unfold PutT at hs
 refine tr_of_body Try.func12 rfl Try.ntmps12 (by simp) fun um Q _ hQ=>?_
 simp only [argE,Nat.zero_add,Nat.reduceAdd]
 repeat (first | refine we_seq ?_ | (refine wR ?_;try simp only [oS]) | refine wo_nil ?_ | refine wM ?_ | refine wA ?_)
 refine wo_call (.cons rfl .nil) trivial (there_tr R hh) ?_
 rintro v1 L1 x1 ⟨rfl,rfl,rfl⟩
 repeat (first | refine we_seq ?_ | (refine wR ?_;try simp only [oS]) | refine wo_nil ?_ | refine wM ?_ | refine wN ?_ | refine wD ?_ | (apply wo_po;apply mo_not;exact rfl;exact gY) | refine wF ?_ | refine we_skip ?_)
 refine wo_call (.cons rfl (.cons rfl (.cons rfl .nil))) trivial (load_tr (w:=1) R.a1 hs hh) ?_
 rintro v1 L1 x1 ⟨p,s1,hp,h1,rfl,rfl,rfl⟩
 repeat (first | refine we_seq ?_ | (refine wR ?_;try simp only [oS]) | refine wo_nil ?_ | refine wM ?_ | refine wA ?_ | refine wN ?_ | refine wD ?_)
 refine wo_call (.cons rfl (.cons rfl (.cons rfl .nil))) trivial (load_tr (w:=0) R.a0 h1 .here) ?_
 rintro v1 L1 x1 ⟨t,s2,ht,h2,rfl,rfl,rfl⟩
 have hr:=Rd.of (L:=A.C s2::F) .here (R.hdr s2)
 have hsub:IntKind.u64.wrap ((p:Int)-(t:Int))=(((p+18446744073709551616-t)%18446744073709551616:Nat):Int):=by rw [wrap_u64_mod];omega
 obtain ⟨d,hd⟩:∃ d,(p+18446744073709551616-t)%18446744073709551616=d:=⟨_,rfl⟩
 rw [hd] at hsub h2
 repeat (first | (apply wo_po;apply mo_bin;exact rfl;exact rfl;apply bin_sub;exact hsub;exact trivial) | (apply wo_po;apply mo_load;exact rfl;exact hr;exact trivial) | refine we_seq ?_ | (refine wR ?_;try simp only [oS]) | refine wo_nil ?_ | refine wM ?_ | refine wA ?_ | refine wN ?_ | refine wD ?_ | (apply wo_po;apply mo_bin;exact rfl;exact rfl;exact bin_geq;exact gY) | refine wE ?_ | (apply wo_po;apply mo_conv;exact rfl;(first | exact wrap_i64 (by omega) (by omega) | exact wrap_u64 (by omega) (by omega));exact gY))
 by_cases hfull:n≤d
 ·rw [if_pos hfull] at h2
  repeat (first | refine we_seq ?_ | (refine wR ?_;try simp only [oS]) | refine wo_nil ?_ | refine wA ?_ | refine wT ?_ | refine we_ret ?_)
  (first | refine or2 Try.func12 Try.results12 hQ rfl rfl ?_ | refine on2 Try.func12 Try.results12 hQ rfl rfl ?_)
  exact ⟨false,s2,h2,rfl,rfl,rfl⟩
 ·rw [if_neg hfull] at h2
  repeat (first | refine we_seq ?_ | (refine wR ?_;try simp only [oS]) | refine wM ?_ | refine wF ?_ | refine we_skip ?_)
  refine wo_call (.cons rfl (.cons rfl .nil)) trivial (slot_tr R hp .here) ?_
  rintro v1 L1 x1 ⟨rfl,rfl,rfl⟩
  repeat (first | refine we_seq ?_ | (refine wR ?_;try simp only [oS]) | refine wo_nil ?_ | refine wM ?_ | refine wA ?_ | (apply wo_po;apply mo_extract;exact rfl;exact rfl;exact gY))
  have hmod:p%n<n:=Nat.mod_lt _ hpos
  refine wo_call (.cons rfl (.cons rfl (.cons rfl (.cons rfl .nil)))) trivial (store_tr (w:=2+p%n) (R.a2 _ hmod) hv h2 .here) ?_
  rintro v1 L1 x1 ⟨s3,h3,rfl,rfl,rfl⟩
  have hadd:IntKind.u64.wrap ((p:Int)+1)=(((p+1)%18446744073709551616:Nat):Int):=by rw [wrap_u64_mod];omega
  repeat (first | (apply wo_po;apply mo_bin;exact rfl;exact rfl;apply bin_add;exact hadd;exact trivial) | refine we_seq ?_ | (refine wR ?_;try simp only [oS]) | refine wo_nil ?_ | refine wM ?_ | refine wN ?_ | refine wD ?_)
  refine wo_call (.cons rfl (.cons rfl (.cons rfl (.cons rfl .nil)))) trivial (store_tr (w:=1) R.a1 (Nat.mod_lt _ (by decide)) h3 .here) ?_
  rintro v1 L1 x1 ⟨s4,h4,rfl,rfl,rfl⟩
  repeat (first | refine we_seq ?_ | (refine wR ?_;try simp only [oS]) | refine wo_nil ?_ | refine wA ?_ | refine we_ret ?_)
  (first | refine or2 Try.func12 Try.results12 hQ rfl rfl ?_ | refine on2 Try.func12 Try.results12 hQ rfl rfl ?_)
  exact ⟨true,s4,h4,rfl,rfl,rfl⟩
def TakeT (A:Acc B gv) (n:Nat) (s:A.S) (Q:Option Nat→A.S→Prop):Prop :=
 A.step 1 0 s fun s=>A.load 0 s fun t s=>A.step 1 1 s fun s=>A.load 1 s fun p s =>
  if t=p then Q none s
  else A.step 1 (2+t%n) s fun s=>A.load (2+t%n) s fun v s=>A.step 2 0 s fun s=>A.store 0 ((t+1)%18446744073709551616) s (Q (some v))
theorem take_tr (R:RingAt A r b n k) {s:A.S} {Q:Option Nat→A.S→Prop} (hs:TakeT A n s Q) (hh:Has L (A.C s) F) :
  Tr Try.prog B 13 [.pointer (some ⟨r,0,none⟩),gv] L (A.x s) fun v' L' x'=>∃ q s',Q q s'∧q.getD 0<18446744073709551616∧v'=.tuple #[.int .u64 (q.getD 0:Nat),.bool q.isSome,.int .i64 0]∧L'=A.C s'::F∧x'=A.x s':=by
 have hle:n≤1024:=by rw [R.hn];exact pow_le R.hk
 have hpos:0<n:=by rw [R.hn];exact Nat.two_pow_pos k
 unfold TakeT at hs
 refine tr_of_body Try.func13 rfl Try.ntmps13 (by simp) fun um Q _ hQ=>?_
 simp only [argE,Nat.zero_add,Nat.reduceAdd]
 repeat (first | refine we_seq ?_ | (refine wR ?_;try simp only [oS]) | refine wo_nil ?_ | refine wM ?_ | refine wA ?_)
 refine wo_call (.cons rfl .nil) trivial (there_tr R hh) ?_
 rintro v1 L1 x1 ⟨rfl,rfl,rfl⟩
 repeat (first | refine we_seq ?_ | (refine wR ?_;try simp only [oS]) | refine wo_nil ?_ | refine wM ?_ | refine wN ?_ | refine wD ?_ | (apply wo_po;apply mo_not;exact rfl;exact gY) | refine wF ?_ | refine we_skip ?_)
 refine wo_call (.cons rfl (.cons rfl (.cons rfl .nil))) trivial (load_tr (w:=0) R.a0 hs hh) ?_
 rintro v1 L1 x1 ⟨t,s1,ht,h1,rfl,rfl,rfl⟩
 repeat (first | refine we_seq ?_ | (refine wR ?_;try simp only [oS]) | refine wo_nil ?_ | refine wM ?_ | refine wA ?_ | refine wN ?_ | refine wD ?_)
 refine wo_call (.cons rfl (.cons rfl (.cons rfl .nil))) trivial (load_tr (w:=1) R.a1 h1 .here) ?_
 rintro v1 L1 x1 ⟨p,s2,hp,h2,rfl,rfl,rfl⟩
 by_cases he:t=p
 ·rw [if_pos he] at h2
  repeat (first | refine we_seq ?_ | (refine wR ?_;try simp only [oS]) | refine wo_nil ?_ | refine wM ?_ | refine wA ?_ | (apply wo_po;apply mo_bin;exact rfl;exact rfl;exact bin_eql;exact gY) | refine wT ?_ | refine we_ret ?_)
  (first | refine or3 Try.func13 Try.results13 hQ rfl rfl rfl ?_ | refine on3 Try.func13 Try.results13 hQ rfl rfl rfl ?_)
  exact ⟨none,s2,h2,by decide,rfl,rfl,rfl⟩
 ·rw [if_neg he] at h2
  repeat (first | refine we_seq ?_ | (refine wR ?_;try simp only [oS]) | refine wo_nil ?_ | refine wM ?_ | refine wA ?_ | (apply wo_po;apply mo_bin;exact rfl;exact rfl;exact bin_eql;exact gY) | refine wF ?_ | refine we_skip ?_)
  refine wo_call (.cons rfl (.cons rfl .nil)) trivial (slot_tr R ht .here) ?_
  rintro v1 L1 x1 ⟨rfl,rfl,rfl⟩
  repeat (first | refine we_seq ?_ | (refine wR ?_;try simp only [oS]) | refine wo_nil ?_ | refine wM ?_ | refine wA ?_ | (apply wo_po;apply mo_extract;exact rfl;exact rfl;exact gY))
  have hmod:t%n<n:=Nat.mod_lt _ hpos
  refine wo_call (.cons rfl (.cons rfl (.cons rfl .nil))) trivial (load_tr (w:=2+t%n) (R.a2 _ hmod) h2 .here) ?_
  rintro v1 L1 x1 ⟨v,s3,hv,h3,rfl,rfl,rfl⟩
  have hadd:IntKind.u64.wrap ((t:Int)+1)=(((t+1)%18446744073709551616:Nat):Int):=by rw [wrap_u64_mod];omega
  repeat (first | (apply wo_po;apply mo_bin;exact rfl;exact rfl;apply bin_add;exact hadd;exact trivial) | refine we_seq ?_ | (refine wR ?_;try simp only [oS]) | refine wo_nil ?_ | refine wM ?_ | refine wA ?_ | refine wN ?_ | refine wD ?_)
  refine wo_call (.cons rfl (.cons rfl (.cons rfl (.cons rfl .nil)))) trivial (store_tr (w:=0) R.a0 (Nat.mod_lt _ (by decide)) h3 .here) ?_
  rintro v1 L1 x1 ⟨s4,h4,rfl,rfl,rfl⟩
  repeat (first | refine we_seq ?_ | (refine wR ?_;try simp only [oS]) | refine wo_nil ?_ | refine wM ?_ | refine wA ?_ | refine we_ret ?_)
  (first | refine or3 Try.func13 Try.results13 hQ rfl rfl rfl ?_ | refine on3 Try.func13 Try.results13 hQ rfl rfl rfl ?_)
  exact ⟨some v,s4,h4,hv,rfl,rfl,rfl⟩
def LenT (A:Acc B gv) (n:Nat) (s:A.S) (Q:Nat→A.S→Prop):Prop :=
 A.step 1 0 s fun s=>A.load 0 s fun t s=>A.step 1 1 s fun s=>A.load 1 s fun p s=>Q (min ((p+18446744073709551616-t)%18446744073709551616) n) s
theorem len_tr (R:RingAt A r b n k) {s:A.S} {Q:Nat→A.S→Prop} (hs:LenT A n s Q) (hh:Has L (A.C s) F) :
  Tr Try.prog B 14 [.pointer (some ⟨r,0,none⟩),gv] L (A.x s) fun v' L' x'=>∃ q s',Q q s'∧q≤n∧v'=.tuple #[.int .i64 (q:Nat),.int .i64 0]∧L'=A.C s'::F∧x'=A.x s':=by
 have hle:n≤1024:=by rw [R.hn];exact pow_le R.hk
 unfold LenT at hs
 refine tr_of_body Try.func14 rfl Try.ntmps14 (by simp) fun um Q _ hQ=>?_
 simp only [argE,Nat.zero_add,Nat.reduceAdd]
 repeat (first | refine we_seq ?_ | (refine wR ?_;try simp only [oS]) | refine wo_nil ?_ | refine wM ?_ | refine wA ?_)
 refine wo_call (.cons rfl .nil) trivial (there_tr R hh) ?_
 rintro v1 L1 x1 ⟨rfl,rfl,rfl⟩
 repeat (first | refine we_seq ?_ | (refine wR ?_;try simp only [oS]) | refine wo_nil ?_ | refine wM ?_ | refine wN ?_ | refine wD ?_ | (apply wo_po;apply mo_not;exact rfl;exact gY) | refine wF ?_ | refine we_skip ?_)
 refine wo_call (.cons rfl (.cons rfl (.cons rfl .nil))) trivial (load_tr (w:=0) R.a0 hs hh) ?_
 rintro v1 L1 x1 ⟨t,s1,ht,h1,rfl,rfl,rfl⟩
 repeat (first | refine we_seq ?_ | (refine wR ?_;try simp only [oS]) | refine wo_nil ?_ | refine wM ?_ | refine wA ?_ | refine wN ?_ | refine wD ?_)
 refine wo_call (.cons rfl (.cons rfl (.cons rfl .nil))) trivial (load_tr (w:=1) R.a1 h1 .here) ?_
 rintro v1 L1 x1 ⟨p,s2,hp,h2,rfl,rfl,rfl⟩
 have hr:=Rd.of (L:=A.C s2::F) .here (R.hdr s2)
 have hsub:IntKind.u64.wrap ((p:Int)-(t:Int))=(((p+18446744073709551616-t)%18446744073709551616:Nat):Int):=by rw [wrap_u64_mod];omega
 obtain ⟨d,hd⟩:∃ d,(p+18446744073709551616-t)%18446744073709551616=d:=⟨_,rfl⟩
 rw [hd] at hsub h2
 have hmin:(min (d:Int) (n:Int))=((min d n:Nat):Int):=by omega
 repeat (first | (apply wo_po;apply mo_bin;exact rfl;exact rfl;apply bin_sub;exact hsub;exact trivial) | (apply wo_po;apply mo_load;exact rfl;exact hr;exact trivial) | refine we_seq ?_ | (refine wR ?_;try simp only [oS]) | refine wo_nil ?_ | refine wM ?_ | refine wA ?_ | refine wN ?_ | refine wD ?_ | refine wE ?_ | (apply wo_po;apply mo_conv;exact rfl;(first | exact wrap_i64 (by omega) (by omega) | exact wrap_u64 (by omega) (by omega));exact gY) | (apply wo_po;apply mo_min;exact rfl;exact rfl;exact gY) | refine we_ret ?_)
 (first | refine or2 Try.func14 Try.results14 hQ rfl rfl ?_ | refine on2 Try.func14 Try.results14 hQ rfl rfl ?_)
 exact ⟨min d n,s2,h2,by omega,by rw [hmin],rfl,rfl⟩
end
section
variable {B:Hand} [Lets B] {L F:List HProp} {x:B.X}
theorem and_self_pow {m:Nat} (h1:1≤m) (h2:m≤1024):(m &&& (m-1)=0)↔∃ k,k≤10∧m=2^k:=by
 constructor
 ·intro h
  have key:∀ m∈List.range 1025,m &&& (m-1)=0→m=0∨∃ k∈List.range 11,m=2^k:=by decide +kernel
  rcases key m (by simp;omega) h with h0 | ⟨k,hk,h0⟩
  ·omega
  ·exact ⟨k,by simp at hk;omega,h0⟩
 ·rintro ⟨k,hk,rfl⟩
  have key:∀ k∈List.range 11,(2^k) &&& (2^k-1)=0:=by decide +kernel
  exact key k (by simp;omega)
theorem new_tr {n k:Nat} (hn:n=2^k) (hk:k≤10) :
  Tr Try.prog B 10 [.int .i64 n] L x fun v L' x'=>∃ r b,v=.tuple #[.pointer (some ⟨r,0,none⟩),.int .i64 0]∧L'=arr r 0 [.int .u64 0,.int .u64 0,.slice (some ⟨b,0,none⟩) n n]::arr b 0 (zeros n [.int .u64 0])::L∧x'=x:=by
 have hle:n≤1024:=by rw [hn];exact pow_le hk
 have hpos:0<n:=by rw [hn];exact Nat.two_pow_pos k
 have hand:IntKind.i64.wrap (BitVec.ofInt IntKind.i64.bits (n:Int) &&& BitVec.ofInt IntKind.i64.bits ((n:Int)-1)).toNat=0:=by
  have e1:((n:Int)-1)=((n-1:Nat):Int):=by omega
  rw [e1,and_i64 (by omega) (by omega),(and_self_pow hpos hle).2 ⟨k,hk,hn⟩];rfl
 refine tr_of_body Try.func10 rfl Try.ntmps10 (by simp) fun um Q _ hQ=>?_
 simp only [argE,Nat.zero_add,Nat.reduceAdd]
 repeat (first | (apply wo_po;apply mo_bin;exact rfl;exact rfl;apply bin_and;exact hand;exact gY) | (apply wo_mo;apply mo_make;exact rfl;exact rfl;exact rfl;omega;omega;exact trivial) | refine wlssF ?_ | refine wgtrF ?_ | refine wneqF ?_ | refine we_seq ?_ | (refine wR ?_;try simp only [oS]) | refine wo_nil ?_ | refine wM ?_ | refine wA ?_ | refine wJ ?_ | refine wsub ?_ | refine wF ?_ | refine we_skip ?_)
 rintro v' L' ⟨b,rfl,rfl⟩
 repeat (first | (apply wo_po;apply mo_build (pv:=[(2,_)]);exact rfl;exact .cons rfl .nil;exact rfl;exact trivial) | (apply wo_mo;apply mo_box;exact rfl;exact trivial))
 rintro v' L' ⟨r,rfl,rfl⟩
 repeat (first | refine wo_nil ?_ | refine wA ?_ | refine we_ret ?_)
 (first | refine or2 Try.func10 Try.results10 hQ rfl rfl ?_ | refine on2 Try.func10 Try.results10 hQ rfl rfl ?_)
 exact ⟨r,b,rfl,rfl,rfl⟩
end
end
end Go.Proofs.Ytdcbnbmahndecaa
namespace Go.Proofs.Ytdcbnbmahndecaa
open Go Go.PB
attribute [local irreducible] Mo Bin Eql Tr Wo
section
variable {B:Hand} [Lets B]
def loneAcc (x:B.X) (addr:Nat→Nat × Nat) (N:Nat) (K:List (Nat × Nat × Value)) (A:Apart addr N K):Acc B .nilIface where
 S:=Nat→Nat
 C:=wds addr N K
 x:=fun _=>x
 step:=fun _ _ s R=>R s
 addr:=addr
 load:=fun w s R=>w<N∧R (s w) s
 store:=fun w n s R=>w<N∧R (upd s w n)
 cas:=fun w a n s R=>w<N∧if s w=a then R true (upd s w n) else R false s
 add:=fun w n s R=>w<N∧R ((s w+n)%18446744073709551616) (upd s w ((s w+n)%18446744073709551616))
 swap:=fun w n s R=>w<N∧R (s w) (upd s w n)
 gate:=.inl ⟨rfl,fun _ _ _ _ h=>h⟩
 load_ok:=fun w s R L F b o ha hl hh=>tr_pure (of_has hh fun h hc=>(hc.1 w hl.1).1) fun hs =>
  (load_lone (rd_wds hh hl.1 ha)).post fun v L' x' ⟨h1,h2,h3⟩=>⟨_,⟨s w,s,hs,hl.2,h1,rfl,h3⟩,fun h st=>hh.star (h2▸st)⟩
 store_ok:=fun w n s R L F b o ha hn hl hh =>
  (store_lone (wt_wds A hh hl.1 ha hn)).mono fun v L' x' ⟨h1,h2,h3⟩=>⟨upd s w n,hl.2,h1,h2,h3⟩
 cas_ok:=fun w m n s R L F b o ha hn hl hh =>
  (cas_lone (rd_wds hh hl.1 ha) (wt_wds A hh hl.1 ha hn)).post fun v L' x' ⟨h1,h2,h3⟩=>by
   obtain ⟨h4,h5⟩:=hl
   by_cases e:s w=m
   ·rw [if_pos e] at h5;rw [if_pos (by omega)] at h2;exact ⟨_,⟨true,_,h5,by rw [h1];simp [e],rfl,h3⟩,fun h st=>h2▸st⟩
   ·rw [if_neg e] at h5;rw [if_neg (by omega)] at h2;exact ⟨_,⟨false,_,h5,by rw [h1];simp;omega,rfl,h3⟩,fun h st=>hh.star (h2▸st)⟩
 add_ok:=fun w n s R L F b o ha hn hl hh =>
  (add_lone (r:=((s w+n)%18446744073709551616:Nat)) (rd_wds hh hl.1 ha) (by rw [wrap_u64_mod];omega) (wt_wds A hh hl.1 ha (Nat.mod_lt _ (by decide)))).mono fun v L' x' ⟨h1,h2,h3⟩=>⟨_,_,Nat.mod_lt _ (by decide),hl.2,h1,h2,h3⟩
end
section
variable {B:Hand} [Lets B] {L:List HProp} {x:B.X}
theorem tmod_emod {n k:Int} (hk:0<k):(n.tmod k<0→n.tmod k+k=n%k)∧(¬ n.tmod k<0→n.tmod k=n%k):=by
 have h1:=Int.emod_nonneg n (by omega:k≠0)
 have h2:=Int.emod_lt_of_pos n hk
 have h3:n.tmod k=n%k-((if 0≤n∨k ∣ n then 0 else k.natAbs:Nat):Int):=Int.tmod_eq_emod
 have h4:=Int.tmod_lt_of_pos n hk
 split at h3
 ·constructor <;> intro h5 <;> omega
 ·rename_i hn
  have h6:n%k≠0:=fun h=>hn (.inr (Int.dvd_of_emod_eq_zero h))
  constructor <;> intro h5 <;> omega
theorem within_tr {n k:Int} (hn:-9223372036854775808≤n∧n≤9223372036854775807) (hk:0<k∧k≤1000000) :
  Tr Try.prog B 11 [.int .i64 n,.int .i64 k] L x fun v L' x'=>v=.int .i64 (n%k)∧L'=L∧x'=x:=by
 have ht:=tmod_emod (n:=n) hk.1
 have h1:=Int.emod_nonneg n (by omega:k≠0)
 have h2:=Int.emod_lt_of_pos n hk.1
 have hlt:=Int.tmod_lt_of_pos n hk.1
 obtain ⟨m,hm⟩:∃ m,n%k=m:=⟨_,rfl⟩
 obtain ⟨t,hte⟩:∃ t,n.tmod k=t:=⟨_,rfl⟩
 rw [hm] at ht h1 h2
 rw [hte] at ht hlt
 rw [hm]
 by_cases hneg:t<0
 ·have e:=ht.1 hneg
  refine tr_of_body Try.func11 rfl Try.ntmps11 (by simp) fun um Q _ hQ=>?_
  simp only [argE,Nat.zero_add,Nat.reduceAdd]
  repeat (first | (apply wo_po;apply mo_bin;exact rfl;exact rfl;apply bin_rem;omega;exact hte;exact trivial) | refine wlssT ?_ | refine we_seq ?_ | (refine wR ?_;try simp only [oS]) | refine wo_nil ?_ | refine wM ?_ | refine wA ?_ | refine wadd ?_ | refine wT ?_ | refine we_ret ?_)
  (first | refine or1 Try.func11 Try.results11 hQ rfl ?_ | refine on1 Try.func11 Try.results11 hQ rfl ?_)
  exact ⟨by rw [e],rfl,rfl⟩
 ·have e:=ht.2 hneg
  refine tr_of_body Try.func11 rfl Try.ntmps11 (by simp) fun um Q _ hQ=>?_
  simp only [argE,Nat.zero_add,Nat.reduceAdd]
  repeat (first | (apply wo_po;apply mo_bin;exact rfl;exact rfl;apply bin_rem;omega;exact hte;exact trivial) | refine wlssF ?_ | refine we_seq ?_ | (refine wR ?_;try simp only [oS]) | refine wo_nil ?_ | refine wM ?_ | refine wA ?_ | refine wF ?_ | refine we_ret ?_ | refine we_skip ?_)
  (first | refine or1 Try.func11 Try.results11 hQ rfl ?_ | refine on1 Try.func11 Try.results11 hQ rfl ?_)
  exact ⟨by rw [e],rfl,rfl⟩
end
end Go.Proofs.Ytdcbnbmahndecaa
namespace Go.Proofs.Ytdcbnbmahndecaa
open Go Go.PB
attribute [local irreducible] Mo Bin Eql Tr Wo Ap
section
section
variable {B:Hand} [Lets B] {L:List HProp} {x:B.X}
theorem width_tr {n:Int} (hn:-9223372036854775808≤n∧n≤9223372036854775807) :
  Tr Try.prog B 9 [.int .i64 n] L x fun v L' x'=>∃ k:Nat,k≤3∧v=.int .i64 ((2^k:Nat):Int)∧L'=L∧x'=x:=by
 have h1:=Int.emod_nonneg n (by omega:(4:Int)≠0)
 have h2:=Int.emod_lt_of_pos n (by omega:(0:Int)<4)
 refine tr_of_body Try.func9 rfl Try.ntmps9 (by simp) fun um Q _ hQ=>?_
 simp only [argE,Nat.zero_add,Nat.reduceAdd]
 repeat (first | refine we_seq ?_ | (refine wR ?_;try simp only [oS]) | refine wo_nil ?_ | refine wM ?_ | refine wA ?_)
 refine wo_call (.cons rfl (.cons rfl .nil)) trivial (within_tr hn (by omega)) ?_
 rintro v L' x' ⟨rfl,rfl,rfl⟩
 obtain ⟨k,hk⟩:∃ k:Nat,n%4=k:=⟨(n%4).toNat,by omega⟩
 rw [hk]
 have hk3:k≤3:=by omega
 have hw:IntKind.i64.wrap (1*2^(min (k:Int).toNat IntKind.i64.bits))=((2^k:Nat):Int):=by
  have:k=0∨k=1∨k=2∨k=3:=by omega
  rcases this with rfl | rfl | rfl | rfl <;> rfl
 repeat (first | (apply wo_po;apply mo_bin;exact rfl;exact rfl;apply bin_shl;omega;exact hw;exact gY) | refine wo_nil ?_ | refine wA ?_ | refine we_ret ?_)
 (first | refine or1 Try.func9 Try.results9 hQ rfl ?_ | refine on1 Try.func9 Try.results9 hQ rfl ?_)
 exact ⟨k,hk3,rfl,rfl,rfl⟩
end
def ringAddr (r b:Nat):Nat→Nat × Nat
 | 0=>(r,0)
 | 1=>(r,1)
 | i+2=>(b,i)
theorem ring_apart {r b n:Nat} (h:r≠b) (c:Nat):Apart (ringAddr r b) (n+2) [(r,2,.slice (some ⟨b,0,none⟩) c c)] where
 inj:=by
  rintro (_ | _ | i) (_ | _ | j) _ _ <;> simp [ringAddr] <;> omega
 fix:=by
  rintro (_ | _ | i) _ k hk <;> simp only [List.mem_singleton] at hk <;> subst hk <;> simp [ringAddr] <;> omega
theorem ring_wds {r b n:Nat} {L:List HProp} {h:Hp} (s:Star (arr r 0 [.int .u64 0,.int .u64 0,.slice (some ⟨b,0,none⟩) n n]::arr b 0 (zeros n [.int .u64 0])::L) h) :
  Star (wds (ringAddr r b) (n+2) [(r,2,.slice (some ⟨b,0,none⟩) n n)] (fun _=>0)::L) h:=by
 have s':=star_shut (M:=[_,_]) s
 refine star_map s' (fun h hh=>?_) (fun _ x=>x)
 obtain ⟨h1,h2,s1,ha,h3,h4,s2,hb,_⟩:=hh
 refine ⟨fun w hw=>⟨by show 0<18446744073709551616;decide,?_⟩,fun k hk=>?_⟩
 ·match w with
  | 0=>exact s1.o1 _ _ _ (ha 0 _ rfl)
  | 1=>exact s1.o1 _ _ _ (ha 1 _ rfl)
  | i+2 =>
   have:=hb i (.int .u64 0) (zeros_one (by omega))
   simp only [ringAddr]
   rw [Nat.zero_add] at this
   exact s1.o2 _ _ _ (s2.o1 _ _ _ this)
 ·simp only [List.mem_singleton] at hk
  subst hk
  exact s1.o1 _ _ _ (ha 2 _ rfl)
def ringAcc {B:Hand} [Lets B] (x:B.X) (r b n:Nat) (h:r≠b):Acc B .nilIface:=loneAcc x (ringAddr r b) (n+2) _ (ring_apart h n)
theorem ring_at {B:Hand} [Lets B] {x:B.X} {r b n k:Nat} (h:r≠b) (hn:n=2^k) (hk:k≤10):RingAt (ringAcc x r b n h) r b n k where
 hn:=hn
 hk:=hk
 hdr:=fun s h hs=>by
  obtain ⟨h1,h2,s1,hc,_⟩:=hs
  exact ⟨rfl,.inl (s1.o1 _ _ _ (hc.2 (r,2,.slice (some ⟨b,0,none⟩) n n) (List.mem_singleton.2 rfl)))⟩
 a0:=rfl
 a1:=rfl
 a2:=fun i _=>by show ringAddr r b (2+i)=_;rw [Nat.add_comm];rfl
structure RowAt (n:Nat) (s:Nat→Nat) (row:List Nat):Prop where
 len:row.length≤n
 put:s 1=(s 0+row.length)%18446744073709551616
 t:s 0<18446744073709551616
 slots:∀ i v,row[i]?=some v→s (2+(s 0+i)%n)=v
theorem mod_pow {n k a:Nat} (hn:n=2^k) (hk:k≤10):a%18446744073709551616%n=a%n:=by
 refine Nat.mod_mod_of_dvd a ?_
 rw [hn,show 18446744073709551616=2^64 from rfl]
 exact Nat.pow_dvd_pow 2 (by omega)
theorem put_row {B:Hand} [Lets B] {x:B.X} {r b n k v:Nat} {h:r≠b} (hn:n=2^k) (hk:k≤10) {s:Nat→Nat} {row:List Nat} (R:RowAt n s row) :
  PutT (ringAcc x r b n h) n v s fun q s'=>q=decide (row.length<n)∧RowAt n s' (if row.length<n then row++[v] else row):=by
 have hle:n≤1024:=by rw [hn];exact pow_le hk
 have hpos:0<n:=by rw [hn];exact Nat.two_pow_pos k
 obtain ⟨h1,h2,h3,h4⟩:=R
 have hd:(s 1+18446744073709551616-s 0)%18446744073709551616=row.length:=by rw [h2];omega
 have hm:s 1%n=(s 0+row.length)%n:=by rw [h2,mod_pow hn hk]
 have hmod:s 1%n<n:=Nat.mod_lt _ hpos
 refine ⟨by omega,by omega,?_⟩
 show if n≤(s 1+18446744073709551616-s 0)%18446744073709551616 then _ else _
 rw [hd]
 by_cases hf:n≤row.length
 ·rw [if_pos hf,if_neg (by omega)]
  exact ⟨by simp;omega,h1,h2,h3,h4⟩
 ·rw [if_neg hf,if_pos (by omega)]
  refine ⟨by omega,by omega,by simp;omega,?_⟩
  have e0:upd (upd s (2+s 1%n) v) 1 ((s 1+1)%18446744073709551616) 0=s 0:=by rw [upd_other (by omega),upd_other (by omega)]
  refine ⟨by simp;omega,?_,?_,?_⟩
  ·rw [e0,upd_same]
   simp only [List.length_append,List.length_cons,List.length_nil]
   omega
  ·rw [e0];exact h3
  ·intro i u hi
   rw [e0,upd_other (by omega)]
   by_cases e:i=row.length
   ·subst e
    rw [hm,upd_same]
    simpa using hi
   ·have hi':i<row.length:=by
     have:=(List.getElem?_eq_some_iff.1 hi).1
     simp at this;omega
    rw [List.getElem?_append_left hi'] at hi
    rw [upd_other,h4 i u hi]
    rw [hm]
    intro hx
    have hx:(s 0+i)%n=(s 0+row.length)%n:=by omega
    have hd:=Nat.sub_mod_eq_zero_of_mod_eq hx.symm
    rw [Nat.mod_eq_of_lt (by omega)] at hd
    omega
theorem take_row {B:Hand} [Lets B] {x:B.X} {r b n k:Nat} {h:r≠b} (hn:n=2^k) (hk:k≤10) {s:Nat→Nat} {row:List Nat} (R:RowAt n s row) :
  TakeT (ringAcc x r b n h) n s fun q s'=>q=row.head?∧RowAt n s' row.tail:=by
 have hle:n≤1024:=by rw [hn];exact pow_le hk
 have hpos:0<n:=by rw [hn];exact Nat.two_pow_pos k
 obtain ⟨h1,h2,h3,h4⟩:=R
 have hmod:s 0%n<n:=Nat.mod_lt _ hpos
 refine ⟨by omega,by omega,?_⟩
 show if s 0=s 1 then _ else _
 cases row with
 | nil =>
  rw [if_pos (by rw [h2];simp;omega)]
  exact ⟨rfl,h1,h2,h3,h4⟩
 | cons v row =>
  simp only [List.length_cons] at h1 h2
  rw [if_neg (by omega)]
  refine ⟨by omega,by omega,?_,?_⟩
  ·have:=h4 0 v rfl
   rw [Nat.add_zero] at this
   rw [this];rfl
  ·refine ⟨by simp;omega,?_,?_,?_⟩
   ·show s 1=((s 0+1)%18446744073709551616+_)%_
    simp only [List.tail_cons];omega
   ·exact Nat.mod_lt _ (by decide)
   ·intro i u hi
    show upd s 0 _ (2+((s 0+1)%18446744073709551616+i)%n)=u
    rw [upd_other (by omega)]
    have:=h4 (i+1) u hi
    rw [← this,← mod_pow (a:=s 0+(i+1)) hn hk,← mod_pow (a:=(s 0+1)%18446744073709551616+i) hn hk]
    congr 3
    omega
theorem len_row {B:Hand} [Lets B] {x:B.X} {r b n:Nat} {h:r≠b} {s:Nat→Nat} {row:List Nat} (R:RowAt n s row) (hn:n≤1024) :
  LenT (ringAcc x r b n h) n s fun q s'=>q=row.length∧s'=s:=by
 obtain ⟨h1,h2,h3,h4⟩:=R
 refine ⟨by omega,by omega,?_,rfl⟩
 have hd:(s 1+18446744073709551616-s 0)%18446744073709551616=row.length:=by rw [h2];omega
 rw [hd];omega
theorem new_lone {B:Hand} [Lets B] {x:B.X} {n k:Nat} {L:List HProp} (hn:n=2^k) (hk:k≤10) :
  Tr Try.prog B 10 [.int .i64 n] L x fun v L' x'=>∃ r b,∃ h:r≠b,∃ s,v=.tuple #[.pointer (some ⟨r,0,none⟩),.int .i64 0]∧RowAt n s []∧L'=(ringAcc x r b n h).C s::L∧x'=x:=by
 have hpos:0<n:=by rw [hn];exact Nat.two_pow_pos k
 refine (new_tr hn hk).post2 ?_
 rintro v L' x' h ⟨r,b,rfl,rfl,rfl⟩ st
 have hne:r≠b:=by
  obtain ⟨vs,e⟩:=zeros_pos (v:=.int .u64 0) hpos
  rw [e] at st
  exact star_ne st
 exact ⟨_,⟨r,b,hne,fun _=>0,rfl,⟨by simp,rfl,by decide,fun i v hi=>by simp at hi⟩,rfl,rfl⟩,ring_wds st⟩
end
end Go.Proofs.Ytdcbnbmahndecaa
namespace Go.Proofs.Ytdcbnbmahndecaa
open Go Go.PB
section
inductive RtP where
 | a
 | b (p:Nat)
 | c (p:Nat)
 | d (p:Nat)
inductive RtT where
 | a
 | b (t:Nat)
 | c (t:Nat)
 | d (t v:Nat)
 | e
 | f (t:Nat)
inductive RtQ where
 | P (m nx:Nat) (st:RtP)
 | T (m:Nat) (tk:List Nat) (st:RtT)
def rtPlan (n:Nat):RtQ→Option ((Int × Int) × ((Nat→Nat)→(Nat→Nat) × RtQ))
 | .P 0 _ _=>none
 | .P (m+1) nx .a=>some ((((1:Nat):Int),((1:Nat):Int)),fun s=>(s,.P (m+1) nx (.b (s 1))))
 | .P (m+1) nx (.b p)=>some ((((1:Nat):Int),((0:Nat):Int)),fun s=>(s,if n≤(p+18446744073709551616-s 0)%18446744073709551616 then .P m nx .a else .P (m+1) nx (.c p)))
 | .P (m+1) nx (.c p)=>some ((((2:Nat):Int),((2+p%n:Nat):Int)),fun s=>(upd s (2+p%n) nx,.P (m+1) nx (.d p)))
 | .P (m+1) nx (.d p)=>some ((((2:Nat):Int),((1:Nat):Int)),fun s=>(upd s 1 ((p+1)%18446744073709551616),.P m (nx+1) .a))
 | .T 0 _ _=>none
 | .T (m+1) tk .a=>some ((((1:Nat):Int),((0:Nat):Int)),fun s=>(s,.T (m+1) tk (.b (s 0))))
 | .T (m+1) tk (.b t)=>some ((((1:Nat):Int),((1:Nat):Int)),fun s=>(s,if t=s 1 then .T (m+1) tk .e else .T (m+1) tk (.c t)))
 | .T (m+1) tk (.c t)=>some ((((1:Nat):Int),((2+t%n:Nat):Int)),fun s=>(s,.T (m+1) tk (.d t (s (2+t%n)))))
 | .T (m+1) tk (.d t v)=>some ((((2:Nat):Int),((0:Nat):Int)),fun s=>(upd s 0 ((t+1)%18446744073709551616),.T (m+1) (tk++[v]) .e))
 | .T (m+1) tk .e=>some ((((1:Nat):Int),((0:Nat):Int)),fun s=>(s,.T (m+1) tk (.f (s 0))))
 | .T (m+1) tk (.f t)=>some ((((1:Nat):Int),((1:Nat):Int)),fun s=>(s,.T m tk .a))
def RtOkP (n:Nat) (s:Nat→Nat) (nx:Nat):RtP→Prop
 | .a=>True
 | .b p=>p=s 1
 | .c p=>p=s 1∧p<s 0+n
 | .d p=>p=s 1∧p<s 0+n∧s (2+p%n)=nx
def RtOkT (s:Nat→Nat) (tk:List Nat):RtT→Prop
 | .b t=>t=s 0
 | .c t=>t=s 0∧t<s 1
 | .d t v=>t=s 0∧t<s 1∧v=t+1
 | _=>True
structure RtW (n Bd:Nat) (s:Nat→Nat) (nx:Nat) (tk:List Nat):Prop where
 p:s 1+1=nx
 t:s 0=tk.length
 le:s 0≤s 1
 room:s 1≤s 0+n
 slots:∀ i,s 0≤i→i<s 1→s (2+i%n)=i+1
 tk:∀ (i:Nat) v,tk[i]?=some v→v=i+1
def RtI (n Bd:Nat) (s:Nat→Nat) (qs:List RtQ):Prop:=∃ m nx st m' tk st',qs=[.P m nx st,.T m' tk st']∧RtW n Bd s nx tk∧RtOkP n s nx st∧RtOkT s tk st'∧nx+m≤Bd+1∧tk.length≤Bd
def rtφ:RtQ→Nat
 | .P m _ st=>4*m-match st with | .a=>0 | .b _=>1 | .c _=>2 | .d _=>3
 | .T m _ st=>6*m-match st with | .a=>0 | .b _=>1 | .c _=>2 | .d _ _=>3 | .e=>4 | .f _=>5
section
variable {n Bd:Nat} {s:Nat→Nat} {qs:List RtQ}
theorem rt_mod {n i p:Nat} (h:i%n=p%n) (h1:i≤p) (h2:p<i+n):p=i:=by
 have hn:0<n:=by omega
 have e1:=Nat.div_add_mod i n
 have e2:=Nat.div_add_mod p n
 have:p/n=i/n:=by
  rcases Nat.lt_trichotomy (p/n) (i/n) with hl | he | hl
  ·have:=Nat.mul_le_mul_left n (show p/n+1≤i/n from hl);rw [Nat.mul_add] at this;omega
  ·exact he
  ·have:=Nat.mul_le_mul_left n (show i/n+1≤p/n from hl);rw [Nat.mul_add] at this;omega
 rw [this] at e2;omega
set_option maxHeartbeats 1000000 in
theorem rt_step (hn:1≤n) (hn2:n≤1024) (hB:Bd<4611686018427387904) (I:RtI n Bd s qs) {k:Nat} {q:RtQ} (hq:qs[k]?=some q) {mk:Int × Int} {F:(Nat→Nat)→(Nat→Nat) × RtQ} (hp:rtPlan n q=some (mk,F)) :
  RtI n Bd (F s).1 (qs.set k (F s).2)∧sumN ((qs.set k (F s).2).map rtφ)+1≤sumN (qs.map rtφ):=by
 obtain ⟨m,nx,st,m',tk,st',rfl,W,hP,hT,b1,b2⟩:=I
 obtain ⟨w1,w2,w3,w4,w5,w6⟩:=W
 match k,hq with
 | 0,hq =>
  cases hq
  cases m with
  | zero=>cases hp
  | succ m =>
   have sum:∀ {q':RtQ},rtφ q'+1≤rtφ (.P (m+1) nx st)→sumN (([RtQ.P (m+1) nx st,RtQ.T m' tk st'].set 0 q').map rtφ)+1≤sumN ([RtQ.P (m+1) nx st,RtQ.T m' tk st'].map rtφ):=fun {q'} h=>by
    simp only [List.set_cons_zero,List.map_cons,List.map_nil,sumN,List.foldr_cons,List.foldr_nil];omega
   cases st with
   | a =>
    cases hp
    exact ⟨⟨m+1,nx,.b (s 1),m',tk,st',rfl,⟨w1,w2,w3,w4,w5,w6⟩,rfl,hT,b1,b2⟩,sum (by simp only [rtφ];omega)⟩
   | b p =>
    cases hp
    replace hP:p=s 1:=hP
    subst hP
    by_cases c:n≤(s 1+18446744073709551616-s 0)%18446744073709551616
    ·simp only [if_pos c]
     exact ⟨⟨m,nx,.a,m',tk,st',rfl,⟨w1,w2,w3,w4,w5,w6⟩,trivial,hT,by omega,b2⟩,sum (by simp only [rtφ];omega)⟩
    ·simp only [if_neg c]
     exact ⟨⟨m+1,nx,.c (s 1),m',tk,st',rfl,⟨w1,w2,w3,w4,w5,w6⟩,⟨rfl,by omega⟩,hT,b1,b2⟩,sum (by simp only [rtφ];omega)⟩
   | c p =>
    cases hp
    obtain ⟨rfl,h2⟩:=hP
    have hu:∀ i,s 0≤i→i<s 1→upd s (2+s 1%n) nx (2+i%n)=s (2+i%n):=fun i h3 h4=>upd_other fun e=>by
     have:=rt_mod (n:=n) (i:=i) (p:=s 1) (by omega) (by omega) (by omega)
     omega
    have u0:upd s (2+s 1%n) nx 0=s 0:=upd_other (by omega)
    have u1:upd s (2+s 1%n) nx 1=s 1:=upd_other (by omega)
    dsimp only
    refine ⟨⟨m+1,nx,.d (s 1),m',tk,st',rfl,⟨by rw [u1];exact w1,by rw [u0];exact w2,by rw [u0,u1];exact w3,by rw [u0,u1];exact w4,fun i h3 h4=>?_,w6⟩,⟨u1.symm,by rw [u0];exact h2,upd_same⟩,?_,b1,b2⟩,sum (by simp only [rtφ];omega)⟩
    ·rw [u0] at h3;rw [u1] at h4
     rw [hu i h3 h4];exact w5 i h3 h4
    ·cases st' with
     | a=>trivial
     | b t=>exact (show t=s 0 from hT).trans u0.symm
     | c t=>exact ⟨hT.1.trans u0.symm,by rw [u1];exact hT.2⟩
     | d t v=>exact ⟨hT.1.trans u0.symm,by rw [u1];exact hT.2.1,hT.2.2⟩
     | e=>trivial
     | f t=>trivial
   | d p =>
    cases hp
    obtain ⟨rfl,h2,h3⟩:=hP
    have hm:(s 1+1)%18446744073709551616=s 1+1:=Nat.mod_eq_of_lt (by omega)
    have u0:upd s 1 ((s 1+1)%18446744073709551616) 0=s 0:=upd_other (by omega)
    have u1:upd s 1 ((s 1+1)%18446744073709551616) 1=s 1+1:=by rw [upd_same,hm]
    have ui:∀ i,upd s 1 ((s 1+1)%18446744073709551616) (2+i)=s (2+i):=fun i=>upd_other (by omega)
    dsimp only
    refine ⟨⟨m,nx+1,.a,m',tk,st',rfl,⟨by rw [u1];omega,by rw [u0];exact w2,by rw [u0,u1];omega,by rw [u0,u1];omega,fun i h4 h5=>?_,w6⟩,trivial,?_,by omega,b2⟩,sum (by simp only [rtφ];omega)⟩
    ·rw [u0] at h4;rw [u1] at h5
     rw [ui]
     by_cases e:i=s 1
     ·subst e;rw [h3];omega
     ·exact w5 i h4 (by omega)
    ·cases st' with
     | a=>trivial
     | b t=>exact (show t=s 0 from hT).trans u0.symm
     | c t=>exact ⟨hT.1.trans u0.symm,by rw [u1];have:=hT.2;omega⟩
     | d t v=>exact ⟨hT.1.trans u0.symm,by rw [u1];have:=hT.2.1;omega,hT.2.2⟩
     | e=>trivial
     | f t=>trivial
 | 1,hq =>
  cases hq
  cases m' with
  | zero=>cases hp
  | succ m' =>
   have sum:∀ {q':RtQ},rtφ q'+1≤rtφ (.T (m'+1) tk st')→sumN (([RtQ.P m nx st,RtQ.T (m'+1) tk st'].set 1 q').map rtφ)+1≤sumN ([RtQ.P m nx st,RtQ.T (m'+1) tk st'].map rtφ):=fun {q'} h=>by
    simp only [List.set_cons_succ,List.set_cons_zero,List.map_cons,List.map_nil,sumN,List.foldr_cons,List.foldr_nil];omega
   cases st' with
   | a =>
    cases hp
    exact ⟨⟨m,nx,st,m'+1,tk,.b (s 0),rfl,⟨w1,w2,w3,w4,w5,w6⟩,hP,rfl,b1,b2⟩,sum (by simp only [rtφ];omega)⟩
   | b t =>
    cases hp
    replace hT:t=s 0:=hT
    subst hT
    by_cases c:s 0=s 1
    ·simp only [if_pos c]
     exact ⟨⟨m,nx,st,m'+1,tk,.e,rfl,⟨w1,w2,w3,w4,w5,w6⟩,hP,trivial,b1,b2⟩,sum (by simp only [rtφ];omega)⟩
    ·simp only [if_neg c]
     exact ⟨⟨m,nx,st,m'+1,tk,.c (s 0),rfl,⟨w1,w2,w3,w4,w5,w6⟩,hP,⟨rfl,by omega⟩,b1,b2⟩,sum (by simp only [rtφ];omega)⟩
   | c t =>
    cases hp
    obtain ⟨rfl,h2⟩:=hT
    exact ⟨⟨m,nx,st,m'+1,tk,.d (s 0) (s (2+s 0%n)),rfl,⟨w1,w2,w3,w4,w5,w6⟩,hP,⟨rfl,h2,w5 _ (Nat.le_refl _) h2⟩,b1,b2⟩,sum (by simp only [rtφ];omega)⟩
   | d t v =>
    cases hp
    obtain ⟨rfl,h2,rfl⟩:=hT
    have hm:(s 0+1)%18446744073709551616=s 0+1:=Nat.mod_eq_of_lt (by omega)
    have u0:upd s 0 ((s 0+1)%18446744073709551616) 0=s 0+1:=by rw [upd_same,hm]
    have u1:upd s 0 ((s 0+1)%18446744073709551616) 1=s 1:=upd_other (by omega)
    have ui:∀ i,upd s 0 ((s 0+1)%18446744073709551616) (2+i)=s (2+i):=fun i=>upd_other (by omega)
    dsimp only
    refine ⟨⟨m,nx,st,m'+1,tk++[s 0+1],.e,rfl,⟨by rw [u1];exact w1,by rw [u0];simp;omega,by rw [u0,u1];omega,by rw [u0,u1];omega,fun i h4 h5=>?_,fun i v hv=>?_⟩,?_,trivial,b1,by simp;omega⟩,sum (by simp only [rtφ];omega)⟩
    ·rw [u0] at h4;rw [u1] at h5
     rw [ui];exact w5 i (by omega) h5
    ·by_cases e:i<tk.length
     ·rw [List.getElem?_append_left e] at hv;exact w6 i v hv
     ·rw [List.getElem?_append_right (by omega)] at hv
      have hl:=(List.getElem?_eq_some_iff.1 hv).1
      simp at hl
      have:i-tk.length=0:=by omega
      rw [this] at hv
      simp at hv
      omega
    ·cases st with
     | a=>trivial
     | b p=>exact (show p=s 1 from hP).trans u1.symm
     | c p=>exact ⟨hP.1.trans u1.symm,by rw [u0];have:=hP.2;omega⟩
     | d p=>exact ⟨hP.1.trans u1.symm,by rw [u0];have:=hP.2.1;omega,by rw [ui];exact hP.2.2⟩
   | e =>
    cases hp
    exact ⟨⟨m,nx,st,m'+1,tk,.f (s 0),rfl,⟨w1,w2,w3,w4,w5,w6⟩,hP,trivial,b1,b2⟩,sum (by simp only [rtφ];omega)⟩
   | f t =>
    cases hp
    exact ⟨⟨m,nx,st,m',tk,.a,rfl,⟨w1,w2,w3,w4,w5,w6⟩,hP,trivial,b1,b2⟩,sum (by simp only [rtφ];omega)⟩
 | k+2,hq=>simp at hq
theorem RtW.row {nx:Nat} {tk:List Nat} (hB:Bd<4611686018427387904) (W:RtW n Bd s nx tk) (h:tk.length≤Bd) (hn2:n≤1024):RowAt n s ((List.range' tk.length (nx-1-tk.length)).map (·+1))∧tk=(List.range' 0 tk.length).map (·+1)∧tk.length+1≤nx:=by
 obtain ⟨w1,w2,w3,w4,w5,w6⟩:=W
 refine ⟨⟨by simp;omega,by simp;omega,by omega,fun i v hi=>?_⟩,?_,by omega⟩
 ·rw [List.getElem?_map] at hi
  obtain ⟨j,hj,rfl⟩:=Option.map_eq_some_iff.1 hi
  have hl:=(List.getElem?_eq_some_iff.1 hj).1
  rw [List.length_range'] at hl
  rw [List.getElem?_range' hl] at hj
  cases hj
  rw [w2] at w5 ⊢
  rw [Nat.one_mul]
  exact w5 _ (by omega) (by omega)
 ·apply List.ext_getElem?
  intro i
  rw [List.getElem?_map]
  by_cases hi:i<tk.length
  ·rw [List.getElem?_range' hi,List.getElem?_eq_getElem hi,w6 i _ (List.getElem?_eq_getElem hi)]
   simp
  ·rw [List.getElem?_eq_none (by omega),List.getElem?_eq_none (by simp;omega)];rfl
end
end
end Go.Proofs.Ytdcbnbmahndecaa
namespace Go.PB.Mach
section
structure In where
 op:Nat
 on:Nat:=0
 a:Nat:=0
 b:Nat:=0
 c:Nat:=0
 d:Nat:=0
 n:Nat:=0
structure Cl where
 code:List In
 data:List Nat:=[]
structure Wd where
 words:List (List Nat)
 nl:Nat
structure Th where
 calls:List Cl
 call:Nat:=0
 pc:Nat:=0
 r:Nat→Nat:=fun _=>0
 ans:List (Bool × List Nat):=[]
 over:Bool:=false
def fin:In:={ op:=23 }
def Th.cl (t:Th):Cl:=t.calls.getD t.call { code:=[] }
def Th.next (t:Th):In:=t.cl.code.getD t.pc fin
def Th.put (t:Th) (i v:Nat):Th:={ t with r:=upd t.r i (v%18446744073709551616) }
def Th.tell (t:Th) (v:Nat):Th:={ t with ans:=t.ans.modify t.call fun y=>(y.1,y.2++[v]) }
structure Wd.ok (w:Wd):Prop where
 n:w.words.length<1000000
 nl:w.nl<1000000
 len:∀ l∈w.words,l.length<1000000
 lt:∀ l∈w.words,∀ v∈l,v<18446744073709551616
def own (t0:Th) (x:In):Th :=
 let t:={ t0 with pc:=t0.pc+1 }
 match x.op with
 | 6=>t.put x.a x.n
 | 7=>t.put x.a (t.r x.b)
 | 8=>t.put x.a (t.r x.b+t.r x.c+x.n)
 | 9=>t.put x.a (t.r x.b+18446744073709551616-t.r x.c)
 | 10=>t.put x.a (t.r x.b*t.r x.c)
 | 11=>t.put x.a (if t.r x.c=0 then 0 else t.r x.b/t.r x.c)
 | 12=>t.put x.a (t.r x.b &&& t.r x.c)
 | 13=>t.put x.a (t.r x.b ||| t.r x.c)
 | 14=>t.put x.a (t.r x.b*2^x.n)
 | 15=>t.put x.a (t.r x.b/2^x.n)
 | 16=>t.put x.a (max (t.r x.b) (t.r x.c))
 | 17=>t.put x.a (t.cl.data.getD ((t.r x.b+x.n)%18446744073709551616) 0)
 | 18=>{ t with pc:=x.n }
 | 19=>if t.r x.a=t.r x.b then { t with pc:=x.n } else t
 | 20=>if t.r x.a<t.r x.b then { t with pc:=x.n } else t
 | 21=>if 9223372036854775808≤t.r x.a then { t with pc:=x.n } else t
 | 22=>t.tell (t.r x.a)
 | _=>t
def told (op:Nat):Bool:=1≤op&&op≤5
def Th.begun (t:Th):Th:=if t.ans.length=t.call then { t with ans:=t.ans++[(false,[])] } else t
def Th.done (t:Th):Th:={ t with ans:=t.ans.modify t.call fun y=>(true,y.2),call:=t.call+1,pc:=0,r:=fun _=>0 }
def onF:Nat→Th→Option Th
 | 0,_=>none
 | f+1,t =>
  if t.over=true then some t
  else if t.calls.length≤t.call then some { t with over:=true }
  else if told t.begun.next.op=true then some t.begun
  else if t.begun.next.op=23 then onF f t.begun.done
  else onF f (own t.begun t.begun.next)
def Th.place (t:Th):Nat:=(t.r t.next.b+t.next.n)%18446744073709551616
def op1 (x:In) (l:List Nat) (p:Nat) (r:Nat→Nat):List Nat × (Nat→Nat) :=
 let v:=l.getD p 0
 match x.op with
 | 1=>(l,upd r x.a v)
 | 2=>(l.set p (r x.a),r)
 | 3=>(l.set p ((v+r x.c)%18446744073709551616),upd r x.a ((v+r x.c)%18446744073709551616))
 | 4=>(l.set p (r x.c),upd r x.a v)
 | _=>if v=r x.c then (l.set p (r x.d),upd r x.a 1) else (l,upd r x.a 0)
def Wd.row (w:Wd) (on:Nat):List Nat:=w.words.getD on []
def opF (f:Nat) (w:Wd) (t:Th):Option (Wd × Th) :=
 if t.place<(w.row t.next.on).length then
  let y:=op1 t.next (w.row t.next.on) t.place t.r
  (onF f { t with pc:=t.pc+1,r:=y.2 }).map fun t'=>({ w with words:=w.words.set t.next.on y.1 },t')
 else none
def Th.mark (t:Th):Nat × Nat:=(t.next.op,t.place)
structure St where
 w:Wd
 l:List Th
 tr:List (Nat × Nat × Nat):=[]
def turn (f:Nat) (s:St) (k:Nat):Option St :=
 match s.l[k]? with
 | some t=>(opF f s.w t).map fun y=>⟨y.1,s.l.set k y.2,s.tr++[(k,t.mark)]⟩
 | none=>some s
def may (s:St) (k:Nat):Bool:=s.tr.length<16384&&(match s.l[k]? with | some t=>!t.over | none=>false)
def byOrder (f:Nat):St→List (Option Nat)→Option St
 | s,[]=>some s
 | s,none::o=>byOrder f s o
 | s,some k::o=>if may s k=true then (turn f s k).bind fun s=>byOrder f s o else byOrder f s o
def round (f:Nat):Nat→Nat→St→Bool→Option (St × Bool)
 | 0,_,s,q=>some (s,q)
 | m+1,k,s,q=>if may s k=true then (turn f s k).bind fun s=>round f m (k+1) s true else round f m (k+1) s q
def rounds (f:Nat):Nat→St→Option St
 | 0,_=>none
 | g+1,s=>(round f s.l.length 0 s false).bind fun y=>if y.2=true then rounds f g y.1 else some y.1
def begin_ (f:Nat):List Th→Option (List Th)
 | []=>some []
 | t::l=>(onF f t).bind fun t=>(begin_ f l).map fun l=>t::l
def play (f g:Nat) (w:Wd) (o:List (Option Nat)) (l:List (List Cl)):Option St :=
 (begin_ f (l.map fun c=>{ calls:=c })).bind fun l=>(byOrder f ⟨w,l,[]⟩ o).bind fun s=>rounds f g s
def In.ok (x:In):Bool:=1≤x.op&&x.op≤23&&x.a<24&&x.b<24&&x.c<24&&x.d<24&&x.on<1000&&x.n<18446744073709551616&&(!(18≤x.op&&x.op≤21)||x.n<1000000)&&(!(x.op=17)||!(x.a=x.b))&&(!(x.op=14||x.op=15)||x.n<64)
def Cl.ok (c:Cl):Bool:=c.code.all In.ok&&c.data.all (fun v=>v<18446744073709551616)&&c.code.length<1000000&&c.data.length<1000000
end
end Go.PB.Mach
namespace Go.Proofs.Ytdcbnbmahndecaa
open Go Go.PB
section
structure Wds where
 W:(Nat→Nat)→Mach.Wd
 un:Mach.Wd→(Nat→Nat)
 ok:(Nat→Nat)→Prop
 fu:Nat
 back:∀ f,W (un (W f))=W f
 okun:∀ f,ok f→ok (un (W f))
def mF (D:Wds) (q:Nat × Mach.Th) (f:Nat→Nat):(Nat→Nat) × (Nat × Mach.Th) :=
 match Mach.opF D.fu (D.W f) q.2 with
 | some y=>(D.un y.1,(q.1,y.2))
 | none=>(f,(q.1,{ q.2 with over:=true }))
def mkII (m:Nat × Nat):Int × Int:=(((m.1:Nat):Int),((m.2:Nat):Int))
def mPlan (D:Wds) (q:Nat × Mach.Th):Option ((Int × Int) × ((Nat→Nat)→(Nat→Nat) × (Nat × Mach.Th))) :=
 if q.2.over=true then none else some (mkII q.2.mark,mF D q)
def mG (D:Wds) (U:(Nat→Nat)→HProp) (Pv:Nat × Mach.Th→HProp):Game where
 σ:=Nat→Nat
 θ:=Nat × Mach.Th
 U:=U
 plan:=mPlan D
 ok:=D.ok
 Pv:=Pv
 Fin:=Pv
def GoodN (D:Wds):Nat→Mach.Th→Prop
 | 0,_=>True
 | n+1,t=>t.over=true∨t.over=false∧∀ f,D.ok f→∃ f' t',Mach.opF D.fu (D.W f) t=some (D.W f',t')∧D.ok f'∧GoodN D n t'
def GoodT (D:Wds) (t:Mach.Th):Prop:=∀ n,GoodN D n t
section
variable {D:Wds} {U:(Nat→Nat)→HProp} {Pv:Nat × Mach.Th→HProp}
structure Rel (p:PS (mG D U Pv)) (st:Mach.St):Prop where
 w:st.w=D.W p.s
 len:p.qs.length=st.l.length
 qs:∀ k:Nat,p.qs[k]?=(st.l[k]?).map fun t=>(k,t)
 tr:p.tr=st.tr.map fun e=>(e.1,mkII e.2)
 le:st.tr.length≤16384
 good:∀ t∈st.l,GoodT D t
 ok:D.ok p.s
structure Begins (D:Wds) (U:(Nat→Nat)→HProp) (Pv:Nat × Mach.Th→HProp) (k0:Nat) (ts:List (Thr (mG D U Pv))) (cc:List (List Mach.Cl)):Prop where
 len:ts.length=cc.length
 ini:∀ (k:Nat) t c,ts[k]?=some t→cc[k]?=some c→∃ u,Mach.onF D.fu { calls:=c }=some u∧GoodT D u∧∀ s:(mG D U Pv).σ,t.ini s=(s,((k0+k,u):Nat × Mach.Th))
end
end
end Go.Proofs.Ytdcbnbmahndecaa
namespace Go.Proofs.Ytdcbnbmahndecaa
open Go Go.PB
attribute [local irreducible] Mo Bin Eql Tr Wo Ap Wle
section
structure PlS where
 f:Nat→Nat
 g:Nat→Nat
 t:Mach.Th
 n:Nat
section
variable {D:Wds} {addr:Nat→Nat × Nat} {N:Nat} {K:List (Nat × Nat × Value)} {Z:HProp} {Pv:Nat × Mach.Th→HProp} {sb says turn fin wg:Nat}
end
end
section
structure GaS (G:WGm) where
 f:Nat→Nat
 c:G.ζ
 s:G.σ
 q:G.θ
 n:Nat
section
variable {G:WGm} {addr:Nat→Nat × Nat} {N:Nat} {K:List (Nat × Nat × Value)} {sb says turn fin wg:Nat}
def gaC (G:WGm) (addr:Nat→Nat × Nat) (N:Nat) (K:List (Nat × Nat × Value)) (sb says turn fin:Nat) (Pm:HProp) (f:Nat→Nat) (c:G.ζ):HProp:=all [wds addr N K f,G.Z c,seatR sb says turn fin,Pm]
def GaStep (G:WGm) (N:Nat) (Pm:HProp) (op:Int) (w:Nat) (s:GaS G) (R:GaS G→Prop):Prop :=
 ∃ F,G.plan s.q=some ((op,((w:Nat):Int)),F)∧(∀ i,i<N→s.f i=G.wf s.s i)∧s.c=G.zf s.s∧(∀ h,Pm h→G.Pv s.q h)∧∀ s' n,n<s.n→G.ok s'→R ⟨G.wf s',G.zf s',(F s').1,(F s').2,n⟩
theorem ga_step {Pm:HProp} {op:Int} {w:Nat} {s:GaS G} {R:GaS G→Prop} {L F:List HProp} (hs:GaStep G N Pm op w s R) (hh:Has L (gaC G addr N K sb says turn fin Pm s.f s.c) F) :
  Tr Try.prog tH 110 [.pointer (some ⟨sb,0,none⟩),.agg #[.int .u8 op,.int .i64 (w:Nat)]] L (tx (G.g addr N K) says turn fin wg (.busy s.s s.q s.n)) fun v L' x' =>
   ∃ s',R s'∧v=.tuple #[]∧L'=gaC G addr N K sb says turn fin Pm s'.f s'.c::F∧x'=tx (G.g addr N K) says turn fin wg (.busy s'.s s'.q s'.n):=by
 obtain ⟨FF,hp,hfg,hc,hpm,hR⟩:=hs
 refine tr_star ((G.g addr N K).U s.s::seatR sb says turn fin::Pm::F) (fun h st=>?_) ?_
 ·have s1:Star (wds addr N K s.f::G.Z s.c::seatR sb says turn fin::Pm::F) h:=star_open (M:=[_,_,_,_]) (hh.star st)
  rw [hc] at s1
  exact star_shut (M:=[_,_]) (star_map s1 (wds_congr hfg) fun _ z=>z)
 ·refine (seat_tr (g:=G.g addr N K) (mk:=(op,((w:Nat):Int))) (f:=FF) hp .here .here fun h st=>G.up _ _ ?_).post ?_
  ·exact star_map (star_drop st) hpm fun _ z=>trivial
  ·rintro v L' x' ⟨m',s',hm,hok,rfl,rfl,rfl⟩
   refine ⟨_,⟨⟨G.wf s',G.zf s',(FF s').1,(FF s').2,m'⟩,hR s' m' (by omega) hok,rfl,rfl,rfl⟩,fun h st=>?_⟩
   exact star_shut (M:=[_,_,_,_]) (star_open (M:=[_,_]) st)
def gamAcc (G:WGm) (addr:Nat→Nat × Nat) (N:Nat) (K:List (Nat × Nat × Value)) (A:Apart addr N K) (sb says turn fin wg:Nat) (Pm:HProp):Acc tH (gateV sb) where
 S:=GaS G
 C:=fun s=>gaC G addr N K sb says turn fin Pm s.f s.c
 x:=fun s=>tx (G.g addr N K) says turn fin wg (.busy s.s s.q s.n)
 step:=GaStep G N Pm
 addr:=addr
 load:=fun w s R=>w<N∧R (s.f w) s
 store:=fun w n s R=>w<N∧R { s with f:=upd s.f w n }
 cas:=fun w a n s R=>w<N∧if s.f w=a then R true { s with f:=upd s.f w n } else R false s
 add:=fun w n s R=>w<N∧R ((s.f w+n)%18446744073709551616) { s with f:=upd s.f w ((s.f w+n)%18446744073709551616) }
 swap:=fun w n s R=>w<N∧R (s.f w) { s with f:=upd s.f w n }
 gate:=.inr ⟨_,_,110,rfl,inferInstance,inferInstance,fun op w s R L F hs hh=>ga_step hs hh⟩
 load_ok:=fun w s R L F b o ha hl hh=>tr_star _ (fun h st=>star_open (hh.star st)) (tr_pure (of_has .here fun h hc=>(hc.1 w hl.1).1) fun hs =>
  (load_lone (rd_wds .here hl.1 ha)).post fun v L' x' ⟨h1,h2,h3⟩=>⟨_,⟨s.f w,s,hs,hl.2,h1,rfl,h3⟩,fun h st=>star_shut (M:=[_,_,_,_]) (by rw [h2] at st;exact st)⟩)
 store_ok:=fun w n s R L F b o ha hn hl hh=>tr_star _ (fun h st=>star_open (hh.star st))
  ((store_lone (wt_wds A .here hl.1 ha hn)).post fun v L' x' ⟨h1,h2,h3⟩=>⟨_,⟨{ s with f:=upd s.f w n },hl.2,h1,rfl,h3⟩,fun h st=>star_shut (M:=[_,_,_,_]) (by rw [h2] at st;exact st)⟩)
 cas_ok:=fun w m n s R L F b o ha hn hl hh=>tr_star _ (fun h st=>star_open (hh.star st))
  ((cas_lone (rd_wds .here hl.1 ha) (wt_wds A .here hl.1 ha hn)).post fun v L' x' ⟨h1,h2,h3⟩=>by
   obtain ⟨h4,h5⟩:=hl
   by_cases e:s.f w=m
   ·rw [if_pos e] at h5;rw [if_pos (by omega)] at h2;exact ⟨_,⟨true,_,h5,by rw [h1];simp [e],rfl,h3⟩,fun h st=>star_shut (M:=[_,_,_,_]) (by rw [h2] at st;exact st)⟩
   ·rw [if_neg e] at h5;rw [if_neg (by omega)] at h2;exact ⟨_,⟨false,_,h5,by rw [h1];simp;omega,rfl,h3⟩,fun h st=>star_shut (M:=[_,_,_,_]) (by rw [h2] at st;exact st)⟩)
 add_ok:=fun w n s R L F b o ha hn hl hh=>tr_star _ (fun h st=>star_open (hh.star st))
  ((add_lone (r:=((s.f w+n)%18446744073709551616:Nat)) (rd_wds .here hl.1 ha) (by rw [wrap_u64_mod];omega) (wt_wds A .here hl.1 ha (Nat.mod_lt _ (by decide)))).post fun v L' x' ⟨h1,h2,h3⟩=>⟨_,⟨_,{ s with f:=_ },Nat.mod_lt _ (by decide),hl.2,h1,rfl,h3⟩,fun h st=>star_shut (M:=[_,_,_,_]) (by rw [h2] at st;exact st)⟩)
theorem ga_go {A:Apart addr N K} {Pm:HProp} {op w:Nat} {o:Int} {s:GaS G} {R:GaS G→Prop} {F:G.σ→G.σ × G.θ} (ho:((op:Nat):Int)=o) (hp:G.plan s.q=some ((((op:Nat):Int),((w:Nat):Int)),F)) (hf:∀ i,i<N→s.f i=G.wf s.s i) (hc:s.c=G.zf s.s) (hpm:∀ h,Pm h→G.Pv s.q h)
  (hR:∀ s' n,n<s.n→G.ok s'→R ⟨G.wf s',G.zf s',(F s').1,(F s').2,n⟩):(gamAcc G addr N K A sb says turn fin wg Pm).step o w s R:=by
 subst ho
 exact ⟨F,hp,hf,hc,hpm,hR⟩
end
section
variable {g:Game}
theorem play_ends {I:PS g→Prop} {Φ:PS g→Nat} {ts:List (Thr g)} {s:g.σ} {o:List Int} {n:Nat} (hs:∀ p k,I p→I (takeF p k).1) (hΦ:∀ p k,I p→(takeF p k).2=true→Φ (takeF p k).1+1≤Φ p) (h0:I ⟨(startF ts s).1,(startF ts s).2,[]⟩) (hn:Φ ⟨(startF ts s).1,(startF ts s).2,[]⟩≤n) (hlt:n<16384) :
  I (playF ts s o)∧(playF ts s o).tr.length≤n∧∀ (k:Nat) q,(playF ts s o).qs[k]?=some q→g.plan q=none:=by
 have hJ:I (playF ts s o)∧(playF ts s o).tr.length+Φ (playF ts s o)≤n:=playF_inv (I:=fun p=>I p∧p.tr.length+Φ p≤n) (fun p k h=>⟨hs p k h.1,by
  have h2:=h.2
  rcases takeF_cases p k with e | ⟨m,q,mk,f,hk,hq,hp,htr,e⟩
  ·rw [e];exact h2
  ·have h3:=hΦ p k h.1 (by rw [e])
   have h4:(takeF p k).1.tr.length=p.tr.length+1:=by rw [e];simp
   omega⟩) ⟨h0,by simpa using hn⟩
 refine ⟨hJ.1,by omega,fun k q hq=>(playF_done hq).resolve_right (by omega)⟩
end
end
end Go.Proofs.Ytdcbnbmahndecaa
namespace Go.PB
open Go.Conc
section
section
variable {P:Program} {b o:Nat}
theorem atom_load {f:Nat} [x:Exn P f (Extern.Atomic.loadT (.int .u64))] {n:Int}:Atom1 P (callFunc f [Value.pointer (some ⟨b,o,none⟩)].toArray) b o (.int .u64 n) (.int .u64 n) none:=by
 obtain ⟨g,h⟩:=looks_load (P:=P) (f:=f) (a:=⟨b,o,none⟩)
 refine ⟨_,fun e he=>?_,fun w hc _=>h w n hc⟩
 simp at he
 rcases he with rfl | rfl
 ·exact .inl ⟨_,rfl⟩
 ·exact .inr ⟨_,rfl⟩
theorem atom_add {f:Nat} [x:Exn P f (Extern.Atomic.update (Op.intArith .add) .u64 true)] {n d:Int}:Atom1 P (callFunc f [Value.pointer (some ⟨b,o,none⟩),.int .u64 d].toArray) b o (.int .u64 n) (.int .u64 (IntKind.u64.wrap (n+d))) (some (.int .u64 (IntKind.u64.wrap (n+d)))):=by
 obtain ⟨g,h⟩:=adds_add (P:=P) (f:=f) (a:=⟨b,o,none⟩) (d:=d)
 refine ⟨_,fun e he=>?_,fun w hc hf=>h w n hc hf⟩
 simp at he
 rcases he with rfl | rfl | rfl
 ·exact .inl ⟨_,rfl⟩
 ·exact .inr ⟨_,rfl⟩
 ·exact .inr ⟨_,rfl⟩
theorem atom_cas {f:Nat} [x:Exn P f (Extern.Atomic.casT (.int .u64))] {n m y:Int}:Atom1 P (callFunc f [Value.pointer (some ⟨b,o,none⟩),.int .u64 m,.int .u64 y].toArray) b o (.int .u64 n) (.bool (decide (n=m))) (if n=m then some (.int .u64 y) else none):=by
 obtain ⟨g,h⟩:=swaps_cas (P:=P) (f:=f) (a:=⟨b,o,none⟩) (old:=m) (new:=y)
 by_cases hn:n=m
 ·rw [if_pos hn,decide_eq_true hn]
  refine ⟨_,fun e he=>?_,fun w hc hf=>(h w n hc hf).1 hn⟩
  simp at he
  rcases he with rfl | rfl | rfl
  ·exact .inl ⟨_,rfl⟩
  ·exact .inr ⟨_,rfl⟩
  ·exact .inr ⟨_,rfl⟩
 ·rw [if_neg hn,decide_eq_false hn]
  refine ⟨_,fun e he=>?_,fun w hc hf=>(h w n hc hf).2 hn⟩
  simp at he
  rcases he with rfl | rfl
  ·exact .inl ⟨_,rfl⟩
  ·exact .inr ⟨_,rfl⟩
theorem atom_store {f:Nat} [x:Exn P f Extern.Atomic.storeT] {n y:Int}:Atom1 P (callFunc f [Value.pointer (some ⟨b,o,none⟩),.int .u64 y].toArray) b o (.int .u64 n) unit (some (.int .u64 y)):=by
 refine ⟨#[⟨.mark (.extern f),false,true⟩,⟨.cell ⟨b,o,none⟩,true,true⟩],fun e he=>?_,fun w hc hf=>ext_runT (v:=unit) ?_⟩
 ·simp at he
  rcases he with rfl | rfl
  ·exact .inl ⟨_,rfl⟩
  ·exact .inr ⟨_,rfl⟩
 ·show (Sem.bind (store ⟨b,o,none⟩ (.int .u64 y) .atomic) fun _=>(pure unit:Sem Value)).runT P w _=_
  rw [store_runT hc hf rfl]
  rfl
end
theorem wo_atom {P:Program} {cv:Value} {kd:CallKind} {n:Nat} {K:Post (fHand P cv)} {e:Env} {z:Z} {L:List HProp} {l:List OpG} {d:Option Nat} {ty:TypeId} {gd:Option (Nat × Bool)} {op:Op}
  {g:Game} {s1 s2 s3 wg m:Nat} {q:g.θ} {mk:Int × Int} {F:g.σ→g.σ × g.θ} {Rv:g.σ→Value→Prop} (hpl:g.plan q=some (mk,F)) (hg:gYes e gd) (hk:kd≠.early)
  (ha:∀ t,Agree e t→∀ st r,g.ok st→g.U st r→∃ b o old v new,r.own b o=some old∧Atom1 P (execOp (evT t) (opOf op ty)) b o old v new∧g.U (F st).1 (r.lay b o new)∧Rv st v)
  (k:∀ st v m',m=m'+1→g.ok st→Rv st v→Wo P (fHand P cv) kd n l K (setE d v e) z L (⟨g,s1,s2,s3,wg,.free (F st).2 m'⟩:TX)) :
  Wo P (fHand P cv) kd n (⟨d,op,ty,gd⟩::l) K e z L (⟨g,s1,s2,s3,wg,.free q m⟩:TX) :=
 wo_act (R:=fun v L' x'=>∃ st m',m=m'+1∧g.ok st∧Rv st v∧L'=L∧x'=(⟨g,s1,s2,s3,wg,.free (F st).2 m'⟩:TX)) hg hk
  (fun t h O a s qq=>⟨q,m,mk,F,rfl,hpl,fun n' st r e1 h1 h2=>by
   obtain ⟨b,o,old,v,new,c1,c2,c3,c4⟩:=ha t a st r h1 h2
   exact ⟨b,o,old,v,new,c1,c2,c3,qq v L _ h ⟨st,n',e1,h1,c4,rfl,rfl⟩ s⟩⟩)
  (by rintro v L' x' ⟨st,m',h1,h2,h3,rfl,rfl⟩;exact k st v m' h1 h2 h3)
end
end Go.PB
namespace Go.Proofs.Ytdcbnbmahndecaa
open Go Go.PB
attribute [local irreducible] Mo Bin Eql Tr Wo Ap Wle
attribute [local instance] Pass.of_no
section
abbrev fH:Hand:=fHand Try.prog cvT
structure ThrT (g:Game) where
 fv:Value
 q0:g.θ
 M:HProp
structure ThrF (g:Game) (N:Nat) (t:ThrT g):Prop where
 run:∃ f first cap,callee? t.fv=some (f,first,cap)∧Ent' Try.prog f∧∀ wg F,Tr Try.prog fH f (first++[.nilIface]++cap) (t.M::F) (tx g 0 0 0 wg (.free t.q0 N)) fun v L' x' =>
  ∃ q' n',x'=tx g 0 0 0 wg (.free q' n')∧g.plan q'=none∧∀ h,Star L' h→Star (g.Fin q'::F) h
section
variable {g:Game}
theorem goesF_tr {N wg tb:Nat} {t:ThrT g} (TO:ThrF g N t) (hfin:∀ q h,g.Pv q h→g.Fin q h) {hc:Hp} (hs:Star [t.M,arr tb 0 [t.fv]] hc) :
  Nonempty (Run Try.prog tH false (tEnd Try.prog 56) (goFr Try.prog { target:=.fn (.func 55) [.pointer (some ⟨wg,0,none⟩),.pointer (some ⟨tb,0,none⟩)].toArray,args:=#[] }) [] hc (tx g 0 0 0 wg (.free t.q0 N))):=by
 obtain ⟨f,first,cap,hcal,en,tr⟩:=TO.run
 have e1:Enterable Try.prog 55:=(inferInstance:Ent' Try.prog 55).ok
 have e3:Enterable Try.prog 56:=(inferInstance:Ent' Try.prog 56).ok
 refine go_runF Try.func55 rfl Try.ntmps55 (by simp) Try.results55 e1 e3 rfl hfin hs ?_
 simp only [argE,Nat.zero_add,Nat.reduceAdd]
 repeat (first | refine we_seq ?_ | (refine wR ?_;try simp only [oS]))
 refine wo_defer (first:=[]) (cap:=[]) (args:=[_]) (vs:=[.pointer (some ⟨wg,0,none⟩)]) rfl (.cons rfl .nil) trivial ?_
 repeat (first | (apply wo_po;apply mo_load;exact rfl;exact .there (Rd.row (k:=0) rfl rfl);exact trivial) | (refine wR ?_;try simp only [oS]) | refine wo_nil ?_)
 refine wo_callv (args:=[_]) rfl hcal (.cons rfl .nil) trivial (tr wg _) ?_
 rintro v L' x' ⟨q',n',rfl,hp,hL⟩
 refine wo_star _ hL ?_
 repeat (first | refine wo_nil ?_)
 exact fun t h _ _ st=>⟨rfl,q',⟨hp,n',rfl⟩,star_map st (fun _ a=>a) (fun _ _=>trivial)⟩
abbrev fx (g:Game) (fd:FreeD g) (wg:Nat) (s:g.σ) (ad nf:Nat):MX:=.game ⟨g,wg,[],some s,0,ad,false,.play,some fd,nf⟩
def freeInv (fd:FreeD g) (ts:List (ThrT g)) (s0:g.σ) (wg:Nat) (tv:Value) (F:List HProp):PB.Inv Nat MX where
 e:=fun i=>[(4,.pointer (some ⟨wg,0,none⟩)),(12,tv),(13,.int .i64 (ts.length:Nat)),(14,.int .i64 (i:Nat))]
 L:=fun i=>all ((ts.drop i).map ThrT.M)::F
 x:=fun i=>fx g fd wg s0 i i
 ok:=fun i=>i≤ts.length
theorem free_tr {fd:FreeD g} {ts:List (ThrT g)} {s0:g.σ} {F:List HProp} {ta:Option Addr} {tn tc:Nat} (hcut:∀ r,g.U s0 r→g.U s0 { r with obj:=fun _=>none }) (hq:fd.q0=ts.map ThrT.q0) (hI:fd.I s0 fd.q0) (hφ:fd.φ s0 fd.q0≤fd.N) (hfin:∀ q h,g.Pv q h→g.Fin q h)
  (hts:∀ t∈ts,ThrF g fd.N t) (h1:0<ts.length) (h16:ts.length≤16) (hrt:RdsO F ta tn (ts.map ThrT.fv)) :
  Tr Try.prog mT 34 [.slice ta tn tc] (g.U s0::all (ts.map ThrT.M)::F) .idle fun v L' x' =>
   ∃ s qs,fd.I s qs∧(∀ q∈qs,g.plan q=none)∧qs.length=ts.length∧v=.int .i64 0∧x'=.idle∧L'=g.U s::all (qs.map g.Fin)::F:=by
 refine Tr.post (R:=fun v L' x'=>∃ s qs,fd.I s qs∧(∀ q∈qs,g.plan q=none)∧qs.length=ts.length∧v=.int .i64 0∧x'=MX.idle∧∀ h,Star L' h→Star (g.U s::all (qs.map g.Fin)::F) h) ?_
  (by rintro v L' x' ⟨s,qs,a1,a2,a3,rfl,rfl,h2⟩;exact ⟨_,⟨s,qs,a1,a2,a3,rfl,rfl,rfl⟩,h2⟩)
 have hfn:∀ v∈ts.map ThrT.fv,isFn v:=by
  intro v hv
  obtain ⟨t,ht,rfl⟩:=List.mem_map.1 hv
  obtain ⟨f,first,cap,hc,_⟩:=(hts t ht).run
  revert hc
  cases t.fv with
  | func a b c=>exact fun _=>⟨a,b,c,rfl⟩
  | _=>intro hc;cases hc
 have htn:tn=ts.length:=by have:=hrt.1;simpa using this
 subst htn
 refine tr_of_body Try.func34 rfl Try.ntmps34 (by simp) fun um Q _ hQ=>?_
 simp only [argE,Nat.zero_add,Nat.reduceAdd]
 repeat (first | refine we_seq ?_ | (refine wR ?_;try simp only [oS]) | refine wo_nil ?_ | refine wM ?_ | refine wA ?_)
 refine wo_call (.cons rfl .nil) trivial (wrong_tr (fun v hv=>.inr (hfn v hv)) hrt.there.there (by omega)) ?_
 rintro v' L' x' ⟨⟨k,rfl,hk⟩,rfl,rfl⟩
 obtain rfl:k=0:=by
  rcases hk with ⟨_,h⟩ | ⟨_,h⟩
  ·obtain ⟨_,_,_,h⟩:=hfn _ h;cases h
  ·rw [h,List.length_map,if_neg (by omega),if_neg (by omega)]
 repeat (first | (apply wo_mo;apply mo_allocS;exact trivial) | refine wneqF ?_ | refine we_seq ?_ | (refine wR ?_;try simp only [oS]) | refine wo_nil ?_ | refine wM ?_ | refine wA ?_ | refine wF ?_ | refine we_skip ?_)
 rintro v' L' ⟨wg,rfl,rfl⟩
 refine wo_beginF g fd s0 (wg:=wg) (R:=all (ts.map ThrT.M)::F) hcut hI hφ (fun h st=>Ent.star (.take (.there (.there .here)) (.take .here (.take .here .refl))) st) ?_
 repeat (first | refine we_seq ?_ | (refine wR ?_;try simp only [oS]) | refine wo_nil ?_ | refine wM ?_ | refine wE ?_ | refine we_block ?_)
 refine we_loopN (freeInv fd ts s0 wg (.slice ta ts.length tc) (shpC wg 122 2::F)) (fun i=>ts.length-i) 0 (Nat.zero_le _) ⟨rfl,rfl,rfl,rfl,trivial⟩ (.take (.there .here) (.take .here .refl)) rfl ?_
 intro j hj
 replace hj:j≤ts.length:=hj
 simp only [freeInv]
 by_cases hlt:j<ts.length
 ·obtain ⟨tb,to,rfl,hrd⟩:=hrt.rds (by omega)
  have ht:ts[j]?=some ts[j]:=List.getElem?_eq_getElem hlt
  have hrj:=hrd j (ts[j].fv) (by simp [ht])
  have hTO:=hts _ (List.getElem_mem hlt)
  have hdrop:ts.drop j=ts[j]::ts.drop (j+1):=List.drop_eq_getElem_cons hlt
  obtain ⟨fa,fb,fc,hfe⟩:=hfn ts[j].fv (List.mem_map.2 ⟨_,List.getElem_mem hlt,rfl⟩)
  rw [hfe] at hrj
  rw [hdrop]
  refine we_star (ts[j].M::all ((ts.drop (j+1)).map ThrT.M)::shpC wg 122 2::F) (fun h st=>star_head st) ?_
  repeat (first | (apply wo_po;apply mo_index1;exact rfl;exact rfl;omega;exact gY) | (apply wo_po;apply mo_load;exact rfl;exact .there (.there (.there hrj));exact trivial) | (apply wo_mo;apply mo_alloc;exact trivial) | refine wlssT ?_ | refine we_seq ?_ | (refine wR ?_;try simp only [oS]) | refine wo_nil ?_ | refine wT ?_ | refine we_skip ?_ | refine we_block ?_)
  rintro v' L' ⟨tb',rfl,rfl⟩
  repeat (first | refine wS ?_ | refine we_seq ?_ | (refine wR ?_;try simp only [oS]) | refine wo_nil ?_)
  refine wo_call (.cons rfl (.cons rfl .nil)) trivial (wgAdd_tr (X:=⟨g,wg,[],some s0,0,j,false,.play,some fd,j⟩) rfl (by show j<1000;omega) (by show j=0+j;omega) rfl rfl (fun h st=>shp_of (.there (.there (.there .here))) st)) ?_
  rintro v1 L1 x1 ⟨rfl,rfl,rfl⟩
  repeat (first | (apply wo_po;apply mo_makeFunc (first:=[]) (cap:=[_,_]) (vf:=[]);exact .nil;exact .cons rfl (.cons rfl .nil);exact trivial) | (refine wR ?_;try simp only [oS]) | refine wo_nil ?_)
  refine wo_startF (X:=⟨g,wg,[],some s0,0,j+1,false,.play,some fd,j⟩) (fd:=fd) (q0:=ts[j].q0) (M:=[ts[j].M,arr tb' 0 [.func fa fb fc]]) (R:=all ((ts.drop (j+1)).map ThrT.M)::shpC wg 122 2::F) (cap:=[_,_]) rfl trivial rfl rfl rfl (by show j+1=0+j+1;omega) (by show fd.q0[j]?=_;rw [hq];simp [ht]) (fun h st=>star_shut (M:=[_,_]) (Ent.star (.take (.there .here) (.take .here (.take .here (.take .here .refl)))) st)) (fun hc st=>goesF_tr (t:=ts[j]) hTO hfin (by rw [hfe];exact st)) ?_
  repeat (first | (refine wR ?_;try simp only [oS]) | refine wo_nil ?_ | refine wM ?_ | refine wadd ?_)
  refine at_round (B:=mT) (I:=freeInv fd ts s0 wg (.slice (some ⟨tb,to,none⟩) ts.length tc) (shpC wg 122 2::F)) (R:=fun i'=>ts.length-i'<ts.length-j) (j+1) (by show ts.length-(j+1)<ts.length-j;omega) (show j+1≤ts.length by omega) ?_ .refl rfl
  exact ⟨rfl,rfl,rfl,rfl,trivial⟩
 ·obtain rfl:j=ts.length:=by omega
  repeat (first | refine wlssF ?_ | refine we_seq ?_ | (refine wR ?_;try simp only [oS]) | refine wo_nil ?_ | refine wF ?_ | refine we_exit ?_)
  refine wo_call (.cons rfl .nil) trivial (wgWait_tr (X:=⟨g,wg,[],some s0,0,ts.length,false,.play,some fd,ts.length⟩) rfl (by show ts.length<1000;omega) (by show ts.length=0+ts.length;omega) (fun s hs=>by cases hs) (fun d hd=>by cases hd;show ts.length=fd.q0.length;rw [hq,List.length_map]) rfl (fun h st=>shp_of (.there .here) st)) ?_
  rintro v' L' x' ⟨rfl,rfl,rfl⟩
  refine wo_star ((fun r=>∃ a:{ p:g.σ × List g.θ // fd.I p.1 p.2∧(∀ q∈p.2,g.plan q=none)∧p.2.length=fd.q0.length },all (g.U a.1.1::a.1.2.map g.Fin) r)::all ((ts.drop ts.length).map ThrT.M)::shpC wg 122 2::F) (fun h st=>star_map st (fun r hr=>?_) fun _ a=>a) ?_
  ·obtain ⟨s,qs,b1,b2,b3,b4⟩:=hr
   exact ⟨⟨(s,qs),b1,b2,b3⟩,b4⟩
  refine wo_ex .here ?_
  rintro ⟨⟨s,qs⟩,b1,b2,b3⟩
  repeat (first | refine we_seq ?_ | (refine wR ?_;try simp only [oS]) | refine wo_nil ?_ | refine wA ?_ | refine we_ret ?_)
  (first | refine or1 Try.func34 Try.results34 hQ rfl ?_ | refine on1 Try.func34 Try.results34 hQ rfl ?_)
  refine ⟨s,qs,b1,b2,by rw [b3,hq,List.length_map],rfl,rfl,fun h st=>?_⟩
  exact Ent.star (.take .here (.take .here (.drop (.drop .refl)))) (star_head st)
end
end
end Go.Proofs.Ytdcbnbmahndecaa
namespace Go.PB
open Go.Conc
section
variable {P:Program} {cv:Value} {kd:CallKind} {n:Nat} {K:Post (fHand P cv)} {e:Env} {z:Z} {L:List HProp} {l:List OpG} {d:Option Nat} {ty:TypeId} {gd:Option (Nat × Bool)} {tys:Array TypeId}
 {g:Game} {s1 s2 s3 wg m:Nat} {q:g.θ} {mk:Int × Int} {F:g.σ→g.σ × g.θ} {b o:Nat}
theorem wo_loadF {f:Nat} [x:Exn P f (Extern.Atomic.loadT (.int .u64))] {o1:Operand} (Rv:g.σ→Int→Prop) (hx:ev e o1=some (.pointer (some ⟨b,o,none⟩))) (hpl:g.plan q=some (mk,F)) (hg:gYes e gd) (hk:kd≠.early)
  (ha:∀ st r,g.ok st→g.U st r→∃ v,r.own b o=some (.int .u64 v)∧g.U (F st).1 r∧Rv st v)
  (k:∀ st v m',m=m'+1→g.ok st→Rv st v→Wo P (fHand P cv) kd n l K (setE d (.int .u64 v) e) z L (⟨g,s1,s2,s3,wg,.free (F st).2 m'⟩:TX)) :
  Wo P (fHand P cv) kd n (⟨d,.call ⟨.value (.func f),#[o1],tys⟩,ty,gd⟩::l) K e z L (⟨g,s1,s2,s3,wg,.free q m⟩:TX) :=
 wo_atom (Rv:=fun st v=>∃ w,v=.int .u64 w∧Rv st w) hpl hg hk (fun t a st r h1 h2=>by
  obtain ⟨v,c1,c2,c3⟩:=ha st r h1 h2
  exact ⟨b,o,_,.int .u64 v,none,c1,by rw [exec_call (args:=[o1]) (.cons hx .nil) a];exact atom_load,c2,v,rfl,c3⟩)
  (by rintro st _ m' h1 h2 ⟨w,rfl,h3⟩;exact k st w m' h1 h2 h3)
theorem wo_storeF {f:Nat} [x:Exn P f Extern.Atomic.storeT] {o1 o2:Operand} {y:Int} (hx:ev e o1=some (.pointer (some ⟨b,o,none⟩))) (hy:ev e o2=some (.int .u64 y)) (hpl:g.plan q=some (mk,F)) (hg:gYes e gd) (hk:kd≠.early)
  (ha:∀ st r,g.ok st→g.U st r→∃ v,r.own b o=some (.int .u64 v)∧g.U (F st).1 (r.lay b o (some (.int .u64 y))))
  (k:∀ st m',m=m'+1→g.ok st→Wo P (fHand P cv) kd n l K (setE d unit e) z L (⟨g,s1,s2,s3,wg,.free (F st).2 m'⟩:TX)) :
  Wo P (fHand P cv) kd n (⟨d,.call ⟨.value (.func f),#[o1,o2],tys⟩,ty,gd⟩::l) K e z L (⟨g,s1,s2,s3,wg,.free q m⟩:TX) :=
 wo_atom (Rv:=fun st v=>v=unit) hpl hg hk (fun t a st r h1 h2=>by
  obtain ⟨v,c1,c2⟩:=ha st r h1 h2
  exact ⟨b,o,_,unit,_,c1,by rw [exec_call (args:=[o1,o2]) (.cons hx (.cons hy .nil)) a];exact atom_store,c2,rfl⟩)
  (by rintro st _ m' h1 h2 rfl;exact k st m' h1 h2)
theorem wo_addF {f:Nat} [x:Exn P f (Extern.Atomic.update (Op.intArith .add) .u64 true)] {o1 o2:Operand} {y:Int} (Rv:g.σ→Int→Prop) (hx:ev e o1=some (.pointer (some ⟨b,o,none⟩))) (hy:ev e o2=some (.int .u64 y)) (hpl:g.plan q=some (mk,F)) (hg:gYes e gd) (hk:kd≠.early)
  (ha:∀ st r,g.ok st→g.U st r→∃ v w,r.own b o=some (.int .u64 v)∧IntKind.u64.wrap (v+y)=w∧g.U (F st).1 (r.lay b o (some (.int .u64 w)))∧Rv st w)
  (k:∀ st v m',m=m'+1→g.ok st→Rv st v→Wo P (fHand P cv) kd n l K (setE d (.int .u64 v) e) z L (⟨g,s1,s2,s3,wg,.free (F st).2 m'⟩:TX)) :
  Wo P (fHand P cv) kd n (⟨d,.call ⟨.value (.func f),#[o1,o2],tys⟩,ty,gd⟩::l) K e z L (⟨g,s1,s2,s3,wg,.free q m⟩:TX) :=
 wo_atom (Rv:=fun st v=>∃ w,v=.int .u64 w∧Rv st w) hpl hg hk (fun t a st r h1 h2=>by
  obtain ⟨v,w,c1,rfl,c2,c3⟩:=ha st r h1 h2
  exact ⟨b,o,_,_,_,c1,by rw [exec_call (args:=[o1,o2]) (.cons hx (.cons hy .nil)) a];exact atom_add,c2,_,rfl,c3⟩)
  (by rintro st _ m' h1 h2 ⟨w,rfl,h3⟩;exact k st w m' h1 h2 h3)
theorem wo_casF {f:Nat} [x:Exn P f (Extern.Atomic.casT (.int .u64))] {o1 o2 o3:Operand} {a y:Int} (Rv:g.σ→Bool→Prop) (hx:ev e o1=some (.pointer (some ⟨b,o,none⟩))) (hy:ev e o2=some (.int .u64 a)) (hz:ev e o3=some (.int .u64 y)) (hpl:g.plan q=some (mk,F)) (hg:gYes e gd) (hk:kd≠.early)
  (ha:∀ st r,g.ok st→g.U st r→∃ v,r.own b o=some (.int .u64 v)∧g.U (F st).1 (r.lay b o (if v=a then some (.int .u64 y) else none))∧Rv st (decide (v=a)))
  (k:∀ st v m',m=m'+1→g.ok st→Rv st v→Wo P (fHand P cv) kd n l K (setE d (.bool v) e) z L (⟨g,s1,s2,s3,wg,.free (F st).2 m'⟩:TX)) :
  Wo P (fHand P cv) kd n (⟨d,.call ⟨.value (.func f),#[o1,o2,o3],tys⟩,ty,gd⟩::l) K e z L (⟨g,s1,s2,s3,wg,.free q m⟩:TX) :=
 wo_atom (Rv:=fun st v=>∃ w,v=.bool w∧Rv st w) hpl hg hk (fun t ag st r h1 h2=>by
  obtain ⟨v,c1,c2,c3⟩:=ha st r h1 h2
  exact ⟨b,o,_,_,_,c1,by rw [exec_call (args:=[o1,o2,o3]) (.cons hx (.cons hy (.cons hz .nil))) ag];exact atom_cas,c2,_,rfl,c3⟩)
  (by rintro st _ m' h1 h2 ⟨w,rfl,h3⟩;exact k st w m' h1 h2 h3)
end
end Go.PB
namespace Go.Proofs.Ytdcbnbmahndecaa
open Go Go.PB
attribute [local irreducible] Mo Bin Eql Tr Wo Ap Wle
attribute [local instance] Pass.of_no
section
variable {G:WGm} {addr:Nat→Nat × Nat} {N:Nat} {K:List (Nat × Nat × Value)} {wg:Nat} {L F:List HProp} {b o w:Nat}
theorem U_own {s:G.σ} {r:Hp} (hU:(G.g addr N K).U s r) (hw:w<N) (ha:addr w=(b,o)):r.own b o=some (.int .u64 (G.wf s w:Nat))∧G.wf s w<18446744073709551616:=by
 obtain ⟨h1,h2,sp,hc,_⟩:=hU
 have:=hc.1 w hw
 rw [ha] at this
 exact ⟨sp.o1 _ _ _ this.2,this.1⟩
theorem U_keep {s s':G.σ} {r:Hp} (hU:(G.g addr N K).U s r) (hf:∀ i,i<N→G.wf s' i=G.wf s i) (hz:G.zf s'=G.zf s):(G.g addr N K).U s' r:=by
 show Star [_,G.Z (G.zf s')] r
 rw [hz]
 exact star_map hU (wds_congr fun i hi=>(hf i hi).symm) fun _ z=>z
theorem U_lay (A:Apart addr N K) {s s':G.σ} {r:Hp} {n:Nat} (hU:(G.g addr N K).U s r) (hw:w<N) (ha:addr w=(b,o)) (hn:n<18446744073709551616) (hf:∀ i,i<N→G.wf s' i=upd (G.wf s) w n i) (hz:G.zf s'=G.zf s):(G.g addr N K).U s' (r.lay b o (some (.int .u64 (n:Nat)))):=by
 have h1:Star (wds addr N K (upd (G.wf s) w n)::[G.Z (G.zf s)]) (r.set b o (.int .u64 (n:Nat))):=(wt_wds A (.here:Has [wds addr N K (G.wf s),G.Z (G.zf s)] _ _) hw ha hn r hU).2
 show Star [_,G.Z (G.zf s')] _
 rw [hz]
 exact star_map h1 (wds_congr fun i hi=>(hf i hi).symm) fun _ z=>z
structure FrS (G:WGm) where
 q:G.θ
 n:Nat
abbrev frX (G:WGm) (addr:Nat→Nat × Nat) (N:Nat) (K:List (Nat × Nat × Value)) (wg:Nat) (s:FrS G):TX:=tx (G.g addr N K) 0 0 0 wg (.free s.q s.n)
theorem load_free (hw:w<N) (ha:addr w=(b,o)) {q:G.θ} {m:Nat} {mk:Int × Int} {FF:G.σ→G.σ × G.θ} (hpl:G.plan q=some (mk,FF)) (hk:∀ st,G.ok st→(∀ i,i<N→G.wf (FF st).1 i=G.wf st i)∧G.zf (FF st).1=G.zf st) :
  Tr Try.prog fH 58 [.pointer (some ⟨b,o,none⟩)] L (frX G addr N K wg ⟨q,m⟩) fun v L' x'=>∃ st m',m'<m∧G.ok st∧G.wf st w<18446744073709551616∧v=.int .u64 (G.wf st w:Nat)∧L'=L∧x'=frX G addr N K wg ⟨(FF st).2,m'⟩:=by
 refine tr_of_body Try.func58 rfl Try.ntmps58 (by simp) fun um Q _ hQ=>?_
 simp only [argE,Nat.zero_add,Nat.reduceAdd]
 repeat (first | refine we_seq ?_ | (refine wR ?_;try simp only [oS]) | refine wo_nil ?_ | refine wM ?_ | refine wA ?_ | refine wN ?_ | refine wD ?_)
 refine wo_loadF (g:=G.g addr N K) (F:=FF) (b:=b) (o:=o) (fun st v=>v=(G.wf st w:Nat)∧G.wf st w<18446744073709551616) rfl hpl trivial (by decide) (fun st r h1 h2=>⟨_,(U_own h2 hw ha).1,U_keep h2 (hk st h1).1 (hk st h1).2,rfl,(U_own h2 hw ha).2⟩) ?_
 rintro st _ m' hm hok ⟨rfl,hlt⟩
 repeat (first | refine wo_nil ?_ | refine wA ?_ | refine we_ret ?_)
 (first | refine or1 Try.func58 Try.results58 hQ rfl ?_ | refine on1 Try.func58 Try.results58 hQ rfl ?_)
 exact ⟨st,m',(by have h0:m=m'+1:=hm;omega),hok,hlt,rfl,rfl,rfl⟩
theorem store_free (A:Apart addr N K) (hw:w<N) (ha:addr w=(b,o)) {n:Nat} (hn:n<18446744073709551616) {q:G.θ} {m:Nat} {mk:Int × Int} {FF:G.σ→G.σ × G.θ} (hpl:G.plan q=some (mk,FF)) (hk:∀ st,G.ok st→(∀ i,i<N→G.wf (FF st).1 i=upd (G.wf st) w n i)∧G.zf (FF st).1=G.zf st) :
  Tr Try.prog fH 59 [.pointer (some ⟨b,o,none⟩),.int .u64 (n:Nat)] L (frX G addr N K wg ⟨q,m⟩) fun v L' x'=>∃ st m',m'<m∧G.ok st∧v=.tuple #[]∧L'=L∧x'=frX G addr N K wg ⟨(FF st).2,m'⟩:=by
 refine tr_of_body Try.func59 rfl Try.ntmps59 (by simp) fun um Q _ hQ=>?_
 simp only [argE,Nat.zero_add,Nat.reduceAdd]
 repeat (first | (refine wR ?_;try simp only [oS]) | refine wM ?_ | refine wN ?_ | refine wD ?_)
 refine wo_storeF (g:=G.g addr N K) (F:=FF) (b:=b) (o:=o) (y:=(n:Nat)) rfl rfl hpl trivial (by decide) (fun st r h1 h2=>⟨_,(U_own h2 hw ha).1,U_lay A h2 hw ha hn (hk st h1).1 (hk st h1).2⟩) ?_
 rintro st m' hm hok
 repeat (first | refine wo_nil ?_)
 (first | refine or0 Try.func59 Try.results59 hQ ?_ | refine on0 Try.func59 Try.results59 hQ ?_)
 exact ⟨st,m',(by have h0:m=m'+1:=hm;omega),hok,rfl,rfl,rfl⟩
theorem add_free (A:Apart addr N K) (hw:w<N) (ha:addr w=(b,o)) {n:Nat} {q:G.θ} {m:Nat} {mk:Int × Int} {FF:G.σ→G.σ × G.θ} (hpl:G.plan q=some (mk,FF)) (hk:∀ st,G.ok st→(∀ i,i<N→G.wf (FF st).1 i=upd (G.wf st) w ((G.wf st w+n)%18446744073709551616) i)∧G.zf (FF st).1=G.zf st) :
  Tr Try.prog fH 82 [.pointer (some ⟨b,o,none⟩),.int .u64 (n:Nat)] L (frX G addr N K wg ⟨q,m⟩) fun v L' x'=>∃ st m',m'<m∧G.ok st∧v=.int .u64 ((G.wf st w+n)%18446744073709551616:Nat)∧L'=L∧x'=frX G addr N K wg ⟨(FF st).2,m'⟩:=by
 refine tr_of_body Try.func82 rfl Try.ntmps82 (by simp) fun um Q _ hQ=>?_
 simp only [argE,Nat.zero_add,Nat.reduceAdd]
 repeat (first | refine we_seq ?_ | (refine wR ?_;try simp only [oS]) | refine wo_nil ?_ | refine wM ?_ | refine wA ?_ | refine wN ?_ | refine wD ?_)
 refine wo_addF (g:=G.g addr N K) (F:=FF) (b:=b) (o:=o) (y:=(n:Nat)) (fun st v=>v=(((G.wf st w+n)%18446744073709551616:Nat):Int)) rfl rfl hpl trivial (by decide) (fun st r h1 h2=>⟨_,((G.wf st w+n)%18446744073709551616:Nat),(U_own h2 hw ha).1,by rw [wrap_u64_mod];omega,U_lay A h2 hw ha (Nat.mod_lt _ (by decide)) (hk st h1).1 (hk st h1).2,rfl⟩) ?_
 rintro st _ m' hm hok rfl
 repeat (first | refine wo_nil ?_ | refine wA ?_ | refine we_ret ?_)
 (first | refine or1 Try.func82 Try.results82 hQ rfl ?_ | refine on1 Try.func82 Try.results82 hQ rfl ?_)
 exact ⟨st,m',(by have h0:m=m'+1:=hm;omega),hok,rfl,rfl,rfl⟩
theorem cas_free (A:Apart addr N K) (hw:w<N) (ha:addr w=(b,o)) {a n:Nat} (hn:n<18446744073709551616) {q:G.θ} {m:Nat} {mk:Int × Int} {FF:G.σ→G.σ × G.θ} (hpl:G.plan q=some (mk,FF)) (hk:∀ st,G.ok st→(∀ i,i<N→G.wf (FF st).1 i=(if G.wf st w=a then upd (G.wf st) w n else G.wf st) i)∧G.zf (FF st).1=G.zf st) :
  Tr Try.prog fH 68 [.pointer (some ⟨b,o,none⟩),.int .u64 (a:Nat),.int .u64 (n:Nat)] L (frX G addr N K wg ⟨q,m⟩) fun v L' x'=>∃ st m',m'<m∧G.ok st∧v=.bool (decide (G.wf st w=a))∧L'=L∧x'=frX G addr N K wg ⟨(FF st).2,m'⟩:=by
 refine tr_of_body Try.func68 rfl Try.ntmps68 (by simp) fun um Q _ hQ=>?_
 simp only [argE,Nat.zero_add,Nat.reduceAdd]
 repeat (first | refine we_seq ?_ | (refine wR ?_;try simp only [oS]) | refine wo_nil ?_ | refine wM ?_ | refine wA ?_ | refine wN ?_ | refine wD ?_)
 refine wo_casF (g:=G.g addr N K) (F:=FF) (b:=b) (o:=o) (a:=(a:Nat)) (y:=(n:Nat)) (fun st v=>v=decide (G.wf st w=a)) rfl rfl rfl hpl trivial (by decide) (fun st r h1 h2=>⟨_,(U_own h2 hw ha).1,?_,decide_eq_decide.2 (by omega)⟩) ?_
 ·have hk':=hk st h1
  by_cases hw':G.wf st w=a
  ·rw [if_pos hw'] at hk';rw [if_pos (by omega)];exact U_lay A h2 hw ha hn hk'.1 hk'.2
  ·rw [if_neg hw'] at hk';rw [if_neg (by omega)];exact U_keep h2 hk'.1 hk'.2
 rintro st _ m' hm hok rfl
 repeat (first | refine wo_nil ?_ | refine wA ?_ | refine we_ret ?_)
 (first | refine or1 Try.func68 Try.results68 hQ rfl ?_ | refine on1 Try.func68 Try.results68 hQ rfl ?_)
 exact ⟨st,m',(by have h0:m=m'+1:=hm;omega),hok,rfl,rfl,rfl⟩
def FrStep (G:WGm) (N:Nat) (w:Nat) (s:FrS G) (f:G.σ→Nat→Nat) (R:G.σ→FrS G→Prop):Prop :=
 w<N∧∃ mk F,G.plan s.q=some (mk,F)∧(∀ st,G.ok st→(∀ i,i<N→G.wf (F st).1 i=f st i)∧G.zf (F st).1=G.zf st)∧∀ st n,n<s.n→G.ok st→R st ⟨(F st).2,n⟩
def freAcc (G:WGm) (addr:Nat→Nat × Nat) (N:Nat) (K:List (Nat × Nat × Value)) (A:Apart addr N K) (wg:Nat) (Cf:HProp):Acc fH .nilIface where
 S:=FrS G
 C:=fun _=>Cf
 x:=fun s=>frX G addr N K wg s
 step:=fun _ _ s R=>R s
 addr:=addr
 load:=fun w s R=>FrStep G N w s G.wf fun st s'=>R (G.wf st w) s'
 store:=fun w n s R=>FrStep G N w s (fun st=>upd (G.wf st) w n) fun _ s'=>R s'
 cas:=fun w a n s R=>FrStep G N w s (fun st=>if G.wf st w=a then upd (G.wf st) w n else G.wf st) fun st s'=>R (decide (G.wf st w=a)) s'
 add:=fun w n s R=>FrStep G N w s (fun st=>upd (G.wf st) w ((G.wf st w+n)%18446744073709551616)) fun st s'=>R ((G.wf st w+n)%18446744073709551616) s'
 swap:=fun w n s R=>FrStep G N w s (fun st=>upd (G.wf st) w n) fun st s'=>R (G.wf st w) s'
 gate:=.inl ⟨rfl,fun op w s R h=>h⟩
 load_ok:=fun w s R L F b o ha ⟨hw,mk,FF,hpl,hk,hR⟩ hh=>tr_star _ (fun h st=>hh.star st) ((load_free hw ha hpl hk).post fun v L' x' ⟨st,m',h1,h2,h3,h4,h5,h6⟩ =>
  ⟨_,⟨G.wf st w,⟨(FF st).2,m'⟩,h3,hR st m' h1 h2,h4,rfl,h6⟩,fun h st=>by rw [h5] at st;exact st⟩)
 store_ok:=fun w n s R L F b o ha hn ⟨hw,mk,FF,hpl,hk,hR⟩ hh=>tr_star _ (fun h st=>hh.star st) ((store_free A hw ha hn hpl hk).post fun v L' x' ⟨st,m',h1,h2,h4,h5,h6⟩ =>
  ⟨_,⟨⟨(FF st).2,m'⟩,hR st m' h1 h2,h4,rfl,h6⟩,fun h st=>by rw [h5] at st;exact st⟩)
 cas_ok:=fun w a n s R L F b o ha hn ⟨hw,mk,FF,hpl,hk,hR⟩ hh=>tr_star _ (fun h st=>hh.star st) ((cas_free A hw ha hn hpl hk).post fun v L' x' ⟨st,m',h1,h2,h4,h5,h6⟩ =>
  ⟨_,⟨_,⟨(FF st).2,m'⟩,hR st m' h1 h2,h4,rfl,h6⟩,fun h st=>by rw [h5] at st;exact st⟩)
 add_ok:=fun w n s R L F b o ha hn ⟨hw,mk,FF,hpl,hk,hR⟩ hh=>tr_star _ (fun h st=>hh.star st) ((add_free A hw ha hpl hk).post fun v L' x' ⟨st,m',h1,h2,h4,h5,h6⟩ =>
  ⟨_,⟨_,⟨(FF st).2,m'⟩,Nat.mod_lt _ (by decide),hR st m' h1 h2,h4,rfl,h6⟩,fun h st=>by rw [h5] at st;exact st⟩)
end
end Go.Proofs.Ytdcbnbmahndecaa
namespace Go.Proofs.Ytdcbnbmahndecaa
open Go Go.PB
attribute [local irreducible] Mo Bin Eql Tr Wo Ap Wle
section
theorem wds_cut1 {addr:Nat→Nat × Nat} {N r o:Nat} {v:Value} {K:List (Nat × Nat × Value)} {f:Nat→Nat} (A:Apart addr N ((r,o,v)::K)) (hK:∀ k∈K,¬ (k.1=r∧k.2.1=o)) {L:List HProp} {h:Hp} (s:Star (wds addr N ((r,o,v)::K) f::L) h):Star (wds addr N K f::arr r o [v]::L) h:=by
 obtain ⟨h1,h2,sp,hc,hL⟩:=s
 have hk:h1.own r o=some v:=hc.2 (r,o,v) List.mem_cons_self
 let ha:Hp:={ h1 with own:=fun b p=>if b=r∧p=o then none else h1.own b p }
 let hb:Hp:=⟨fun b p=>if b=r∧p=o then some v else none,fun _ _=>none,fun _=>none,fun _=>none⟩
 have s1:Split h1 ha hb:=by
  refine ⟨fun _ _ _ e=>e,fun _ _ _ e=>(by cases e),fun b p u e=>?_,fun b p u e=>?_,fun b p=>?_,fun _ _ e=>e,fun _ _ e=>(by cases e),fun _=>.inr rfl,fun _ _ e=>e,fun _ _ e=>(by cases e)⟩
  ·simp only [ha] at e;split at e
   ·cases e
   ·exact e
  ·simp only [hb] at e;split at e
   ·rename_i hh;cases e;rw [hh.1,hh.2];exact hk
   ·cases e
  ·by_cases hh:b=r∧p=o
   ·left;simp [ha,hh]
   ·right;simp [hb,hh]
 obtain ⟨t1,t2⟩:=sp.swap.assoc s1
 refine ⟨ha,_,t1,⟨fun w hw=>?_,fun k hk=>?_⟩,hb,h2,t2.swap,fun i u hi=>?_,hL⟩
 ·obtain ⟨e1,e2⟩:=hc.1 w hw
  refine ⟨e1,?_⟩
  have hne:=A.fix w hw (r,o,v) List.mem_cons_self
  show (if (addr w).1=r∧(addr w).2=o then none else h1.own (addr w).1 (addr w).2)=_
  rw [if_neg fun hh=>hne (Prod.ext hh.1 hh.2)];exact e2
 ·show (if k.1=r∧k.2.1=o then none else h1.own k.1 k.2.1)=_
  rw [if_neg (hK k hk)];exact hc.2 k (List.mem_cons_of_mem _ hk)
 ·have:i=0:=by have:=(List.getElem?_eq_some_iff.1 hi).1;simp at this;omega
  subst this
  simp at hi;subst hi
  show (if r=r∧o+0=o then some _ else none)=_
  rw [if_pos ⟨rfl,Nat.add_zero o⟩]
theorem apart_tail {addr:Nat→Nat × Nat} {N:Nat} {c:Nat × Nat × Value} {K:List (Nat × Nat × Value)} (A:Apart addr N (c::K)):Apart addr N K:=⟨A.inj,fun w hw k hk=>A.fix w hw k (List.mem_cons_of_mem _ hk)⟩
theorem cut_own2 {A:HProp} (hA:∀ r:Hp,A r→A { r with obj:=fun _=>none }) {r:Hp} (h:Star [A,fun _=>True] r):Star [A,fun _=>True] { r with obj:=fun _=>none }:=by
 obtain ⟨h1,h2,sp,c,h3⟩:=h
 exact ⟨{ h1 with obj:=fun _=>none },{ h2 with obj:=fun _=>none },⟨sp.r1,sp.r2,sp.o1,sp.o2,sp.od,fun _ _ e=>(by cases e),fun _ _ e=>(by cases e),fun _=>.inr rfl,sp.s1,sp.s2⟩,hA _ c,star_one trivial⟩
end
section
section
variable {B:Hand} [Lets B]
def kpAcc (x:B.X) (addr:Nat→Nat × Nat) (N:Nat) (A:Apart addr N []) (Cf:HProp):Acc B .nilIface where
 S:=Nat→Nat
 C:=fun s=>all [wds addr N [] s,Cf]
 x:=fun _=>x
 step:=fun _ _ s R=>R s
 addr:=addr
 load:=fun w s R=>w<N∧R (s w) s
 store:=fun w n s R=>w<N∧R (upd s w n)
 cas:=fun w a n s R=>w<N∧if s w=a then R true (upd s w n) else R false s
 add:=fun w n s R=>w<N∧R ((s w+n)%18446744073709551616) (upd s w ((s w+n)%18446744073709551616))
 swap:=fun w n s R=>w<N∧R (s w) (upd s w n)
 gate:=.inl ⟨rfl,fun _ _ _ _ h=>h⟩
 load_ok:=fun w s R L F b o ha hl hh=>tr_star _ (fun h st=>star_open (hh.star st)) (tr_pure (of_has .here fun h hc=>(hc.1 w hl.1).1) fun hs =>
  (load_lone (rd_wds .here hl.1 ha)).post fun v L' x' ⟨h1,h2,h3⟩=>⟨_,⟨s w,s,hs,hl.2,h1,rfl,h3⟩,fun h st=>star_shut (M:=[_,_]) (by rw [h2] at st;exact st)⟩)
 store_ok:=fun w n s R L F b o ha hn hl hh=>tr_star _ (fun h st=>star_open (hh.star st))
  ((store_lone (wt_wds A .here hl.1 ha hn)).post fun v L' x' ⟨h1,h2,h3⟩=>⟨_,⟨upd s w n,hl.2,h1,rfl,h3⟩,fun h st=>star_shut (M:=[_,_]) (by rw [h2] at st;exact st)⟩)
 cas_ok:=fun w m n s R L F b o ha hn hl hh=>tr_star _ (fun h st=>star_open (hh.star st))
  ((cas_lone (rd_wds .here hl.1 ha) (wt_wds A .here hl.1 ha hn)).post fun v L' x' ⟨h1,h2,h3⟩=>by
   obtain ⟨h4,h5⟩:=hl
   by_cases e:s w=m
   ·rw [if_pos e] at h5;rw [if_pos (by omega)] at h2;exact ⟨_,⟨true,_,h5,by rw [h1];simp [e],rfl,h3⟩,fun h st=>star_shut (M:=[_,_]) (by rw [h2] at st;exact st)⟩
   ·rw [if_neg e] at h5;rw [if_neg (by omega)] at h2;exact ⟨_,⟨false,_,h5,by rw [h1];simp;omega,rfl,h3⟩,fun h st=>star_shut (M:=[_,_]) (by rw [h2] at st;exact st)⟩)
 add_ok:=fun w n s R L F b o ha hn hl hh=>tr_star _ (fun h st=>star_open (hh.star st))
  ((add_lone (r:=((s w+n)%18446744073709551616:Nat)) (rd_wds .here hl.1 ha) (by rw [wrap_u64_mod];omega) (wt_wds A .here hl.1 ha (Nat.mod_lt _ (by decide)))).post fun v L' x' ⟨h1,h2,h3⟩=>⟨_,⟨_,_,Nat.mod_lt _ (by decide),hl.2,h1,rfl,h3⟩,fun h st=>star_shut (M:=[_,_]) (by rw [h2] at st;exact st)⟩)
end
end
end Go.Proofs.Ytdcbnbmahndecaa
namespace Go.PB
open Go
section
def Dup (c:HProp):Prop:=∀ (L:List HProp) (h:Hp),Star (c::L) h→Star (c::c::L) h
theorem dup_fro {b o:Nat} {vs:List Value}:Dup (fro b o vs):=fun L h s=>fro_two s
theorem dup_base {W:World}:Dup (base W):=fun L h s=>by
 obtain ⟨h1,h2,s1,ha,hL⟩:=s
 exact ⟨⟨fun _ _=>none,h1.ro,fun _=>none,fun _=>none⟩,h,⟨fun _ _ _ e=>s1.r1 _ _ _ e,fun _ _ _ e=>e,fun _ _ _ e=>by simp at e,fun _ _ _ e=>e,fun _ _=>.inl rfl,fun _ _ e=>by simp at e,fun _ _ e=>e,fun _=>.inl rfl,fun _ _ e=>by simp at e,fun _ _ e=>e⟩,ha,h1,h2,s1,ha,hL⟩
theorem all_cons {c:HProp} {M L:List HProp} {h:Hp} (s:Star (all (c::M)::L) h):Star (c::all M::L) h :=
 star_map (star_open (M:=c::M) s) (fun _ z=>z) fun _ z=>star_shut z
theorem cons_all {c:HProp} {M L:List HProp} {h:Hp} (s:Star (c::all M::L) h):Star (all (c::M)::L) h :=
 star_shut (M:=c::M) (star_map s (fun _ z=>z) fun _ z=>star_open z)
theorem dup_all:∀ {M:List HProp},(∀ c∈M,Dup c)→Dup (all M)
 | [],_=>fun L h s=>star_shut (M:=[]) s
 | c::M,hM=>fun L h s=>by
  have s1:=hM c (by simp) _ _ (all_cons s)
  have s2:Star (all M::c::c::L) h:=Ent.star (.take (.there (.there .here)) (.take .here (.take .here .refl))) s1
  have s3:=dup_all (fun d hd=>hM d (by simp [hd])) _ _ s2
  have s4:Star (c::all M::c::all M::L) h:=Ent.star (.take (.there (.there .here)) (.take .here (.take (.there .here) (.take .here .refl)))) s3
  exact cons_all (star_map s4 (fun _ z=>z) fun _ z=>star_map z (fun _ z=>z) fun _ z=>cons_all z)
theorem star_tail:∀ {M L:List HProp} {h:Hp},Star (M++L) h→Star (all L::M) h
 | [],L,h,s=>star_shut (L:=[]) (by rw [List.append_nil];exact s)
 | c::M,L,h,s=>star_swap (star_map (L:=M++L) s (fun _ z=>z) fun _ z=>star_tail z)
end
end Go.PB
namespace Go.Proofs.Ytdcbnbmahndecaa
open Go Go.PB
attribute [local irreducible] Mo Bin Eql Tr Wo Ap Wle
section
theorem rd_allR {M L:List HProp} {b o:Nat} {v:Value} (r:Rd M b o v):Rd (all M::L) b o v:=fun h s =>
 r h (star_drop (star_tail (star_open s)))
def rtPc (nb nx:Nat):HProp:=arr nb 0 [num nx]
def rtTc (tbx gb:Nat) (tk:List Nat):HProp:=fun h=>∃ sv,all [arr tbx 0 [sv],vec 1 sv (tk.map num),arr gb 0 [.bool true]] h
def rtPv (nb tbx gb:Nat):RtQ→HProp
 | .P _ nx _=>all [rtPc nb nx]
 | .T _ tk _=>all [rtTc tbx gb tk]
def rtW (n nb tbx gb:Nat):WGm where
 σ:=Nat→Nat
 θ:=RtQ
 ζ:=Unit
 wf:=fun s=>s
 zf:=fun _=>()
 Z:=fun _ _=>True
 plan:=rtPlan n
 ok:=fun _=>True
 Pv:=rtPv nb tbx gb
 up:=fun q h st=>by cases q <;> exact star_open (M:=[_]) st
theorem rt_apart {r b n:Nat} (h:r≠b):Apart (ringAddr r b) (n+2) []:=apart_tail (ring_apart h n)
section
variable {n k nb tbx gb r b:Nat} {h:r≠b} {sb says turn fin wg:Nat} {Pm Cf Ro:HProp} {m nx:Nat} {tk:List Nat}
abbrev rtG (n nb tbx gb r b:Nat) (h:r≠b) (sb says turn fin wg:Nat) (Pm:HProp):Acc tH (gateV sb):=gamAcc (rtW n nb tbx gb) (ringAddr r b) (n+2) [] (rt_apart h) sb says turn fin wg Pm
theorem rtG_at (hn:n=2^k) (hk:k≤10) (hC:Rd [Ro] r 2 (.slice (some ⟨b,0,none⟩) n n)) {p:HProp}:RingAt (rtG n nb tbx gb r b h sb says turn fin wg (all [p,Ro])) r b n k where
 hn:=hn
 hk:=hk
 hdr:=fun s=>rd_allR (.there (.there (.there (rd_allR (.there hC)))))
 a0:=rfl
 a1:=rfl
 a2:=fun i _=>by show ringAddr r b (2+i)=_;rw [Nat.add_comm];rfl
structure RtS (q:RtQ) (s:GaS (rtW n nb tbx gb)):Prop where
 q:s.q=q
 f:∀ i,i<n+2→s.f i=(show Nat→Nat from s.s) i
theorem all_one {p:HProp} {M:List HProp}:∀ h,all (p::M) h→all [p] h:=fun h z=>by
 obtain ⟨h1,h2,sp,c,_⟩:=z
 exact ⟨h1,h2,sp,c,trivial⟩
theorem rtG_put (hn:0<n) {s:GaS (rtW n nb tbx gb)} (hs:RtS (.P (m+1) nx .a) s) :
  PutT (rtG n nb tbx gb r b h sb says turn fin wg (all [rtPc nb nx,Ro])) n nx s fun q s'=>RtS (.P m (if q=true then nx+1 else nx) .a) s':=by
 obtain ⟨sf,sc,ss,sq,sn⟩:=s
 obtain ⟨hq,hf⟩:=hs
 dsimp only at hq hf
 subst hq
 unfold PutT
 refine ga_go rfl rfl hf rfl all_one fun (st:Nat→Nat) m1 _ _=>⟨by omega,?_⟩
 refine ga_go rfl rfl (fun i _=>rfl) rfl all_one fun (st2:Nat→Nat) m2 _ _=>⟨by omega,?_⟩
 show if n≤(st 1+18446744073709551616-st2 0)%18446744073709551616 then _ else _
 by_cases c:n≤(st 1+18446744073709551616-st2 0)%18446744073709551616
 ·rw [if_pos c]
  simp only [if_pos c]
  exact ⟨rfl,fun i _=>rfl⟩
 ·rw [if_neg c]
  simp only [if_neg c]
  have hmod:st 1%n<n:=Nat.mod_lt _ hn
  refine ga_go rfl rfl (fun i _=>rfl) rfl all_one fun (st3:Nat→Nat) m3 _ _=>⟨by show 2+st 1%n<n+2;omega,?_⟩
  refine ga_go rfl rfl (fun i _=>rfl) rfl all_one fun (st4:Nat→Nat) m4 _ _=>⟨by omega,?_⟩
  exact ⟨rfl,fun i _=>rfl⟩
theorem rtG_take (hn:0<n) {s:GaS (rtW n nb tbx gb)} (hs:RtS (.T (m+1) tk .a) s) :
  TakeT (rtG n nb tbx gb r b h sb says turn fin wg (all [rtTc tbx gb tk,Ro])) n s fun q s'=>RtS (.T (m+1) (match q with | some v=>tk++[v] | none=>tk) .e) s':=by
 obtain ⟨sf,sc,ss,sq,sn⟩:=s
 obtain ⟨hq,hf⟩:=hs
 dsimp only at hq hf
 subst hq
 unfold TakeT
 refine ga_go rfl rfl hf rfl all_one fun (st:Nat→Nat) m1 _ _=>⟨by omega,?_⟩
 refine ga_go rfl rfl (fun i _=>rfl) rfl all_one fun (st2:Nat→Nat) m2 _ _=>⟨by omega,?_⟩
 show if st 0=st2 1 then _ else _
 by_cases c:st 0=st2 1
 ·rw [if_pos c]
  simp only [if_pos c]
  exact ⟨rfl,fun i _=>rfl⟩
 ·rw [if_neg c]
  simp only [if_neg c]
  have hmod:st 0%n<n:=Nat.mod_lt _ hn
  refine ga_go rfl rfl (fun i _=>rfl) rfl all_one fun (st3:Nat→Nat) m3 _ _=>⟨by show 2+st 0%n<n+2;omega,?_⟩
  refine ga_go rfl rfl (fun i _=>rfl) rfl all_one fun (st4:Nat→Nat) m4 _ _=>⟨by omega,?_⟩
  exact ⟨rfl,fun i _=>rfl⟩
theorem rtG_len {s:GaS (rtW n nb tbx gb)} (hs:RtS (.T (m+1) tk .e) s) :
  LenT (rtG n nb tbx gb r b h sb says turn fin wg (all [rtTc tbx gb tk,Ro])) n s fun q s'=>RtS (.T m tk .a) s':=by
 obtain ⟨sf,sc,ss,sq,sn⟩:=s
 obtain ⟨hq,hf⟩:=hs
 dsimp only at hq hf
 subst hq
 unfold LenT
 refine ga_go rfl rfl hf rfl all_one fun (st:Nat→Nat) m1 _ _=>⟨by omega,?_⟩
 refine ga_go rfl rfl (fun i _=>rfl) rfl all_one fun (st2:Nat→Nat) m2 _ _=>⟨by omega,?_⟩
 exact ⟨rfl,fun i _=>rfl⟩
abbrev rtF (n nb tbx gb r b:Nat) (h:r≠b) (wg:Nat) (Cf:HProp):Acc fH .nilIface:=freAcc (rtW n nb tbx gb) (ringAddr r b) (n+2) [] (rt_apart h) wg Cf
theorem rtF_at (hn:n=2^k) (hk:k≤10) (hC:Rd [Ro] r 2 (.slice (some ⟨b,0,none⟩) n n)) {p:HProp}:RingAt (rtF n nb tbx gb r b h wg (all [p,Ro])) r b n k where
 hn:=hn
 hk:=hk
 hdr:=fun s=>rd_allR (.there hC)
 a0:=rfl
 a1:=rfl
 a2:=fun i _=>by show ringAddr r b (2+i)=_;rw [Nat.add_comm];rfl
def RtE (q:RtQ) (s:FrS (rtW n nb tbx gb)):Prop:=s.q=q
theorem rtF_put (hn:0<n) {s:FrS (rtW n nb tbx gb)} (hs:RtE (.P (m+1) nx .a) s) :
  PutT (rtF n nb tbx gb r b h wg Cf) n nx s fun q s'=>RtE (.P m (if q=true then nx+1 else nx) .a) s':=by
 obtain ⟨sq,sn⟩:=s
 have hq:sq=.P (m+1) nx .a:=hs
 subst hq
 unfold PutT
 refine ⟨by omega,_,_,rfl,fun st _=>⟨fun i _=>rfl,rfl⟩,fun (st:Nat→Nat) m1 _ _=>?_⟩
 refine ⟨by omega,_,_,rfl,fun st _=>⟨fun i _=>rfl,rfl⟩,fun (st2:Nat→Nat) m2 _ _=>?_⟩
 show if n≤(st 1+18446744073709551616-st2 0)%18446744073709551616 then _ else _
 by_cases c:n≤(st 1+18446744073709551616-st2 0)%18446744073709551616
 ·rw [if_pos c]
  simp only [if_pos c]
  exact rfl
 ·rw [if_neg c]
  simp only [if_neg c]
  have hmod:st 1%n<n:=Nat.mod_lt _ hn
  refine ⟨by show 2+st 1%n<n+2;omega,_,_,rfl,fun st _=>⟨fun i _=>rfl,rfl⟩,fun (st3:Nat→Nat) m3 _ _=>?_⟩
  refine ⟨by omega,_,_,rfl,fun st _=>⟨fun i _=>rfl,rfl⟩,fun (st4:Nat→Nat) m4 _ _=>?_⟩
  exact rfl
theorem rtF_take (hn:0<n) {s:FrS (rtW n nb tbx gb)} (hs:RtE (.T (m+1) tk .a) s) :
  TakeT (rtF n nb tbx gb r b h wg Cf) n s fun q s'=>RtE (.T (m+1) (match q with | some v=>tk++[v] | none=>tk) .e) s':=by
 obtain ⟨sq,sn⟩:=s
 have hq:sq=.T (m+1) tk .a:=hs
 subst hq
 unfold TakeT
 refine ⟨by omega,_,_,rfl,fun st _=>⟨fun i _=>rfl,rfl⟩,fun (st:Nat→Nat) m1 _ _=>?_⟩
 refine ⟨by omega,_,_,rfl,fun st _=>⟨fun i _=>rfl,rfl⟩,fun (st2:Nat→Nat) m2 _ _=>?_⟩
 show if st 0=st2 1 then _ else _
 by_cases c:st 0=st2 1
 ·rw [if_pos c]
  simp only [if_pos c]
  exact rfl
 ·rw [if_neg c]
  simp only [if_neg c]
  have hmod:st 0%n<n:=Nat.mod_lt _ hn
  refine ⟨by show 2+st 0%n<n+2;omega,_,_,rfl,fun st _=>⟨fun i _=>rfl,rfl⟩,fun (st3:Nat→Nat) m3 _ _=>?_⟩
  refine ⟨by omega,_,_,rfl,fun st _=>⟨fun i _=>rfl,rfl⟩,fun (st4:Nat→Nat) m4 _ _=>?_⟩
  exact rfl
theorem rtF_len {s:FrS (rtW n nb tbx gb)} (hs:RtE (.T (m+1) tk .e) s) :
  LenT (rtF n nb tbx gb r b h wg Cf) n s fun q s'=>RtE (.T m tk .a) s':=by
 obtain ⟨sq,sn⟩:=s
 have hq:sq=.T (m+1) tk .e:=hs
 subst hq
 unfold LenT
 refine ⟨by omega,_,_,rfl,fun st _=>⟨fun i _=>rfl,rfl⟩,fun (st:Nat→Nat) m1 _ _=>?_⟩
 refine ⟨by omega,_,_,rfl,fun st _=>⟨fun i _=>rfl,rfl⟩,fun (st2:Nat→Nat) m2 _ _=>?_⟩
 exact rfl
end
end
end Go.Proofs.Ytdcbnbmahndecaa
namespace Go.Proofs.Ytdcbnbmahndecaa
open Go Go.PB
attribute [local irreducible] Mo Bin Eql Tr Wo Ap
section
variable {B:Hand} [Lets B] {L F:List HProp} {x:B.X} {r b n k:Nat} {s:Nat→Nat} {row:List Nat}
theorem put_lone (h:r≠b) (hn:n=2^k) (hk:k≤10) (R:RowAt n s row) {v:Nat} (hv:v<18446744073709551616) (hh:Has L ((ringAcc x r b n h).C s) F) :
  Tr Try.prog B 12 [.pointer (some ⟨r,0,none⟩),.nilIface,.int .u64 v] L x fun v' L' x'=>∃ s',v'=.tuple #[.bool (decide (row.length<n)),.int .i64 0]∧RowAt n s' (if row.length<n then row++[v] else row)∧L'=(ringAcc x r b n h).C s'::F∧x'=x :=
 (put_tr (A:=ringAcc x r b n h) (ring_at h hn hk) hv (put_row hn hk R) hh).mono fun v' L' x' ⟨q,s',⟨h1,h2⟩,h3,h4,h5⟩=>⟨s',h1▸h3,h2,h4,h5⟩
theorem take_lone (h:r≠b) (hn:n=2^k) (hk:k≤10) (R:RowAt n s row) (hh:Has L ((ringAcc x r b n h).C s) F) :
  Tr Try.prog B 13 [.pointer (some ⟨r,0,none⟩),.nilIface] L x fun v' L' x'=>∃ s',row.head?.getD 0<18446744073709551616∧v'=.tuple #[.int .u64 (row.head?.getD 0:Nat),.bool row.head?.isSome,.int .i64 0]∧RowAt n s' row.tail∧L'=(ringAcc x r b n h).C s'::F∧x'=x :=
 (take_tr (A:=ringAcc x r b n h) (ring_at h hn hk) (take_row hn hk R) hh).mono fun v' L' x' ⟨q,s',⟨h1,h2⟩,h3,h4,h5,h6⟩=>⟨s',h1▸h3,h1▸h4,h2,h5,h6⟩
theorem len_lone (h:r≠b) (hn:n=2^k) (hk:k≤10) (R:RowAt n s row) (hh:Has L ((ringAcc x r b n h).C s) F) :
  Tr Try.prog B 14 [.pointer (some ⟨r,0,none⟩),.nilIface] L x fun v' L' x'=>v'=.tuple #[.int .i64 (row.length:Nat),.int .i64 0]∧L'=(ringAcc x r b n h).C s::F∧x'=x :=
 (len_tr (A:=ringAcc x r b n h) (ring_at h hn hk) (len_row R (by rw [hn];exact pow_le hk)) hh).mono fun v' L' x' ⟨q,s',⟨h1,h2⟩,h3,h4,h5,h6⟩=>⟨by rw [h4,h1],by rw [h5,h2],h6⟩
theorem works_tr:Tr Try.prog B 8 [] L x fun v L' x'=>v=.bool true∧L'=L∧x'=x:=by
 refine Tr.post (R:=fun v L' x'=>∃ c,v=.bool true∧L'=c::L∧x'=x) ?_ (by rintro v L' x' ⟨c,rfl,rfl,rfl⟩;exact ⟨L,⟨rfl,rfl,rfl⟩,fun h s=>star_drop s⟩)
 refine tr_of_body Try.func8 rfl Try.ntmps8 (by simp) fun um Q _ hQ=>?_
 simp only [argE,Nat.zero_add,Nat.reduceAdd]
 repeat (first | refine we_seq ?_ | (refine wR ?_;try simp only [oS]) | refine wo_nil ?_ | refine wA ?_)
 refine wo_call (.cons rfl .nil) trivial (new_lone (n:=2) (k:=1) rfl (by omega)) ?_
 rintro v L' x' ⟨r,b,h,s,rfl,R,rfl,rfl⟩
 repeat (first | refine we_seq ?_ | (refine wR ?_;try simp only [oS]) | refine wo_nil ?_ | refine wM ?_ | refine wA ?_ | (apply wo_po;apply mo_extract;exact rfl;exact rfl;exact gY))
 refine wo_call (.cons rfl (.cons rfl (.cons rfl .nil))) trivial (put_lone (k:=1) (v:=5) h rfl (by omega) R (by omega) .here) ?_
 rintro v L' x' ⟨s,rfl,R,rfl,rfl⟩
 repeat (first | refine we_seq ?_ | (refine wR ?_;try simp only [oS]) | refine wo_nil ?_ | refine wM ?_ | refine wA ?_ | (apply wo_po;apply mo_extract;exact rfl;exact rfl;exact gY))
 refine wo_call (.cons rfl (.cons rfl (.cons rfl .nil))) trivial (put_lone (k:=1) (v:=6) h rfl (by omega) R (by omega) .here) ?_
 rintro v L' x' ⟨s,rfl,R,rfl,rfl⟩
 repeat (first | refine we_seq ?_ | (refine wR ?_;try simp only [oS]) | refine wo_nil ?_ | refine wM ?_ | refine wA ?_ | (apply wo_po;apply mo_extract;exact rfl;exact rfl;exact gY))
 refine wo_call (.cons rfl (.cons rfl (.cons rfl .nil))) trivial (put_lone (k:=1) (v:=7) h rfl (by omega) R (by omega) .here) ?_
 rintro v L' x' ⟨s,rfl,R,rfl,rfl⟩
 repeat (first | refine we_seq ?_ | (refine wR ?_;try simp only [oS]) | refine wo_nil ?_ | refine wM ?_ | refine wA ?_ | (apply wo_po;apply mo_extract;exact rfl;exact rfl;exact gY))
 refine wo_call (.cons rfl (.cons rfl .nil)) trivial (take_lone (k:=1) h rfl (by omega) R .here) ?_
 rintro v L' x' ⟨s,_,rfl,R,rfl,rfl⟩
 repeat (first | refine we_seq ?_ | (refine wR ?_;try simp only [oS]) | refine wo_nil ?_ | refine wM ?_ | refine wA ?_ | (apply wo_po;apply mo_extract;exact rfl;exact rfl;exact gY))
 refine wo_call (.cons rfl (.cons rfl .nil)) trivial (len_lone (k:=1) h rfl (by omega) R .here) ?_
 rintro v L' x' ⟨rfl,rfl,rfl⟩
 repeat (first | refine weqlT ?_ | refine we_seq ?_ | (refine wR ?_;try simp only [oS]) | refine wo_nil ?_ | refine wM ?_ | refine wA ?_ | refine wK ?_ | (apply wo_po;apply mo_extract;exact rfl;exact rfl;exact gY) | (apply wo_po;apply mo_not;exact rfl;exact gY) | (apply wo_po;apply mo_bin;exact rfl;exact rfl;exact bin_eql;exact gY) | refine we_ret ?_)
 (first | refine or1 Try.func8 Try.results8 hQ rfl ?_ | refine on1 Try.func8 Try.results8 hQ rfl ?_)
 exact ⟨_,rfl,rfl,rfl⟩
structure DoAt (L:List HProp) (a:Option Addr) (l:List (Int × Nat)):Prop where
 rng:∀ y∈l,(-9223372036854775808≤y.1∧y.1≤9223372036854775807)∧y.2<18446744073709551616
 at_:∀ i y,l[i]?=some y→∃ b o,a=some ⟨b,o,none⟩∧Rd L b (o+2*i) (.int .i64 y.1)∧Rd L b (o+2*i+1) (.int .u64 y.2)
end
end Go.Proofs.Ytdcbnbmahndecaa
namespace Go.Proofs.Ytdcbnbmahndecaa
open Go Go.PB
attribute [local irreducible] Mo Bin Eql Tr Wo Ap Wle
attribute [local instance] Pass.of_no
section
abbrev rtPF (xb mb rb nb:Nat):Value:=.func (.func 32) #[] #[.pointer (some ⟨xb,0,none⟩),.pointer (some ⟨mb,0,none⟩),.pointer (some ⟨rb,0,none⟩),.pointer (some ⟨nb,0,none⟩)]
abbrev rtTF (xb mb rb tbx gb wb:Nat):Value:=.func (.func 33) #[] #[.pointer (some ⟨xb,0,none⟩),.pointer (some ⟨mb,0,none⟩),.pointer (some ⟨rb,0,none⟩),.pointer (some ⟨tbx,0,none⟩),.pointer (some ⟨gb,0,none⟩),.pointer (some ⟨wb,0,none⟩)]
structure RtRo (Ro:HProp) (xb mb rb wb r b n:Nat) (a0 a1 mo:Int):Prop where
 x0:Rd [Ro] xb 0 (.int .i64 a0)
 x1:Rd [Ro] xb 1 (.int .i64 a1)
 m:Rd [Ro] mb 0 (.int .i64 mo)
 q:Rd [Ro] rb 0 (.pointer (some ⟨r,0,none⟩))
 w:Rd [Ro] wb 0 (.int .i64 (n:Nat))
 h:Rd [Ro] r 2 (.slice (some ⟨b,0,none⟩) n n)
 h0:-9223372036854775808≤a0∧a0≤9223372036854775807
 h1:-9223372036854775808≤a1∧a1≤9223372036854775807
 hm:0<mo∧mo≤2000
section
variable {B:Hand} [Lets B] {gv:Value} {S:Type} {x:S→B.X} {C0:S→HProp} {Ro:HProp} {F:List HProp} {xb mb rb wb nb tbx gb r b n W:Nat} {a0 a1 mo:Int}
def rpInv (gv:Value) (x:S→B.X) (C:Nat→S→HProp) (I:Nat→Nat→S→Prop) (xb mb rb nb W:Nat) (Ro:HProp) (F:List HProp):PB.Inv (Nat × Nat × S) B.X where
 e:=fun i=>[(0,gv),(1,.pointer (some ⟨xb,0,none⟩)),(2,.pointer (some ⟨mb,0,none⟩)),(3,.pointer (some ⟨rb,0,none⟩)),(4,.pointer (some ⟨nb,0,none⟩)),(6,.int .i64 (i.1:Nat))]
 L:=fun i=>C i.2.1 i.2.2::Ro::F
 x:=fun i=>x i.2.2
 ok:=fun i=>i.1≤W∧i.2.1≤i.1+1∧I i.1 i.2.1 i.2.2
set_option maxHeartbeats 4000000 in
theorem rputs_tr {C:Nat→S→HProp} {I:Nat→Nat→S→Prop} {s0:S} (O:RtRo Ro xb mb rb wb r b n a0 a1 mo) (hW:a0%mo=W)
  (hop:∀ nx s R h,Star (C nx s::R) h→Star (arr nb 0 [num nx]::C0 s::R) h) (hsh:∀ nx s R h,Star (arr nb 0 [num nx]::C0 s::R) h→Star (C nx s::R) h)
  (hPut:∀ i nx s R,i<W→nx≤i+1→I i nx s→Tr Try.prog B 12 [.pointer (some ⟨r,0,none⟩),gv,.int .u64 nx] (C nx s::R) (x s) fun v L' x'=>∃ q s',I (i+1) (if q=true then nx+1 else nx) s'∧v=.tuple #[.bool q,.int .i64 0]∧L'=C nx s'::R∧x'=x s') (h0:I 0 1 s0) :
  Tr Try.prog B 32 [gv,.pointer (some ⟨xb,0,none⟩),.pointer (some ⟨mb,0,none⟩),.pointer (some ⟨rb,0,none⟩),.pointer (some ⟨nb,0,none⟩)] (C 1 s0::Ro::F) (x s0) fun v L' x'=>∃ nx s',I W nx s'∧v=.tuple #[]∧L'=C nx s'::Ro::F∧x'=x s':=by
 have hm1:=O.hm.1
 have hm2:=O.hm.2
 have e1:=Int.emod_nonneg a0 (by omega:mo≠0)
 have e2:=Int.emod_lt_of_pos a0 hm1
 have hWm:W<2000:=by omega
 refine tr_of_body Try.func32 rfl Try.ntmps32 (by simp) fun um Q _ hQ=>?_
 simp only [argE,Nat.zero_add,Nat.reduceAdd]
 repeat (first | refine we_seq ?_ | (refine wR ?_;try simp only [oS]) | refine wo_nil ?_ | refine wA ?_ | refine we_block ?_)
 refine we_loopN (rpInv gv x C I xb mb rb nb W Ro F) (fun i=>W-i.1) (0,1,s0) ⟨Nat.zero_le _,Nat.le_refl _,h0⟩ ⟨rfl,rfl,rfl,rfl,rfl,rfl,trivial⟩ .refl rfl ?_
 clear h0
 rintro ⟨i,nx,s⟩ ⟨hi,hnx,hs⟩
 dsimp only at hi hnx hs
 simp only [rpInv]
 have q0:∀ {c:HProp},Rd (c::Ro::F) xb (0+0) (.int .i64 a0):=.there (Rd.of .here O.x0)
 have q1:∀ {c:HProp},Rd (c::Ro::F) mb 0 (.int .i64 mo):=.there (Rd.of .here O.m)
 have q2:∀ {c d:HProp},Rd (c::d::Ro::F) rb 0 (.pointer (some ⟨r,0,none⟩)):=.there (.there (Rd.of .here O.q))
 repeat (first | (apply wo_po;apply mo_indexArr (r:=0);exact rfl;exact rfl;omega;omega;omega;exact trivial) | (apply wo_po;apply mo_load;exact rfl;(first | exact q0 | exact q1);exact trivial) | refine we_seq ?_ | (refine wR ?_;try simp only [oS]) | refine wM ?_)
 refine wo_call (.cons rfl (.cons rfl .nil)) trivial (within_tr O.h0 (by omega)) ?_
 rintro v1 L1 x1 ⟨rfl,hL1,rfl⟩
 rw [hL1,hW]
 clear hL1
 by_cases hlt:i<W
 ·repeat (first | refine wlssT ?_ | refine we_seq ?_ | (refine wR ?_;try simp only [oS]) | refine wo_nil ?_ | refine wT ?_ | refine we_skip ?_ | refine we_block ?_)
  refine wo_star (arr nb 0 [num nx]::C0 s::Ro::F) (fun h st=>hop _ _ _ _ st) ?_
  repeat (first | (apply wo_po;apply mo_load;exact rfl;exact q2;exact trivial) | refine wM ?_ | refine wL ?_)
  refine wo_star (C nx s::Ro::F) (fun h st=>hsh _ _ _ _ st) ?_
  refine wo_call (.cons rfl (.cons rfl (.cons rfl .nil))) trivial (hPut i nx s _ hlt hnx hs) ?_
  rintro v1 L1 x1 ⟨q,s',hs',rfl,rfl,rfl⟩
  cases q with
  | false =>
   repeat (first | refine we_seq ?_ | (refine wR ?_;try simp only [oS]) | refine wo_nil ?_ | refine wM ?_ | refine wA ?_ | (apply wo_po;apply mo_extract;exact rfl;exact rfl;exact gY) | refine wadd ?_ | refine wF ?_ | refine we_skip ?_)
   refine at_round (B:=B) (I:=rpInv gv x C I xb mb rb nb W Ro F) (R:=fun z=>W-z.1<W-i) (i+1,nx,s') (by show W-(i+1)<W-i;omega) ⟨by show i+1≤W;omega,by show nx≤i+1+1;omega,hs'⟩ ⟨rfl,rfl,rfl,rfl,rfl,rfl,trivial⟩ .refl rfl
  | true =>
   repeat (first | refine we_seq ?_ | (refine wR ?_;try simp only [oS]) | refine wo_nil ?_ | refine wM ?_ | refine wA ?_ | (apply wo_po;apply mo_extract;exact rfl;exact rfl;exact gY) | refine wT ?_)
   refine wo_star (arr nb 0 [num nx]::C0 s'::Ro::F) (fun h st=>hop _ _ _ _ st) ?_
   have hadd:IntKind.u64.wrap ((nx:Int)+1)=((nx+1:Nat):Int):=(wrap_u64 (by omega) (by omega)).trans (by omega)
   repeat (first | (apply wo_po;apply mo_bin;exact rfl;exact rfl;apply bin_add;exact hadd;exact trivial) | refine wS ?_ | (refine wR ?_;try simp only [oS]) | refine wo_nil ?_ | refine wM ?_ | refine wA ?_ | refine wL ?_ | refine wadd ?_)
   refine at_roundS (B:=B) (I:=rpInv gv x C I xb mb rb nb W Ro F) (R:=fun z=>W-z.1<W-i) (i+1,nx+1,s') (by show W-(i+1)<W-i;omega) ⟨by show i+1≤W;omega,by show nx+1≤i+1+1;omega,hs'⟩ ⟨rfl,rfl,rfl,rfl,rfl,rfl,trivial⟩ (fun h st=>hsh _ _ _ _ st) rfl
 ·obtain rfl:i=W:=by omega
  repeat (first | refine wlssF ?_ | refine wo_nil ?_ | refine wF ?_ | refine we_exit ?_)
  (first | refine or0 Try.func32 Try.results32 hQ ?_ | refine on0 Try.func32 Try.results32 hQ ?_)
  exact ⟨nx,s,hs,rfl,rfl,rfl⟩
def rtInv (gv:Value) (x:S→B.X) (C:List Nat→S→HProp) (I:Nat→List Nat→S→Prop) (xb mb rb tbx gb wb W:Nat) (Ro:HProp) (F:List HProp):PB.Inv (Nat × List Nat × S) B.X where
 e:=fun i=>[(0,gv),(1,.pointer (some ⟨xb,0,none⟩)),(2,.pointer (some ⟨mb,0,none⟩)),(3,.pointer (some ⟨rb,0,none⟩)),(4,.pointer (some ⟨tbx,0,none⟩)),(5,.pointer (some ⟨gb,0,none⟩)),(6,.pointer (some ⟨wb,0,none⟩)),(8,.int .i64 (i.1:Nat))]
 L:=fun i=>C i.2.1 i.2.2::Ro::F
 x:=fun i=>x i.2.2
 ok:=fun i=>i.1≤W∧i.2.1.length≤i.1∧I i.1 i.2.1 i.2.2
def rtMid (gv:Value) (x:S→B.X) (C:List Nat→S→HProp) (J:Nat→List Nat→S→Prop) (xb mb rb tbx gb wb i:Nat) (Ro:HProp) (F:List HProp):PB.Inv (List Nat × S) B.X where
 e:=fun _=>[(0,gv),(1,.pointer (some ⟨xb,0,none⟩)),(2,.pointer (some ⟨mb,0,none⟩)),(3,.pointer (some ⟨rb,0,none⟩)),(4,.pointer (some ⟨tbx,0,none⟩)),(5,.pointer (some ⟨gb,0,none⟩)),(6,.pointer (some ⟨wb,0,none⟩)),(8,.int .i64 (i:Nat))]
 L:=fun z=>C z.1 z.2::Ro::F
 x:=fun z=>x z.2
 ok:=fun z=>z.1.length≤i+1∧J i z.1 z.2
set_option maxHeartbeats 4000000 in
theorem rtakes_tr {C:List Nat→S→HProp} {I J:Nat→List Nat→S→Prop} {s0:S} (O:RtRo Ro xb mb rb wb r b n a0 a1 mo) (hW:a1%mo=W) (hn2:n≤1024)
  (hop:∀ tk s R h,Star (C tk s::R) h→Star (rtTc tbx gb tk::C0 s::R) h) (hsh:∀ tk s R h,Star (rtTc tbx gb tk::C0 s::R) h→Star (C tk s::R) h)
  (hTake:∀ i tk s R,i<W→I i tk s→Tr Try.prog B 13 [.pointer (some ⟨r,0,none⟩),gv] (C tk s::R) (x s) fun v L' x'=>∃ q s',J i (match q with | some v=>tk++[v] | none=>tk) s'∧q.getD 0<18446744073709551616∧v=.tuple #[.int .u64 (q.getD 0:Nat),.bool q.isSome,.int .i64 0]∧L'=C tk s'::R∧x'=x s')
  (hLen:∀ i tk s R,i<W→J i tk s→Tr Try.prog B 14 [.pointer (some ⟨r,0,none⟩),gv] (C tk s::R) (x s) fun v L' x'=>∃ q s',I (i+1) tk s'∧q≤n∧v=.tuple #[.int .i64 (q:Nat),.int .i64 0]∧L'=C tk s'::R∧x'=x s') (h0:I 0 [] s0) :
  Tr Try.prog B 33 [gv,.pointer (some ⟨xb,0,none⟩),.pointer (some ⟨mb,0,none⟩),.pointer (some ⟨rb,0,none⟩),.pointer (some ⟨tbx,0,none⟩),.pointer (some ⟨gb,0,none⟩),.pointer (some ⟨wb,0,none⟩)] (C [] s0::Ro::F) (x s0) fun v L' x'=>∃ tk s',I W tk s'∧v=.tuple #[]∧L'=C tk s'::Ro::F∧x'=x s':=by
 have hm1:=O.hm.1
 have hm2:=O.hm.2
 have e1:=Int.emod_nonneg a1 (by omega:mo≠0)
 have e2:=Int.emod_lt_of_pos a1 hm1
 have hWm:W<2000:=by omega
 refine tr_of_body Try.func33 rfl Try.ntmps33 (by simp) fun um Q _ hQ=>?_
 simp only [argE,Nat.zero_add,Nat.reduceAdd]
 repeat (first | refine we_seq ?_ | (refine wR ?_;try simp only [oS]) | refine wo_nil ?_ | refine wA ?_ | refine we_block ?_)
 refine we_loopN (rtInv gv x C I xb mb rb tbx gb wb W Ro F) (fun i=>W-i.1) (0,[],s0) ⟨Nat.zero_le _,Nat.le_refl _,h0⟩ ⟨rfl,rfl,rfl,rfl,rfl,rfl,rfl,rfl,trivial⟩ .refl rfl ?_
 clear h0
 rintro ⟨i,tk,s⟩ ⟨hi,htk,hs⟩
 dsimp only at hi htk hs
 simp only [rtInv]
 have q0:∀ {c:HProp},Rd (c::Ro::F) xb (0+1) (.int .i64 a1):=.there (Rd.of .here O.x1)
 have q1:∀ {c:HProp},Rd (c::Ro::F) mb 0 (.int .i64 mo):=.there (Rd.of .here O.m)
 have q2:∀ {c:HProp},Rd (c::Ro::F) rb 0 (.pointer (some ⟨r,0,none⟩)):=.there (Rd.of .here O.q)
 have q3:∀ {c d e f:HProp},Rd (c::d::e::f::Ro::F) wb 0 (.int .i64 (n:Nat)):=.there (.there (.there (.there (Rd.of .here O.w))))
 repeat (first | (apply wo_po;apply mo_indexArr (r:=1);exact rfl;exact rfl;omega;omega;omega;exact trivial) | (apply wo_po;apply mo_load;exact rfl;(first | exact q0 | exact q1);exact trivial) | refine we_seq ?_ | (refine wR ?_;try simp only [oS]) | refine wM ?_)
 refine wo_call (.cons rfl (.cons rfl .nil)) trivial (within_tr O.h1 (by omega)) ?_
 rintro v1 L1 x1 ⟨rfl,hL1,rfl⟩
 rw [hL1,hW]
 clear hL1
 by_cases hlt:i<W
 ·repeat (first | (apply wo_po;apply mo_load;exact rfl;exact q2;exact trivial) | refine wlssT ?_ | refine we_seq ?_ | (refine wR ?_;try simp only [oS]) | refine wo_nil ?_ | refine wM ?_ | refine wT ?_ | refine we_skip ?_ | refine we_block ?_)
  refine wo_call (.cons rfl (.cons rfl .nil)) trivial (hTake i tk s _ hlt hs) ?_
  rintro v1 L1 x1 ⟨q,s',hs',hq,rfl,rfl,rfl⟩
  repeat (first | refine we_seq ?_ | (refine wR ?_;try simp only [oS]) | refine wo_nil ?_ | refine wM ?_ | refine wA ?_ | (apply wo_po;apply mo_extract;exact rfl;exact rfl;exact gY))
  refine we_join (rtMid gv x C J xb mb rb tbx gb wb i Ro F) ?_ ?_
  ·cases q with
   | none =>
    repeat (first | refine wF ?_ | refine we_skip ?_)
    refine at_mid (B:=B) (I:=rtMid gv x C J xb mb rb tbx gb wb i Ro F) (tk,s') ⟨by show tk.length≤i+1;omega,hs'⟩ ⟨rfl,rfl,rfl,rfl,rfl,rfl,rfl,rfl,trivial⟩ .refl rfl
   | some v2 =>
    repeat (first | (refine wR ?_;try simp only [oS]) | refine wT ?_)
    refine wo_star (rtTc tbx gb tk::C0 s'::Ro::F) (fun h st=>hop _ _ _ _ st) ?_
    refine wo_ex .here fun sv=>?_
    refine wo_star (arr tbx 0 [sv]::vec 1 sv (tk.map num)::arr gb 0 [.bool true]::C0 s'::Ro::F) (fun h st=>star_open (M:=[_,_,_]) st) ?_
    refine wo_pure (of_has (.there .here) (vec_shape (by omega))) ?_
    rintro ⟨va,vn,vc,rfl,hvn,_⟩
    have hvn:vn=tk.length:=by simp at hvn;omega
    subst hvn
    repeat (first | (apply wo_mo;apply mo_buildSlice (sz:=1) (vs:=[num v2]);exact rfl;exact .cons rfl .nil;exact rfl;(intro v hv;cases (List.mem_singleton.1 hv);exact rfl);omega;exact trivial) | refine wM ?_ | refine wL ?_)
    rintro v' L' ⟨sb2,rfl,rfl⟩
    repeat (first | (apply wo_mo;apply mo_append (sz:=1) (new:=[num v2]);exact rfl;exact rfl;exact rfl;exact rfl;exact (.there (.there .here));exact rfl;exact .inr ⟨_,_,rfl,Rds.all .here⟩;(intro v hv;cases (List.mem_singleton.1 hv);exact rfl);(simp only [sliceLen];omega);exact trivial))
    rintro v' L' rfl
    refine wo_pure (of_has .here (vec_shape (by omega))) ?_
    rintro ⟨wa,wn,wc,rfl,_⟩
    repeat (first | refine wS ?_ | refine wo_nil ?_)
    refine at_midS (B:=B) (I:=rtMid gv x C J xb mb rb tbx gb wb i Ro F) (tk++[v2],s') ⟨by show (tk++[v2]).length≤i+1;simp;omega,hs'⟩ ⟨rfl,rfl,rfl,rfl,rfl,rfl,rfl,rfl,trivial⟩ (fun h st=>?_) rfl
    have s1:Star (arr tbx 0 [.slice wa wn wc]::vec 1 (.slice wa wn wc) ((tk++[v2]).map num)::arr gb 0 [.bool true]::C0 s'::Ro::F) h:=by
     rw [List.map_append]
     exact Ent.star (.take (.there (.there .here)) (.take .here (.take (.there .here) (.take (.there .here) (.drop .refl))))) st
    have s2:Star (all [arr tbx 0 [.slice wa wn wc],vec 1 (.slice wa wn wc) ((tk++[v2]).map num),arr gb 0 [.bool true]]::C0 s'::Ro::F) h:=star_shut (M:=[_,_,_]) s1
    exact hsh _ _ _ _ (star_map s2 (fun h z=>⟨_,z⟩) fun _ z=>z)
  ·clear hs hs' hq htk
   rintro ⟨tk,s⟩ ⟨htk,hs⟩
   dsimp only at htk hs
   simp only [rtMid]
   repeat (first | (apply wo_po;apply mo_load;exact rfl;exact q2;exact trivial) | refine we_seq ?_ | (refine wR ?_;try simp only [oS]) | refine wM ?_)
   refine wo_call (.cons rfl (.cons rfl .nil)) trivial (hLen i tk s _ hlt hs) ?_
   rintro v1 L1 x1 ⟨ql,s',hs',hql,rfl,rfl,rfl⟩
   repeat (first | (refine wR ?_;try simp only [oS]) | refine wo_nil ?_ | refine wM ?_ | refine wA ?_ | (apply wo_po;apply mo_extract;exact rfl;exact rfl;exact gY))
   refine wo_star (rtTc tbx gb tk::C0 s'::Ro::F) (fun h st=>hop _ _ _ _ st) ?_
   refine wo_ex .here fun sv=>?_
   refine wo_star (arr tbx 0 [sv]::vec 1 sv (tk.map num)::arr gb 0 [.bool true]::C0 s'::Ro::F) (fun h st=>star_open (M:=[_,_,_]) st) ?_
   repeat (first | (apply wo_po;apply mo_load;exact rfl;exact q3;exact rfl) | refine wS ?_ | refine wleqT ?_ | refine wgeqT ?_ | (refine wR ?_;try simp only [oS]) | refine wo_nil ?_ | refine wM ?_ | refine wA ?_ | refine wK ?_ | refine wL ?_ | refine wadd ?_)
   refine at_roundS (B:=B) (I:=rtInv gv x C I xb mb rb tbx gb wb W Ro F) (R:=fun z=>W-z.1<W-i) (i+1,tk,s') (by show W-(i+1)<W-i;omega) ⟨by show i+1≤W;omega,by show tk.length≤i+1;omega,hs'⟩ ⟨rfl,rfl,rfl,rfl,rfl,rfl,rfl,rfl,trivial⟩ (fun h st=>?_) rfl
   have s2:Star (all [arr tbx 0 [sv],vec 1 sv (tk.map num),arr gb 0 [.bool true]]::C0 s'::Ro::F) h:=star_shut (M:=[_,_,_]) st
   exact hsh _ _ _ _ (star_map s2 (fun h z=>⟨sv,z⟩) fun _ z=>z)
 ·obtain rfl:i=W:=by omega
  repeat (first | refine wlssF ?_ | refine wo_nil ?_ | refine wF ?_ | refine we_exit ?_)
  (first | refine or0 Try.func33 Try.results33 hQ ?_ | refine on0 Try.func33 Try.results33 hQ ?_)
  exact ⟨tk,s,hs,rfl,rfl,rfl⟩
end
section
variable {Ro:HProp} {xb mb rb wb nb tbx gb r b n k W:Nat} {a0 a1 mo:Int}
theorem rt_opG {G:WGm} {addr:Nat→Nat × Nat} {N sb says turn fin:Nat} {K:List (Nat × Nat × Value)} {f:Nat→Nat} {c:G.ζ} {p:HProp} {R:List HProp} {h:Hp} (st:Star (gaC G addr N K sb says turn fin (all [p,Ro]) f c::R) h):Star (p::gaC G addr N K sb says turn fin Ro f c::R) h:=by
 have s1:Star (wds addr N K f::G.Z c::seatR sb says turn fin::all [p,Ro]::R) h:=star_open (M:=[_,_,_,_]) st
 have s2:Star (all [p,Ro]::wds addr N K f::G.Z c::seatR sb says turn fin::R) h:=Ent.star (.take (.there (.there (.there .here))) (.take .here (.take .here (.take .here .refl)))) s1
 have s3:Star (p::Ro::wds addr N K f::G.Z c::seatR sb says turn fin::R) h:=star_open (M:=[_,_]) s2
 have s4:Star (wds addr N K f::G.Z c::seatR sb says turn fin::Ro::p::R) h:=Ent.star (.take (.there (.there .here)) (.take (.there (.there .here)) (.take (.there (.there .here)) (.take (.there .here) (.take .here .refl))))) s3
 exact star_swap (star_shut (M:=[_,_,_,_]) s4)
theorem rt_shG {G:WGm} {addr:Nat→Nat × Nat} {N sb says turn fin:Nat} {K:List (Nat × Nat × Value)} {f:Nat→Nat} {c:G.ζ} {p:HProp} {R:List HProp} {h:Hp} (st:Star (p::gaC G addr N K sb says turn fin Ro f c::R) h):Star (gaC G addr N K sb says turn fin (all [p,Ro]) f c::R) h:=by
 have s1:Star (wds addr N K f::G.Z c::seatR sb says turn fin::Ro::p::R) h:=star_open (M:=[_,_,_,_]) (star_swap st)
 have s2:Star (p::Ro::wds addr N K f::G.Z c::seatR sb says turn fin::R) h:=Ent.star (.take (.there (.there (.there (.there .here)))) (.take (.there (.there (.there .here))) (.take .here (.take .here (.take .here .refl))))) s1
 have s3:Star (all [p,Ro]::wds addr N K f::G.Z c::seatR sb says turn fin::R) h:=star_shut (M:=[_,_]) s2
 exact star_shut (M:=[_,_,_,_]) (Ent.star (.take (.there .here) (.take (.there .here) (.take (.there .here) (.take .here .refl)))) s3)
theorem rtP_ok (hne:r≠b) (hn:n=2^k) (hk:k≤10) (O:RtRo Ro xb mb rb wb r b n a0 a1 mo) (hd:Dup Ro) (hW:a0%mo=W) :
  ThrOk ((rtW n nb tbx gb).g (ringAddr r b) (n+2) []) (fun s=>(s,(.P W 1 .a:RtQ))) (rtPF xb mb rb nb) (all [Ro,arr nb 0 [num 1]]) where
 run:=by
  have hpos:0<n:=by rw [hn];exact Nat.two_pow_pos k
  refine ⟨_,_,_,rfl,inferInstance,fun sb says turn fin wg (s:Nat→Nat) m F hok=>?_⟩
  let C:Nat→GaS (rtW n nb tbx gb)→HProp:=fun nx s=>gaC (rtW n nb tbx gb) (ringAddr r b) (n+2) [] sb says turn fin (all [rtPc nb nx,Ro]) s.f s.c
  let X:GaS (rtW n nb tbx gb)→TX:=fun s=>tx ((rtW n nb tbx gb).g (ringAddr r b) (n+2) []) says turn fin wg (.busy s.s s.q s.n)
  refine tr_star (C 1 ⟨s,(),s,(.P W 1 .a:RtQ),m⟩::Ro::F) (fun hp st=>?_) ?_
  ·have s1:Star (wds (ringAddr r b) (n+2) [] s::(fun _=>True)::seatR sb says turn fin::all [Ro,arr nb 0 [num 1]]::F) hp:=star_open (M:=[_,_]) st
   have s2:Star (all [Ro,arr nb 0 [num 1]]::wds (ringAddr r b) (n+2) [] s::(fun _=>True)::seatR sb says turn fin::F) hp:=Ent.star (.take (.there (.there (.there .here))) (.take .here (.take .here (.take .here .refl)))) s1
   have s3:Star (Ro::arr nb 0 [num 1]::wds (ringAddr r b) (n+2) [] s::(fun _=>True)::seatR sb says turn fin::F) hp:=star_open (M:=[_,_]) s2
   have s4:=hd _ _ s3
   have s5:Star (arr nb 0 [num 1]::Ro::wds (ringAddr r b) (n+2) [] s::(fun _=>True)::seatR sb says turn fin::Ro::F) hp:=Ent.star (.take (.there (.there .here)) (.take .here (.take (.there .here) (.take (.there .here) (.take (.there .here) (.take .here .refl)))))) s4
   have s6:Star (all [rtPc nb 1,Ro]::wds (ringAddr r b) (n+2) [] s::(fun _=>True)::seatR sb says turn fin::Ro::F) hp:=star_shut (M:=[_,_]) s5
   exact star_shut (M:=[_,_,_,_]) (Ent.star (.take (.there .here) (.take (.there .here) (.take (.there .here) (.take .here .refl)))) s6)
  refine (rputs_tr (B:=tH) (S:=GaS (rtW n nb tbx gb)) (x:=X) (C:=C) (C0:=fun s=>gaC (rtW n nb tbx gb) (ringAddr r b) (n+2) [] sb says turn fin Ro s.f s.c) (I:=fun i nx s=>RtS (.P (W-i) nx .a) s) O hW (fun nx s R h st=>rt_opG st) (fun nx s R h st=>rt_shG st) (fun i nx s R hi hnx hs=>?_) ⟨rfl,fun i _=>rfl⟩).mono ?_
  ·rw [show W-i=(W-(i+1))+1 by omega] at hs
   refine (put_tr (A:=rtG n nb tbx gb r b hne sb says turn fin wg (all [rtPc nb nx,Ro])) (rtG_at hn hk O.h) (by have:=O.hm.2;have:=O.hm.1;have:=Int.emod_lt_of_pos a0 this;omega) (rtG_put hpos hs) .here).mono ?_
   rintro v L' x' ⟨q,s',h1,h2,h3,h4⟩
   exact ⟨q,s',h1,h2,h3,h4⟩
  ·rintro v L' x' ⟨nx,s',hs',rfl,rfl,rfl⟩
   rw [Nat.sub_self] at hs'
   refine ⟨s'.s,s'.q,s'.n,rfl,?_,fun hp st=>?_⟩
   ·show rtPlan n s'.q=none
    rw [hs'.q];rfl
   ·have s1:Star (rtPc nb nx::gaC (rtW n nb tbx gb) (ringAddr r b) (n+2) [] sb says turn fin Ro s'.f s'.c::Ro::F) hp:=rt_opG st
    have s2:Star (wds (ringAddr r b) (n+2) [] s'.f::(fun _=>True)::seatR sb says turn fin::Ro::rtPc nb nx::Ro::F) hp:=star_open (M:=[_,_,_,_]) (star_swap s1)
    have s3:Star (wds (ringAddr r b) (n+2) [] (show Nat→Nat from s'.s)::(fun _=>True)::seatR sb says turn fin::Ro::rtPc nb nx::Ro::F) hp:=star_map s2 (wds_congr hs'.f) fun _ z=>z
    have s4:Star (all [rtPc nb nx]::wds (ringAddr r b) (n+2) [] (show Nat→Nat from s'.s)::(fun _=>True)::seatR sb says turn fin::F) hp:=star_shut (M:=[_]) (Ent.star (.take (.there (.there (.there (.there .here)))) (.take .here (.take .here (.take .here (.drop (.drop .refl)))))) s3)
    have s5:Star (((rtW n nb tbx gb).g (ringAddr r b) (n+2) []).U s'.s::all [rtPc nb nx]::seatR sb says turn fin::F) hp:=star_shut (M:=[_,_]) (Ent.star (.take (.there .here) (.take (.there .here) (.take .here (.take .here .refl)))) s4)
    show Star (_::_::rtPv nb tbx gb s'.q::F) hp
    rw [hs'.q]
    exact Ent.star (.take .here (.take (.there .here) (.take .here .refl))) s5
theorem rtT_ok (hne:r≠b) (hn:n=2^k) (hk:k≤10) (O:RtRo Ro xb mb rb wb r b n a0 a1 mo) (hd:Dup Ro) (hW:a1%mo=W) :
  ThrOk ((rtW n nb tbx gb).g (ringAddr r b) (n+2) []) (fun s=>(s,(.T W [] .a:RtQ))) (rtTF xb mb rb tbx gb wb) (all [Ro,rtTc tbx gb []]) where
 run:=by
  have hpos:0<n:=by rw [hn];exact Nat.two_pow_pos k
  have hle:n≤1024:=by rw [hn];exact pow_le hk
  refine ⟨_,_,_,rfl,inferInstance,fun sb says turn fin wg (s:Nat→Nat) m F hok=>?_⟩
  let C:List Nat→GaS (rtW n nb tbx gb)→HProp:=fun tk s=>gaC (rtW n nb tbx gb) (ringAddr r b) (n+2) [] sb says turn fin (all [rtTc tbx gb tk,Ro]) s.f s.c
  let X:GaS (rtW n nb tbx gb)→TX:=fun s=>tx ((rtW n nb tbx gb).g (ringAddr r b) (n+2) []) says turn fin wg (.busy s.s s.q s.n)
  refine tr_star (C [] ⟨s,(),s,(.T W [] .a:RtQ),m⟩::Ro::F) (fun hp st=>?_) ?_
  ·have s1:Star (wds (ringAddr r b) (n+2) [] s::(fun _=>True)::seatR sb says turn fin::all [Ro,rtTc tbx gb []]::F) hp:=star_open (M:=[_,_]) st
   have s2:Star (all [Ro,rtTc tbx gb []]::wds (ringAddr r b) (n+2) [] s::(fun _=>True)::seatR sb says turn fin::F) hp:=Ent.star (.take (.there (.there (.there .here))) (.take .here (.take .here (.take .here .refl)))) s1
   have s3:Star (Ro::rtTc tbx gb []::wds (ringAddr r b) (n+2) [] s::(fun _=>True)::seatR sb says turn fin::F) hp:=star_open (M:=[_,_]) s2
   have s4:=hd _ _ s3
   have s5:Star (rtTc tbx gb []::Ro::wds (ringAddr r b) (n+2) [] s::(fun _=>True)::seatR sb says turn fin::Ro::F) hp:=Ent.star (.take (.there (.there .here)) (.take .here (.take (.there .here) (.take (.there .here) (.take (.there .here) (.take .here .refl)))))) s4
   have s6:Star (all [rtTc tbx gb [],Ro]::wds (ringAddr r b) (n+2) [] s::(fun _=>True)::seatR sb says turn fin::Ro::F) hp:=star_shut (M:=[_,_]) s5
   exact star_shut (M:=[_,_,_,_]) (Ent.star (.take (.there .here) (.take (.there .here) (.take (.there .here) (.take .here .refl)))) s6)
  refine (rtakes_tr (B:=tH) (S:=GaS (rtW n nb tbx gb)) (x:=X) (C:=C) (C0:=fun s=>gaC (rtW n nb tbx gb) (ringAddr r b) (n+2) [] sb says turn fin Ro s.f s.c) (I:=fun i tk s=>RtS (.T (W-i) tk .a) s) (J:=fun i tk s=>RtS (.T (W-i) tk .e) s) O hW hle (fun tk s R h st=>rt_opG st) (fun tk s R h st=>rt_shG st) (fun i tk s R hi hs=>?_) (fun i tk s R hi hs=>?_) ⟨rfl,fun i _=>rfl⟩).mono ?_
  ·rw [show W-i=(W-(i+1))+1 by omega] at hs ⊢
   refine (take_tr (A:=rtG n nb tbx gb r b hne sb says turn fin wg (all [rtTc tbx gb tk,Ro])) (rtG_at hn hk O.h) (rtG_take hpos hs) .here).mono ?_
   rintro v L' x' ⟨q,s',h1,h2,h3,h4,h5⟩
   exact ⟨q,s',h1,h2,h3,h4,h5⟩
  ·rw [show W-i=(W-(i+1))+1 by omega] at hs
   refine (len_tr (A:=rtG n nb tbx gb r b hne sb says turn fin wg (all [rtTc tbx gb tk,Ro])) (rtG_at hn hk O.h) (rtG_len hs) .here).mono ?_
   rintro v L' x' ⟨q,s',h1,h2,h3,h4,h5⟩
   exact ⟨q,s',h1,h2,h3,h4,h5⟩
  ·rintro v L' x' ⟨tk,s',hs',rfl,rfl,rfl⟩
   rw [Nat.sub_self] at hs'
   refine ⟨s'.s,s'.q,s'.n,rfl,?_,fun hp st=>?_⟩
   ·show rtPlan n s'.q=none
    rw [hs'.q];rfl
   ·have s1:Star (rtTc tbx gb tk::gaC (rtW n nb tbx gb) (ringAddr r b) (n+2) [] sb says turn fin Ro s'.f s'.c::Ro::F) hp:=rt_opG st
    have s2:Star (wds (ringAddr r b) (n+2) [] s'.f::(fun _=>True)::seatR sb says turn fin::Ro::rtTc tbx gb tk::Ro::F) hp:=star_open (M:=[_,_,_,_]) (star_swap s1)
    have s3:Star (wds (ringAddr r b) (n+2) [] (show Nat→Nat from s'.s)::(fun _=>True)::seatR sb says turn fin::Ro::rtTc tbx gb tk::Ro::F) hp:=star_map s2 (wds_congr hs'.f) fun _ z=>z
    have s4:Star (all [rtTc tbx gb tk]::wds (ringAddr r b) (n+2) [] (show Nat→Nat from s'.s)::(fun _=>True)::seatR sb says turn fin::F) hp:=star_shut (M:=[_]) (Ent.star (.take (.there (.there (.there (.there .here)))) (.take .here (.take .here (.take .here (.drop (.drop .refl)))))) s3)
    have s5:Star (((rtW n nb tbx gb).g (ringAddr r b) (n+2) []).U s'.s::all [rtTc tbx gb tk]::seatR sb says turn fin::F) hp:=star_shut (M:=[_,_]) (Ent.star (.take (.there .here) (.take (.there .here) (.take .here (.take .here .refl)))) s4)
    show Star (_::_::rtPv nb tbx gb s'.q::F) hp
    rw [hs'.q]
    exact Ent.star (.take .here (.take (.there .here) (.take .here .refl))) s5
theorem rt_opF {p:HProp} {R:List HProp} {h:Hp} (st:Star (all [p,Ro]::R) h):Star (p::Ro::R) h:=star_open (M:=[_,_]) st
theorem rt_shF {p:HProp} {R:List HProp} {h:Hp} (st:Star (p::Ro::R) h):Star (all [p,Ro]::R) h:=star_shut (M:=[_,_]) st
theorem rtP_free {N:Nat} (hne:r≠b) (hn:n=2^k) (hk:k≤10) (O:RtRo Ro xb mb rb wb r b n a0 a1 mo) (hd:Dup Ro) (hW:a0%mo=W) :
  ThrF ((rtW n nb tbx gb).g (ringAddr r b) (n+2) []) N ⟨rtPF xb mb rb nb,(.P W 1 .a:RtQ),all [Ro,arr nb 0 [num 1]]⟩ where
 run:=by
  have hpos:0<n:=by rw [hn];exact Nat.two_pow_pos k
  refine ⟨_,_,_,rfl,inferInstance,fun wg F=>?_⟩
  refine tr_star (all [rtPc nb 1,Ro]::Ro::F) (fun hp st=>?_) ?_
  ·have s3:Star (Ro::arr nb 0 [num 1]::F) hp:=star_open (M:=[_,_]) st
   have s4:=hd _ _ s3
   exact rt_shF (Ent.star (.take (.there (.there .here)) (.take .here (.take .here .refl))) s4)
  refine (rputs_tr (B:=fH) (S:=FrS (rtW n nb tbx gb)) (x:=fun s=>frX (rtW n nb tbx gb) (ringAddr r b) (n+2) [] wg s) (C:=fun nx _=>all [rtPc nb nx,Ro]) (C0:=fun _=>Ro) (I:=fun i nx s=>RtE (.P (W-i) nx .a) s) (s0:=⟨(.P W 1 .a:RtQ),N⟩) O hW (fun nx s R h st=>rt_opF st) (fun nx s R h st=>rt_shF st) (fun i nx s R hi hnx hs=>?_) rfl).mono ?_
  ·rw [show W-i=(W-(i+1))+1 by omega] at hs
   refine (put_tr (A:=rtF n nb tbx gb r b hne wg (all [rtPc nb nx,Ro])) (rtF_at hn hk O.h) (by have:=O.hm.2;have:=O.hm.1;have:=Int.emod_lt_of_pos a0 this;omega) (rtF_put hpos hs) .here).mono ?_
   rintro v L' x' ⟨q,s',h1,h2,h3,h4⟩
   exact ⟨q,s',h1,h2,h3,h4⟩
  ·rintro v L' x' ⟨nx,s',hs',rfl,rfl,rfl⟩
   rw [Nat.sub_self] at hs'
   refine ⟨s'.q,s'.n,rfl,?_,fun hp st=>?_⟩
   ·show rtPlan n s'.q=none
    rw [show s'.q=_ from hs'];rfl
   ·show Star (rtPv nb tbx gb s'.q::F) hp
    rw [show s'.q=_ from hs']
    exact star_shut (M:=[_]) (Ent.star (.take .here (.drop (.drop .refl))) (rt_opF st))
theorem rtT_free {N:Nat} (hne:r≠b) (hn:n=2^k) (hk:k≤10) (O:RtRo Ro xb mb rb wb r b n a0 a1 mo) (hd:Dup Ro) (hW:a1%mo=W) :
  ThrF ((rtW n nb tbx gb).g (ringAddr r b) (n+2) []) N ⟨rtTF xb mb rb tbx gb wb,(.T W [] .a:RtQ),all [Ro,rtTc tbx gb []]⟩ where
 run:=by
  have hpos:0<n:=by rw [hn];exact Nat.two_pow_pos k
  have hle:n≤1024:=by rw [hn];exact pow_le hk
  refine ⟨_,_,_,rfl,inferInstance,fun wg F=>?_⟩
  refine tr_star (all [rtTc tbx gb [],Ro]::Ro::F) (fun hp st=>?_) ?_
  ·have s3:Star (Ro::rtTc tbx gb []::F) hp:=star_open (M:=[_,_]) st
   have s4:=hd _ _ s3
   exact rt_shF (Ent.star (.take (.there (.there .here)) (.take .here (.take .here .refl))) s4)
  refine (rtakes_tr (B:=fH) (S:=FrS (rtW n nb tbx gb)) (x:=fun s=>frX (rtW n nb tbx gb) (ringAddr r b) (n+2) [] wg s) (C:=fun tk _=>all [rtTc tbx gb tk,Ro]) (C0:=fun _=>Ro) (I:=fun i tk s=>RtE (.T (W-i) tk .a) s) (J:=fun i tk s=>RtE (.T (W-i) tk .e) s) (s0:=⟨(.T W [] .a:RtQ),N⟩) O hW hle (fun tk s R h st=>rt_opF st) (fun tk s R h st=>rt_shF st) (fun i tk s R hi hs=>?_) (fun i tk s R hi hs=>?_) rfl).mono ?_
  ·rw [show W-i=(W-(i+1))+1 by omega] at hs ⊢
   refine (take_tr (A:=rtF n nb tbx gb r b hne wg (all [rtTc tbx gb tk,Ro])) (rtF_at hn hk O.h) (rtF_take hpos hs) .here).mono ?_
   rintro v L' x' ⟨q,s',h1,h2,h3,h4,h5⟩
   exact ⟨q,s',h1,h2,h3,h4,h5⟩
  ·rw [show W-i=(W-(i+1))+1 by omega] at hs
   refine (len_tr (A:=rtF n nb tbx gb r b hne wg (all [rtTc tbx gb tk,Ro])) (rtF_at hn hk O.h) (rtF_len hs) .here).mono ?_
   rintro v L' x' ⟨q,s',h1,h2,h3,h4,h5⟩
   exact ⟨q,s',h1,h2,h3,h4,h5⟩
  ·rintro v L' x' ⟨tk,s',hs',rfl,rfl,rfl⟩
   rw [Nat.sub_self] at hs'
   refine ⟨s'.q,s'.n,rfl,?_,fun hp st=>?_⟩
   ·show rtPlan n s'.q=none
    rw [show s'.q=_ from hs'];rfl
   ·show Star (rtPv nb tbx gb s'.q::F) hp
    rw [show s'.q=_ from hs']
    exact star_shut (M:=[_]) (Ent.star (.take .here (.drop (.drop .refl))) (rt_opF st))
end
end
end Go.Proofs.Ytdcbnbmahndecaa
namespace Go.Proofs.Ytdcbnbmahndecaa
open Go Go.PB
attribute [local irreducible] Mo Bin Eql Tr Wo Ap
section
def intC (l:List Int):List Value:=l.map fun k=>.int .i64 k
def orderF (m:Nat) (l:List Int):List Int:=(l.take 2000).map fun k=>k%((m:Int)+1)
section
variable {B:Hand} [Lets B] {L F:List HProp} {x:B.X}
def orderInv (x:B.X) (u:Value) (m:Nat) (l:List Int) (L:List HProp):Inv (Nat × Value) B.X where
 e:=fun i=>[(0,u),(1,.int .i64 (m:Nat)),(5,i.2),(6,.int .i64 (i.1:Nat))]
 L:=fun i=>vec 1 i.2 (intC ((l.take i.1).map fun k=>k%((m:Int)+1)))::L
 x:=fun _=>x
 ok:=fun i=>i.1≤l.length∧i.1≤2000
theorem order_tr {a:Option Addr} {c m:Nat} {l:List Int} (hr:RdsO L a l.length (intC l)) (hm:m<1000000) (hi:∀ k∈l,-9223372036854775808≤k∧k≤9223372036854775807) :
  Tr Try.prog B 27 [.slice a l.length c,.int .i64 (m:Nat)] L x fun v L' x'=>L'=vec 1 v (intC (orderF m l))::L∧x'=x:=by
 refine tr_of_body Try.func27 rfl Try.ntmps27 (by simp) fun um Q _ hQ=>?_
 simp only [argE,Nat.zero_add,Nat.reduceAdd]
 repeat (first | refine we_seq ?_ | (refine wR ?_;try simp only [oS]) | refine wo_nil ?_ | refine wA ?_ | refine we_block ?_)
 refine we_star (vec 1 (.slice none 0 0) (intC ((l.take 0).map fun k=>k%((m:Int)+1)))::L) (fun h st=>vec_nil st) ?_
 refine we_loopN (orderInv x (.slice a l.length c) m l L) (fun i=>l.length-i.1) (0,.slice none 0 0) ⟨Nat.zero_le _,Nat.zero_le _⟩ ⟨rfl,rfl,rfl,rfl,trivial⟩ .refl rfl ?_
 rintro ⟨i,v⟩ ⟨hil,hi2⟩
 simp only at hil hi2
 simp only [orderInv]
 refine we_pure (of_has .here (vec_shape (by omega))) ?_
 rintro ⟨va,vn,vc,rfl,hvn,_⟩
 have hvn:vn=i:=by simp [intC] at hvn;omega
 subst hvn
 by_cases hlt:vn<l.length
 ·by_cases h2:vn<2000
  ·obtain ⟨b,o,rfl,hrd⟩:=hr.rds (by omega)
   obtain ⟨k,hk⟩:∃ k,l[vn]?=some k:=⟨l[vn],List.getElem?_eq_getElem hlt⟩
   have hrk:∀ {d:HProp},Rd (d::L) b (o+vn) (.int .i64 k):=fun {d}=>.there (hrd vn _ (by simp [intC,hk]))
   repeat (first | (apply wo_po;apply mo_index1;exact rfl;exact rfl;omega;exact trivial) | (apply wo_po;apply mo_load;exact rfl;exact hrk;exact trivial) | refine wlssT ?_ | refine we_seq ?_ | (refine wR ?_;try simp only [oS]) | refine wo_nil ?_ | refine wM ?_ | refine wK ?_ | refine wadd ?_ | refine wE ?_ | refine wT ?_ | refine we_skip ?_ | refine we_block ?_)
   refine wo_call (.cons rfl (.cons rfl .nil)) trivial (within_tr (hi k (List.mem_of_getElem? hk)) (by omega)) ?_
   rintro v1 L1 x1 ⟨rfl,rfl,rfl⟩
   repeat (first | (apply wo_mo;apply mo_buildSlice (sz:=1) (vs:=[.int .i64 (k%((m:Int)+1))]);exact rfl;exact .cons rfl .nil;exact rfl;(intro v hv;cases (List.mem_singleton.1 hv);exact rfl);omega;exact trivial))
   rintro v' L' ⟨nb,rfl,rfl⟩
   repeat (first | (apply wo_mo;apply mo_append (sz:=1) (new:=[.int .i64 (k%((m:Int)+1))]);exact rfl;exact rfl;exact rfl;exact rfl;exact (.there .here);exact rfl;exact .inr ⟨_,_,rfl,Rds.all .here⟩;(intro v hv;cases (List.mem_singleton.1 hv);exact rfl);(simp only [sliceLen];omega);exact trivial))
   rintro v' L' rfl
   repeat (first | (refine wR ?_;try simp only [oS]) | refine wo_nil ?_ | refine wM ?_ | refine wA ?_ | refine wadd ?_)
   refine at_round (I:=orderInv x1 (.slice (some ⟨b,o,none⟩) l.length c) m l L) (R:=fun j=>l.length-j.1<l.length-vn) (vn+1,v') (by show l.length-(vn+1)<l.length-vn;omega) ⟨by omega,by omega⟩ ?_ ?_ rfl
   exact ⟨rfl,rfl,rfl,rfl,trivial⟩
   show Ent _ (vec 1 v' (intC ((l.take (vn+1)).map fun k=>k%((m:Int)+1)))::_)
   rw [show intC ((l.take (vn+1)).map fun k=>k%((m:Int)+1))=intC ((l.take vn).map fun k=>k%((m:Int)+1))++[.int .i64 (k%((m:Int)+1))] by rw [List.take_add_one,hk];simp [intC]]
   exact (.take .here (.drop .refl))
  ·obtain rfl:vn=2000:=by omega
   repeat (first | refine wlssT ?_ | refine wlssF ?_ | refine we_seq ?_ | (refine wR ?_;try simp only [oS]) | refine wo_nil ?_ | refine wM ?_ | refine wA ?_ | refine wK ?_ | refine wE ?_ | refine wF ?_ | refine we_ret ?_ | refine we_exit ?_)
   (first | refine or1 Try.func27 Try.results27 hQ rfl ?_ | refine on1 Try.func27 Try.results27 hQ rfl ?_)
   exact ⟨rfl,rfl⟩
 ·obtain rfl:vn=l.length:=by omega
  repeat (first | refine wlssF ?_ | refine we_seq ?_ | (refine wR ?_;try simp only [oS]) | refine wo_nil ?_ | refine wM ?_ | refine wA ?_ | (apply wo_no;exact rfl) | refine wJ ?_ | refine wE ?_ | refine wF ?_ | refine we_ret ?_ | refine we_exit ?_)
  (first | refine or1 Try.func27 Try.results27 hQ rfl ?_ | refine on1 Try.func27 Try.results27 hQ rfl ?_)
  refine ⟨?_,rfl⟩
  unfold orderF
  rw [List.take_of_length_le (by omega),List.take_of_length_le (by omega)]
end
end
end Go.Proofs.Ytdcbnbmahndecaa
