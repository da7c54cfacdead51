/-
  Part 5 of 7.
-/
import Derived.Test.YtabbkjciifnehaaTgc4
import Derived.Test.YtabbkjciifnehaaTgc2
import Derived.Test.YtabbkjciifnehaaTgc3
import Derived.Conc.WgGenN2
set_option linter.unusedVariables false
set_option linter.unusedSimpArgs false
namespace Go.Proofs.Ytabbkjciifnehaa
open Go Go.PB
attribute [local irreducible] Mo Bin Eql Tr Wo Ap Wle
attribute [local instance] Pass.of_no
section
abbrev Ct4:=Nat × Nat × Nat × Nat
def ctB (y:Ct4):CtB:=(y.1,y.2.1,y.2.2.1)
def boxC (tq:List Ct4):List HProp:=tq.mapIdx fun i y=>all [arr y.1 0 [.int .i64 (i:Nat)],arr y.2.1 0 [.int .i64 (y.2.2.1:Nat)]]
theorem boxC_snoc {tq:List Ct4} {y:Ct4}:boxC (tq++[y])=boxC tq++[all [arr y.1 0 [.int .i64 (tq.length:Nat)],arr y.2.1 0 [.int .i64 (y.2.2.1:Nat)]]]:=by
 unfold boxC
 rw [List.mapIdx_append]
 simp
def rowZ (y:Ct4):HProp:=arr y.2.2.2 0 (zeros y.2.2.1 [.int .u8 0,.int .i64 0])
def hdZ (y:Ct4):Value:=.slice (some ⟨y.2.2.2,0,none⟩) y.2.2.1 y.2.2.1
def msZ (tq:List Ct4):List Nat:=tq.map fun y=>y.2.2.1
theorem zeros_pair {a b:Value}:∀ {n i j:Nat},i<n→j<2→(zeros n [a,b])[2*i+j]?=[a,b][j]?
 | 0,_,_,h,_=>by omega
 | n+1,0,j,_,hj=>by
  unfold zeros
  rw [List.replicate_succ,List.flatten_cons,List.getElem?_append_left (by simp;omega)]
  congr 1;omega
 | n+1,i+1,j,h,hj=>by
  unfold zeros
  rw [List.replicate_succ,List.flatten_cons,List.getElem?_append_right (by simp;omega)]
  have:=zeros_pair (a:=a) (b:=b) (n:=n) (i:=i) (j:=j) (by omega) hj
  unfold zeros at this
  rw [← this]
  congr 1
  simp;omega
theorem rd_itemC {M L F:List HProp} {c:HProp} {k b o:Nat} {v:Value} (hh:Has L (all M) F) (e:M[k]?=some c) (r:Rd [c] b o v):Rd L b o v:=by
 refine Rd.of hh ?_
 intro h s
 refine r h (star_map (star_pick e (L:=[]) s) (fun _ z=>z) fun _ _=>trivial)
theorem rdrowsz_of {L F F':List HProp} {tq:List Ct4} {a:Option Addr} {n c:Nat} (hv:Has L (vec 1 (.slice a n c) (tq.map hdZ)) F) (hn:tq.length=n) (hz:a=none→n=0) (hy:∀ y,a=some y→y=⟨y.block,y.off,none⟩) (hr:Has L (all (tq.map rowZ)) F'):RdRowsZ L a (msZ tq):=by
 intro k m hm
 simp only [msZ,List.getElem?_map,Option.map_eq_some_iff] at hm
 obtain ⟨y,hk,rfl⟩:=hm
 have hlt:=(List.getElem?_eq_some_iff.1 hk).1
 cases a with
 | none=>have:=hz rfl;omega
 | some z =>
  obtain ⟨b,o,sp⟩:=z
  cases hy _ rfl
  refine ⟨b,o,y.2.2.2,rfl,rd_vec hv (by rw [List.getElem?_map,hk];rfl),fun i hi j v hj=>?_⟩
  have hj2:j<2:=(List.getElem?_eq_some_iff.1 hj).1
  refine rd_itemC hr (show (tq.map rowZ)[k]?=some (rowZ y) by rw [List.getElem?_map,hk];rfl) ?_
  refine Rd.row (k:=2*i+j) (vs:=zeros y.2.2.1 [.int .u8 0,.int .i64 0]) ?_ (by omega)
  rw [zeros_pair hi hj2];exact hj
theorem row_cellsC {b:Nat} {v:Value} {L:List HProp}:∀ (n o:Nat) {h:Hp},Star (arr b o (List.replicate n v)::L) h→Star (all ((List.range' o n).map fun i=>arr b i [v])::L) h
 | 0,o,h,s=>star_shut (M:=[]) (star_drop s)
 | n+1,o,h,s=>by
  rw [List.replicate_succ] at s
  have s1:Star (arr b o [v]::arr b (o+1) (List.replicate n v)::L) h:=star_cut (us:=[v]) s
  rw [List.range'_succ,List.map_cons]
  exact cons_all (star_map s1 (fun _ z=>z) fun _ z=>row_cellsC n (o+1) z)
section
variable {lb la n:Nat} {tq:List Ct4} {L:List HProp}
abbrev ctMq (lb la n:Nat) (tq:List Ct4):Nat→Int→HProp:=ctM lb la n (tq.map ctB)
def ctTs (lb la n:Nat) (tq:List Ct4):List (Thr (ctG (ctMq lb la n tq))):=tq.mapIdx fun k y=>⟨ctF lb (ctB y),ctIni k y.2.2.1,ctMq lb la n tq k 0⟩
theorem ctMq_at {k:Nat} {y:Ct4} {v:Int} (hy:tq[k]?=some y):ctMq lb la n tq k v=ctMk lb la n k (ctB y) v :=
 ctM_at (by rw [List.getElem?_map,hy];rfl)
theorem ctTs_get {k:Nat} {y:Ct4} (hy:tq[k]?=some y):(ctTs lb la n tq)[k]?=some ⟨ctF lb (ctB y),ctIni k y.2.2.1,ctMq lb la n tq k 0⟩:=by
 unfold ctTs
 rw [List.getElem?_mapIdx,hy];rfl
theorem ctTs_len:(ctTs lb la n tq).length=tq.length:=by simp [ctTs]
theorem ctTs_fv:(ctTs lb la n tq).map Thr.fv=tq.map fun y=>ctF lb (ctB y):=by
 apply List.ext_getElem?
 intro k
 rw [List.getElem?_map,List.getElem?_map,ctTs,List.getElem?_mapIdx]
 cases tq[k]? <;> rfl
theorem ctTs_ini:((ctTs lb la n tq).map fun t=>(show Unit→Unit × CtQ from t.ini))=(msZ tq).mapIdx fun k m=>ctIni k m:=by
 apply List.ext_getElem?
 intro k
 rw [List.getElem?_map,List.getElem?_mapIdx,ctTs,List.getElem?_mapIdx,msZ,List.getElem?_map]
 cases tq[k]? <;> rfl
theorem ctTs_ok (hl:tq.length=n) (hn:n≤16) (hm:∀ y∈tq,y.2.2.1≤100000):∀ t∈ctTs lb la n tq,ThrR (ctG (ctMq lb la n tq)) t.ini t.fv t.M:=by
 intro t ht
 obtain ⟨k,hk⟩:=List.mem_iff_getElem?.1 ht
 have hlt:k<tq.length:=by
  have:=(List.getElem?_eq_some_iff.1 hk).1
  rwa [ctTs_len] at this
 have hy:=List.getElem?_eq_getElem hlt
 rw [ctTs_get hy] at hk
 have hk:=Option.some.inj hk
 subst hk
 exact (ct_ok (tq:=tq.map ctB) (lb:=lb) (la:=la) (nt:=n) (k:=k) (y:=ctB tq[k]) (by rw [List.getElem?_map,hy];rfl) (by omega) hn (hm _ (List.getElem_mem hlt))).r
theorem dealC (hl:tq.length=n) {h:Hp} (s:Star (fro lb 0 [.slice (some ⟨la,0,none⟩) n n]::all (boxC tq)::arr la 0 (zeros n [.int .i64 0])::L) h):Star (all ((ctTs lb la n tq).map Thr.M)::fro lb 0 [.slice (some ⟨la,0,none⟩) n n]::L) h:=by
 subst hl
 have s0:Star (arr la 0 (List.replicate tq.length (.int .i64 0))::fro lb 0 [.slice (some ⟨la,0,none⟩) tq.length tq.length]::all (boxC tq)::L) h:=by
  rw [← zeros_rep]
  exact Ent.star (.take (.there (.there .here)) (.take .here (.take .here .refl))) s
 have s1:=row_cellsC _ _ s0
 have s2:=dup_many dup_fro (star_swap s1) tq.length
 have s3:Star (all (List.replicate tq.length (fro lb 0 [.slice (some ⟨la,0,none⟩) tq.length tq.length]))::all (boxC tq)::all ((List.range' 0 tq.length).map fun i=>arr la i [.int .i64 0])::fro lb 0 [.slice (some ⟨la,0,none⟩) tq.length tq.length]::L) h:=Ent.star (.take .here (.take (.there (.there .here)) (.take (.there .here) (.take .here .refl)))) s2
 have s4:=star_zip (by simp [boxC]) s3
 have s5:=star_zip (by simp [boxC]) s4
 refine all_mono (by simp [boxC,ctTs]) (fun i a b ha hb h z=>?_) s5
 rw [List.getElem?_map,Option.map_eq_some_iff] at hb
 obtain ⟨t,ht,rfl⟩:=hb
 have hlt:i<tq.length:=by
  have:=(List.getElem?_eq_some_iff.1 ht).1
  rwa [ctTs_len] at this
 have hy:=List.getElem?_eq_getElem hlt
 rw [ctTs_get hy] at ht
 have ht:=Option.some.inj ht
 subst ht
 show ctMq lb la tq.length tq i 0 h
 rw [ctMq_at hy]
 have ha2:a=all [all [fro lb 0 [.slice (some ⟨la,0,none⟩) tq.length tq.length],all [arr tq[i].1 0 [.int .i64 (i:Nat)],arr tq[i].2.1 0 [.int .i64 (tq[i].2.2.1:Nat)]]],arr la i [.int .i64 0]]:=by
  simp [boxC,hlt,List.getElem?_zipWith,hy] at ha
  exact ha.symm
 subst ha2
 have z0:Star [all [fro lb 0 [.slice (some ⟨la,0,none⟩) tq.length tq.length],all [arr tq[i].1 0 [.int .i64 (i:Nat)],arr tq[i].2.1 0 [.int .i64 (tq[i].2.2.1:Nat)]]],arr la i [.int .i64 0]] h:=z
 have z1:=star_open z0
 have z2:Star (all [arr tq[i].1 0 [.int .i64 (i:Nat)],arr tq[i].2.1 0 [.int .i64 (tq[i].2.2.1:Nat)]]::fro lb 0 [.slice (some ⟨la,0,none⟩) tq.length tq.length]::arr la i [.int .i64 0]::[]) h:=star_swap z1
 have z3:Star (arr tq[i].1 0 [.int .i64 (i:Nat)]::arr tq[i].2.1 0 [.int .i64 (tq[i].2.2.1:Nat)]::fro lb 0 [.slice (some ⟨la,0,none⟩) tq.length tq.length]::arr la i [.int .i64 0]::[]) h:=star_open (M:=[_,_]) z2
 exact Ent.star (M:=[_,_,_,_]) (.take (.there (.there .here)) (.take .here (.take .here (.take .here .refl)))) z3
theorem ct_left {qs:List CtQ} {ms:List Nat} {tr:List (Nat × (Int × Int))} (hl:tq.length=n) (I:CtI ms qs tr) (hms:ms=msZ tq) {k:Nat} (hk:k<n) {F L':List HProp} (hh:Has L' (all (qs.map fun q=>ctMq lb la n tq q.1 (ctV q))) F) :
  Rd L' la (0+k) (.int .i64 (if k∈cutN (ctG (ctMq lb la n tq)) qs n then 1 else 11)):=by
 have hql:qs.length=n:=by rw [I.ql,hms];simp [msZ,hl]
 obtain ⟨q,hq⟩:∃ q,qs[k]?=some q:=⟨_,List.getElem?_eq_getElem (by omega)⟩
 obtain ⟨e1,_,_⟩:=I.at_ k q hq
 have hy:=List.getElem?_eq_getElem (l:=tq) (i:=k) (by omega)
 have hv:(if k∈cutN (ctG (ctMq lb la n tq)) qs n then (1:Int) else 11)=ctV q:=by
  have hm:k∈cutN (ctG (ctMq lb la n tq)) qs n↔q.2.2<q.2.1:=by
   unfold cutN
   rw [List.mem_filter,List.mem_range]
   have hqq:((show List (ctG (ctMq lb la n tq)).θ from qs)[k]?).bind (ctG (ctMq lb la n tq)).plan=ctPlan q:=by
    have:(show List (ctG (ctMq lb la n tq)).θ from qs)[k]?=some q:=hq
    rw [this];rfl
   constructor
   ·rintro ⟨_,h2⟩
    have h3:(ctPlan q).isSome=true:=by rw [← hqq];exact h2
    unfold ctPlan at h3
    split at h3
    ·assumption
    ·cases h3
   ·intro h
    refine ⟨hk,?_⟩
    have h3:(ctPlan q).isSome=true:=by unfold ctPlan;rw [if_pos h];rfl
    rw [← hqq] at h3
    exact h3
  unfold ctV
  by_cases h:q.2.2<q.2.1
  ·rw [if_pos h,if_pos (hm.2 h)]
  ·rw [if_neg h,if_neg fun h2=>h (hm.1 h2)]
 rw [hv]
 have hc:(qs.map fun q=>ctMq lb la n tq q.1 (ctV q))[k]?=some (ctMk lb la n k (ctB tq[k]) (ctV q)):=by
  rw [List.getElem?_map,hq]
  show some (ctMq lb la n tq q.1 (ctV q))=_
  rw [e1,ctMq_at hy]
 refine rd_itemC hh hc ?_
 intro h s
 exact (show Rd [fro lb 0 [.slice (some ⟨la,0,none⟩) n n],arr (ctB tq[k]).1 0 [.int .i64 (k:Nat)],arr (ctB tq[k]).2.1 0 [.int .i64 ((ctB tq[k]).2.2:Nat)],arr la k [.int .i64 (ctV q)]] la (0+k) (.int .i64 (ctV q)) from .there (.there (.there (Rd.row (k:=0) rfl (by omega))))) h (star_drop (star_tail (star_open s)))
end
end
end Go.Proofs.Ytabbkjciifnehaa
set_option maxRecDepth 4000
namespace Go.Proofs.Ytabbkjciifnehaa
open Go Go.PB
attribute [local irreducible] Mo Bin Eql Tr Wo Ap Wle
attribute [local instance] Pass.of_no
def boolsC (l:List Bool):List Value:=l.map fun b=>.bool b
def tcInv (ov ev:Value) (n lb:Nat) (L:List HProp):PB.Inv (Nat × Nat × Value × Value × List Ct4) MX where
 e:=fun i=>[(0,ov),(1,ev),(5,.int .i64 (n:Nat)),(6,i.2.2.1),(7,i.2.2.2.1),(8,.pointer (some ⟨lb,0,none⟩)),(9,.pointer (some ⟨i.2.1,0,none⟩))]
 L:=fun i=>arr i.2.1 0 [.int .i64 (i.1:Nat)]::vec 1 i.2.2.1 (i.2.2.2.2.map fun y=>ctF lb (ctB y))::vec 1 i.2.2.2.1 (i.2.2.2.2.map hdZ)::all (boxC i.2.2.2.2)::all (i.2.2.2.2.map rowZ)::L
 x:=fun _=>.idle
 ok:=fun i=>i.1≤n∧i.2.2.2.2.length=i.1∧∀ y∈i.2.2.2.2,y.2.2.1≤16389
def tkInv (n lb wb:Nat) (L:List HProp):PB.Inv Nat MX where
 e:=fun i=>[(5,.int .i64 (n:Nat)),(8,.pointer (some ⟨lb,0,none⟩)),(12,.pointer (some ⟨wb,0,none⟩)),(15,.int .i64 (i:Nat))]
 L:=fun _=>L
 x:=fun _=>.idle
 ok:=fun i=>i≤n
def tlInv (n lb wb k:Nat) (cut:List Nat) (L:List HProp):PB.Inv Nat MX where
 e:=fun i=>[(5,.int .i64 (n:Nat)),(8,.pointer (some ⟨lb,0,none⟩)),(12,.pointer (some ⟨wb,0,none⟩)),(15,.int .i64 (k:Nat)),(16,.int .i64 (if k∈cut.take i then 1 else 11)),(17,.int .i64 (i:Nat))]
 L:=fun _=>L
 x:=fun _=>.idle
 ok:=fun i=>i≤cut.length
theorem refCutN_tr {B:Hand} [Lets B] {x:B.X} {L:List HProp} {M:Nat→Int→HProp} {ts:List (Thr (ctG M))} {ms:List Nat} {n:Nat} (hn:ms.length=n) (hini:(ts.map fun t=>(show Unit→Unit × CtQ from t.ini))=ms.mapIdx fun k m=>ctIni k m) (h1n:1≤n) (h16:n≤16) (hmb:∀ m∈ms,m≤100000) {oa pa:Option Addr} {oc pc:Nat} {o:List Int} (hro:RdsO L oa o.length (ints o)) (hrr:RdRowsZ L pa ms) (hol:o.length≤2000) :
  Tr Try.prog B 15 [.slice oa o.length oc,.slice pa n pc] L x fun v L' x'=>∃ tv cv,v=.agg #[tv,cv]∧L'=vec 3 tv (trCP (playF ts (show (ctG M).σ from ()) o).tr)::vec 1 cv (cutC (cutN (ctG M) (playF ts (show (ctG M).σ from ()) o).qs n))::L∧x'=x:=by
 subst hn
 exact refCut_tr hini h1n h16 hmb hro hrr hol
set_option maxHeartbeats 8000000 in
theorem tCut_tr {L:List HProp} {a a1:Option Addr} {n0 c c1:Nat} {l0:List Int} {es:List Bool} (hr0:RdsO L a n0 (ints l0)) (hb:n0≤9223372036854775807) (hc0:n0≤c) (he:RdsO L a1 es.length (boolsC es)) (heb:es.length≤9223372036854775807) :
  Tr Try.prog mT 4 [.slice a n0 c,.slice a1 es.length c1] L .idle fun v L' x'=>v=.bool true∧x'=.idle:=by
 have hn0:n0=l0.length:=by have:=hr0.1;simpa using this
 subst hn0
 refine tr_of_body Try.func4 rfl Try.ntmps4 (by simp) fun um Q _ hQ=>?_
 simp only [argE,Nat.zero_add,Nat.reduceAdd]
 repeat (first | refine we_seq ?_ | (refine wR ?_;try simp only [oS]) | refine wo_nil ?_ | refine wA ?_)
 refine wo_call .nil trivial awakes_tr ?_
 rintro v1 L1 x1 ⟨rfl,rfl,rfl⟩
 repeat (first | refine we_seq ?_ | (refine wR ?_;try simp only [oS]) | refine wo_nil ?_ | refine wM ?_ | (apply wo_po;apply mo_not;exact rfl;exact gY) | (apply wo_po;apply mo_bin;exact rfl;exact rfl;exact bin_gtr;exact gY) | refine wE ?_ | refine wF ?_ | refine we_skip ?_)
 refine we_join (cutInvA 2000 L1 (.slice a1 es.length c1) (l0.take 2000)) ?_ ?_
 ·by_cases hbig:2000<l0.length
  ·obtain ⟨b,o,rfl,hrd⟩:=hr0.rds (by omega)
   repeat (first | (apply wo_po;apply mo_sliceTo (u:=2000);exact rfl;exact rfl;exact rfl;omega;omega;exact trivial) | (refine wR ?_;try simp only [oS]) | refine wo_nil ?_ | refine wM ?_ | refine wA ?_ | refine wT ?_)
   refine at_mid (B:=mT) (I:=cutInvA 2000 L1 (.slice a1 es.length c1) (l0.take 2000)) (some ⟨b,o,none⟩,2000,c) ⟨⟨by simp;omega,.inr ⟨b,o,rfl,fun i v hi=>?_⟩⟩,Nat.le_refl _⟩ ?_ .refl rfl
   ·have hi':(ints l0)[i]?=some v:=by
     rw [List.getElem?_map] at hi ⊢
     rw [List.getElem?_take] at hi
     split at hi
     ·exact hi
     ·cases hi
    exact hrd i v hi'
   ·exact ⟨rfl,rfl,trivial⟩
  ·repeat (first | refine wF ?_ | refine we_skip ?_)
   refine at_mid (B:=mT) (I:=cutInvA 2000 L1 (.slice a1 es.length c1) (l0.take 2000)) (a,l0.length,c) ⟨by rw [List.take_of_length_le (by omega)];exact hr0,by show l0.length≤2000;omega⟩ ?_ .refl rfl
   exact ⟨rfl,rfl,trivial⟩
 generalize l0.take 2000=l
 clear hr0 hb hc0
 rintro ⟨a,n1,c⟩ ⟨hr,hn2⟩
 simp only at hr hn2
 simp only [cutInvA,List.take_succ_cons,List.take_zero]
 have hn1:n1=l.length:=by have:=hr.1;simpa using this
 subst hn1
 have e3:=Int.emod_nonneg ((es.length:Int)-1) (by decide:(3:Int)≠0)
 have e3':=Int.emod_lt_of_pos ((es.length:Int)-1) (by decide:(0:Int)<3)
 obtain ⟨n,hn⟩:∃ n:Nat,1+((es.length:Int)-1)%3=n:=⟨(1+((es.length:Int)-1)%3).toNat,by omega⟩
 have hw0:IntKind.i64.wrap (1+((es.length:Int)-1)%3)=n:=by rw [hn];exact wrap_i64 (by omega) (by omega)
 have hw1:IntKind.i64.wrap ((es.length:Int)-1)=(es.length:Int)-1:=wrap_i64 (by omega) (by omega)
 have hn1:1≤n:=by omega
 have hn3:n≤3:=by omega
 repeat (first | (apply wo_po;apply mo_bin;exact rfl;exact rfl;apply bin_sub;exact hw1;exact trivial) | refine we_seq ?_ | (refine wR ?_;try simp only [oS]) | refine wM ?_ | refine wE ?_)
 refine wo_call (.cons rfl (.cons rfl .nil)) trivial (within_tr (by omega) (by omega)) ?_
 rintro v1 L2 x1 ⟨rfl,rfl,rfl⟩
 repeat (first | (apply wo_po;apply mo_bin;exact rfl;exact rfl;apply bin_add;exact hw0;exact trivial) | (apply wo_mo;apply mo_make (n:=n);exact rfl;exact rfl;exact rfl;omega;omega;exact trivial) | refine we_seq ?_ | (refine wR ?_;try simp only [oS]) | refine wo_nil ?_ | refine wM ?_ | refine wA ?_)
 rintro v' L' ⟨la,rfl,rfl⟩
 repeat (first | (apply wo_mo;apply mo_alloc;exact trivial))
 rintro v' L' ⟨lb,rfl,rfl⟩
 repeat (first | refine wS ?_ | (apply wo_mo;apply mo_alloc;exact trivial) | refine we_seq ?_ | (refine wR ?_;try simp only [oS]) | refine wo_nil ?_)
 rintro v' L' ⟨kb,rfl,rfl⟩
 refine wo_frz (b:=lb) (o:=0) (.there .here) ?_
 repeat (first | refine wS ?_ | refine wo_nil ?_ | refine we_block ?_)
 let LX:List HProp:=fro lb 0 [.slice (some ⟨la,0,none⟩) n n]::arr la 0 (zeros n [.int .i64 0])::L2
 refine we_star ((tcInv (.slice a l.length c) (.slice a1 es.length c1) n lb LX).L (0,kb,.slice none 0 0,.slice none 0 0,[])) (fun h st=>?_) ?_
 ·have s1:Star (fro lb 0 [.slice (some ⟨la,0,none⟩) n n]::arr kb 0 [.int .i64 (0:Nat)]::arr la 0 (zeros n [.int .i64 0])::L2) h:=st
  have s2:Star (all []::all []::vec 1 (.slice none 0 0) []::vec 1 (.slice none 0 0) []::_) h:=star_shut (M:=[]) (star_shut (M:=[]) (vec_nil (vec_nil s1)))
  exact Ent.star (.take (.there (.there (.there (.there (.there .here))))) (.take (.there (.there .here)) (.take (.there (.there .here)) (.take .here (.take .here .refl))))) s2
 refine we_loopN (tcInv (.slice a l.length c) (.slice a1 es.length c1) n lb LX) (fun i=>n-i.1) (0,kb,.slice none 0 0,.slice none 0 0,[]) ⟨Nat.zero_le _,rfl,fun y hy=>by cases hy⟩ ⟨rfl,rfl,rfl,rfl,rfl,rfl,rfl,trivial⟩ .refl rfl ?_
 clear kb
 rintro ⟨i,kb,tv,sv,tq⟩ ⟨hi,htl,htm⟩
 dsimp only at hi htl htm
 simp only [tcInv]
 refine we_pure (of_has (.there .here) (vec_shape (by omega))) ?_
 rintro ⟨va,vn,vc,rfl,hvn,_,hvz,hvy⟩
 refine we_pure (of_has (.there (.there .here)) (vec_shape (by omega))) ?_
 rintro ⟨ra,rn,rc,rfl,hrn,_,hrz,hry⟩
 obtain rfl:vn=i:=by simp at hvn;omega
 obtain rfl:rn=vn:=by simp at hrn;omega
 by_cases hlt:rn<n
 ·have hadd:IntKind.i64.wrap ((rn:Nat)+1)=((rn+1:Nat):Int):=(wrap_i64 (by omega) (by omega)).trans (by omega)
  by_cases hel:rn<es.length
  ·obtain ⟨bb,hbb⟩:∃ b,es[rn]?=some b:=⟨es[rn],List.getElem?_eq_getElem hel⟩
   obtain ⟨eb,eo,rfl,hed⟩:=he.rds (by omega)
   have hre:∀ {d1 d2 d3 d4 d5 d6 d7:HProp},Rd (d1::d2::d3::d4::d5::d6::d7::L2) eb (eo+rn) (.bool bb):=.there (.there (.there (.there (.there (.there (.there (hed rn _ (by unfold boolsC;rw [List.getElem?_map,hbb];rfl))))))))
   cases bb with
   | true =>
    repeat (first | (apply wo_po;apply mo_index1;exact rfl;exact rfl;omega;exact gY) | (apply wo_po;apply mo_load;exact rfl;exact hre;exact gY) | (apply wo_mo;apply mo_alloc;exact trivial) | refine wlssT ?_ | refine we_seq ?_ | (refine wR ?_;try simp only [oS]) | refine wo_nil ?_ | refine wM ?_ | refine wA ?_ | refine wK ?_ | refine wL ?_ | refine wE ?_ | refine wT ?_ | refine we_skip ?_ | refine we_block ?_)
    rintro v' L' ⟨mb,rfl,rfl⟩
    repeat (first | refine wS ?_ | refine we_seq ?_ | (refine wR ?_;try simp only [oS]) | refine wo_nil ?_ | refine wM ?_ | refine wL ?_ | refine wT ?_)
    obtain ⟨m,hm⟩:∃ m:Nat,m=3:=⟨_,rfl⟩
    have hm2:((m:Nat):Int)=3:=by omega
    refine wo_star (arr mb 0 [.int .i64 (m:Nat)]::arr kb 0 [.int .i64 (rn:Nat)]::vec 1 (.slice va rn vc) (tq.map fun y=>ctF lb (ctB y))::vec 1 (.slice ra rn rc) (tq.map hdZ)::all (boxC tq)::all (tq.map rowZ)::LX) (fun h st=>by rw [hm2];exact st) ?_
    repeat (first | (apply wo_mo;apply mo_make (n:=m);(rw [hm2];exact rfl);(rw [hm2];exact rfl);exact rfl;omega;omega;exact trivial))
    rintro v' L' ⟨rb,rfl,rfl⟩
    repeat (first | (apply wo_mo;apply mo_buildSlice (sz:=1) (vs:=[.slice (some ⟨rb,0,none⟩) m m]);exact rfl;exact .cons rfl .nil;exact rfl;(intro v hv;cases (List.mem_singleton.1 hv);exact rfl);omega;exact trivial))
    rintro v' L' ⟨nb1,rfl,rfl⟩
    repeat (first | (apply wo_mo;apply mo_append (sz:=1) (new:=[.slice (some ⟨rb,0,none⟩) m m]);exact rfl;exact rfl;exact rfl;exact rfl;exact (.there (.there (.there (.there (.there .here)))));exact rfl;exact .inr ⟨_,_,rfl,Rds.all .here⟩;(intro v hv;cases (List.mem_singleton.1 hv);exact rfl);(simp only [sliceLen];omega);exact trivial))
    rintro sv' L' rfl
    repeat (first | (apply wo_po;apply mo_makeFunc (first:=[]) (cap:=[_,_,_]) (vf:=[]);exact .nil;exact .cons rfl (.cons rfl (.cons rfl .nil));exact trivial) | (apply wo_mo;apply mo_buildSlice (sz:=1) (vs:=[ctF lb (kb,mb,m)]);exact rfl;exact .cons rfl .nil;exact rfl;(intro v hv;cases (List.mem_singleton.1 hv);exact rfl);omega;exact trivial) | (refine wR ?_;try simp only [oS]) | refine wo_nil ?_ | refine wM ?_ | refine wA ?_)
    rintro v' L' ⟨nb2,rfl,rfl⟩
    repeat (first | (apply wo_mo;apply mo_append (sz:=1) (new:=[ctF lb (kb,mb,m)]);exact rfl;exact rfl;exact rfl;exact rfl;exact (.there (.there (.there (.there (.there (.there .here))))));exact rfl;exact .inr ⟨_,_,rfl,Rds.all .here⟩;(intro v hv;cases (List.mem_singleton.1 hv);exact rfl);(simp only [sliceLen];omega);exact trivial))
    rintro tv' L' rfl
    repeat (first | (apply wo_mo;apply mo_alloc;exact trivial) | refine we_seq ?_ | (refine wR ?_;try simp only [oS]) | refine wo_nil ?_ | refine wA ?_ | refine wL ?_)
    rintro v' L' ⟨kb2,rfl,rfl⟩
    repeat (first | refine wS ?_ | (apply wo_po;apply mo_bin;exact rfl;exact rfl;apply bin_add;exact hadd;exact trivial) | (refine wR ?_;try simp only [oS]) | refine wo_nil ?_ | refine wL ?_)
    refine at_roundS (B:=mT) (I:=tcInv (.slice a l.length c) (.slice (some ⟨eb,eo,none⟩) es.length c1) n lb LX) (R:=fun q=>n-q.1<n-rn) (rn+1,kb2,tv',sv',tq++[((kb,mb,m,rb):Ct4)]) (by show n-(rn+1)<n-rn;omega) ⟨by show rn+1≤n;omega,by show (tq++[_]).length=rn+1;rw [List.length_append,htl];rfl,fun y hy=>?_⟩ ⟨rfl,rfl,rfl,rfl,rfl,rfl,rfl,trivial⟩ (fun hp st=>?_) rfl
    ·rcases List.mem_append.1 hy with hy | hy
     ·exact htm y hy
     ·cases List.mem_singleton.1 hy;show m≤16389;omega
    ·have s0:Star (arr kb2 0 [.int .i64 ((rn+1:Nat):Int)]::vec 1 tv' (tq.map (fun y=>ctF lb (ctB y))++[ctF lb (kb,mb,m)])::arr nb2 0 [ctF lb (kb,mb,m)]::vec 1 sv' (tq.map hdZ++[.slice (some ⟨rb,0,none⟩) m m])::arr nb1 0 [.slice (some ⟨rb,0,none⟩) m m]::arr rb 0 (zeros m [.int .u8 0,.int .i64 0])::arr mb 0 [.int .i64 (m:Nat)]::arr kb 0 [.int .i64 (rn:Nat)]::all (boxC tq)::all (tq.map rowZ)::LX) hp:=st
     have s1:Star (all [arr kb 0 [.int .i64 (rn:Nat)],arr mb 0 [.int .i64 (m:Nat)]]::_) hp:=star_shut (M:=[_,_]) (Ent.star (.take (.there (.there (.there (.there (.there (.there (.there .here))))))) (.take (.there (.there (.there (.there (.there (.there .here)))))) .refl)) s0)
     have s2:Star (all [arr kb 0 [.int .i64 (rn:Nat)],arr mb 0 [.int .i64 (m:Nat)]]::all (boxC tq)::_) hp:=Ent.star (.take .here (.take (.there (.there (.there (.there (.there (.there .here)))))) .refl)) s1
     have s3:=star_push s2
     have s4:Star (rowZ ((kb,mb,m,rb):Ct4)::all (tq.map rowZ)::_) hp:=Ent.star (.take (.there (.there (.there (.there (.there (.there .here)))))) (.take (.there (.there (.there (.there (.there (.there .here)))))) .refl)) s3
     have s5:=star_push s4
     show Star (_::vec 1 tv' ((tq++[((kb,mb,m,rb):Ct4)]).map fun y=>ctF lb (ctB y))::vec 1 sv' ((tq++[((kb,mb,m,rb):Ct4)]).map hdZ)::all (boxC (tq++[((kb,mb,m,rb):Ct4)]))::all ((tq++[((kb,mb,m,rb):Ct4)]).map rowZ)::LX) hp
     rw [List.map_append,List.map_append,List.map_append,boxC_snoc,htl]
     exact Ent.star (.take (.there (.there .here)) (.take (.there (.there .here)) (.take (.there (.there (.there .here))) (.take (.there .here) (.take .here (.drop (.drop .refl))))))) s5
   | false =>
    repeat (first | (apply wo_po;apply mo_index1;exact rfl;exact rfl;omega;exact gY) | (apply wo_po;apply mo_load;exact rfl;exact hre;exact gY) | (apply wo_mo;apply mo_alloc;exact trivial) | refine wlssT ?_ | refine we_seq ?_ | (refine wR ?_;try simp only [oS]) | refine wo_nil ?_ | refine wM ?_ | refine wA ?_ | refine wK ?_ | refine wL ?_ | refine wE ?_ | refine wT ?_ | refine we_skip ?_ | refine we_block ?_)
    rintro v' L' ⟨mb,rfl,rfl⟩
    repeat (first | refine wS ?_ | refine we_seq ?_ | (refine wR ?_;try simp only [oS]) | refine wo_nil ?_ | refine wM ?_ | refine wL ?_ | refine wF ?_ | refine we_skip ?_)
    obtain ⟨m,hm⟩:∃ m:Nat,m=16389:=⟨_,rfl⟩
    have hm2:((m:Nat):Int)=16389:=by omega
    refine wo_star (arr mb 0 [.int .i64 (m:Nat)]::arr kb 0 [.int .i64 (rn:Nat)]::vec 1 (.slice va rn vc) (tq.map fun y=>ctF lb (ctB y))::vec 1 (.slice ra rn rc) (tq.map hdZ)::all (boxC tq)::all (tq.map rowZ)::LX) (fun h st=>by rw [hm2];exact st) ?_
    repeat (first | (apply wo_mo;apply mo_make (n:=m);(rw [hm2];exact rfl);(rw [hm2];exact rfl);exact rfl;omega;omega;exact trivial))
    rintro v' L' ⟨rb,rfl,rfl⟩
    repeat (first | (apply wo_mo;apply mo_buildSlice (sz:=1) (vs:=[.slice (some ⟨rb,0,none⟩) m m]);exact rfl;exact .cons rfl .nil;exact rfl;(intro v hv;cases (List.mem_singleton.1 hv);exact rfl);omega;exact trivial))
    rintro v' L' ⟨nb1,rfl,rfl⟩
    repeat (first | (apply wo_mo;apply mo_append (sz:=1) (new:=[.slice (some ⟨rb,0,none⟩) m m]);exact rfl;exact rfl;exact rfl;exact rfl;exact (.there (.there (.there (.there (.there .here)))));exact rfl;exact .inr ⟨_,_,rfl,Rds.all .here⟩;(intro v hv;cases (List.mem_singleton.1 hv);exact rfl);(simp only [sliceLen];omega);exact trivial))
    rintro sv' L' rfl
    repeat (first | (apply wo_po;apply mo_makeFunc (first:=[]) (cap:=[_,_,_]) (vf:=[]);exact .nil;exact .cons rfl (.cons rfl (.cons rfl .nil));exact trivial) | (apply wo_mo;apply mo_buildSlice (sz:=1) (vs:=[ctF lb (kb,mb,m)]);exact rfl;exact .cons rfl .nil;exact rfl;(intro v hv;cases (List.mem_singleton.1 hv);exact rfl);omega;exact trivial) | (refine wR ?_;try simp only [oS]) | refine wo_nil ?_ | refine wM ?_ | refine wA ?_)
    rintro v' L' ⟨nb2,rfl,rfl⟩
    repeat (first | (apply wo_mo;apply mo_append (sz:=1) (new:=[ctF lb (kb,mb,m)]);exact rfl;exact rfl;exact rfl;exact rfl;exact (.there (.there (.there (.there (.there (.there .here))))));exact rfl;exact .inr ⟨_,_,rfl,Rds.all .here⟩;(intro v hv;cases (List.mem_singleton.1 hv);exact rfl);(simp only [sliceLen];omega);exact trivial))
    rintro tv' L' rfl
    repeat (first | (apply wo_mo;apply mo_alloc;exact trivial) | refine we_seq ?_ | (refine wR ?_;try simp only [oS]) | refine wo_nil ?_ | refine wA ?_ | refine wL ?_)
    rintro v' L' ⟨kb2,rfl,rfl⟩
    repeat (first | refine wS ?_ | (apply wo_po;apply mo_bin;exact rfl;exact rfl;apply bin_add;exact hadd;exact trivial) | (refine wR ?_;try simp only [oS]) | refine wo_nil ?_ | refine wL ?_)
    refine at_roundS (B:=mT) (I:=tcInv (.slice a l.length c) (.slice (some ⟨eb,eo,none⟩) es.length c1) n lb LX) (R:=fun q=>n-q.1<n-rn) (rn+1,kb2,tv',sv',tq++[((kb,mb,m,rb):Ct4)]) (by show n-(rn+1)<n-rn;omega) ⟨by show rn+1≤n;omega,by show (tq++[_]).length=rn+1;rw [List.length_append,htl];rfl,fun y hy=>?_⟩ ⟨rfl,rfl,rfl,rfl,rfl,rfl,rfl,trivial⟩ (fun hp st=>?_) rfl
    ·rcases List.mem_append.1 hy with hy | hy
     ·exact htm y hy
     ·cases List.mem_singleton.1 hy;show m≤16389;omega
    ·have s0:Star (arr kb2 0 [.int .i64 ((rn+1:Nat):Int)]::vec 1 tv' (tq.map (fun y=>ctF lb (ctB y))++[ctF lb (kb,mb,m)])::arr nb2 0 [ctF lb (kb,mb,m)]::vec 1 sv' (tq.map hdZ++[.slice (some ⟨rb,0,none⟩) m m])::arr nb1 0 [.slice (some ⟨rb,0,none⟩) m m]::arr rb 0 (zeros m [.int .u8 0,.int .i64 0])::arr mb 0 [.int .i64 (m:Nat)]::arr kb 0 [.int .i64 (rn:Nat)]::all (boxC tq)::all (tq.map rowZ)::LX) hp:=st
     have s1:Star (all [arr kb 0 [.int .i64 (rn:Nat)],arr mb 0 [.int .i64 (m:Nat)]]::_) hp:=star_shut (M:=[_,_]) (Ent.star (.take (.there (.there (.there (.there (.there (.there (.there .here))))))) (.take (.there (.there (.there (.there (.there (.there .here)))))) .refl)) s0)
     have s2:Star (all [arr kb 0 [.int .i64 (rn:Nat)],arr mb 0 [.int .i64 (m:Nat)]]::all (boxC tq)::_) hp:=Ent.star (.take .here (.take (.there (.there (.there (.there (.there (.there .here)))))) .refl)) s1
     have s3:=star_push s2
     have s4:Star (rowZ ((kb,mb,m,rb):Ct4)::all (tq.map rowZ)::_) hp:=Ent.star (.take (.there (.there (.there (.there (.there (.there .here)))))) (.take (.there (.there (.there (.there (.there (.there .here)))))) .refl)) s3
     have s5:=star_push s4
     show Star (_::vec 1 tv' ((tq++[((kb,mb,m,rb):Ct4)]).map fun y=>ctF lb (ctB y))::vec 1 sv' ((tq++[((kb,mb,m,rb):Ct4)]).map hdZ)::all (boxC (tq++[((kb,mb,m,rb):Ct4)]))::all ((tq++[((kb,mb,m,rb):Ct4)]).map rowZ)::LX) hp
     rw [List.map_append,List.map_append,List.map_append,boxC_snoc,htl]
     exact Ent.star (.take (.there (.there .here)) (.take (.there (.there .here)) (.take (.there (.there (.there .here))) (.take (.there .here) (.take .here (.drop (.drop .refl))))))) s5
  ·skip
   repeat (first | (apply wo_mo;apply mo_alloc;exact trivial) | refine wlssT ?_ | refine wlssF ?_ | refine we_seq ?_ | (refine wR ?_;try simp only [oS]) | refine wo_nil ?_ | refine wM ?_ | refine wA ?_ | (apply wo_no;exact rfl) | refine wJ ?_ | refine wL ?_ | refine wE ?_ | refine wT ?_ | refine we_skip ?_ | refine we_block ?_)
   rintro v' L' ⟨mb,rfl,rfl⟩
   repeat (first | refine wS ?_ | refine we_seq ?_ | (refine wR ?_;try simp only [oS]) | refine wo_nil ?_ | refine wM ?_ | refine wL ?_ | refine wF ?_ | refine we_skip ?_)
   obtain ⟨m,hm⟩:∃ m:Nat,m=16389:=⟨_,rfl⟩
   have hm2:((m:Nat):Int)=16389:=by omega
   refine wo_star (arr mb 0 [.int .i64 (m:Nat)]::arr kb 0 [.int .i64 (rn:Nat)]::vec 1 (.slice va rn vc) (tq.map fun y=>ctF lb (ctB y))::vec 1 (.slice ra rn rc) (tq.map hdZ)::all (boxC tq)::all (tq.map rowZ)::LX) (fun h st=>by rw [hm2];exact st) ?_
   repeat (first | (apply wo_mo;apply mo_make (n:=m);(rw [hm2];exact rfl);(rw [hm2];exact rfl);exact rfl;omega;omega;exact trivial))
   rintro v' L' ⟨rb,rfl,rfl⟩
   repeat (first | (apply wo_mo;apply mo_buildSlice (sz:=1) (vs:=[.slice (some ⟨rb,0,none⟩) m m]);exact rfl;exact .cons rfl .nil;exact rfl;(intro v hv;cases (List.mem_singleton.1 hv);exact rfl);omega;exact trivial))
   rintro v' L' ⟨nb1,rfl,rfl⟩
   repeat (first | (apply wo_mo;apply mo_append (sz:=1) (new:=[.slice (some ⟨rb,0,none⟩) m m]);exact rfl;exact rfl;exact rfl;exact rfl;exact (.there (.there (.there (.there (.there .here)))));exact rfl;exact .inr ⟨_,_,rfl,Rds.all .here⟩;(intro v hv;cases (List.mem_singleton.1 hv);exact rfl);(simp only [sliceLen];omega);exact trivial))
   rintro sv' L' rfl
   repeat (first | (apply wo_po;apply mo_makeFunc (first:=[]) (cap:=[_,_,_]) (vf:=[]);exact .nil;exact .cons rfl (.cons rfl (.cons rfl .nil));exact trivial) | (apply wo_mo;apply mo_buildSlice (sz:=1) (vs:=[ctF lb (kb,mb,m)]);exact rfl;exact .cons rfl .nil;exact rfl;(intro v hv;cases (List.mem_singleton.1 hv);exact rfl);omega;exact trivial) | (refine wR ?_;try simp only [oS]) | refine wo_nil ?_ | refine wM ?_ | refine wA ?_)
   rintro v' L' ⟨nb2,rfl,rfl⟩
   repeat (first | (apply wo_mo;apply mo_append (sz:=1) (new:=[ctF lb (kb,mb,m)]);exact rfl;exact rfl;exact rfl;exact rfl;exact (.there (.there (.there (.there (.there (.there .here))))));exact rfl;exact .inr ⟨_,_,rfl,Rds.all .here⟩;(intro v hv;cases (List.mem_singleton.1 hv);exact rfl);(simp only [sliceLen];omega);exact trivial))
   rintro tv' L' rfl
   repeat (first | (apply wo_mo;apply mo_alloc;exact trivial) | refine we_seq ?_ | (refine wR ?_;try simp only [oS]) | refine wo_nil ?_ | refine wA ?_ | refine wL ?_)
   rintro v' L' ⟨kb2,rfl,rfl⟩
   repeat (first | refine wS ?_ | (apply wo_po;apply mo_bin;exact rfl;exact rfl;apply bin_add;exact hadd;exact trivial) | (refine wR ?_;try simp only [oS]) | refine wo_nil ?_ | refine wL ?_)
   refine at_roundS (B:=mT) (I:=tcInv (.slice a l.length c) (.slice a1 es.length c1) n lb LX) (R:=fun q=>n-q.1<n-rn) (rn+1,kb2,tv',sv',tq++[((kb,mb,m,rb):Ct4)]) (by show n-(rn+1)<n-rn;omega) ⟨by show rn+1≤n;omega,by show (tq++[_]).length=rn+1;rw [List.length_append,htl];rfl,fun y hy=>?_⟩ ⟨rfl,rfl,rfl,rfl,rfl,rfl,rfl,trivial⟩ (fun hp st=>?_) rfl
   ·rcases List.mem_append.1 hy with hy | hy
    ·exact htm y hy
    ·cases List.mem_singleton.1 hy;show m≤16389;omega
   ·have s0:Star (arr kb2 0 [.int .i64 ((rn+1:Nat):Int)]::vec 1 tv' (tq.map (fun y=>ctF lb (ctB y))++[ctF lb (kb,mb,m)])::arr nb2 0 [ctF lb (kb,mb,m)]::vec 1 sv' (tq.map hdZ++[.slice (some ⟨rb,0,none⟩) m m])::arr nb1 0 [.slice (some ⟨rb,0,none⟩) m m]::arr rb 0 (zeros m [.int .u8 0,.int .i64 0])::arr mb 0 [.int .i64 (m:Nat)]::arr kb 0 [.int .i64 (rn:Nat)]::all (boxC tq)::all (tq.map rowZ)::LX) hp:=st
    have s1:Star (all [arr kb 0 [.int .i64 (rn:Nat)],arr mb 0 [.int .i64 (m:Nat)]]::_) hp:=star_shut (M:=[_,_]) (Ent.star (.take (.there (.there (.there (.there (.there (.there (.there .here))))))) (.take (.there (.there (.there (.there (.there (.there .here)))))) .refl)) s0)
    have s2:Star (all [arr kb 0 [.int .i64 (rn:Nat)],arr mb 0 [.int .i64 (m:Nat)]]::all (boxC tq)::_) hp:=Ent.star (.take .here (.take (.there (.there (.there (.there (.there (.there .here)))))) .refl)) s1
    have s3:=star_push s2
    have s4:Star (rowZ ((kb,mb,m,rb):Ct4)::all (tq.map rowZ)::_) hp:=Ent.star (.take (.there (.there (.there (.there (.there (.there .here)))))) (.take (.there (.there (.there (.there (.there (.there .here)))))) .refl)) s3
    have s5:=star_push s4
    show Star (_::vec 1 tv' ((tq++[((kb,mb,m,rb):Ct4)]).map fun y=>ctF lb (ctB y))::vec 1 sv' ((tq++[((kb,mb,m,rb):Ct4)]).map hdZ)::all (boxC (tq++[((kb,mb,m,rb):Ct4)]))::all ((tq++[((kb,mb,m,rb):Ct4)]).map rowZ)::LX) hp
    rw [List.map_append,List.map_append,List.map_append,boxC_snoc,htl]
    exact Ent.star (.take (.there (.there .here)) (.take (.there (.there .here)) (.take (.there (.there (.there .here))) (.take (.there .here) (.take .here (.drop (.drop .refl))))))) s5
 obtain rfl:rn=n:=by omega
 have hadd:True:=trivial
 have hml:(msZ tq).length=rn:=by simp [msZ,htl]
 have hmb:∀ m∈msZ tq,m≤100000:=fun m hm=>by
  obtain ⟨y,hy,rfl⟩:=List.mem_map.1 hm
  have:=htm y hy
  show y.2.2.1≤100000
  omega
 obtain ⟨p,hp⟩:∃ p,playF (ctTs lb la rn tq) (show (ctG (ctMq lb la rn tq)).σ from ()) l=p:=⟨_,rfl⟩
 have hI:CtI (msZ tq) p.qs p.tr:=by
  rw [← hp]
  exact playF_inv (I:=fun p:PS (ctG (ctMq lb la rn tq))=>CtI (msZ tq) p.qs p.tr) (fun p k h=>ct_step p k h) (ct_i0 ctTs_ini).1
 have hpt:=hI.le
 repeat (first | refine wlssF ?_ | refine we_seq ?_ | (refine wR ?_;try simp only [oS]) | refine wo_nil ?_ | refine wM ?_ | refine wL ?_ | refine wF ?_ | refine we_exit ?_)
 have href:=refCutN_tr (B:=mT) (x:=(MX.idle:MX)) (L:=arr kb 0 [.int .i64 (rn:Nat)]::vec 1 (.slice va rn vc) (tq.map fun y=>ctF lb (ctB y))::vec 1 (.slice ra rn rc) (tq.map hdZ)::all (boxC tq)::all (tq.map rowZ)::LX) (oc:=c) (pc:=rc) hml (ctTs_ini (lb:=lb) (la:=la) (n:=rn)) hn1 (by omega) hmb (o:=l) hr.there.there.there.there.there.there.there (rdrowsz_of (.there (.there .here)) htl hrz hry (.there (.there (.there (.there .here))))) (by omega)
 rw [hp] at href
 obtain ⟨cut,hcut⟩:∃ cl,cutN (ctG (ctMq lb la rn tq)) p.qs rn=cl:=⟨_,rfl⟩
 have hcl:cut.length≤rn:=by rw [← hcut];exact cutN_le
 rw [hcut] at href
 refine wo_call (.cons rfl (.cons rfl .nil)) trivial href ?_
 rintro v1 L3 x1 ⟨tw,cw,rfl,rfl,rfl⟩
 refine wo_pure (of_has .here (vec_shape (by omega))) ?_
 rintro ⟨t1,n1,c3,rfl,hn1',_,hz1,hy1⟩
 obtain rfl:n1=p.tr.length:=by rw [trCP_len] at hn1';omega
 refine wo_pure (of_has (.there .here) (vec_shape (by omega))) ?_
 rintro ⟨t2,q2,c4,rfl,hn2',_,hz2,hy2⟩
 obtain rfl:q2=cut.length:=by simp [cutC] at hn2';omega
 repeat (first | (apply wo_mo;apply mo_alloc;exact trivial))
 rintro v' L' ⟨wb,rfl,rfl⟩
 repeat (first | (apply wo_pm;apply mo_storeA (c:=0) (k:=0) (a:=0) (vs:=[.slice none 0 0,.slice none 0 0]);exact rfl;exact rfl;exact rfl;(intro w hw;simp [Value.cells] at hw;rcases hw with rfl | rfl <;> rfl);exact rfl;exact Nat.le_refl 2;exact .here;exact trivial) | refine we_seq ?_ | (refine wR ?_;try simp only [oS]) | refine wo_nil ?_ | refine wM ?_)
 refine wo_call (.cons rfl .nil) trivial (ints_tr hr.there.there.there.there.there.there.there.there.there.there (by omega)) ?_
 rintro v1 L3 x1 ⟨ib,io,cc,rfl,hcc,rfl,rfl⟩
 repeat (first | refine wM ?_)
 refine wo_star ((ctG (ctMq lb la rn tq)).U ()::all ((ctTs lb la rn tq).map Thr.M)::fro lb 0 [.slice (some ⟨la,0,none⟩) rn rn]::vec 1 (.slice (some ⟨ib,io,none⟩) (l.length+3) cc) (insC l)::arr wb 0 [.slice t1 p.tr.length c3,.slice t2 cut.length c4]::vec 3 (.slice t1 p.tr.length c3) (trCP p.tr)::vec 1 (.slice t2 cut.length c4) (cutC cut)::vec 1 (.slice va rn vc) (tq.map fun y=>ctF lb (ctB y))::L2) (fun h st=>?_) ?_
 ·have s1:Star (vec 1 (.slice (some ⟨ib,io,none⟩) (l.length+3) cc) (insC l)::arr wb 0 [.slice t1 p.tr.length c3,.slice t2 cut.length c4]::vec 3 (.slice t1 p.tr.length c3) (trCP p.tr)::vec 1 (.slice t2 cut.length c4) (cutC cut)::arr kb 0 [.int .i64 (rn:Nat)]::vec 1 (.slice va rn vc) (tq.map fun y=>ctF lb (ctB y))::vec 1 (.slice ra rn rc) (tq.map hdZ)::all (boxC tq)::all (tq.map rowZ)::fro lb 0 [.slice (some ⟨la,0,none⟩) rn rn]::arr la 0 (zeros rn [.int .i64 0])::L2) h:=st
  have s2:Star (fro lb 0 [.slice (some ⟨la,0,none⟩) rn rn]::all (boxC tq)::arr la 0 (zeros rn [.int .i64 0])::vec 1 (.slice (some ⟨ib,io,none⟩) (l.length+3) cc) (insC l)::arr wb 0 [.slice t1 p.tr.length c3,.slice t2 cut.length c4]::vec 3 (.slice t1 p.tr.length c3) (trCP p.tr)::vec 1 (.slice t2 cut.length c4) (cutC cut)::vec 1 (.slice va rn vc) (tq.map fun y=>ctF lb (ctB y))::L2) h:=Ent.star (.take (.there (.there (.there (.there (.there (.there (.there (.there (.there .here))))))))) (.take (.there (.there (.there (.there (.there (.there (.there .here))))))) (.take (.there (.there (.there (.there (.there (.there (.there (.there .here)))))))) (.take .here (.take .here (.take .here (.take .here (.drop (.take .here (.drop (.drop .refl))))))))))) s1
  exact star_shut (M:=[]) (dealC htl s2)
 refine wo_call (.cons rfl (.cons rfl .nil)) trivial (playsR_tr (order:=l) (ts:=ctTs lb la rn tq) (s0:=show (ctG (ctMq lb la rn tq)).σ from ()) (fun p=>CtI (msZ tq) p.qs p.tr) (fun _ _=>trivial) (ct_i0 ctTs_ini).1 (fun p k h=>ct_step p k h) (fun _ _ _=>trivial)
  (ctTs_ok htl (by omega) (fun y hy=>by have:=htm y hy;omega)) (by rw [ctTs_len];omega) (by rw [ctTs_len];omega) (by omega) (by rw [ctTs_fv];exact rdso_vecT (.there (.there (.there (.there (.there .here))))) (by simp [htl]) hvz hvy) (insC_rds (.there .here))) ?_
 rintro v1 L5 x1 ⟨tvB,cvB,rfl,rfl,rfl⟩
 rw [hp,ctTs_len,htl,hcut]
 refine wo_pure (of_has .here (vec_shape (by omega))) ?_
 rintro ⟨t3,n3,c5,rfl,hn4,_,hz3,hy3⟩
 obtain rfl:n3=p.tr.length:=by rw [trCP_len] at hn4;omega
 refine wo_pure (of_has (.there .here) (vec_shape (by omega))) ?_
 rintro ⟨t4,n4,c6,rfl,hn5,_,hz4,hy4⟩
 obtain rfl:n4=cut.length:=by simp [cutC] at hn5;omega
 repeat (first | (apply wo_mo;apply mo_alloc;exact trivial) | refine wM ?_ | (apply wo_po;apply mo_extract;exact rfl;exact rfl;exact gY))
 rintro v' L' ⟨pb,rfl,rfl⟩
 repeat (first | (apply wo_pm;apply mo_storeA (c:=0) (k:=0) (a:=0) (vs:=[.slice none 0 0,.slice none 0 0]);exact rfl;exact rfl;exact rfl;(intro w hw;simp [Value.cells] at hw;rcases hw with rfl | rfl <;> rfl);exact rfl;exact Nat.le_refl 2;exact .here;exact trivial) | refine wneqF ?_ | refine we_seq ?_ | (refine wR ?_;try simp only [oS]) | refine wo_nil ?_ | refine wM ?_ | refine wA ?_)
 have z1:Rds (arr pb 0 [.slice t3 p.tr.length c5,.slice t4 cut.length c6]::vec 3 (.slice t3 p.tr.length c5) (trCP p.tr)::vec 1 (.slice t4 cut.length c6) (cutC cut)::(ctG (ctMq lb la rn tq)).U p.s::all (p.qs.map (ctG (ctMq lb la rn tq)).Fin)::fro lb 0 [.slice (some ⟨la,0,none⟩) rn rn]::vec 1 (.slice (some ⟨ib,io,none⟩) (l.length+3) cc) (insC l)::arr wb 0 [.slice t1 p.tr.length c3,.slice t2 cut.length c4]::vec 3 (.slice t1 p.tr.length c3) (trCP p.tr)::vec 1 (.slice t2 cut.length c4) (cutC cut)::vec 1 (.slice va rn vc) (tq.map fun y=>ctF lb (ctB y))::L2) pb 0 [.slice t3 p.tr.length c5,.slice t4 cut.length c6]:=Rds.all .here
 have z2:Rds (arr pb 0 [.slice t3 p.tr.length c5,.slice t4 cut.length c6]::vec 3 (.slice t3 p.tr.length c5) (trCP p.tr)::vec 1 (.slice t4 cut.length c6) (cutC cut)::(ctG (ctMq lb la rn tq)).U p.s::all (p.qs.map (ctG (ctMq lb la rn tq)).Fin)::fro lb 0 [.slice (some ⟨la,0,none⟩) rn rn]::vec 1 (.slice (some ⟨ib,io,none⟩) (l.length+3) cc) (insC l)::arr wb 0 [.slice t1 p.tr.length c3,.slice t2 cut.length c4]::vec 3 (.slice t1 p.tr.length c3) (trCP p.tr)::vec 1 (.slice t2 cut.length c4) (cutC cut)::vec 1 (.slice va rn vc) (tq.map fun y=>ctF lb (ctB y))::L2) wb 0 [.slice t1 p.tr.length c3,.slice t2 cut.length c4]:=fun i v hi=>.there (.there (.there (.there (.there (.there (.there (Rds.all .here i v hi)))))))
 refine wo_star (arr pb 0 [.slice t3 p.tr.length c5,.slice t4 cut.length c6]::vec 3 (.slice t3 p.tr.length c5) (trCP p.tr)::vec 1 (.slice t4 cut.length c6) (cutC cut)::(ctG (ctMq lb la rn tq)).U p.s::all (p.qs.map (ctG (ctMq lb la rn tq)).Fin)::fro lb 0 [.slice (some ⟨la,0,none⟩) rn rn]::vec 1 (.slice (some ⟨ib,io,none⟩) (l.length+3) cc) (insC l)::arr wb 0 [.slice t1 p.tr.length c3,.slice t2 cut.length c4]::vec 3 (.slice t1 p.tr.length c3) (trCP p.tr)::vec 1 (.slice t2 cut.length c4) (cutC cut)::vec 1 (.slice va rn vc) (tq.map fun y=>ctF lb (ctB y))::L2) (fun h st=>st) ?_
 repeat (first | (apply wo_po;apply mo_loadA (vs:=[.slice t3 p.tr.length c5,.slice t4 cut.length c6]);exact rfl;exact rfl;exact z1;exact gY) | (apply wo_po;apply mo_loadA (vs:=[.slice t1 p.tr.length c3,.slice t2 cut.length c4]);exact rfl;exact rfl;exact z2;exact gY))
 refine wo_call (.cons rfl (.cons rfl .nil)) rfl (same_played_tr (tr:=p.tr) (cut:=cut) (rdtr_vecT (.there .here) rfl hz3 hy3) (rdtr_vecT (.there (.there (.there (.there (.there (.there (.there (.there .here)))))))) rfl hz1 hy1) (rdi_vecT (.there (.there .here)) rfl hz4 hy4) (rdi_vecT (.there (.there (.there (.there (.there (.there (.there (.there (.there .here))))))))) rfl hz2 hy2) (by omega) (by omega)) ?_
 rintro v1 L9 x1 ⟨rfl,rfl,rfl⟩
 repeat (first | refine we_seq ?_ | (refine wR ?_;try simp only [oS]) | refine wo_nil ?_ | refine wA ?_ | refine wJ ?_ | (apply wo_po;apply mo_not;exact rfl;exact gY) | refine wF ?_ | refine we_skip ?_ | refine we_block ?_)
 let LF:List HProp:=arr wb 0 [.slice t1 p.tr.length c3,.slice t2 cut.length c4]::vec 1 (.slice t2 cut.length c4) (cutC cut)::all (p.qs.map (ctG (ctMq lb la rn tq)).Fin)::fro lb 0 [.slice (some ⟨la,0,none⟩) rn rn]::L2
 refine we_star LF (fun h st=>Ent.star (.take (.there (.there (.there (.there (.there (.there (.there .here))))))) (.take (.there (.there (.there (.there (.there (.there (.there (.there .here)))))))) (.take (.there (.there (.there (.there .here)))) (.take (.there (.there (.there (.there .here)))) (.drop (.drop (.drop (.drop (.drop (.drop (.drop .refl))))))))))) st) ?_
 refine we_loopN (tkInv rn lb wb LF) (fun i=>rn-i) 0 (Nat.zero_le _) ⟨rfl,rfl,rfl,rfl,trivial⟩ .refl rfl ?_
 intro k hk
 replace hk:k≤rn:=hk
 simp only [tkInv]
 by_cases hlt:k<rn
 ·have hinck:IntKind.i64.wrap (((k:Nat):Int)+1)=((k+1:Nat):Int):=(wrap_i64 (by omega) (by omega)).trans (by omega)
  repeat (first | refine wlssT ?_ | refine we_seq ?_ | (refine wR ?_;try simp only [oS]) | refine wo_nil ?_ | refine wM ?_ | refine wA ?_ | refine wT ?_ | refine we_skip ?_ | refine we_block ?_)
  refine we_loopN (tlInv rn lb wb k cut LF) (fun i=>cut.length-i) 0 (Nat.zero_le _) ⟨rfl,rfl,rfl,rfl,rfl,rfl,trivial⟩ .refl rfl ?_
  intro i hi
  replace hi:i≤cut.length:=hi
  simp only [tlInv]
  have hinc:IntKind.i64.wrap (((i:Nat):Int)+1)=((i+1:Nat):Int):=(wrap_i64 (by omega) (by omega)).trans (by omega)
  have w6:Rd LF wb (0+1) (.slice t2 cut.length c4):=Rd.row (k:=1) rfl rfl
  by_cases hlt2:i<cut.length
  ·obtain ⟨d,hd⟩:∃ d,cut[i]?=some d:=⟨cut[i],List.getElem?_eq_getElem hlt2⟩
   obtain ⟨cb,co,rfl⟩:∃ b o,t2=some ⟨b,o,none⟩:=by
    cases t2 with
    | none=>have:=hz2 rfl;omega
    | some y=>exact ⟨y.block,y.off,by rw [hy2 y rfl]⟩
   have w7:Rd LF cb (co+i) (.int .i64 (d:Nat)):=rd_vec (cs:=cutC cut) (L:=LF) (.there .here) (by unfold cutC;rw [List.getElem?_map,hd];rfl)
   have htk:cut.take (i+1)=cut.take i++[d]:=by rw [List.take_add_one,hd];rfl
   by_cases hdk:d=k
   ·subst hdk
    repeat (first | (apply wo_po;apply mo_load;exact rfl;(first | exact w6 | exact w7);exact trivial) | (apply wo_po;apply mo_index1;exact rfl;exact rfl;omega;exact trivial) | (apply wo_po;apply mo_bin;exact rfl;exact rfl;apply bin_add;exact hinc;exact trivial) | refine wlssT ?_ | refine weqlT ?_ | refine we_seq ?_ | (refine wR ?_;try simp only [oS]) | refine wo_nil ?_ | refine wM ?_ | refine wA ?_ | refine wD ?_ | refine wE ?_ | refine wT ?_ | refine we_skip ?_ | refine we_block ?_)
    refine at_round (B:=mT) (I:=tlInv rn lb wb d cut LF) (R:=fun j=>cut.length-j<cut.length-i) (i+1) (by omega) (show i+1≤cut.length by omega) ?_ .refl rfl
    rw [show (tlInv rn lb wb d cut LF).e (i+1)=[(5,.int .i64 (rn:Nat)),(8,.pointer (some ⟨lb,0,none⟩)),(12,.pointer (some ⟨wb,0,none⟩)),(15,.int .i64 (d:Nat)),(16,.int .i64 1),(17,.int .i64 ((i+1:Nat):Int))] by simp only [tlInv];rw [htk,if_pos (by simp)]]
    exact ⟨rfl,rfl,rfl,rfl,rfl,rfl,trivial⟩
   ·have hdk2:¬ ((d:Nat):Int)=((k:Nat):Int):=by omega
    repeat (first | (apply wo_po;apply mo_load;exact rfl;(first | exact w6 | exact w7);exact trivial) | (apply wo_po;apply mo_index1;exact rfl;exact rfl;omega;exact trivial) | (apply wo_po;apply mo_bin;exact rfl;exact rfl;apply bin_add;exact hinc;exact trivial) | refine wlssT ?_ | refine weqlF ?_ | refine we_seq ?_ | (refine wR ?_;try simp only [oS]) | refine wo_nil ?_ | refine wM ?_ | refine wA ?_ | refine wD ?_ | refine wE ?_ | refine wT ?_ | refine wF ?_ | refine we_skip ?_ | refine we_block ?_)
    refine at_round (B:=mT) (I:=tlInv rn lb wb k cut LF) (R:=fun j=>cut.length-j<cut.length-i) (i+1) (by omega) (show i+1≤cut.length by omega) ?_ .refl rfl
    rw [show (tlInv rn lb wb k cut LF).e (i+1)=[(5,.int .i64 (rn:Nat)),(8,.pointer (some ⟨lb,0,none⟩)),(12,.pointer (some ⟨wb,0,none⟩)),(15,.int .i64 (k:Nat)),(16,.int .i64 (if k∈cut.take i then 1 else 11)),(17,.int .i64 ((i+1:Nat):Int))] by simp only [tlInv];rw [htk];simp [Ne.symm hdk]]
    exact ⟨rfl,rfl,rfl,rfl,rfl,rfl,trivial⟩
  ·obtain rfl:i=cut.length:=by omega
   rw [List.take_length]
   have w8:=ct_left (tq:=tq) (lb:=lb) (la:=la) (n:=rn) (qs:=p.qs) (tr:=p.tr) (ms:=msZ tq) (k:=k) (L':=LF) htl hI rfl hlt (.there (.there .here))
   rw [hcut] at w8
   have w9:Rd LF lb 0 (.slice (some ⟨la,0,none⟩) rn rn):=.there (.there (.there (Rd.fro (k:=0) rfl rfl)))
   obtain ⟨v,hv⟩:∃ v:Int,(if k∈cut then 1 else 11)=v:=⟨_,rfl⟩
   rw [hv] at w8 ⊢
   repeat (first | (apply wo_po;apply mo_load;exact rfl;(first | exact w6 | exact w8 | exact w9);exact trivial) | (apply wo_po;apply mo_index1;exact rfl;exact rfl;omega;exact trivial) | (apply wo_po;apply mo_bin;exact rfl;exact rfl;apply bin_add;exact hinck;exact trivial) | refine wlssF ?_ | refine wneqF ?_ | refine we_seq ?_ | (refine wR ?_;try simp only [oS]) | refine wo_nil ?_ | refine wM ?_ | refine wA ?_ | refine wD ?_ | refine wE ?_ | refine wF ?_ | refine we_skip ?_ | refine we_exit ?_)
   exact at_round (B:=mT) (I:=tkInv rn lb wb LF) (R:=fun j=>rn-j<rn-k) (k+1) (by omega) (show k+1≤rn by omega) ⟨rfl,rfl,rfl,rfl,trivial⟩ .refl rfl
 ·obtain rfl:k=rn:=by omega
  repeat (first | refine wlssF ?_ | refine we_seq ?_ | (refine wR ?_;try simp only [oS]) | refine wo_nil ?_ | refine wM ?_ | refine wA ?_ | refine wF ?_ | refine we_ret ?_ | refine we_exit ?_)
  (first | refine or1 Try.func4 Try.results4 hQ rfl ?_ | refine on1 Try.func4 Try.results4 hQ rfl ?_)
  exact ⟨rfl,rfl⟩
end Go.Proofs.Ytabbkjciifnehaa
namespace Go.PB
open Go.Conc Go.Conc.Lib Go.ConcR.Gen
open Go.ConcR (KK stA smA rd wr mk DC0)
def WgAt (ty:TypeId) (wg:Nat) (w:World) (st sm:Int):Prop:=∃ f:Nat × Nat,w.heap[wg]?=some (.cells #[.int .u64 st,.int .u32 sm] ty f)∧w.frozen? ⟨wg,0,none⟩=false∧w.frozen? ⟨wg,1,none⟩=false
section
variable {ty:TypeId} {wg:Nat} {w w':World} {st sm:Int}
theorem WgAt.cellSt (h:WgAt ty wg w st sm):w.cell? (stA wg)=some (.int .u64 st):=by obtain ⟨f,h,_⟩:=h;simp [World.cell?,stA,h]
theorem WgAt.cellSm (h:WgAt ty wg w st sm):w.cell? (smA wg)=some (.int .u32 sm):=by obtain ⟨f,h,_⟩:=h;simp [World.cell?,smA,h]
theorem WgAt.thaw (h:WgAt ty wg w st sm) (n:Nat) (hn:n<2:=by decide):w.frozen? ⟨wg,n,none⟩=false:=by
 obtain ⟨f,_,h0,h1⟩:=h
 rcases n with _ | _ | n
 ·exact h0
 ·exact h1
 ·omega
theorem WgAt.unique {st' sm':Int} (h:WgAt ty wg w st sm) (h':WgAt ty wg w st' sm'):st=st'∧sm=sm':=by
 obtain ⟨f,h,_⟩:=h
 obtain ⟨f',h',_⟩:=h'
 rw [h] at h'
 simp at h'
 exact ⟨h'.1.1,h'.1.2⟩
theorem WgAt.setSt (h:WgAt ty wg w st sm) (v:Int):WgAt ty wg (w.setCell (stA wg) (.int .u64 v)) v sm:=by
 obtain ⟨f,h,h0,h1⟩:=h
 refine ⟨f,?_,by rw [frozen_setCell];exact h0,by rw [frozen_setCell];exact h1⟩
 simp [World.setCell,stA,Array.getElem?_modify,h]
theorem WgAt.setSm (h:WgAt ty wg w st sm) (v:Int):WgAt ty wg (w.setCell (smA wg) (.int .u32 v)) st v:=by
 obtain ⟨f,h,h0,h1⟩:=h
 refine ⟨f,?_,by rw [frozen_setCell];exact h0,by rw [frozen_setCell];exact h1⟩
 simp [World.setCell,smA,Array.getElem?_modify,h]
theorem WgAt.of_heap (h:WgAt ty wg w st sm) (e:w'.heap[wg]?=w.heap[wg]?):WgAt ty wg w' st sm:=by
 obtain ⟨f,h,h0,h1⟩:=h
 have hf:∀ o,w'.frozen? ⟨wg,o,none⟩=w.frozen? ⟨wg,o,none⟩:=fun o=>by unfold World.frozen?;rw [e]
 exact ⟨f,e.trans h,(hf 0).trans h0,(hf 1).trans h1⟩
def WgLive (ty:TypeId) (Wg:Nat) (w:World):Prop:=∃ st sm,WgAt ty Wg w st sm
end
def RL (ty:TypeId) (Wg:Nat) (w w₁:World):Prop:=WgLive ty Wg w→WgLive ty Wg w₁
theorem live_cell {ty:TypeId} {Wg:Nat} {w:World} (h:WgLive ty Wg w):∃ v,w.cell? ⟨Wg,0,none⟩=some v:=let ⟨_,_,x⟩:=h;⟨_,WgAt.cellSt x⟩
section
variable (P:Program) (ty:TypeId) (Wg:Nat)
def Zg (Stop:Goroutine→World→Prop) (m:Nat) (g:Goroutine) (w:World):Prop:=Goes P false (RL ty Wg) DC0 Stop m g w
def Z4 (g:Goroutine) (w:World):Prop :=
 g.status=.running∧mayWake P g=true∧(WgAt ty Wg w 0 0→∃ g' q,stepG P false g w=.go g' (w.setCell (smA Wg) (.int .u32 1)) (semEvents (smA Wg))∧QuitsD P q 1 g')
def Z3 (g:Goroutine) (w:World):Prop :=
 g.status=.running∧(WgAt ty Wg w 1 0→∃ g' m,stepG P false g w=.go g' (w.setCell (stA Wg) (.int .u64 0)) #[wr (stA Wg)]∧Zg P ty Wg (Z4 P ty Wg) m g' (w.setCell (stA Wg) (.int .u64 0)))
def Z2 (g:Goroutine) (w:World):Prop :=
 g.status=.running∧(WgAt ty Wg w 1 0→∃ g' m,stepG P false g w=.go g' w #[rd (stA Wg)]∧Zg P ty Wg (Z3 P ty Wg) m g' w)
def Z1 (g:Goroutine) (w:World):Prop :=
 g.status=.running∧∀ v wt:Nat,wt≤1→v<2147483647→WgAt ty Wg w ((v+1)*KK+wt) 0 →
  ∃ g',stepG P false g w=.go g' (w.setCell (stA Wg) (.int .u64 (v*KK+wt))) #[rd (stA Wg),wr (stA Wg)] ∧
   ((v=0∧wt=1)→∃ m,Zg P ty Wg (Z2 P ty Wg) m g' (w.setCell (stA Wg) (.int .u64 (v*KK+wt))))∧(¬ (v=0∧wt=1)→∃ q,QuitsD P q 1 g')
def ZK (g:Goroutine) (w:World):Prop :=
 g.status=.running∧∃ g' m,stepG P false g w=.go g' w #[mk .disable]∧Zg P ty Wg (Z1 P ty Wg) m g' w
def ZR (g:Goroutine) (w:World):Prop :=
 g.status=.running∧∃ g' m,stepG P false g w=.go g' w #[mk (.releaseMerge (stA Wg))]∧Zg P ty Wg (ZK P ty Wg) m g' w
end
end Go.PB
namespace Go.PB
open Go.Conc Go.Conc.Lib Go.ConcR.Gen
open Go.ConcR (KK stA smA rd wr mk DC0)
theorem quits_more {P:Program}:∀ {n d:Nat} {g:Goroutine},QuitsD P n d g→QuitsD P (n+1) d g
 | 0,_,_,h=>.inl h
 | _+1,_,_,h=>h.imp id fun ⟨hs,g',es,hm,hst,hq⟩=>⟨hs,g',es,hm,hst,quits_more hq⟩
theorem quits_mono {P:Program} {n n' d:Nat} {g:Goroutine} (h:QuitsD P n d g) (hn:n≤n'):QuitsD P n' d g:=by
 induction hn with
 | refl=>exact h
 | step _ ih=>exact quits_more ih
set_option maxRecDepth 100000 in
set_option maxHeartbeats 8000000 in
theorem add_goes [Go.ConcR.Payload] {P:Program} {L:WgLink} (H:WgLib P L) {Wg:Nat} {b₀:Frame} {a₀:Act} {ops₀:Array Oper} {i₀:Nat} {rest₀:List Nat} {k₀:List Item} {cs:List Frame} {qt:Nat}
  (hT:QuitsD P qt 0 (G (b₀.at (a₀.put ((ops₀[i₀]?).bind (·.dst)) (.tuple #[])) (.inRegion ops₀ rest₀::k₀)) cs)) (w:World) (hK:WgLive L.tWg Wg w) :
  Zg P L.tWg Wg (ZR P L.tWg Wg) 20 (G ((Go.Conc.base L.add).at ⟨#[.pointer (some ⟨Wg,0,none⟩),.int .i64 (-1)]++Array.replicate 115 undef,[]⟩ [.code (body_add L)]) (b₀.at a₀ (.inRegion ops₀ (i₀::rest₀)::k₀)::cs)) w:=by
 lib_facts
 simp only [body_add,addFn,Option.getD_some,Array.replicate_succ,Array.replicate_zero]
 unfold Zg
 have key:∀ {w w₁:World},WgLive L.tWg Wg w→RL L.tWg Wg w w₁→WgLive L.tWg Wg w₁:=fun h r=>r h
 walk_nrm
 repeat (first | u_c stepG_seq key hK | u_c stepG_region_end key hK | u_c stepG_skip key hK | u_reg key hK | u_skip key hK | u_op key hK | u_cond true key hK | u_cond false key hK | u_c stepG_ret' key hK | u_c stepG_block key hK | u_c stepG_loop key hK | u_c stepG_end key hK | u_defer key hK | u_leave1 H.f_uAdd key hK | u_leave1 H.f_uLoad key hK | u_leave0 H.f_uStore key hK | u_call H.f_uAdd (nm_uAdd L) uAddFn key hK | u_call H.f_uLoad (nm_uLoad L) uLoadFn key hK | u_call H.f_uStore (nm_uStore L) uStoreFn key hK | u_bub key hK)
 u_conv H.underlying_tWgP H.room_tWg (live_cell hK).choose_spec key hK
 refine Goes.stop (fun w₁ h₁=>?_)
 replace hK:=key hK h₁
 clear h₁
 refine ⟨rfl,_,30,stepG_markAt .releaseMerge (by simp) rfl rfl (by k_ne) rfl H.f_relMerge (x_relMerge_n L) (x_relMerge_b L) (x_relMerge_x L) (x_relMerge_f L) (by simp [Act.eval,stA]),?_⟩
 unfold Zg
 walk_nrm
 repeat (first | u_c stepG_seq key hK | u_c stepG_region_end key hK | u_c stepG_skip key hK | u_reg key hK | u_skip key hK | u_op key hK | u_cond true key hK | u_cond false key hK | u_c stepG_ret' key hK | u_c stepG_block key hK | u_c stepG_loop key hK | u_c stepG_end key hK | u_defer key hK | u_leave1 H.f_uAdd key hK | u_leave1 H.f_uLoad key hK | u_leave0 H.f_uStore key hK | u_call H.f_uAdd (nm_uAdd L) uAddFn key hK | u_call H.f_uLoad (nm_uLoad L) uLoadFn key hK | u_call H.f_uStore (nm_uStore L) uStoreFn key hK | u_bub key hK)
 refine Goes.stop (fun w₁ h₁=>?_)
 replace hK:=key hK h₁
 clear h₁
 refine ⟨rfl,_,80,stepG_mark0 .disable (by simp) rfl rfl (by k_ne) rfl H.f_disable (x_disable_n L) (x_disable_b L) (x_disable_x L) (x_disable_f L),?_⟩
 unfold Zg
 walk_nrm
 repeat (first | u_c stepG_seq key hK | u_c stepG_region_end key hK | u_c stepG_skip key hK | u_reg key hK | u_skip key hK | u_op key hK | u_cond true key hK | u_cond false key hK | u_c stepG_ret' key hK | u_c stepG_block key hK | u_c stepG_loop key hK | u_c stepG_end key hK | u_defer key hK | u_leave1 H.f_uAdd key hK | u_leave1 H.f_uLoad key hK | u_leave0 H.f_uStore key hK | u_call H.f_uAdd (nm_uAdd L) uAddFn key hK | u_call H.f_uLoad (nm_uLoad L) uLoadFn key hK | u_call H.f_uStore (nm_uStore L) uStoreFn key hK | u_bub key hK)
 refine Goes.stop (fun w₁ h₁=>?_)
 clear h₁ hK
 refine ⟨rfl,fun v wt hwt hv hw=>?_⟩
 have e0:IntKind.u64.wrap (KK+18446744069414584320)=0:=by decide
 have e1:IntKind.u64.wrap (KK+1+18446744069414584320)=1:=by decide
 rcases Nat.eq_zero_or_pos v with rfl | hvp <;> (obtain rfl | rfl:wt=0∨wt=1:=by omega)
 ·-- nobody is left,nobody waits
  replace hw:WgAt L.tWg Wg w₁ KK 0:=by simpa using hw
  have z:((0:Nat):Int)*KK+((0:Nat):Int)=0:=by simp
  rw [z]
  refine ⟨_,(stepG_add_atomic rfl rfl (by k_ne) rfl H.f_addU64 (x_addU64_n L) (x_addU64_b L) (x_addU64_x L) .u64 (x_addU64_f L) rfl rfl (WgAt.cellSt hw) (WgAt.thaw hw 0)).trans (by rw [e0];rfl),fun hl=>absurd hl.2 (by decide),fun _=>⟨qt+200,?_⟩⟩
  clear hw
  walk_nrm
  q_val (.int .u64 0)
  q_c stepG_region_end
  q_c stepG_ret'
  q_leave1 H.f_uAdd
  q_val (.int .u64 0)
  q_c stepG_region_end
  q_c stepG_seq
  q_c stepG_seq
  q_reg
  q_val (.int .u64 0)
  q_val (.int .u64 0)
  q_val (.bool false)
  q_val (.bool false)
  q_skip
  q_skip
  q_val (.bool false)
  q_c stepG_region_end
  q_cond false
  q_c stepG_skip
  q_c stepG_seq
  q_reg
  q_val (.int .u64 0)
  q_val (.int .u64 0)
  q_val (.int .i32 0)
  q_val (.int .i32 0)
  q_c stepG_region_end
  q_c stepG_seq
  q_reg
  q_val (.int .u64 0)
  q_val (.int .u64 0)
  q_val (.int .u32 0)
  q_val (.int .u32 0)
  q_c stepG_region_end
  q_c stepG_seq
  q_c stepG_seq
  q_reg
  q_val (.bool true)
  q_val (.int .i64 (-1))
  q_val (.bool false)
  q_val (.bool false)
  q_val (.bool false)
  q_skip
  q_skip
  q_skip
  q_skip
  q_val (.bool false)
  q_c stepG_region_end
  q_cond false
  q_c stepG_skip
  q_c stepG_seq
  q_c stepG_seq
  q_reg
  q_val (.int .i32 0)
  q_val (.bool false)
  q_c stepG_region_end
  q_cond false
  q_c stepG_skip
  q_c stepG_seq
  q_c stepG_seq
  q_reg
  q_val (.int .u32 0)
  q_val (.bool false)
  q_val (.bool false)
  q_skip
  q_skip
  q_val (.bool false)
  q_val (.bool false)
  q_skip
  q_skip
  q_skip
  q_skip
  q_val (.bool false)
  q_c stepG_region_end
  q_cond false
  q_c stepG_skip
  q_c stepG_seq
  q_c stepG_seq
  q_reg
  q_val (.int .i32 0)
  q_val (.bool false)
  q_val (.bool false)
  q_val (.int .u32 0)
  q_val (.bool true)
  q_val (.bool true)
  q_c stepG_region_end
  q_cond true
  q_c stepG_ret'
  q_enable
  q_leave0 H.f_add
  exact quits_mono hT (by omega)
 ·-- nobody is left,the starter waits: the last one
  replace hw:WgAt L.tWg Wg w₁ (KK+1) 0:=by simpa using hw
  have z:((0:Nat):Int)*KK+((1:Nat):Int)=1:=by simp
  rw [z]
  refine ⟨_,(stepG_add_atomic rfl rfl (by k_ne) rfl H.f_addU64 (x_addU64_n L) (x_addU64_b L) (x_addU64_x L) .u64 (x_addU64_f L) rfl rfl (WgAt.cellSt hw) (WgAt.thaw hw 0)).trans (by rw [e1];rfl),fun _=>⟨150,?_⟩,fun hl=>absurd ⟨rfl,rfl⟩ hl⟩
  have hK:WgLive L.tWg Wg (w₁.setCell (stA Wg) (.int .u64 1)):=⟨_,_,WgAt.setSt hw 1⟩
  clear hw
  unfold Zg
  walk_nrm
  u_op key hK
  u_c stepG_region_end key hK
  u_c stepG_ret' key hK
  u_leave1 H.f_uAdd key hK
  u_op key hK
  u_c stepG_region_end key hK
  u_c stepG_seq key hK
  u_c stepG_seq key hK
  u_reg key hK
  u_op key hK
  u_op key hK
  u_op key hK
  u_op key hK
  u_skip key hK
  u_skip key hK
  u_op key hK
  u_c stepG_region_end key hK
  u_cond false key hK
  u_c stepG_skip key hK
  u_c stepG_seq key hK
  u_reg key hK
  u_op key hK
  u_op key hK
  u_op key hK
  u_op key hK
  u_c stepG_region_end key hK
  u_c stepG_seq key hK
  u_reg key hK
  u_op key hK
  u_op key hK
  u_op key hK
  u_op key hK
  u_c stepG_region_end key hK
  u_c stepG_seq key hK
  u_c stepG_seq key hK
  u_reg key hK
  u_op key hK
  u_op key hK
  u_op key hK
  u_op key hK
  u_op key hK
  u_skip key hK
  u_skip key hK
  u_skip key hK
  u_skip key hK
  u_op key hK
  u_c stepG_region_end key hK
  u_cond false key hK
  u_c stepG_skip key hK
  u_c stepG_seq key hK
  u_c stepG_seq key hK
  u_reg key hK
  u_op key hK
  u_op key hK
  u_c stepG_region_end key hK
  u_cond false key hK
  u_c stepG_skip key hK
  u_c stepG_seq key hK
  u_c stepG_seq key hK
  u_reg key hK
  u_op key hK
  u_op key hK
  u_op key hK
  u_op key hK
  u_op key hK
  u_op key hK
  u_op key hK
  u_skip key hK
  u_skip key hK
  u_skip key hK
  u_skip key hK
  u_op key hK
  u_c stepG_region_end key hK
  u_cond false key hK
  u_c stepG_skip key hK
  u_c stepG_seq key hK
  u_c stepG_seq key hK
  u_reg key hK
  u_op key hK
  u_op key hK
  u_op key hK
  u_op key hK
  u_op key hK
  u_op key hK
  u_c stepG_region_end key hK
  u_cond false key hK
  u_c stepG_skip key hK
  u_c stepG_seq key hK
  u_c stepG_seq key hK
  u_reg key hK
  u_op key hK
  u_op key hK
  u_op key hK
  u_call H.f_uLoad (nm_uLoad L) uLoadFn key hK
  u_c stepG_seq key hK
  u_reg key hK
  u_op key hK
  u_c stepG_region_end key hK
  u_c stepG_seq key hK
  u_reg key hK
  u_op key hK
  u_op key hK
  u_op key hK
  refine Goes.stop (fun w₂ h₂=>?_)
  clear h₂ hK
  refine ⟨rfl,fun hw=>⟨_,60,stepG_load_atomic rfl rfl (by k_ne) rfl H.f_loadU64 (x_loadU64_n L) (x_loadU64_b L) (x_loadU64_x L) .u64 (x_loadU64_f L) rfl (WgAt.cellSt hw),?_⟩⟩
  have hK:WgLive L.tWg Wg w₂:=⟨_,_,hw⟩
  clear hw
  unfold Zg
  walk_nrm
  u_op key hK
  u_c stepG_region_end key hK
  u_c stepG_ret' key hK
  u_leave1 H.f_uLoad key hK
  u_op key hK
  u_op key hK
  u_c stepG_region_end key hK
  u_cond false key hK
  u_c stepG_skip key hK
  u_c stepG_seq key hK
  u_reg key hK
  u_op key hK
  u_op key hK
  u_op key hK
  u_call H.f_uStore (nm_uStore L) uStoreFn key hK
  u_reg key hK
  u_op key hK
  u_op key hK
  u_op key hK
  u_op key hK
  refine Goes.stop (fun w₃ h₃=>?_)
  clear h₃ hK
  refine ⟨rfl,fun hw=>⟨_,60,stepG_store_atomic rfl rfl (by k_ne) rfl H.f_storeU64 (x_storeU64_n L) (x_storeU64_b L) (x_storeU64_x L) (x_storeU64_f L) rfl rfl (WgAt.cellSt hw) (WgAt.thaw hw 0),?_⟩⟩
  have hK:WgLive L.tWg Wg (w₃.setCell (stA Wg) (.int .u64 0)):=⟨_,_,WgAt.setSt hw 0⟩
  clear hw
  unfold Zg
  walk_nrm
  u_c stepG_region_end key hK
  u_c stepG_end key hK
  u_leave0 H.f_uStore key hK
  u_c stepG_region_end key hK
  u_c stepG_seq key hK
  u_c stepG_seq key hK
  u_reg key hK
  u_op key hK
  u_c stepG_region_end key hK
  u_cond false key hK
  u_c stepG_skip key hK
  u_c stepG_block key hK
  u_c stepG_loop key hK
  u_c stepG_seq key hK
  u_c stepG_seq key hK
  u_reg key hK
  u_op key hK
  u_op key hK
  u_c stepG_region_end key hK
  u_cond true key hK
  u_c stepG_skip key hK
  u_c stepG_seq key hK
  u_c stepG_block key hK
  u_reg key hK
  u_op key hK
  u_op key hK
  u_op key hK
  refine Goes.stop (fun w₄ h₄=>?_)
  clear h₄ hK
  refine ⟨rfl,mayWake_entry rfl rfl H.f_semrelease (x_semrelease_b L),fun hw=>⟨_,qt+40,(stepG_semrelease rfl rfl (by k_ne) rfl H.f_semrelease (x_semrelease_n L) (x_semrelease_b L) (x_semrelease_x L) (x_semrelease_f L) (by simp [Act.eval,smA]) (WgAt.cellSm hw) (WgAt.thaw hw 1)).trans (by rfl),?_⟩⟩
  clear hw
  walk_nrm
  q_c stepG_region_end
  q_c stepG_inBlock
  q_reg
  q_val (.int .u32 1)
  q_val (.int .u32 0)
  q_val (.int .u32 0)
  q_c stepG_region_end
  q_c stepG_inLoop
  q_c stepG_seq
  q_c stepG_seq
  q_reg
  q_val (.int .u32 0)
  q_val (.bool false)
  q_c stepG_region_end
  q_cond false
  q_exit
  q_c stepG_end
  q_enable
  q_leave0 H.f_add
  exact quits_mono hT (by omega)
 ·-- some are left,nobody waits
  replace hw:WgAt L.tWg Wg w₁ (((v:Nat)+1)*KK+0) 0:=by simpa using hw
  have z:((v:Nat):Int)*KK+((0:Nat):Int)=(v:Int)*KK+0:=by simp
  rw [z]
  have eS:IntKind.u64.wrap (((v:Nat)+1)*KK+0+18446744069414584320)=(v:Int)*KK+0:=by rw [IntKind.wrap_u64];simp only [KK];omega
  obtain ⟨S,hS⟩:∃ S:Int,S=(v:Int)*KK+0:=⟨_,rfl⟩
  rw [← hS] at eS ⊢
  have a1:S/4294967296=(v:Int):=by rw [hS];simp only [KK];omega
  have a2:0≤S∧S<9223372036854775808:=by rw [hS];simp only [KK];omega
  have b1:bits .and .u64 S 2147483648=0:=by rw [hS];have:=Go.ConcN.st_flag v 0 (by omega) (by omega);simpa [KK] using this
  have b2:bits .and .u64 S 2147483647=0:=by rw [hS];have:=Go.ConcN.st_waiters v 0 (by omega) (by omega);simpa [KK] using this
  clear hS z
  refine ⟨_,(stepG_add_atomic rfl rfl (by k_ne) rfl H.f_addU64 (x_addU64_n L) (x_addU64_b L) (x_addU64_x L) .u64 (x_addU64_f L) rfl rfl (WgAt.cellSt hw) (WgAt.thaw hw 0)).trans (by rw [eS];rfl),fun hl=>absurd hl.1 (by omega),fun _=>⟨qt+150,?_⟩⟩
  clear hw
  walk_nrm
  q_vn (.int .u64 S)
  q_c stepG_region_end
  q_c stepG_ret'
  q_leave1 H.f_uAdd
  q_vn (.int .u64 S)
  q_c stepG_region_end
  q_c stepG_seq
  q_c stepG_seq
  q_reg
  q_vn (.int .u64 S)
  q_vn (.int .u64 0)
  q_vn (.bool false)
  q_vn (.bool false)
  q_skip
  q_skip
  q_vn (.bool false)
  q_c stepG_region_end
  q_cond false
  q_c stepG_skip
  q_c stepG_seq
  q_reg
  q_vn (.int .u64 S)
  q_vn (.int .u64 (v:Int))
  q_vn (.int .i32 (v:Int))
  q_vn (.int .i32 (v:Int))
  q_c stepG_region_end
  q_c stepG_seq
  q_reg
  q_vn (.int .u64 S)
  q_vn (.int .u64 0)
  q_vn (.int .u32 0)
  q_vn (.int .u32 0)
  q_c stepG_region_end
  q_c stepG_seq
  q_c stepG_seq
  q_reg
  q_vn (.bool true)
  q_vn (.int .i64 (-1))
  q_vn (.bool false)
  q_vn (.bool false)
  q_vn (.bool false)
  q_skip
  q_skip
  q_skip
  q_skip
  q_vn (.bool false)
  q_c stepG_region_end
  q_cond false
  q_c stepG_skip
  q_c stepG_seq
  q_c stepG_seq
  q_reg
  q_vn (.int .i32 (v:Int))
  q_vn (.bool false)
  q_c stepG_region_end
  q_cond false
  q_c stepG_skip
  q_c stepG_seq
  q_c stepG_seq
  q_reg
  q_vn (.int .u32 0)
  q_vn (.bool false)
  q_vn (.bool false)
  q_skip
  q_skip
  q_vn (.bool false)
  q_vn (.bool false)
  q_skip
  q_skip
  q_skip
  q_skip
  q_vn (.bool false)
  q_c stepG_region_end
  q_cond false
  q_c stepG_skip
  q_c stepG_seq
  q_c stepG_seq
  q_reg
  q_vn (.int .i32 (v:Int))
  q_vn (.bool true)
  q_vn (.bool true)
  q_skip
  q_skip
  q_vn (.bool true)
  q_c stepG_region_end
  q_cond true
  q_c stepG_ret'
  q_enable
  q_leave0 H.f_add
  exact quits_mono hT (by omega)
 ·-- some are left,the starter waits
  replace hw:WgAt L.tWg Wg w₁ (((v:Nat)+1)*KK+1) 0:=by simpa using hw
  have z:((v:Nat):Int)*KK+((1:Nat):Int)=(v:Int)*KK+1:=by simp
  rw [z]
  have eS:IntKind.u64.wrap (((v:Nat)+1)*KK+1+18446744069414584320)=(v:Int)*KK+1:=by rw [IntKind.wrap_u64];simp only [KK];omega
  obtain ⟨S,hS⟩:∃ S:Int,S=(v:Int)*KK+1:=⟨_,rfl⟩
  rw [← hS] at eS ⊢
  have a1:S/4294967296=(v:Int):=by rw [hS];simp only [KK];omega
  have a2:0≤S∧S<9223372036854775808:=by rw [hS];simp only [KK];omega
  have b1:bits .and .u64 S 2147483648=0:=by rw [hS];have:=Go.ConcN.st_flag v 1 (by omega) (by omega);simpa [KK] using this
  have b2:bits .and .u64 S 2147483647=1:=by rw [hS];have:=Go.ConcN.st_waiters v 1 (by omega) (by omega);simpa [KK] using this
  clear hS z
  refine ⟨_,(stepG_add_atomic rfl rfl (by k_ne) rfl H.f_addU64 (x_addU64_n L) (x_addU64_b L) (x_addU64_x L) .u64 (x_addU64_f L) rfl rfl (WgAt.cellSt hw) (WgAt.thaw hw 0)).trans (by rw [eS];rfl),fun hl=>absurd hl.1 (by omega),fun _=>⟨qt+150,?_⟩⟩
  clear hw
  walk_nrm
  q_vn (.int .u64 S)
  q_c stepG_region_end
  q_c stepG_ret'
  q_leave1 H.f_uAdd
  q_vn (.int .u64 S)
  q_c stepG_region_end
  q_c stepG_seq
  q_c stepG_seq
  q_reg
  q_vn (.int .u64 S)
  q_vn (.int .u64 0)
  q_vn (.bool false)
  q_vn (.bool false)
  q_skip
  q_skip
  q_vn (.bool false)
  q_c stepG_region_end
  q_cond false
  q_c stepG_skip
  q_c stepG_seq
  q_reg
  q_vn (.int .u64 S)
  q_vn (.int .u64 (v:Int))
  q_vn (.int .i32 (v:Int))
  q_vn (.int .i32 (v:Int))
  q_c stepG_region_end
  q_c stepG_seq
  q_reg
  q_vn (.int .u64 S)
  q_vn (.int .u64 1)
  q_vn (.int .u32 1)
  q_vn (.int .u32 1)
  q_c stepG_region_end
  q_c stepG_seq
  q_c stepG_seq
  q_reg
  q_vn (.bool true)
  q_vn (.int .i64 (-1))
  q_vn (.bool false)
  q_vn (.bool false)
  q_vn (.bool false)
  q_skip
  q_skip
  q_skip
  q_skip
  q_vn (.bool false)
  q_c stepG_region_end
  q_cond false
  q_c stepG_skip
  q_c stepG_seq
  q_c stepG_seq
  q_reg
  q_vn (.int .i32 (v:Int))
  q_vn (.bool false)
  q_c stepG_region_end
  q_cond false
  q_c stepG_skip
  q_c stepG_seq
  q_c stepG_seq
  q_reg
  q_vn (.int .u32 1)
  q_vn (.bool true)
  q_vn (.bool true)
  q_vn (.int .i64 (-1))
  q_vn (.bool false)
  q_vn (.bool false)
  q_vn (.bool false)
  q_skip
  q_skip
  q_skip
  q_skip
  q_vn (.bool false)
  q_c stepG_region_end
  q_cond false
  q_c stepG_skip
  q_c stepG_seq
  q_c stepG_seq
  q_reg
  q_vn (.int .i32 (v:Int))
  q_vn (.bool true)
  q_vn (.bool true)
  q_skip
  q_skip
  q_vn (.bool true)
  q_c stepG_region_end
  q_cond true
  q_c stepG_ret'
  q_enable
  q_leave0 H.f_add
  exact quits_mono hT (by omega)
end Go.PB
namespace Go.PB
open Go.Conc Go.Conc.Lib Go.ConcR.Gen
open Go.ConcR (KK stA smA rd wr mk DC0)
set_option maxRecDepth 100000 in
theorem add_goes2 [Go.ConcR.Payload] {P:Program} {L:WgLink} (H:WgLib P L) {Wg:Nat} {b₀:Frame} {a₀:Act} {ops₀:Array Oper} {i₀:Nat} {rest₀:List Nat} {k₀:List Item} {cs:List Frame} {qt:Nat}
  (hT:QuitsD P qt 0 (G (b₀.at (a₀.put ((ops₀[i₀]?).bind (·.dst)) (.tuple #[])) (.inRegion ops₀ rest₀::k₀)) cs)) (w:World) (hK:WgLive L.tWg Wg w) :
  Zg P L.tWg Wg (ZR P L.tWg Wg) 20 (G ((Go.Conc.base L.add).at ⟨#[.pointer (some ⟨Wg,0,none⟩),.int .i64 (-1),undef,undef,undef,undef,undef,undef,undef,undef,undef,undef,undef,undef,undef,undef,undef,undef,undef,undef,undef,undef,undef,undef,undef,undef,undef,undef,undef,undef,undef,undef,undef,undef,undef,undef,undef,undef,undef,undef,undef,undef,undef,undef,undef,undef,undef,undef,undef,undef,undef,undef,undef,undef,undef,undef,undef,undef,undef,undef,undef,undef,undef,undef,undef,undef,undef,undef,undef,undef,undef,undef,undef,undef,undef,undef,undef,undef,undef,undef,undef,undef,undef,undef,undef,undef,undef,undef,undef,undef,undef,undef,undef,undef,undef,undef,undef,undef,undef,undef,undef,undef,undef,undef,undef,undef,undef,undef,undef,undef,undef,undef,undef,undef,undef,undef,undef],[]⟩ [.code (body_add L)]) (b₀.at a₀ (.inRegion ops₀ (i₀::rest₀)::k₀)::cs)) w:=by
 have e:(#[.pointer (some ⟨Wg,0,none⟩),.int .i64 (-1),undef,undef,undef,undef,undef,undef,undef,undef,undef,undef,undef,undef,undef,undef,undef,undef,undef,undef,undef,undef,undef,undef,undef,undef,undef,undef,undef,undef,undef,undef,undef,undef,undef,undef,undef,undef,undef,undef,undef,undef,undef,undef,undef,undef,undef,undef,undef,undef,undef,undef,undef,undef,undef,undef,undef,undef,undef,undef,undef,undef,undef,undef,undef,undef,undef,undef,undef,undef,undef,undef,undef,undef,undef,undef,undef,undef,undef,undef,undef,undef,undef,undef,undef,undef,undef,undef,undef,undef,undef,undef,undef,undef,undef,undef,undef,undef,undef,undef,undef,undef,undef,undef,undef,undef,undef,undef,undef,undef,undef,undef,undef,undef,undef,undef,undef]:Array Value)=#[.pointer (some ⟨Wg,0,none⟩),.int .i64 (-1)]++Array.replicate 115 undef:=by kernel_rfl
 rw [e]
 exact add_goes H hT w hK
set_option maxHeartbeats 8000000 in
set_option maxRecDepth 100000 in
theorem done_goes [Go.ConcR.Payload] {P:Program} {L:WgLink} (H:WgLib P L) {Wg:Nat} {c:Frame} {cs:List Frame} {qt:Nat} (hcm:c.mode=.returning) (hT:QuitsD P qt 0 (G c cs)) (w:World) (hK:WgLive L.tWg Wg w) :
  Zg P L.tWg Wg (ZR P L.tWg Wg) 23 (G ((baseD L.done).at ⟨#[.pointer (some ⟨Wg,0,none⟩),undef,undef,undef],[]⟩ [.code (body_done L)]) (c::cs)) w:=by
 lib_facts
 have hA:=@add_goes2 _ P L H Wg
 unfold Zg at hA ⊢
 have key:∀ {w w₁:World},WgLive L.tWg Wg w→RL L.tWg Wg w w₁→WgLive L.tWg Wg w₁:=fun h r=>r h
 simp only [body_done,body_add,doneFn,addFn,Option.getD_some] at hA ⊢
 u_reg key hK
 u_op key hK
 u_in key hK
 refine goes_call rfl rfl (by k_ne) rfl H.f_add (nm_add L) rfl ⟨by u_nil,?_⟩
 walk_nrmf addFn
 refine hA (qt:=qt+3) ?_ _ hK
 q_c stepG_region_end
 q_c stepG_end
 exact QuitsD.leaveD rfl rfl H.f_done rfl hcm hT
theorem done_enter {P:Program} {L:WgLink} (H:WgLib P L) {v:Value}:Frame.enter P L.done #[v] .deferred=(baseD L.done).at ⟨#[v,undef,undef,undef],[]⟩ [.code (body_done L)]:=by
 simp [Frame.enter,H.f_done,body_done,doneFn]
 rfl
end Go.PB
namespace Go.PB
open Go.Conc Go.Conc.Lib
open Go.ConcR (KK stA smA rd wr mk DC0)
section
variable {P:Program} {main:Bool} {fr:Frame} {cs:List Frame} {o:Oper} {w w':World}
theorem atOp_step (a:AtOp fr o):∃ ops i l k,fr=mkFr ⟨fr.fn,fr.kind⟩ fr.tmps fr.defers (.inRegion ops (i::l)::k)∧ops[i]?=some o∧Region.wanted o (yielded ops fr.tmps)=true∧fr.eval=evT fr.tmps:=by
 obtain ⟨hm,hr,ops,i,l,k,htd,ho,hw⟩:=a
 refine ⟨ops,i,l,k,?_,ho,hw,?_⟩
 ·cases fr;simp only at hm hr htd;subst hm;subst hr;subst htd;rfl
 ·funext q;cases q <;> rfl
theorem step_value {v:Value} {es:Array Event} (a:AtOp fr o) (ne:fr.kind≠.early) (hr:(execOp fr.eval o).runT P w #[]=(.ok (.value v) w',es)) :
  stepG P main (G fr cs) w=.go (G (fr.finish v) cs) w' (seen P fr.fn es):=by
 obtain ⟨ops,i,l,k,e,ho,hw,he⟩:=atOp_step a
 have hs:=stepG_op (P:=P) (main:=main) (b:=⟨fr.fn,fr.kind⟩) (t:=fr.tmps) (d:=fr.defers) (l:=l) (k:=k) (cs:=cs) (w:=w) ho hw
 rw [← e] at hs
 rw [hs]
 rw [he] at hr
 have hk:(fr.kind == .early)=false:=by cases hx:fr.kind <;> first | rfl | exact absurd hx ne
 have hk':((mkFr ⟨fr.fn,fr.kind⟩ fr.tmps fr.defers (.inRegion ops (i::l)::k)).kind == .early)=false:=hk
 simp only [stepG.apply,if_true,hr,hk,GStep.after,Bool.false_eq_true,if_false,Array.append_empty]
 rfl
theorem step_comm {cases:Array CommCase} {bl:Bool} {sh:CommShape} (a:AtOp fr o) (hr:(execOp fr.eval o).runT P w #[]=(.ok (.comm cases bl sh) w,#[])) :
  stepG P main (G fr cs) w=.comm (G fr cs) cases bl sh w #[]:=by
 obtain ⟨ops,i,l,k,e,ho,hw,he⟩:=atOp_step a
 have hs:=stepG_op (P:=P) (main:=main) (b:=⟨fr.fn,fr.kind⟩) (t:=fr.tmps) (d:=fr.defers) (l:=l) (k:=k) (cs:=cs) (w:=w) ho hw
 rw [← e] at hs
 rw [hs]
 rw [he] at hr
 simp only [stepG.apply,if_true,hr,GStep.after,ite_self]
 rfl
theorem step_spawn {d:Deferred} {f:Fn} {cap:Array Value} (hd:d.target=.fn f cap) (a:AtOp fr o) (hr:(execOp fr.eval o).runT P w #[]=(.ok (.spawn d) w,#[])) :
  stepG P main (G fr cs) w=.spawn (G (fr.finish undef) cs) (G (goFr P d) []) w #[]:=by
 obtain ⟨ops,i,l,k,e,ho,hw,he⟩:=atOp_step a
 have hs:=stepG_op (P:=P) (main:=main) (b:=⟨fr.fn,fr.kind⟩) (t:=fr.tmps) (d:=fr.defers) (l:=l) (k:=k) (cs:=cs) (w:=w) ho hw
 rw [← e] at hs
 rw [hs]
 rw [he] at hr
 simp only [stepG.apply,if_true,hr,GStep.after,ite_self,hd,Bool.and_false,Bool.false_and,Bool.false_eq_true,if_false]
 rfl
theorem step_block {es:Array Event} (a:AtOp fr o) (hr:(execOp fr.eval o).runT P w #[]=(.halt .blocked w',es)) :
  stepG P main (G fr cs) w=.go { G fr cs with status:=.blocked } w' #[]:=by
 obtain ⟨ops,i,l,k,e,ho,hw,he⟩:=atOp_step a
 have hs:=stepG_op (P:=P) (main:=main) (b:=⟨fr.fn,fr.kind⟩) (t:=fr.tmps) (d:=fr.defers) (l:=l) (k:=k) (cs:=cs) (w:=w) ho hw
 rw [← e] at hs
 rw [hs]
 rw [he] at hr
 simp only [stepG.apply,if_true,hr,GStep.after,ite_self]
 rfl
end
structure Runs (g:Goroutine) (fr:Frame) (cs:List Frame):Prop where
 frame:g.frame=fr
 callers:g.callers=cs
 status:g.status=.running
 dying:g.dying=none
structure Parks (g:Goroutine) (fr:Frame) (cs:List Frame) (cases:Array CommCase) (sh:CommShape):Prop where
 frame:g.frame=fr
 callers:g.callers=cs
 status:g.status=.blocked
 dying:g.dying=none
 offers:g.offers=some (cases,sh)
structure Sleeps (g:Goroutine) (fr:Frame) (cs:List Frame):Prop where
 frame:g.frame=fr
 callers:g.callers=cs
 status:g.status=.blocked
 dying:g.dying=none
 offers:g.offers=none
theorem Runs.step {P:Program} {main:Bool} {g:Goroutine} {fr:Frame} {cs:List Frame} (r:Runs g fr cs) (w:World):stepG P main g w=stepG P main (G fr cs) w :=
 stepG_same r.frame r.callers r.dying w
theorem runs_G {fr:Frame} {cs:List Frame}:Runs (G fr cs) fr cs:=⟨rfl,rfl,rfl,rfl⟩
theorem Parks.eq {g:Goroutine} {fr:Frame} {cs:List Frame} {cases:Array CommCase} {sh:CommShape} (p:Parks g fr cs cases sh):g=parked (G fr cs) cases sh:=by
 obtain ⟨h1,h2,h3,h4,h5⟩:=p
 cases g;simp only at h1 h2 h3 h4 h5;subst h1;subst h2;subst h3;subst h4;subst h5;rfl
section
variable (P:Program) (cv:Value) (L:WgLink) (Em:Frame→List Frame→Hp→MX→Prop)
abbrev TN:=Node P (tHand P cv) false (tEnd P L.done)
abbrev MN:=Node P (mHand P cv L.done L.tWg) true Em
inductive Slot:Type 1
 | act (n:TN P cv L)
 | out (k m:Nat)
variable {P cv L}
def SBel:Slot P cv L→Slot P cv L→Prop
 | .act n,.act n'=>Relation.TransGen Below n n'
 | .out _ _,.act _=>True
 | .act _,.out _ _=>False
 | .out k m,.out k' m'=>k<k'∨(k=k'∧m<m')
theorem sbel_wf:WellFounded (SBel (P:=P) (cv:=cv) (L:=L)):=by
 have ho:∀ k m,Acc (SBel (P:=P) (cv:=cv) (L:=L)) (.out k m):=by
  intro k
  induction k using Nat.strongRecOn with
  | _ k ihk =>
   intro m
   induction m using Nat.strongRecOn with
   | _ m ihm =>
    refine ⟨_,fun s hs=>?_⟩
    cases s with
    | act n=>exact hs.elim
    | out k' m' =>
     rcases hs with h | ⟨rfl,h⟩
     ·exact ihk k' h m'
     ·exact ihm m' h
 refine ⟨fun s=>?_⟩
 cases s with
 | out k m=>exact ho k m
 | act n =>
  induction n using (WellFounded.transGen (below_wf (P:=P) (B:=tHand P cv) (main:=false) (E:=tEnd P L.done))).induction with
  | _ n ih =>
   refine ⟨_,fun s hs=>?_⟩
   cases s with
   | act n'=>exact ih n' hs
   | out k m=>exact ho k m
def ZS (P:Program) (ty:TypeId) (Wg:Nat):Nat→Goroutine→World→Prop
 | 6=>ZR P ty Wg
 | 5=>ZK P ty Wg
 | 4=>Z1 P ty Wg
 | 3=>Z2 P ty Wg
 | 2=>Z3 P ty Wg
 | 1=>Z4 P ty Wg
 | _=>fun _ _=>False
theorem zs_running {P:Program} {ty:TypeId} {Wg k:Nat} {g:Goroutine} {w:World} (h:ZS P ty Wg k g w):g.status=.running:=by
 unfold ZS at h
 split at h <;> first | exact h.1 | exact h.elim
theorem zg_running {P:Program} {ty:TypeId} {Wg k m:Nat} {g:Goroutine} {w:World} (h:Zg P ty Wg (ZS P ty Wg k) m g w):g.status=.running:=by
 unfold Zg at h
 cases m with
 | zero=>exact zs_running (h w fun x=>x)
 | succ m=>exact h.elim (fun h=>zs_running (h w fun x=>x)) (fun h=>h.1)
theorem zg_step {P:Program} {ty:TypeId} {Wg k m:Nat} {g:Goroutine} {w:World} (h:Zg P ty Wg (ZS P ty Wg k) m g w) :
  ZS P ty Wg k g w∨∃ m' g',m=m'+1∧stepG P false g w=.go g' w #[]∧Zg P ty Wg (ZS P ty Wg k) m' g' w:=by
 unfold Zg at h
 cases m with
 | zero=>exact .inl (h w fun x=>x)
 | succ m =>
  rcases h with h | ⟨_,h⟩
  ·exact .inl (h w fun x=>x)
  ·right
   have:=h w fun x=>x
   revert this
   cases e:stepG P false g w <;> simp only [GStep.goes,false_imp_iff]
   rintro ⟨⟨rfl,rfl⟩,q⟩
   exact ⟨m,_,rfl,rfl,q⟩
theorem zg_rely {P:Program} {ty:TypeId} {Wg m:Nat} {S:Goroutine→World→Prop} {g:Goroutine} {w w':World} (h:Zg P ty Wg S m g w) (r:RL ty Wg w w'):Zg P ty Wg S m g w' :=
 Goes.rely (fun _ _ _ a b x=>b (a x)) h r
structure Mem (w:World) (t:Trace) (hp:Nat→Hp):Prop where
 fits:∀ i,Fits (hp i) w
 sep:∀ i j,i≠j→Sep (hp i) (hp j)
 nr:∀ said,¬ Race said t
 low:Low t w.heap.size
 norel:∀ op∈t,∀ a,op.act≠.mark (.release a)
def put (hp:Nat→Hp) (a:Nat) (h:Hp):Nat→Hp:=fun i=>if i=a then h else hp i
theorem put_self {hp:Nat→Hp} {a:Nat} {h:Hp}:put hp a h a=h:=by simp [put]
theorem put_ne {hp:Nat→Hp} {a i:Nat} {h:Hp} (hi:i≠a):put hp a h i=hp i:=by simp [put,hi]
structure Own (a:Nat) (h:Hp) (w w':World) (h':Hp) (u:Trace):Prop where
 guar:Guar h w w' h'
 g:∀ op∈u,op.g=a
 mine:∀ op∈u,∀ b,op.act.touch?=some b→Mine h w w'.heap.size b
 plain:∀ op∈u,Plain op
theorem Mem.own {w w':World} {t u:Trace} {hp:Nat→Hp} {a:Nat} {h':Hp} (m:Mem w t hp) (o:Own a (hp a) w w' h' u) (k:Kn t (Knows t a) (hp a)):Mem w' (t++u) (put hp a h') where
 fits:=fun i=>by
  by_cases hi:i=a
  ·subst hi;rw [put_self];exact o.guar.fits
  ·rw [put_ne hi];exact fits_other o.guar (m.sep a i fun e=>hi e.symm) (m.fits a) (m.fits i)
 sep:=fun i j hij=>by
  by_cases hi:i=a
  ·subst hi;rw [put_self,put_ne fun e=>hij e.symm];exact sep_other o.guar (m.sep _ _ hij) (m.fits j)
  ·by_cases hj:j=a
   ·subst hj;rw [put_self,put_ne hi];exact (sep_other o.guar (m.sep _ _ fun e=>hij e.symm) (m.fits i)).symm
   ·rw [put_ne hi,put_ne hj];exact m.sep _ _ hij
 nr:=fun said=>(kn_step (m.nr said) k m.low o.guar o.g o.mine).1
 low:=(kn_step (m.nr false) k m.low o.guar o.g o.mine).2.2
 norel:=fun op ho b=>by
  rcases Array.mem_append.1 ho with ho | ho
  ·exact m.norel op ho b
  ·intro e;rcases o.plain op ho _ e with h | ⟨f,h⟩ <;> cases h
theorem Mem.mute {w w':World} {t u:Trace} {hp:Nat→Hp} (m:Mem w t hp) (hf:∀ i,Fits (hp i) w') (hs:w.heap.size≤w'.heap.size) (hm:∀ op∈u,op.act.touch?=none) (hr:∀ op∈u,∀ a,op.act≠.mark (.release a)):Mem w' (t++u) hp :=
 ⟨hf,m.sep,fun said=>race_mute (m.nr said) hm,(low_mute m.low hm).mono hs,fun op ho b=>(Array.mem_append.1 ho).elim (fun ho=>m.norel op ho b) (fun ho=>hr op ho b)⟩
theorem counts_old {t u:Trace} {j:Nat} (hj:j<t.size):(t++u).counts j↔t.counts j:=by
 unfold Trace.counts
 rw [act?_old hj]
 have:(t++u).heard j↔t.heard j:=by
  unfold Trace.heard Trace.g?
  simp only [getElem?_append_old hj,deaf_old (Nat.le_of_lt hj)]
 rw [this]
theorem g?_lt {t:Trace} {j i:Nat} (h:t.g? j=some i):j<t.size:=by
 unfold Trace.g? at h
 obtain ⟨op,ho,_⟩:=Option.map_eq_some_iff.1 h
 exact lt_size_of_getElem? ho
theorem g?_app {t u:Trace} {j:Nat} (h:j<t.size):(t++u).g? j=t.g? j:=by unfold Trace.g?;rw [getElem?_append_old h]
theorem g?_new {t u:Trace} {i j:Nat} (hu:∀ op∈u,op.g≠i) (h:(t++u).g? j=some i):j<t.size∧t.g? j=some i:=by
 unfold Trace.g? at h
 obtain ⟨op,ho,hg⟩:=Option.map_eq_some_iff.1 h
 rcases getElem?_append_cases ho with ⟨h1,h2⟩ | ⟨_,h2⟩
 ·exact ⟨h1,by simp [Trace.g?,h2,hg]⟩
 ·exact absurd hg (hu op h2)
def AllK (t:Trace) (i:Nat) (K:Nat→Prop):Prop:=∀ j,t.g? j=some i→t.counts j→K j
theorem AllK.app {t u:Trace} {i:Nat} {K K':Nat→Prop} (h:AllK t i K) (hK:∀ j,K j→K' j) (hu:∀ op∈u,op.g≠i):AllK (t++u) i K':=fun j hj hc=>by
 obtain ⟨h1,h2⟩:=g?_new hu hj
 exact hK _ (h j h2 ((counts_old h1).1 hc))
structure Rel (t:Trace) (wg i p:Nat):Prop where
 act:t.act? p=some (.mark (.releaseMerge ⟨wg,0,none⟩))
 g:t.g? p=some i
 heard:t.heard p
theorem Rel.app {t:Trace} {wg i p:Nat} (r:Rel t wg i p) (u:Trace):Rel (t++u) wg i p:=by
 have hp:=g?_lt r.g
 refine ⟨by rw [act?_old hp];exact r.act,by rw [g?_app hp];exact r.g,?_⟩
 obtain ⟨g,h1,h2⟩:=r.heard
 exact ⟨g,by rw [g?_app hp];exact h1,by rw [deaf_old (Nat.le_of_lt hp)];exact h2⟩
def SlotKn (t:Trace) (wg i:Nat) (h:Hp):Slot P cv L→Prop
 | .act n=>Kn t (Knows t i) h∧n.h=h∧Deaf t i=0
 | .out k m=>(k=6∧Kn t (Knows t i) h∧Deaf t i=0) ∨
   (k≤5∧(∃ p,Rel t wg i p∧Kn t (fun j=>Before t j p) h∧AllK t i fun j=>Before t j p)∧(k=5→Deaf t i=0)∧(1≤k→k≤4→Deaf t i=1))
theorem SlotKn.app {t u:Trace} {wg i:Nat} {h:Hp} {s:Slot P cv L} (k:SlotKn t wg i h s) (hu:∀ op∈u,op.g≠i) (hk:∀ {K K':Nat→Prop},Kn t K h→(∀ j,K j→K' j)→Kn (t++u) K' h):SlotKn (t++u) wg i h s:=by
 cases s with
 | act n=>exact ⟨hk k.1 fun j h=>h.app u,k.2.1,by rw [Deaf_others hu];exact k.2.2⟩
 | out c m =>
  rcases k with ⟨h1,h2,h3⟩ | ⟨h1,⟨p,h2,h3,h4⟩,h5,h6⟩
  ·exact .inl ⟨h1,hk h2 fun j h=>h.app u,by rw [Deaf_others hu];exact h3⟩
  ·exact .inr ⟨h1,⟨p,h2.app u,hk h3 fun j h=>h.app u,h4.app (fun j h=>h.app u) hu⟩,by rw [Deaf_others hu];exact h5,by rw [Deaf_others hu];exact h6⟩
structure Old (t:Trace) (i:Nat) (h:Hp) (s:Slot P cv L):Prop where
 out:∃ m,s=.out 0 m
 empty:h=Hp.empty
 all:AllK t i (Knows t 0)
theorem Old.app {t u:Trace} {i:Nat} {h:Hp} {s:Slot P cv L} (o:Old t i h s) (hu:∀ op∈u,op.g≠i):Old (t++u) i h s:=⟨o.out,o.empty,o.all.app (fun j h=>h.app u) hu⟩
end
end Go.PB
namespace Go.PB
open Go.Conc Go.Conc.Lib
open Go.ConcR (KK stA smA rd wr mk DC0)
def Seat.ch {σ θ:Type} (c:Seat σ θ):Nat→Nat
 | 0=>c.says
 | 1=>c.turn
 | _=>c.fin
def NewG (W0:World):MX→Prop
 | .idle=>True
 | .game X=>W0.heap.size≤X.wg∧∀ (j:Nat) (c:Seat X.g.σ X.g.θ) (a:Nat),X.seats[j]?=some c→W0.heap.size≤c.ch a
structure Side (w w':World):Prop where
 os:w'.os=w.os
 tape:w'.tape=w.tape
 output:w'.output=w.output
 frz:∀ a,w'.frozen? a=w.frozen? a
theorem Side.refl {w:World}:Side w w:=⟨rfl,rfl,rfl,fun _=>rfl⟩
theorem side_setCell {w:World} {a:Addr} {v:Value}:Side w (w.setCell a v):=⟨rfl,rfl,rfl,fun a'=>frozen_setCell ..⟩
structure Aft (W0 w:World) (hp:Nat→Hp) (x:MX):Prop where
 after:After W0 w
 own:∀ i b o v,(hp i).own b o=some v→W0.heap.size≤b
 obj:∀ i b v,(hp i).obj b=some v→W0.heap.size≤b
 game:NewG W0 x
section
variable {W0 w w':World} {hp:Nat→Hp} {x x':MX} {t u:Trace} {a:Nat} {h':Hp}
theorem Aft.le (A:Aft W0 w hp x):W0.heap.size≤w.heap.size:=A.after.1.size
theorem Aft.own_step (A:Aft W0 w hp x) (o:Own a (hp a) w w' h' u):Aft W0 w' (put hp a h') x where
 after:=⟨⟨o.guar.os.trans A.after.1.os,o.guar.tape.trans A.after.1.tape,o.guar.output.trans A.after.1.output,Nat.le_trans A.after.1.size o.guar.size,fun i hi=>by
  rw [o.guar.block i (Nat.lt_of_lt_of_le hi A.le) (fun o=>none_of fun v e=>by have:=A.own _ _ _ _ e;omega) (none_of fun v e=>by have:=A.obj _ _ _ e;omega)]
  exact A.after.1.block i hi⟩,fun a=>(o.guar.frz a).trans (A.after.2 a)⟩
 own:=fun i b k v e=>by
  by_cases hi:i=a
  ·subst hi
   rw [put_self] at e
   refine Nat.le_of_not_lt fun hlt=>?_
   have hlt':=Nat.lt_of_lt_of_le hlt A.le
   cases eh:(hp i).own b k with
   | none=>rw [o.guar.newo _ _ hlt' eh] at e;cases e
   | some v'=>have:=A.own _ _ _ _ eh;omega
  ·rw [put_ne hi] at e;exact A.own _ _ _ _ e
 obj:=fun i b v e=>by
  by_cases hi:i=a
  ·subst hi
   rw [put_self] at e
   refine Nat.le_of_not_lt fun hlt=>?_
   have hlt':=Nat.lt_of_lt_of_le hlt A.le
   cases eh:(hp i).obj b with
   | none=>rw [o.guar.newb _ hlt' eh] at e;cases e
   | some v'=>have:=A.obj _ _ _ eh;omega
  ·rw [put_ne hi] at e;exact A.obj _ _ _ e
 game:=A.game
theorem Aft.at_block (A:Aft W0 w hp x) {c:Nat} (hc:W0.heap.size≤c) (s:Side w w') (hw:∀ b,b≠c→w'.heap[b]?=w.heap[b]?) (hs:w'.heap.size=w.heap.size) (hx:NewG W0 x'):Aft W0 w' hp x' where
 after:=⟨⟨s.os.trans A.after.1.os,s.tape.trans A.after.1.tape,s.output.trans A.after.1.output,by rw [hs];exact A.after.1.size,fun i hi=>by rw [hw i (by omega)];exact A.after.1.block i hi⟩,fun a=>(s.frz a).trans (A.after.2 a)⟩
 own:=A.own
 obj:=A.obj
 game:=hx
theorem Aft.parts' (A:Aft W0 w hp x) {hp':Nat→Hp} (h1:∀ i b o v,(hp' i).own b o=some v→∃ k,(hp k).own b o=some v) (h2:∀ i b v,(hp' i).obj b=some v→∃ k,(hp k).obj b=some v) (hx:NewG W0 x'):Aft W0 w hp' x' where
 after:=A.after
 own:=fun i b o v e=>by obtain ⟨k,e⟩:=h1 _ _ _ _ e;exact A.own _ _ _ _ e
 obj:=fun i b v e=>by obtain ⟨k,e⟩:=h2 _ _ _ e;exact A.obj _ _ _ e
 game:=hx
theorem side_chan {ch:Nat} {o:Obj} {c n m:Nat} {bf:Array Value} {cl tm:Bool} (e:w.heap[ch]?=some (.chan c bf cl n m tm)) (ho:isCells o=false) (hos:w'.os=w.os) (ht:w'.tape=w.tape) (hou:w'.output=w.output) (hw:w'.heap=w.heap.setIfInBounds ch o):Side w w' where
 os:=hos
 tape:=ht
 output:=hou
 frz:=fun a=>by
  unfold World.frozen?
  rw [hw]
  by_cases h:ch=a.block
  ·subst h
   rw [Array.getElem?_setIfInBounds_self_of_lt (Array.getElem?_eq_some_iff.1 e).1,e]
   cases o <;> simp [isCells] at ho ⊢
  ·rw [Array.getElem?_setIfInBounds_ne h]
end
end Go.PB
namespace Go.PB
open Go.Conc Go.Conc.Lib
open Go.ConcR (KK stA smA rd wr mk DC0)
variable {W0:World} {P:Program} {cv:Value} {L:WgLink} {Em:Frame→List Frame→Hp→MX→Prop}
def SeatSt.isShut {σ θ:Type}:SeatSt σ θ→Bool
 | .shut _=>true
 | _=>false
def SeatSt.isRun {σ θ:Type}:SeatSt σ θ→Bool
 | .run _ _=>true
 | _=>false
inductive PhOk {g:Game} (left:Nat):SeatSt g.σ g.θ→Ph g.σ g.θ→Prop
 | run {s q n} (h:left≤n):PhOk left (.run s q) (.busy s q n)
 | said {q n} (h:left≤n) (hp:(g.plan q).isSome=true):PhOk left (.said q) (.said q n)
 | over {q} (hp:g.plan q=none):PhOk left (.said q) (.over q)
 | shutS {q n} (hp:(g.plan q).isSome=true):PhOk left (.shut q) (.said q n)
 | shutO {q}:PhOk left (.shut q) (.over q)
 | shutC {q}:PhOk left (.shut q) (.cut q)
def SlotG (w:World) (wg d:Nat) (g:Goroutine):Slot P cv L→Prop
 | .act n=>Runs g n.fr n.cs∨∃ cases sh,Parks g n.fr n.cs cases sh∧∃ fr cs h x o bl O at_ rr a k,n=⟨fr,cs,h,x,.comm o cases bl sh O at_ rr a k⟩
 | .out 0 m=>QuitsD P m d g
 | .out (k+1) m=>Zg P L.tWg wg (ZS P L.tWg wg (k+1)) m g w
def SeatAt (X:GX) (c:Seat X.g.σ X.g.θ) (h:Hp):Slot P cv L→Prop
 | .act n=>∃ ph,n.x=⟨X.g,c.says,c.turn,c.fin,X.wg,ph⟩∧PhOk X.left c.st ph
 | .out k m=>k≤6∧∃ q,((c.st=.said q∧X.g.plan q=none)∨c.st=.shut q)∧Star [X.g.Fin q] h
def Slot.stage:Slot P cv L→Nat
 | .act _=>7
 | .out k _=>k
inductive WgPh (L:WgLink) (X:GX) (st:List Nat) (w:World):Prop
 | quiet (v wt:Nat) (at_:WgAt L.tWg X.wg w (v*KK+wt) 0) (hv:v+(X.seats.length+X.nf)=(st.filter fun k=>decide (4≤k)).length+X.ad) (late:∀ k∈st,k=0∨4≤k)
   (hw:wt=match X.wt with | .parked=>1 | _=>0) (park:X.wt=.parked→0<v)
   (b:match X.wt with | .wait b=>v≤b | .seen v0=>v≤v0 | .woken=>v=0 | .zero=>v=0 | _=>True)
 | late (p:X.wt=.parked) (i k:Nat) (hi:st[i]?=some k) (hk:k=3∨k=2) (at_:WgAt L.tWg X.wg w 1 0) (oth:∀ j k,st[j]?=some k→j≠i→k=0)
 | late1 (p:X.wt=.parked) (i:Nat) (hi:st[i]?=some 1) (at_:WgAt L.tWg X.wg w 0 0) (oth:∀ j k,st[j]?=some k→j≠i→k=0)
 | free (p:X.wt=.parked) (at_:WgAt L.tWg X.wg w 0 1) (oth:∀ k∈st,k=0)
abbrev St (X:GX):=Seat X.g.σ X.g.θ
structure GameAt (X:GX) (gs:Array Goroutine) (w:World) (t:Trace) (sl:List (Slot P cv L)) (hp:Nat→Hp) (nb:Nat):Prop where
 len:sl.length=nb+(X.seats.length+X.nf)
 old:∀ (i:Nat) (s:Slot P cv L),i<nb→sl[i]?=some s→Old t (i+1) (hp (i+1)) s
 seat:∀ (j:Nat) (c:St X),X.seats[j]?=some c→∃ s,sl[nb+j]?=some s∧SeatAt X c (hp (nb+j+1)) s
 know:∀ (j:Nat) (s:Slot P cv L),sl[nb+j]?=some s→SlotKn t X.wg (nb+j+1) (hp (nb+j+1)) s
 chan:∀ (j:Nat) (c:St X),X.seats[j]?=some c→∀ a,a<3→∃ n,w.heap[c.ch a]?=some (Obj.chan 0 #[] (decide (a=2)&&c.st.isShut) n n false)
 dist:∀ (j j':Nat) (c c':St X) (a a':Nat),X.seats[j]?=some c→X.seats[j']?=some c'→a<3→a'<3→c.ch a=c'.ch a'→j=j'∧a=a'
 noch:∀ (i j:Nat) (c:St X) (a:Nat),X.seats[j]?=some c→a<3→(hp i).obj (c.ch a)=none
 nowg:∀ i o,(hp i).own X.wg o=none∧(hp i).ro X.wg o=none
 wg:WgPh L X (sl.map Slot.stage) w
 wgt:∀ (i:Nat) (a:Touch) (o:Nat),o<2→touchAt t i=some a→a.loc=.cell ⟨X.wg,o,none⟩ →
  (a.kind≠.plain∧(a.kind=.said→t.g? i=some 0))∨(Knows t 0 i∧∀ (j:Nat),j<X.seats.length+X.nf→Knows t (nb+j+1) i)
 deaf:Deaf t 0=if X.deaf then 1 else 0
 tok0:X.tok=none→∃ (j:Nat) (c:St X),X.seats[j]?=some c∧c.st.isRun=true∧∀ (j':Nat) (c':St X),X.seats[j']?=some c'→j'≠j→c'.st.isRun=false
 tok1:X.tok.isSome=true→∀ (j:Nat) (c:St X),X.seats[j]?=some c→c.st.isRun=false
 adp:X.wt=.play→X.ad=X.seats.length+X.nf∨(X.ad=X.seats.length+X.nf+1∧X.tok.isSome=true)
 ads:X.wt≠.play→X.ad=X.seats.length+X.nf∧∀ (j:Nat) (c:St X),X.seats[j]?=some c→c.st.isShut=true
 adl:X.ad≤1000
 live:∀ (j:Nat) (c:St X) (g:Goroutine),X.seats[j]?=some c→gs[nb+j+1]?=some g→c.st.isShut=true→g.status≠.blocked
 park:∀ (g0:Goroutine) (cases:Array CommCase) (sh:CommShape),gs[0]?=some g0→g0.status=.blocked→g0.offers=some (cases,sh)→∃ (j:Nat) (c:St X),X.seats[j]?=some c∧X.wt=.play ∧
   ((∃ z,cases=#[rcase c.says z])∨(∃ v z,cases=#[scase c.turn v z]))∧∀ (g:Goroutine),gs[nb+j+1]?=some g→g.status≠.blocked
 sleep:∀ (g0:Goroutine),gs[0]?=some g0→g0.status=.blocked→g0.offers=none→X.wt=.parked∧¬ WgAt L.tWg X.wg w 0 1
 cht:∀ (j:Nat) (c:St X) (a i:Nat) (b:Touch),X.seats[j]?=some c→a<3→touchAt t i=some b→b.loc=.obj (c.ch a)→Knows t 0 i
def FreeSt {g:Game} (wg m:Nat) (q:g.θ) (h:Hp):Slot P cv L→Prop
 | .act n=>∃ n',n.x=⟨g,0,0,0,wg,.free q n'⟩∧m≤n'
 | .out _ _=>g.plan q=none∧Star [g.Fin q] h
structure Pool (W0:World) (g:Game) (wg nf:Nat) (d:FreeD g) (w:World) (t:Trace) (sl:List (Slot P cv L)) (hp:Nat→Hp) (nb:Nat) (pl:Hp) (s:g.σ) (qs:List g.θ):Prop where
 len:sl.length=nb+nf
 u:g.U s pl
 fits:Fits pl w
 obj:∀ b,pl.obj b=none
 sep:∀ i,Sep (hp i) pl
 nowg:∀ o,pl.own wg o=none∧pl.ro wg o=none
 new:∀ b o v,pl.own b o=some v→W0.heap.size≤b
 kno:∀ b o v,pl.own b o=some v→∀ i a,touchAt t i=some a→a.loc=.cell ⟨b,o,none⟩→(a.kind=.atomic∧t.counts i∧∃ j,j<nf∧t.g? i=some (nb+j+1))∨(Knows t 0 i∧∀ j,j<nf→Knows t (nb+j+1) i)
 knr:∀ b o v,pl.ro b o=some v→∀ i a,touchAt t i=some a→a.loc=.cell ⟨b,o,none⟩→a.write=true→Knows t 0 i∧∀ j,j<nf→Knows t (nb+j+1) i
 inv:d.I s qs
 pot:d.φ s qs≤d.N
 qlen:qs.length=d.q0.length
 slot:∀ (j:Nat) (sx:Slot P cv L),sl[nb+j]?=some sx→∃ q,qs[j]?=some q∧FreeSt wg (d.φ s qs) q (hp (nb+j+1)) sx
 rest:∀ j,nf≤j→qs[j]?=d.q0[j]?
def PoolOk (W0:World) (x:MX) (w:World) (t:Trace) (sl:List (Slot P cv L)) (hp:Nat→Hp):Prop:=match x with
 | .idle=>True
 | .game X=>(X.free=none→X.nf=0)∧∀ d,X.free=some d→X.seats=[]∧X.tok.isSome=true∧∃ nb pl s qs,Pool W0 X.g X.wg X.nf d w t sl hp nb pl s qs
theorem touchAt_lt {t:Trace} {i:Nat} {a:Touch} (h:touchAt t i=some a):i<t.size:=by
 obtain ⟨op,ho,_⟩:=touch_of h
 exact lt_size_of_getElem? ho
theorem Pool.step {g:Game} {wg nf:Nat} {d:FreeD g} {w w':World} {t u:Trace} {sl sl':List (Slot P cv L)} {hp hp':Nat→Hp} {nb:Nat} {pl:Hp} {s:g.σ} {qs:List g.θ} (p:Pool W0 g wg nf d w t sl hp nb pl s qs)
  (hf:Fits pl w') (hs:∀ i,Sep (hp' i) pl) (hu:∀ op∈u,∀ a,op.act.touch?=some a→∀ b o,a.loc=.cell ⟨b,o,none⟩→pl.own b o=none∧(a.write=true→pl.ro b o=none)) (hl:sl'.length=sl.length)
  (hsl:∀ (m:Nat) (q:g.θ) (i:Nat) (sx':Slot P cv L),sl'[i]?=some sx'→∃ sx,sl[i]?=some sx∧(FreeSt wg m q (hp (i+1)) sx→FreeSt wg m q (hp' (i+1)) sx')):Pool W0 g wg nf d w' (t++u) sl' hp' nb pl s qs where
 len:=by rw [hl];exact p.len
 u:=p.u
 fits:=hf
 obj:=p.obj
 sep:=hs
 nowg:=p.nowg
 new:=p.new
 kno:=fun b o v e i a ha hl=>by
  rcases touch_split ha with ha | ⟨op,ho,_,h2⟩
  ·rcases p.kno b o v e i a ha hl with ⟨h1,h2,j,h3,h4⟩ | ⟨h1,h2⟩
   ·exact .inl ⟨h1,(counts_old (touchAt_lt ha)).2 h2,j,h3,by rw [g?_app (touchAt_lt ha)];exact h4⟩
   ·exact .inr ⟨h1.app u,fun j hj=>(h2 j hj).app u⟩
  ·have:=(hu op ho a h2 b o hl).1
   rw [e] at this;cases this
 knr:=fun b o v e i a ha hl hw=>by
  rcases touch_split ha with ha | ⟨op,ho,_,h2⟩
  ·obtain ⟨h1,h2⟩:=p.knr b o v e i a ha hl hw
   exact ⟨h1.app u,fun j hj=>(h2 j hj).app u⟩
  ·have:=(hu op ho a h2 b o hl).2 hw
   rw [e] at this;cases this
 inv:=p.inv
 pot:=p.pot
 qlen:=p.qlen
 slot:=fun j sx' hj=>by
  obtain ⟨q0,_⟩:∃ q,qs[j]?=some q:=by
   obtain ⟨sx,h1,_⟩:∃ sx,sl[nb+j]?=some sx∧True:=⟨_,List.getElem?_eq_getElem (by rw [← hl];exact (List.getElem?_eq_some_iff.1 hj).1),trivial⟩
   obtain ⟨q,h2,_⟩:=p.slot j sx h1
   exact ⟨q,h2⟩
  obtain ⟨sx,h1,h2⟩:=hsl (d.φ s qs) q0 (nb+j) sx' hj
  obtain ⟨q,h3,h4⟩:=p.slot j sx h1
  obtain ⟨sx2,h5,h6⟩:=hsl (d.φ s qs) q (nb+j) sx' hj
  rw [h1] at h5;cases h5
  exact ⟨q,h3,h6 h4⟩
 rest:=p.rest
theorem PoolOk.step {x:MX} {w w':World} {t u:Trace} {sl sl':List (Slot P cv L)} {hp hp':Nat→Hp} (p:PoolOk W0 x w t sl hp)
  (H:∀ pl:Hp,(∀ X,x=.game X→∀ o,pl.own X.wg o=none∧pl.ro X.wg o=none)→(∀ i,Sep (hp i) pl)→Fits pl w→Fits pl w'∧(∀ i,Sep (hp' i) pl) ∧
   ∀ op∈u,∀ a,op.act.touch?=some a→∀ b o,a.loc=.cell ⟨b,o,none⟩→pl.own b o=none∧(a.write=true→pl.ro b o=none)) (hl:sl'.length=sl.length)
  (hsl:∀ (g:Game) (wg m:Nat) (q:g.θ) (i:Nat) (sx':Slot P cv L),sl'[i]?=some sx'→∃ sx,sl[i]?=some sx∧(FreeSt wg m q (hp (i+1)) sx→FreeSt wg m q (hp' (i+1)) sx')):PoolOk W0 x w' (t++u) sl' hp':=by
 cases x with
 | idle=>trivial
 | game X =>
  refine ⟨p.1,fun d hd=>?_⟩
  obtain ⟨h1,h2,nb,pl,s,qs,h3⟩:=p.2 d hd
  obtain ⟨e1,e2,e3⟩:=H pl (fun X' e o=>by cases e;exact h3.nowg o) h3.sep h3.fits
  exact ⟨h1,h2,nb,pl,s,qs,h3.step e1 e2 e3 hl fun m q=>hsl X.g X.wg m q⟩
theorem PoolOk.same {x:MX} {w:World} {t:Trace} {sl:List (Slot P cv L)} {hp hp':Nat→Hp} (p:PoolOk W0 x w t sl hp) (hs:∀ i,Frz (hp i) (hp' i)) (ho:∀ i,i≠0→hp' i=hp i):PoolOk W0 x w t sl hp':=by
 have:=p.step (w':=w) (u:=#[]) (sl':=sl) (hp':=hp') (fun pl _ h2 h3=>⟨h3,fun i=>(hs i).sep (h2 i),fun op ho=>by simp at ho⟩) rfl fun g wg m q i sx hi=>⟨sx,hi,fun h=>by rw [ho _ (by omega)];exact h⟩
 rwa [Array.append_empty] at this
structure IdleAt (t:Trace) (sl:List (Slot P cv L)) (hp:Nat→Hp) (gs:Array Goroutine):Prop where
 old:∀ (i:Nat) (s:Slot P cv L),sl[i]?=some s→Old t (i+1) (hp (i+1)) s
 deaf:Deaf t 0=0
 runs:∀ (g0:Goroutine),gs[0]?=some g0→g0.status≠.blocked
def MainG (g:Goroutine) (n:MN P cv L Em):Prop :=
 Runs g n.fr n.cs∨(∃ cases sh,Parks g n.fr n.cs cases sh∧∃ fr cs h x o bl O at_ rr a k,n=⟨fr,cs,h,x,.comm o cases bl sh O at_ rr a k⟩) ∨
  (Sleeps g n.fr n.cs∧∃ fr cs h x o O at_ ne a k,n=⟨fr,cs,h,x,.act o O at_ ne a k⟩)
structure Cfg (W0:World) (gs:Array Goroutine) (w:World) (t:Trace) (M:MN P cv L Em) (sl:List (Slot P cv L)) (hp:Nat→Hp):Prop where
 size:gs.size=sl.length+1
 main:∃ g,gs[0]?=some g∧MainG g M
 thr:∀ i s,sl[i]?=some s→∃ g,gs[i+1]?=some g∧SlotG w (match M.x with | .game X=>X.wg | .idle=>0) (Deaf t (i+1)) g s
 mem:Mem w t hp
 aft:Aft W0 w hp M.x
 hp0:hp 0=M.h
 hpn:∀ i,sl.length<i→hp i=Hp.empty
 tg:∀ (i:Nat) (op:MemOp),t[i]?=some op→op.g≤sl.length
 kn0:Kn t (Knows t 0) (hp 0)
 game:match M.x with
  | .idle=>IdleAt t sl hp gs
  | .game X=>∃ nb,GameAt X gs w t sl hp nb
 pool:PoolOk W0 M.x w t sl hp
theorem Cfg.turns {gs:Array Goroutine} {w:World} {t:Trace} {M:MN P cv L Em} {sl:List (Slot P cv L)} {hp:Nat→Hp} {X:GX} {j:Nat} {cx:St X} (c:Cfg W0 gs w t M sl hp) (hX:M.x=.game X) (hj:X.seats[j]?=some cx):X.free=none∧X.nf=0:=by
 have hp:=c.pool
 rw [hX] at hp
 cases hf:X.free with
 | none=>exact ⟨rfl,hp.1 hf⟩
 | some d=>rw [(hp.2 d hf).1] at hj;simp at hj
end Go.PB
namespace Go.PB
open Go.Conc Go.Conc.Lib
open Go.ConcR (KK stA smA rd wr mk DC0)
variable {W0:World} {P:Program} {cv:Value} {L:WgLink} {Em:Frame→List Frame→Hp→MX→Prop}
theorem woken_cases (g g':Goroutine) (w':World) (o:Goroutine):woken P g g' w' o=o∨(woken P g g' w' o={ o with status:=.running }∧(o.status=.blocked∨o.status=.waiting)):=by
 unfold woken
 split
 ·unfold Goroutine.again
  split
  ·rename_i h1 h2
   simp only
   split
   ·exact .inr ⟨rfl,.inl h1⟩
   ·exact .inl rfl
  ·rename_i h1 h2;exact .inr ⟨rfl,.inl h1⟩
  ·rename_i h1;exact .inr ⟨rfl,.inr h1⟩
  ·exact .inl rfl
 ·exact .inl rfl
theorem woken_blocked {g g':Goroutine} {w':World} {o:Goroutine} (h:(woken P g g' w' o).status=.blocked):woken P g g' w' o=o:=by
 rcases woken_cases (P:=P) g g' w' o with e | ⟨e,_⟩
 ·exact e
 ·rw [e] at h;cases h
theorem woken_run {g g':Goroutine} {w':World} {o:Goroutine} (h:o.status=.running):woken P g g' w' o=o:=by
 rcases woken_cases (P:=P) g g' w' o with e | ⟨e,h' | h'⟩
 ·exact e
 ·rw [h] at h';cases h'
 ·rw [h] at h';cases h'
theorem woken_fin {g g':Goroutine} {w':World} {o:Goroutine} (h:o.status=.running∨o.status=.finished):woken P g g' w' o=o:=by
 rcases woken_cases (P:=P) g g' w' o with e | ⟨e,h' | h'⟩
 ·exact e
 ·rcases h with h | h <;> (rw [h] at h';cases h')
 ·rcases h with h | h <;> (rw [h] at h';cases h')
theorem SlotG.woken {w w':World} {wg d:Nat} {g g' o:Goroutine} {s:Slot P cv L} (h:SlotG w wg d o s) (r:RL L.tWg wg w w'):SlotG w' wg d (woken P g g' w' o) s:=by
 cases s with
 | act n =>
  rcases h with h | ⟨cases,sh,h,hx⟩
  ·exact .inl (by rw [woken_run h.status];exact h)
  ·rcases woken_cases (P:=P) g g' w' o with e | ⟨e,_⟩
   ·exact .inr ⟨cases,sh,by rw [e];exact h,hx⟩
   ·exact .inl (by rw [e];exact ⟨h.frame,h.callers,rfl,h.dying⟩)
 | out k m =>
  cases k with
  | zero=>show QuitsD P m d _;rw [woken_fin (QuitsD.status h)];exact h
  | succ k=>show Zg P L.tWg wg _ m _ w';rw [woken_run (zg_running h)];exact zg_rely h r
theorem MainG.woken {w':World} {g g' o:Goroutine} {n:MN P cv L Em} (h:MainG o n):MainG (woken P g g' w' o) n:=by
 rcases woken_cases (P:=P) g g' w' o with e | ⟨e,hb⟩
 ·rw [e];exact h
 ·rw [e]
  rcases h with h | ⟨_,_,h,_⟩ | ⟨h,_⟩
  ·exact .inl ⟨h.frame,h.callers,rfl,h.dying⟩
  ·exact .inl ⟨h.frame,h.callers,rfl,h.dying⟩
  ·exact .inl ⟨h.frame,h.callers,rfl,h.dying⟩
structure Gs (P:Program) (a:Nat) (gs gs':Array Goroutine) (g':Goroutine):Prop where
 size:gs'.size=gs.size
 self:gs'[a]?=some g'
 other:∀ (i:Nat) (g:Goroutine),i≠a→gs[i]?=some g→∃ x x' w,gs'[i]?=some (woken P x x' w g)
 back:∀ (i:Nat) (g:Goroutine),i≠a→gs'[i]?=some g→g.status=.blocked→gs[i]?=some g
theorem gs_go {a:Nat} {gs:Array Goroutine} {g g':Goroutine} {w':World} (h:gs[a]?=some g):Gs P a gs ((gs.map (woken P g g' w')).setIfInBounds a g') g':=by
 have hlt:=(Array.getElem?_eq_some_iff.1 h).1
 refine ⟨by simp,by simp [hlt],fun i o hi ho=>⟨g,g',w',?_⟩,fun i o hi ho hb=>?_⟩
 ·rw [Array.getElem?_setIfInBounds_ne fun e=>hi e.symm,Array.getElem?_map,ho];rfl
 ·rw [Array.getElem?_setIfInBounds_ne fun e=>hi e.symm,Array.getElem?_map] at ho
  obtain ⟨o',h1,h2⟩:=Option.map_eq_some_iff.1 ho
  subst h2
  rw [woken_blocked hb];exact h1
theorem own_chan {w w':World} {h h':Hp} {b:Nat} {ob:Obj} (g:Guar h w w' h') (f:Fits h w) (hn:h.obj b=none) (hc:isCells ob=false) (e:w.heap[b]?=some ob):w'.heap[b]?=some ob:=by
 rw [g.block b (Array.getElem?_eq_some_iff.1 e).1 (fun o=>none_of fun v hv=>?_) hn]
 ·exact e
 ·have h1:=f.own _ _ _ hv
  unfold World.cell? at h1
  simp only [e] at h1
  cases ob <;> simp [isCells] at h1 hc
theorem own_wg {w w':World} {h h':Hp} {ty:TypeId} {wg:Nat} {st sm:Int} (g:Guar h w w' h') (f:Fits h w) (hn:∀ o,h.own wg o=none∧h.ro wg o=none) (e:WgAt ty wg w st sm):WgAt ty wg w' st sm:=by
 refine e.of_heap ?_
 obtain ⟨fz,e,_⟩:=e
 rw [g.block wg (Array.getElem?_eq_some_iff.1 e).1 (fun o=>(hn o).1) (none_of fun v hv=>?_)]
 ·have h1:=f.obj _ _ hv
  rw [e] at h1;cases h1
  have:=f.objn _ _ hv
  simp [isCells] at this
theorem WgPh.at {X:GX} {st:List Nat} {w w':World} (p:WgPh L X st w) (h:∀ a b,WgAt L.tWg X.wg w a b→WgAt L.tWg X.wg w' a b):WgPh L X st w':=by
 cases p with
 | quiet v wt a hv late hw park b=>exact .quiet v wt (h _ _ a) hv late hw park b
 | late p i k hi hk a oth=>exact .late p i k hi hk (h _ _ a) oth
 | late1 p i hi a oth=>exact .late1 p i hi (h _ _ a) oth
 | free p a oth=>exact .free p (h _ _ a) oth
theorem WgPh.ex {X:GX} {st:List Nat} {w:World} (p:WgPh L X st w):∃ a b,WgAt L.tWg X.wg w a b:=by
 cases p with
 | quiet v wt a=>exact ⟨_,_,a⟩
 | late p i k hi hk a=>exact ⟨_,_,a⟩
 | late1 p i hi a=>exact ⟨_,_,a⟩
 | free p a=>exact ⟨_,_,a⟩
theorem wgAt_lt {ty:TypeId} {wg:Nat} {w:World} {a b:Int} (h:WgAt ty wg w a b):wg<w.heap.size:=by obtain ⟨_,h,_⟩:=h;exact (Array.getElem?_eq_some_iff.1 h).1
structure Sl (a:Nat) (sl sl':List (Slot P cv L)) (h':Hp):Prop where
 len:sl'.length=sl.length
 other:∀ j,j+1≠a→sl'[j]?=sl[j]?
 self:∀ j,j+1=a→∃ n n':TN P cv L,sl[j]?=some (.act n)∧sl'[j]?=some (.act n')∧n'.x=n.x∧n'.h=h'
theorem Sl.stages {a:Nat} {sl sl':List (Slot P cv L)} {h':Hp} (s:Sl a sl sl' h'):sl'.map Slot.stage=sl.map Slot.stage:=by
 apply List.ext_getElem?
 intro j
 simp only [List.getElem?_map]
 by_cases hj:j+1=a
 ·obtain ⟨n,n',h1,h2,_⟩:=s.self j hj
  rw [h1,h2];rfl
 ·rw [s.other j hj]
theorem GameAt.own {X:GX} {gs gs':Array Goroutine} {w w':World} {t u:Trace} {sl sl':List (Slot P cv L)} {hp:Nat→Hp} {nb a:Nat} {h':Hp} {g':Goroutine}
  (G:GameAt X gs w t sl hp nb) (m:Mem w t hp) (o:Own a (hp a) w w' h' u) (k:Kn t (Knows t a) (hp a)) (q:Gs P a gs gs' g') (s:Sl a sl sl' h') (hr:g'.status≠.blocked):GameAt X gs' w' (t++u) sl' (put hp a h') nb:=by
 have hwg:=G.wg.ex
 obtain ⟨wa,wb,hwa⟩:=hwg
 have hnew:∀ i a' o',touchAt (t++u) i=some a'→a'.loc=.cell ⟨X.wg,o',none⟩→touchAt t i=some a':=fun i a' o' ha hl=>by
  rcases touch_split ha with ha | ⟨op,ho,_,hb⟩
  ·exact ha
  ·exfalso
   rcases o.mine op ho a' hb with ⟨bl,o2,h1,_,h3⟩ | ⟨r,h1,_⟩
   ·rw [h1] at hl;cases hl
    have:=G.nowg a o'
    rcases h3 with h3 | h3 | ⟨_,h3⟩
    ·have:=wgAt_lt hwa;omega
    ·rw [this.1] at h3;cases h3
    ·rw [this.2] at h3;cases h3
   ·rw [h1] at hl;cases hl
 have hna:∀ i,i≠a→∀ op∈u,op.g≠i:=fun i hi op ho e=>hi (by rw [← e,o.g op ho])
 refine ⟨by rw [s.len];exact G.len,fun i c hi hc=>?_,fun j c hc=>?_,fun j c hc=>?_,fun j c hc b hb=>?_,G.dist,fun i j c b hc hb=>?_,fun i b=>?_,?_,fun i b o' ho2 hb hl=>?_,?_,G.tok0,G.tok1,G.adp,G.ads,G.adl,fun j c g hc hg hs hb=>?_,fun g0 cases sh hg hb ho=>?_,fun g0 hg hb ho=>?_,fun j c b i x hc hb hx hl=>?_⟩
 ·by_cases ha:i+1=a
  ·obtain ⟨n,n',h1,_⟩:=s.self i ha
   obtain ⟨m',e⟩:=(G.old i _ hi h1).out
   cases e
  ·rw [s.other i ha] at hc
   rw [put_ne ha]
   exact (G.old i c hi hc).app (hna _ ha)
 ·obtain ⟨sx,h1,h2⟩:=G.seat j c hc
  by_cases ha:nb+j+1=a
  ·obtain ⟨n,n',h3,h4,h5,h6⟩:=s.self _ ha
   rw [h1] at h3;cases h3
   exact ⟨_,h4,by
    obtain ⟨ph,e1,e2⟩:=h2
    exact ⟨ph,h5.trans e1,e2⟩⟩
  ·exact ⟨sx,by rw [s.other _ ha];exact h1,by rw [put_ne ha];exact h2⟩
 ·by_cases ha:nb+j+1=a
  ·obtain ⟨n,n',h3,h4,h5,h6⟩:=s.self _ ha
   rw [h4] at hc;cases hc
   have hk:=G.know j _ h3
   subst ha
   rw [put_self]
   exact ⟨(kn_step (m.nr false) k m.low o.guar o.g o.mine).2.1,h6,by rw [Deaf_plain o.plain];exact hk.2.2⟩
  ·rw [s.other _ ha] at hc
   rw [put_ne ha]
   exact (G.know j c hc).app (hna _ ha) fun kk hK=>kn_other kk (fun j hj=>hK j hj) (m.sep a _ fun e=>ha e.symm) (m.fits _) o.mine
 ·obtain ⟨n,e⟩:=G.chan j c hc b hb
  exact ⟨n,own_chan o.guar (m.fits a) (G.noch a j c b hc hb) rfl e⟩
 ·by_cases ha:i=a
  ·subst ha
   obtain ⟨n,e⟩:=G.chan j c hc b hb
   rw [put_self]
   exact o.guar.newb _ (Array.getElem?_eq_some_iff.1 e).1 (G.noch i j c b hc hb)
  ·rw [put_ne ha];exact G.noch i j c b hc hb
 ·by_cases ha:i=a
  ·subst ha
   rw [put_self]
   exact ⟨o.guar.newo _ _ (wgAt_lt hwa) (G.nowg i b).1,o.guar.newr _ _ (wgAt_lt hwa) (G.nowg i b).1 (G.nowg i b).2⟩
  ·rw [put_ne ha];exact G.nowg i b
 ·rw [s.stages]
  exact G.wg.at fun x y hxy=>own_wg o.guar (m.fits a) (G.nowg a) hxy
 ·have hb':=hnew i b o' hb hl
  rcases G.wgt i b o' ho2 hb' hl with this | ⟨k0,k1⟩
  ·refine .inl ⟨this.1,fun hs=>?_⟩
   have h1:=this.2 hs
   rw [g?_app (g?_lt h1)];exact h1
  ·exact .inr ⟨k0.app u,fun j hj=>(k1 j hj).app u⟩
 ·rw [Deaf_plain o.plain];exact G.deaf
 ·by_cases ha:nb+j+1=a
  ·subst ha;rw [q.self] at hg;cases hg;exact hr hb
  ·exact G.live j c g hc (q.back _ _ ha hg hb) hs hb
 ·by_cases ha:0=a
  ·subst ha;rw [q.self] at hg;cases hg;exact absurd hb hr
  ·obtain ⟨j,c,h1,h2,h3,h4⟩:=G.park g0 cases sh (q.back _ _ ha hg hb) hb ho
   refine ⟨j,c,h1,h2,h3,fun g hg2 hb2=>?_⟩
   by_cases ha2:nb+j+1=a
   ·subst ha2;rw [q.self] at hg2;cases hg2;exact hr hb2
   ·exact h4 g (q.back _ _ ha2 hg2 hb2) hb2
 ·by_cases ha:0=a
  ·subst ha;rw [q.self] at hg;cases hg;exact absurd hb hr
  ·have:=G.sleep g0 (q.back _ _ ha hg hb) hb ho
   refine ⟨this.1,fun hx=>this.2 ?_⟩
   have hz:=own_wg o.guar (m.fits a) (G.nowg a) hwa
   have:=WgAt.unique hz hx
   rw [this.1,this.2] at hwa;exact hwa
 ·rcases touch_split hx with hx | ⟨op,ho,_,h2⟩
  ·exact (G.cht j c b i x hc hb hx hl).app u
  ·exfalso
   obtain ⟨n,e⟩:=G.chan j c hc b hb
   rcases o.mine op ho x h2 with ⟨bl,o2,h1,_⟩ | ⟨r,h1,_,h3⟩
   ·rw [h1] at hl;cases hl
   ·rw [h1] at hl;cases hl
    rcases h3 with h3 | h3
    ·have:=(Array.getElem?_eq_some_iff.1 e).1;omega
    ·rw [G.noch a j c b hc hb] at h3;cases h3
end Go.PB
namespace Go.PB
open Go.Conc Go.Conc.Lib
open Go.ConcR (KK stA smA rd wr mk DC0)
variable {W0:World} {P:Program} {cv:Value} {L:WgLink} {Em:Frame→List Frame→Hp→MX→Prop}
theorem own_of_events {a:Nat} {h h':Hp} {w w':World} {fn:FuncId} {pos:String} {es:Array Event} (g:Guar h w w' h') (he:∀ e∈es,EvOk Still h w w'.heap.size e):Own a h w w' h' (MemOp.ofEvents a fn pos es) where
 guar:=g
 g:=fun op ho=>by obtain ⟨e,_,rfl⟩:=ofEvents_mem ho;rfl
 mine:=fun op ho b hb=>by obtain ⟨e,h1,rfl⟩:=ofEvents_mem ho;exact (mine_of_event (fun _ x=>x) (he e h1)).2 b hb
 plain:=fun op ho m hm=>by obtain ⟨e,h1,rfl⟩:=ofEvents_mem ho;exact (mine_of_event (fun _ x=>x) (he e h1)).1 m hm
theorem slot_woken {w w' w2:World} {wg d d':Nat} {g g' o:Goroutine} {s:Slot P cv L} (hd:d'=d) (r:RL L.tWg wg w w') (hs:SlotG w wg d o s):SlotG w' wg d' (woken P g g' w2 o) s:=by
 subst hd
 cases s with
 | act n =>
  rcases hs with h | ⟨cases,sh,h,hx⟩
  ·exact .inl (by rw [woken_run h.status];exact h)
  ·rcases woken_cases (P:=P) g g' w2 o with e | ⟨e,_⟩
   ·exact .inr ⟨cases,sh,by rw [e];exact h,hx⟩
   ·exact .inl (by rw [e];exact ⟨h.frame,h.callers,rfl,h.dying⟩)
 | out k m =>
  cases k with
  | zero=>show QuitsD P m d' _;rw [woken_fin (QuitsD.status hs)];exact hs
  | succ k=>show Zg P L.tWg wg _ m _ w';rw [woken_run (zg_running hs)];exact zg_rely hs r
theorem old_woken {w w' w2:World} {wg d d':Nat} {g g' o:Goroutine} {t:Trace} {i:Nat} {h:Hp} {s:Slot P cv L} (ol:Old t i h s) (hd:d'=d) (hs:SlotG w wg d o s):SlotG w' wg d' (woken P g g' w2 o) s:=by
 obtain ⟨m,rfl⟩:=ol.out
 subst hd
 show QuitsD P m d' _
 rw [woken_fin (QuitsD.status hs)];exact hs
theorem Cfg.own {gs gs':Array Goroutine} {w w':World} {t u:Trace} {M M':MN P cv L Em} {sl sl':List (Slot P cv L)} {hp:Nat→Hp} {a:Nat} {h':Hp} {fr':Frame} {cs':List Frame}
  (c:Cfg W0 gs w t M sl hp) (ha:a≤sl.length) (o:Own a (hp a) w w' h' u) (kn:Kn t (Knows t a) (hp a)) (q:Gs P a gs gs' (G fr' cs')) (s:Sl a sl sl' h') (hx:M'.x=M.x) (hh:M'.h=put hp a h' 0)
  (hm:a≠0→M'=M) (hm0:a=0→M'.fr=fr'∧M'.cs=cs') (hs:∀ j n',j+1=a→sl'[j]?=some (.act n')→n'.fr=fr'∧n'.cs=cs'):Cfg W0 gs' w' (t++u) M' sl' (put hp a h') where
 size:=by rw [q.size,s.len];exact c.size
 main:=by
  by_cases h0:a=0
  ·subst h0
   obtain ⟨e1,e2⟩:=hm0 rfl
   exact ⟨_,q.self,.inl (by rw [e1,e2];exact runs_G)⟩
  ·rw [hm h0]
   obtain ⟨g,h1,h2⟩:=c.main
   obtain ⟨x,x',w2,h3⟩:=q.other 0 g (fun e=>h0 e.symm) h1
   exact ⟨_,h3,h2.woken⟩
 thr:=fun i sx hi=>by
  by_cases hia:i+1=a
  ·obtain ⟨n,n',h1,h2,h3,h4⟩:=s.self i hia
   rw [h2] at hi;cases hi
   obtain ⟨e1,e2⟩:=hs i n' hia h2
   exact ⟨_,by rw [hia];exact q.self,.inl (by rw [e1,e2];exact runs_G)⟩
  ·rw [s.other i hia] at hi
   obtain ⟨g,h1,h2⟩:=c.thr i sx hi
   obtain ⟨x,x',w2,h3⟩:=q.other (i+1) g hia h1
   refine ⟨_,h3,?_⟩
   have hd:Deaf (t++u) (i+1)=Deaf t (i+1):=Deaf_others fun op ho e=>hia (by rw [← e,o.g op ho])
   have hgame:=c.game
   rw [hx]
   cases hM:M.x with
   | idle=>rw [hM] at hgame h2;exact old_woken (hgame.old i sx hi) hd h2
   | game X =>
    rw [hM] at hgame h2
    obtain ⟨nb,hG⟩:=hgame
    obtain ⟨p1,p2,hp'⟩:=hG.wg.ex
    exact slot_woken hd (fun _=>⟨_,_,own_wg o.guar (c.mem.fits a) (hG.nowg a) hp'⟩) h2
 mem:=c.mem.own o kn
 aft:=by rw [hx];exact c.aft.own_step o
 hp0:=hh.symm
 hpn:=fun i hi=>by
  rw [s.len] at hi
  rw [put_ne (by omega)];exact c.hpn i hi
 tg:=fun i op hi=>by
  rw [s.len]
  rcases getElem?_append_cases hi with ⟨_,h⟩ | ⟨_,h⟩
  ·exact c.tg i op h
  ·rw [o.g op h];exact ha
 kn0:=by
  by_cases h0:a=0
  ·subst h0;rw [put_self];exact (kn_step (c.mem.nr false) kn c.mem.low o.guar o.g o.mine).2.1
  ·rw [put_ne fun e=>h0 e.symm]
   exact kn_other c.kn0 (fun j hj=>hj.app u) (c.mem.sep a 0 h0) (c.mem.fits 0) o.mine
 game:=by
  have hgame:=c.game
  rw [hx]
  cases hM:M.x with
  | idle =>
   rw [hM] at hgame
   refine ⟨fun i sx hi=>?_,by rw [Deaf_plain o.plain];exact hgame.deaf,fun g0 hg hb=>?_⟩
   ·by_cases hia:i+1=a
    ·obtain ⟨n,n',h1,h2,h3,h4⟩:=s.self i hia
     obtain ⟨m',e⟩:=(hgame.old i _ h1).out
     cases e
    ·rw [s.other i hia] at hi
     rw [put_ne hia]
     exact (hgame.old i sx hi).app fun op ho e=>hia (by rw [← e,o.g op ho])
   ·by_cases h0:0=a
    ·subst h0;rw [q.self] at hg;cases hg;cases hb
    ·exact hgame.runs g0 (q.back _ _ h0 hg hb) hb
  | game X =>
   rw [hM] at hgame
   obtain ⟨nb,hG⟩:=hgame
   exact ⟨nb,hG.own c.mem o kn q s (by intro e;cases e)⟩
 pool:=by
  rw [hx]
  refine c.pool.step (fun pl _ hsp hf=>⟨fits_other o.guar (hsp a) (c.mem.fits a) hf,fun i=>?_,fun op ho b hb x y hl=>?_⟩) s.len fun g wg m q i sx' hi=>?_
  ·by_cases hi:i=a
   ·subst hi;rw [put_self];exact sep_other o.guar (hsp i) hf
   ·rw [put_ne hi];exact hsp i
  ·rcases o.mine op ho b hb with ⟨bl,o2,h1,_,h3⟩ | ⟨r,h1,_⟩
   ·rw [h1] at hl;cases hl
    rcases h3 with h3 | h3 | ⟨hw,h3⟩
    ·exact ⟨none_of fun v e=>by have:=cell_lt (hf.own _ _ _ e);omega,fun _=>none_of fun v e=>by have:=cell_lt (hf.ro _ _ _ e);omega⟩
    ·obtain ⟨v,hv⟩:=Option.isSome_iff_exists.1 h3
     exact ⟨(hsp a).oo _ _ _ hv,fun _=>(hsp a).wr _ _ _ hv⟩
    ·obtain ⟨v,hv⟩:=Option.isSome_iff_exists.1 h3
     exact ⟨(hsp a).rw _ _ _ hv,fun h=>by rw [hw] at h;cases h⟩
   ·rw [h1] at hl;cases hl
  ·by_cases hia:i+1=a
   ·obtain ⟨n,n',h1,h2,h3,h4⟩:=s.self i hia
    rw [h2] at hi;cases hi
    exact ⟨_,h1,fun ⟨n2,e,h⟩=>⟨n2,h3.trans e,h⟩⟩
   ·exact ⟨sx',by rw [← s.other i hia];exact hi,fun h=>by rw [put_ne hia];exact h⟩
theorem cfg_priv0 {gs:Array Goroutine} {w:World} {t:Trace} {fr:Frame} {cs:List Frame} {h:Hp} {x:MX} {r:Run P (mHand P cv L.done L.tWg) true Em fr cs h x} {sl:List (Slot P cv L)} {hp:Nat→Hp} {g:Goroutine} {sc:Option (Nat × Nat)}
  (c:Cfg W0 gs w t (⟨fr,cs,h,x,r⟩:MN P cv L Em) sl hp) (hg:gs[0]?=some g) (hr:Runs g fr cs) (nx:Nx P Still true fr cs h w) (r':Run P (mHand P cv L.done L.tWg) true Em nx.fr' nx.cs' nx.h' x) :
  ∃ gs' ops,runT P (crowd gs w sc) 0=(.next (crowd gs' nx.w' sc),ops)∧Cfg W0 gs' nx.w' (t++ops) (⟨nx.fr',nx.cs',nx.h',x,r'⟩:MN P cv L Em) sl (put hp 0 nx.h'):=by
 have hst:stepG P ((0:Nat) == 0) g w=.go (G nx.fr' nx.cs') nx.w' nx.es:=by rw [hr.step];exact nx.step
 have h0:hp 0=h:=c.hp0
 refine ⟨_,_,runT_crowd_go hg hst,?_⟩
 refine Cfg.own c (Nat.zero_le _) (by rw [h0];exact own_of_events nx.guar nx.evs) c.kn0 (gs_go hg) ⟨rfl,fun j _=>rfl,fun j hj=>by omega⟩ rfl (by rw [put_self]) (fun e=>absurd rfl e) (fun _=>⟨rfl,rfl⟩) (fun j n' hj=>by omega)
theorem cfg_priv1 {gs:Array Goroutine} {w:World} {t:Trace} {M:MN P cv L Em} {sl:List (Slot P cv L)} {hp:Nat→Hp} {g:Goroutine} {sc:Option (Nat × Nat)} {i:Nat} {fr:Frame} {cs:List Frame} {h:Hp} {x:TX} {r:Run P (tHand P cv) false (tEnd P L.done) fr cs h x}
  (c:Cfg W0 gs w t M sl hp) (hi:sl[i]?=some (.act ⟨fr,cs,h,x,r⟩)) (hg:gs[i+1]?=some g) (hr:Runs g fr cs) (nx:Nx P Still false fr cs h w) (r':Run P (tHand P cv) false (tEnd P L.done) nx.fr' nx.cs' nx.h' x) :
  ∃ gs' ops,runT P (crowd gs w sc) (i+1)=(.next (crowd gs' nx.w' sc),ops)∧Cfg W0 gs' nx.w' (t++ops) M (sl.set i (.act ⟨nx.fr',nx.cs',nx.h',x,r'⟩)) (put hp (i+1) nx.h'):=by
 have hlt:i<sl.length:=(List.getElem?_eq_some_iff.1 hi).1
 have hst:stepG P (i+1 == 0) g w=.go (G nx.fr' nx.cs') nx.w' nx.es:=by rw [hr.step];exact nx.step
 have hkn:Kn t (Knows t (i+1)) (hp (i+1))∧h=hp (i+1):=by
  have hgame:=c.game
  cases hM:M.x with
  | idle=>rw [hM] at hgame;obtain ⟨m',e⟩:=(hgame.old i _ hi).out;cases e
  | game X =>
   rw [hM] at hgame
   obtain ⟨nb,hG⟩:=hgame
   by_cases hin:i<nb
   ·obtain ⟨m',e⟩:=(hG.old i _ hin hi).out;cases e
   ·have:=hG.know (i-nb) _ (by rw [Nat.add_sub_cancel' (by omega)];exact hi)
    rw [Nat.add_sub_cancel' (by omega)] at this
    exact ⟨this.1,this.2.1⟩
 obtain ⟨hkn,he⟩:=hkn
 refine ⟨_,_,runT_crowd_go hg hst,?_⟩
 refine Cfg.own c (by omega) (by rw [← he];exact own_of_events nx.guar nx.evs) hkn (gs_go hg) ⟨by simp,fun j hj=>by rw [List.getElem?_set_ne (by omega)],fun j hj=>?_⟩ rfl (by rw [put_ne (by omega)];exact c.hp0.symm) (fun _=>rfl) (fun e=>by omega) (fun j n' hj hn=>?_)
 ·obtain rfl:j=i:=by omega
  exact ⟨_,⟨nx.fr',nx.cs',nx.h',x,r'⟩,hi,by simp [hlt],rfl,rfl⟩
 ·obtain rfl:j=i:=by omega
  simp [hlt] at hn
  subst hn
  exact ⟨rfl,rfl⟩
end Go.PB
namespace Go.PB
open Go.Conc Go.Conc.Lib
open Go.ConcR (KK stA smA rd wr mk DC0)
variable {W0:World} {P:Program} {cv:Value} {L:WgLink} {Em:Frame→List Frame→Hp→MX→Prop}
theorem fits_wg {h:Hp} {w w':World} {ty:TypeId} {wg:Nat} {a b a' b':Int} (f:Fits h w) (hn:∀ o,h.own wg o=none∧h.ro wg o=none) (e:WgAt ty wg w a b) (e':WgAt ty wg w' a' b') (hw:∀ c,c≠wg→w'.heap[c]?=w.heap[c]?):Fits h w':=by
 obtain ⟨fz,e,_⟩:=e
 obtain ⟨fz',e',_⟩:=e'
 have hc:∀ c o,c≠wg→w'.cell? ⟨c,o,none⟩=w.cell? ⟨c,o,none⟩:=fun c o hne=>by unfold World.cell?;rw [hw c hne]
 have hfz:∀ c o,c≠wg→w'.frozen? ⟨c,o,none⟩=w.frozen? ⟨c,o,none⟩:=fun c o hne=>by unfold World.frozen?;rw [hw c hne]
 have no:∀ c o v,h.own c o=some v→c≠wg:=fun c o v hv he=>by subst he;rw [(hn o).1] at hv;cases hv
 have nr:∀ c o v,h.ro c o=some v→c≠wg:=fun c o v hv he=>by subst he;rw [(hn o).2] at hv;cases hv
 refine ⟨fun c o v hv=>by rw [hc _ _ (no _ _ _ hv)];exact f.own _ _ _ hv,fun c o v hv=>by rw [hfz _ _ (no _ _ _ hv)];exact f.thaw _ _ _ hv,fun c o v hv=>by rw [hc _ _ (nr _ _ _ hv)];exact f.ro _ _ _ hv,f.disj,fun c ob hv=>?_,f.objn,fun c y hv=>?_⟩
 ·by_cases hcw:c=wg
  ·subst hcw
   have h1:=f.obj _ _ hv
   rw [e] at h1;cases h1
   have:=f.objn _ _ hv
   simp [isCells] at this
  ·rw [hw c hcw];exact f.obj _ _ hv
 ·by_cases hcw:c=wg
  ·subst hcw
   have h1:=f.shp _ _ hv
   unfold World.shape? at h1 ⊢
   rw [e] at h1;rw [e']
   simpa using h1
  ·unfold World.shape?;rw [hw c hcw];exact f.shp _ _ hv
structure Shy (wg a:Nat) (u:Trace):Prop where
 g:∀ op∈u,op.g=a
 touch:∀ op∈u,∀ b,op.act.touch?=some b→(∃ o,o<2∧b.loc=.cell ⟨wg,o,none⟩)∧b.kind=.atomic
 norel:∀ op∈u,∀ a,op.act≠.mark (.release a)
theorem shy_race {said:Bool} {t u:Trace} {wg a:Nat} (nr:¬ Race said t) (s:Shy wg a u) (h:∀ i b o,o<2→touchAt t i=some b→b.loc=.cell ⟨wg,o,none⟩→(b.kind≠.plain∧(b.kind=.said→t.g? i=some 0))∨Knows t a i):¬ Race said (t++u) :=
 noRace_append nr s.g fun i b hb op ho b' hb' hc=>by
  obtain ⟨⟨o,ho2,h1⟩,h2⟩:=s.touch op ho b' hb'
  obtain ⟨hl,_,_,h3⟩:=hc
  rw [h1] at hl
  rcases h i b o ho2 hb hl with this | hk
  rotate_left
  ·exact hk
  rcases h3 with h3 | h3 | ⟨_,_,h3⟩
  ·exact absurd h3 this.1
  ·rw [h2] at h3;cases h3
  ·rw [h2] at h3;cases h3
theorem shy_kn {t u:Trace} {K K':Nat→Prop} {h:Hp} {wg a:Nat} (kn:Kn t K h) (hK:∀ j,K j→K' j) (s:Shy wg a u) (hn:∀ o,h.own wg o=none∧h.ro wg o=none):Kn (t++u) K' h where
 own:=fun b o v e i b' hb hl=>by
  rcases touch_split hb with hb | ⟨op,ho,_,h2⟩
  ·exact hK _ (kn.own _ _ _ e _ _ hb hl)
  ·obtain ⟨⟨o',_,h1⟩,_⟩:=s.touch op ho b' h2
   rw [h1] at hl;cases hl;rw [(hn o).1] at e;cases e
 ro:=fun b o v e i b' hb hl hw=>by
  rcases touch_split hb with hb | ⟨op,ho,_,h2⟩
  ·exact hK _ (kn.ro _ _ _ e _ _ hb hl hw)
  ·obtain ⟨⟨o',_,h1⟩,_⟩:=s.touch op ho b' h2
   rw [h1] at hl;cases hl;rw [(hn o).2] at e;cases e
 obj:=fun b v e i b' hb hl=>by
  rcases touch_split hb with hb | ⟨op,ho,_,h2⟩
  ·exact hK _ (kn.obj _ _ e _ _ hb hl)
  ·obtain ⟨⟨o',_,h1⟩,_⟩:=s.touch op ho b' h2
   rw [h1] at hl;cases hl
theorem Mem.shy {w w':World} {t u:Trace} {hp:Nat→Hp} {wg a:Nat} {ty:TypeId} {p q p' q':Int} (m:Mem w t hp) (s:Shy wg a u) (hn:∀ i o,(hp i).own wg o=none∧(hp i).ro wg o=none)
  (h:∀ i b o,o<2→touchAt t i=some b→b.loc=.cell ⟨wg,o,none⟩→(b.kind≠.plain∧(b.kind=.said→t.g? i=some 0))∨Knows t a i) (e:WgAt ty wg w p q) (e':WgAt ty wg w' p' q') (hw:∀ c,c≠wg→w'.heap[c]?=w.heap[c]?) (hs:w'.heap.size=w.heap.size):Mem w' (t++u) hp where
 fits:=fun i=>fits_wg (m.fits i) (hn i) e e' hw
 sep:=m.sep
 nr:=fun said=>shy_race (m.nr said) s h
 low:=fun i b hb=>by
  rw [hs]
  rcases touch_split hb with hb | ⟨op,ho,_,h2⟩
  ·exact m.low i b hb
  ·obtain ⟨⟨o',_,h1⟩,_⟩:=s.touch op ho b h2
   exact ⟨fun d hd=>(by rw [h1] at hd;cases hd;exact wgAt_lt e),fun r hr=>by rw [h1] at hr;cases hr⟩
 norel:=fun op ho b=>(Array.mem_append.1 ho).elim (fun ho=>m.norel op ho b) (fun ho=>s.norel op ho b)
theorem Cfg.slot {gs gs':Array Goroutine} {w w':World} {t u:Trace} {M:MN P cv L Em} {sl:List (Slot P cv L)} {hp:Nat→Hp} {X:GX} {nb j:Nat} {s s':Slot P cv L} {g':Goroutine}
  (c:Cfg W0 gs w t M sl hp) (hX:M.x=.game X) (hG:GameAt X gs w t sl hp nb) (hs:sl[nb+j]?=some s) (q:Gs P (nb+j+1) gs gs' g') (hr:g'.status≠.blocked)
  (hsd:Side w w') (hw:∀ b,b≠X.wg→w'.heap[b]?=w.heap[b]?) (hsz:w'.heap.size=w.heap.size) (ph:WgPh L X ((sl.map Slot.stage).set (nb+j) s'.stage) w') (sh:Shy X.wg (nb+j+1) u)
  (sg:SlotG w' X.wg (Deaf (t++u) (nb+j+1)) g' s') (sk:SlotKn (t++u) X.wg (nb+j+1) (hp (nb+j+1)) s') (sa:∀ c:St X,X.seats[j]?=some c→SeatAt X c (hp (nb+j+1)) s')
  (sp:∀ (g:Game) (wg m:Nat) (q:g.θ) (h:Hp),FreeSt wg m q h s→FreeSt wg m q h s')
  (hsl:∀ g0,gs'[0]?=some g0→g0.status=.blocked→g0.offers=none→¬ WgAt L.tWg X.wg w' 0 1):Cfg W0 gs' w' (t++u) M (sl.set (nb+j) s') hp:=by
 have hlt:nb+j<sl.length:=(List.getElem?_eq_some_iff.1 hs).1
 obtain ⟨p1,p2,e1⟩:=hG.wg.ex
 obtain ⟨p3,p4,e2⟩:=ph.ex
 have hwg0:W0.heap.size≤X.wg:=by have:=c.aft.game;rw [hX] at this;exact this.1
 have hng:∀ i,i≠nb+j+1→∀ op∈u,op.g≠i:=fun i hi op ho e=>hi (by rw [← e,sh.g op ho])
 have hrl:RL L.tWg X.wg w w':=fun _=>⟨_,_,e2⟩
 have hmem:=c.mem.shy sh hG.nowg (fun i b o ho2 hb hl=>(hG.wgt i b o ho2 hb hl).imp id fun k=>k.2 j (by have:=hG.len;omega)) e1 e2 hw hsz
 refine ⟨by rw [q.size,List.length_set];exact c.size,?_,fun i sx hi=>?_,hmem,c.aft.at_block hwg0 hsd hw hsz c.aft.game,c.hp0,fun i hi=>c.hpn i (by simpa using hi),fun i op hi=>?_,?_,?_,?_⟩
 ·obtain ⟨g,h1,h2⟩:=c.main
  obtain ⟨x,x',w2,h3⟩:=q.other 0 g (by omega) h1
  exact ⟨_,h3,h2.woken⟩
 ·rw [hX]
  by_cases hij:i=nb+j
  ·subst hij
   simp [hlt] at hi
   subst hi
   exact ⟨_,q.self,sg⟩
  ·rw [List.getElem?_set_ne fun e=>hij e.symm] at hi
   obtain ⟨g,h1,h2⟩:=c.thr i sx hi
   rw [hX] at h2
   obtain ⟨x,x',w2,h3⟩:=q.other (i+1) g (by omega) h1
   exact ⟨_,h3,slot_woken (Deaf_others (hng _ (by omega))) hrl h2⟩
 ·simp only [List.length_set]
  rcases getElem?_append_cases hi with ⟨_,h⟩ | ⟨_,h⟩
  ·exact c.tg i op h
  ·rw [sh.g op h];omega
 ·exact shy_kn c.kn0 (fun j h=>h.app u) sh (hG.nowg 0)
 ·rw [hX]
  refine ⟨nb,⟨by rw [List.length_set];exact hG.len,fun i sx hi hc=>?_,fun k cx hc=>?_,fun k sx hc=>?_,fun k cx hc b hb=>?_,hG.dist,hG.noch,hG.nowg,by simpa only [List.map_set] using ph,fun i b o ho2 hb hl=>?_,?_,hG.tok0,hG.tok1,hG.adp,hG.ads,hG.adl,fun k cx g hc hg hsx hb=>?_,fun g0 cases shp hg hb ho=>?_,fun g0 hg hb ho=>⟨?_,hsl g0 hg hb ho⟩,fun k cx b i x hc hb hx hl=>?_⟩⟩
  ·rw [List.getElem?_set_ne (by omega)] at hc
   exact (hG.old i sx hi hc).app (hng _ (by omega))
  ·obtain ⟨sx,h1,h2⟩:=hG.seat k cx hc
   by_cases hkj:k=j
   ·subst hkj;exact ⟨s',by simp [hlt],sa cx hc⟩
   ·exact ⟨sx,by rw [List.getElem?_set_ne (by omega)];exact h1,h2⟩
  ·by_cases hkj:k=j
   ·subst hkj
    simp [hlt] at hc
    subst hc;exact sk
   ·rw [List.getElem?_set_ne (by omega)] at hc
    exact (hG.know k sx hc).app (hng _ (by omega)) fun kk hK=>shy_kn kk hK sh (hG.nowg _)
  ·obtain ⟨n,e⟩:=hG.chan k cx hc b hb
   refine ⟨n,?_⟩
   rw [hw _ fun he=>?_]
   ·exact e
   ·obtain ⟨_,e1,_⟩:=e1;rw [he] at e;rw [e1] at e;cases e
  ·rcases touch_split hb with hb | ⟨op,ho,hi,h2⟩
   ·rcases hG.wgt i b o ho2 hb hl with this | ⟨k0,k1⟩
    ·refine .inl ⟨this.1,fun hsd=>?_⟩
     have h1:=this.2 hsd
     rw [g?_app (g?_lt h1)];exact h1
    ·exact .inr ⟨k0.app u,fun j hj=>(k1 j hj).app u⟩
   ·have:=(sh.touch op ho b h2).2
    rw [this];exact .inl ⟨by simp,fun h=>by cases h⟩
  ·rw [Deaf_others (hng 0 (by omega))];exact hG.deaf
  ·by_cases hkj:k=j
   ·subst hkj;rw [q.self] at hg;cases hg;exact hr hb
   ·exact hG.live k cx g hc (q.back _ _ (by omega) hg hb) hsx hb
  ·obtain ⟨k,cx,h1,h2,h3,h4⟩:=hG.park g0 cases shp (q.back _ _ (by omega) hg hb) hb ho
   refine ⟨k,cx,h1,h2,h3,fun g hg2 hb2=>?_⟩
   by_cases hkj:k=j
   ·subst hkj;rw [q.self] at hg2;cases hg2;exact hr hb2
   ·exact h4 g (q.back _ _ (by omega) hg2 hb2) hb2
  ·exact (hG.sleep g0 (q.back _ _ (by omega) hg hb) hb ho).1
  ·rcases touch_split hx with hx | ⟨op,ho,_,h2⟩
   ·exact (hG.cht k cx b i x hc hb hx hl).app u
   ·obtain ⟨⟨o',_,h1⟩,_⟩:=sh.touch op ho x h2
    rw [h1] at hl;cases hl
 ·refine c.pool.step (fun pl hw' hs' hf=>⟨fits_wg hf (hw' X hX) e1 e2 hw,hs',fun op ho b hb x y hl=>?_⟩) (by rw [List.length_set]) fun g wg m q i sx' hi=>?_
  ·obtain ⟨⟨o',_,h1⟩,_⟩:=sh.touch op ho b hb
   rw [h1] at hl;cases hl
   exact ⟨(hw' X hX _).1,fun _=>(hw' X hX _).2⟩
  ·by_cases hij:i=nb+j
   ·subst hij
    simp [hlt] at hi
    subst hi
    exact ⟨s,hs,sp g wg m q _⟩
   ·rw [List.getElem?_set_ne fun e=>hij e.symm] at hi
    exact ⟨sx',hi,id⟩
end Go.PB
namespace Go.PB
open Go.Conc Go.Conc.Lib
open Go.ConcR (KK stA smA rd wr mk DC0)
theorem count_set {p:Nat→Bool}:∀ {l:List Nat} {i a:Nat} (b:Nat),l[i]?=some a→((l.set i b).filter p).length+(if p a then 1 else 0)=(l.filter p).length+(if p b then 1 else 0)
 | x::l,0,a,b,h=>by
  simp at h;subst h
  simp only [List.set_cons_zero,List.filter_cons]
  cases p b <;> cases p x <;> simp
 | x::l,i+1,a,b,h=>by
  have ih:=count_set (p:=p) (l:=l) (i:=i) b (by simpa using h)
  simp only [List.set_cons_succ,List.filter_cons]
  cases p x <;> simp <;> omega
 | [],i,a,b,h=>by simp at h
theorem count_pos {p:Nat→Bool} {l:List Nat} {i a:Nat} (h:l[i]?=some a) (hp:p a=true):0<(l.filter p).length :=
 List.length_pos_of_mem (List.mem_filter.2 ⟨List.mem_of_getElem? h,hp⟩)
theorem count_one {p:Nat→Bool} {l:List Nat} {i a:Nat} (h:l[i]?=some a) (hp:p a=true) (h0:p 0=false) (h1:(l.filter p).length=1):∀ j k,l[j]?=some k→j≠i→p k=false:=by
 intro j k hj hne
 have:=count_set (p:=p) 0 h
 rw [hp,h0,h1] at this
 simp at this
 by_cases hk:p k=true
 ·have h2:(l.set i 0)[j]?=some k:=by rw [List.getElem?_set_ne fun e=>hne e.symm];exact hj
  have:=this k (List.mem_of_getElem? h2)
  rw [hk] at this;cases this
 ·simpa using hk
theorem count_tail {p:Nat→Bool} (h0:p 0=false):∀ {l:List Nat} {n:Nat},(∀ i k,i<n→l[i]?=some k→k=0)→(l.filter p).length≤l.length-n
 | [],n,_=>by simp
 | x::l,0,_=>by simpa using List.length_filter_le p (x::l)
 | x::l,n+1,h=>by
  have hx:x=0:=h 0 x (by omega) rfl
  subst hx
  have:=count_tail (p:=p) h0 (l:=l) (n:=n) fun i k hi hk=>h (i+1) k (by omega) (by simpa using hk)
  simp only [List.filter_cons,h0]
  simpa using this
section
variable {L:WgLink} {X:GX} {st:List Nat} {w w':World} {I:Nat}
theorem WgPh.far {a b:Nat} (p:WgPh L X st w) (hi:st[I]?=some a) (ha:4≤a) (hb:4≤b) (h:∀ x y,WgAt L.tWg X.wg w x y→WgAt L.tWg X.wg w' x y):WgPh L X (st.set I b) w':=by
 have hlt:=(List.getElem?_eq_some_iff.1 hi).1
 cases p with
 | quiet v wt at_ hv late hw park bb =>
  have:=count_set (p:=fun k=>decide (4≤k)) b hi
  simp only [ha,hb,decide_true,if_true] at this
  refine .quiet v wt (h _ _ at_) (by omega) (fun k hk=>?_) hw park bb
  rcases List.mem_or_eq_of_mem_set hk with hk | rfl
  ·exact late k hk
  ·exact .inr hb
 | late p i k hik hk at_ oth =>
  exfalso
  by_cases e:I=i
  ·subst e;rw [hi] at hik;cases hik;omega
  ·have:=oth I a hi e;omega
 | late1 p i hik at_ oth =>
  exfalso
  by_cases e:I=i
  ·subst e;rw [hi] at hik;cases hik;omega
  ·have:=oth I a hi e;omega
 | free p at_ oth=>exfalso;have:=oth a (List.mem_of_getElem? hi);omega
theorem WgPh.same {a:Nat} (p:WgPh L X st w) (hi:st[I]?=some a) (h:∀ x y,WgAt L.tWg X.wg w x y→WgAt L.tWg X.wg w' x y):WgPh L X (st.set I a) w':=by
 have hlt:=(List.getElem?_eq_some_iff.1 hi).1
 have e:st.set I a=st:=by
  apply List.ext_getElem?
  intro j
  by_cases hj:I=j
  ·subst hj;rw [List.getElem?_set_self hlt,hi]
  ·rw [List.getElem?_set_ne hj]
 rw [e]
 exact p.at h
theorem WgPh.at4 (p:WgPh L X st w) (hi:st[I]?=some 4):∃ v wt:Nat,WgAt L.tWg X.wg w (v*KK+wt) 0∧v+(X.seats.length+X.nf)=(st.filter fun k=>decide (4≤k)).length+X.ad∧(∀ k∈st,k=0∨4≤k) ∧
  wt=(match X.wt with | .parked=>1 | _=>0)∧(X.wt=.parked→0<v)∧(match X.wt with | .wait b=>v≤b | .seen v0=>v≤v0 | .woken=>v=0 | .zero=>v=0 | _=>True):=by
 cases p with
 | quiet v wt at_ hv late hw park bb=>exact ⟨v,wt,at_,hv,late,hw,park,bb⟩
 | late p i k hik hk at_ oth =>
  exfalso
  by_cases e:I=i
  ·subst e;rw [hi] at hik;cases hik;omega
  ·have:=oth I 4 hi e;omega
 | late1 p i hik at_ oth =>
  exfalso
  by_cases e:I=i
  ·subst e;rw [hi] at hik;cases hik
  ·have:=oth I 4 hi e;omega
 | free p at_ oth=>exfalso;have:=oth 4 (List.mem_of_getElem? hi);omega
theorem WgPh.at23 {k:Nat} (p:WgPh L X st w) (hi:st[I]?=some k) (hk:k=3∨k=2):X.wt=.parked∧WgAt L.tWg X.wg w 1 0∧∀ j k,st[j]?=some k→j≠I→k=0:=by
 cases p with
 | quiet v wt at_ hv late hw park bb=>exfalso;have:=late k (List.mem_of_getElem? hi);omega
 | late p i k' hik hk' at_ oth =>
  by_cases e:I=i
  ·subst e;exact ⟨p,at_,oth⟩
  ·exfalso;have:=oth I k hi e;omega
 | late1 p i hik at_ oth =>
  exfalso
  by_cases e:I=i
  ·subst e;rw [hi] at hik;cases hik;omega
  ·have:=oth I k hi e;omega
 | free p at_ oth=>exfalso;have:=oth k (List.mem_of_getElem? hi);omega
theorem WgPh.at1 (p:WgPh L X st w) (hi:st[I]?=some 1):X.wt=.parked∧WgAt L.tWg X.wg w 0 0∧∀ j k,st[j]?=some k→j≠I→k=0:=by
 cases p with
 | quiet v wt at_ hv late hw park bb=>exfalso;have:=late 1 (List.mem_of_getElem? hi);omega
 | late p i k' hik hk' at_ oth =>
  exfalso
  by_cases e:I=i
  ·subst e;rw [hi] at hik;cases hik;omega
  ·have:=oth I 1 hi e;omega
 | late1 p i hik at_ oth =>
  by_cases e:I=i
  ·subst e;exact ⟨p,at_,oth⟩
  ·exfalso;have:=oth I 1 hi e;omega
 | free p at_ oth=>exfalso;have:=oth 1 (List.mem_of_getElem? hi);omega
theorem WgPh.notFree {k:Nat} (p:WgPh L X st w) (hi:st[I]?=some k) (hk:0<k):¬ WgAt L.tWg X.wg w 0 1:=by
 intro hx
 cases p with
 | quiet v wt at_ hv late hw park bb=>exact absurd (at_.unique hx).2 (by decide)
 | late p i k' hik hk' at_ oth=>exact absurd (at_.unique hx).2 (by decide)
 | late1 p i hik at_ oth=>exact absurd (at_.unique hx).2 (by decide)
 | free p at_ oth=>have:=oth k (List.mem_of_getElem? hi);omega
end
def EvShy (wg:Nat) (e:Event):Prop:=(∃ m,e=⟨.mark m,false,true⟩∧(MemAct.mark m).touch?=none∧∀ a,m≠.release a)∨∃ o wr,e=⟨.cell ⟨wg,o,none⟩,wr,true⟩∧o<2
theorem evShy_act {wg:Nat} {e:Event} (h:EvShy wg e):(∀ b,(MemAct.ofEvent e).touch?=some b→(∃ o,o<2∧b.loc=.cell ⟨wg,o,none⟩)∧b.kind=.atomic)∧∀ a,MemAct.ofEvent e≠.mark (.release a):=by
 rcases h with ⟨m,rfl,h1,h2⟩ | ⟨o,wr,rfl,ho2⟩
 ·refine ⟨fun b hb=>?_,fun a ha=>?_⟩
  ·have:(MemAct.ofEvent ⟨.mark m,false,true⟩).touch?=none:=h1
   rw [this] at hb;cases hb
  ·have:MemAct.ofEvent ⟨.mark m,false,true⟩=.mark m:=rfl
   rw [this] at ha;cases ha;exact h2 a rfl
 ·refine ⟨fun b hb=>?_,fun a ha=>?_⟩
  ·have:(MemAct.ofEvent ⟨.cell ⟨wg,o,none⟩,wr,true⟩).touch?=some ⟨.cell ⟨wg,o,none⟩,wr,.atomic⟩:=by cases wr <;> rfl
   rw [this] at hb;cases hb;exact ⟨⟨o,ho2,rfl⟩,rfl⟩
  ·cases wr <;> cases ha
theorem shy_of {wg a:Nat} {fn:FuncId} {pos:String} {es:Array Event} (h:∀ e∈es,EvShy wg e):Shy wg a (MemOp.ofEvents a fn pos es) where
 g:=fun op ho=>by obtain ⟨e,_,rfl⟩:=ofEvents_mem ho;rfl
 touch:=fun op ho b hb=>by obtain ⟨e,h1,rfl⟩:=ofEvents_mem ho;exact (evShy_act (h e h1)).1 b hb
 norel:=fun op ho b=>by obtain ⟨e,h1,rfl⟩:=ofEvents_mem ho;exact (evShy_act (h e h1)).2 b
theorem allK_deaf {t:Trace} {K K':Nat→Prop} {a wg:Nat} {fn:FuncId} {pos:String} {es:Array Event} (h:AllK t a K) (hK:∀ j,K j→K' j) (hes:∀ e∈es,EvShy wg e)
  (hd:∀ (j:Nat) (e:Event),es[j]?=some e→(MemAct.ofEvent e).touch?≠none→0<deafBehind (Deaf t a) (es.extract 0 j)):AllK (t++MemOp.ofEvents a fn pos es) a K':=by
 intro j hj hc
 rcases Nat.lt_or_ge j t.size with hlt | hge
 ·exact hK _ (h j (by rw [← g?_app hlt];exact hj) ((counts_old hlt).1 hc))
 ·exfalso
  obtain ⟨x,h1,h2,h3⟩:=hc
  obtain ⟨op,ho,hx⟩:=touch_of h1
  obtain ⟨i,rfl⟩:∃ i,j=t.size+i:=⟨j-t.size,by omega⟩
  have ho':(MemOp.ofEvents a fn pos es)[i]?=some op:=by
   rw [Array.getElem?_append_right (by omega)] at ho
   simpa using ho
  rw [ofEvents_eq] at ho'
  rw [Array.getElem?_map] at ho'
  obtain ⟨e,he,rfl⟩:=Option.map_eq_some_iff.1 ho'
  have hem:e∈es:=Array.mem_of_getElem? he
  have hk:=((evShy_act (hes e hem)).1 x hx).2
  rcases h3 with h3 | ⟨g,hg,hd0⟩
  ·exact h3 hk
  ·have hlt:=(Array.getElem?_eq_some_iff.1 he).1
   rw [hj] at hg;cases hg
   rw [deaf_inside t a fn pos es i (by omega)] at hd0
   have:=hd i e he (by rw [hx];simp)
   omega
end Go.PB
namespace Go.PB
open Go.Conc Go.Conc.Lib
open Go.ConcR (KK stA smA rd wr mk DC0)
variable {W0:World} {P:Program} {cv:Value} {L:WgLink} {Em:Frame→List Frame→Hp→MX→Prop}
theorem again_offers {o:Goroutine} {w:World} (h:(o.again w).status=.blocked):(o.again w).offers≠none:=by
 intro hn
 rcases ho:o.offers with _ | ⟨a,b⟩ <;> cases hs:o.status <;> simp only [Goroutine.again,hs,ho] at h hn <;> first | (cases h;done) | (rw [hs] at h;cases h;done) | (split at hn <;> (simp only [ho] at hn;cases hn;done)) | (rw [ho] at hn;cases hn;done) | skip
theorem g?_of {t:Trace} {i:Nat} {op:MemOp} (h:t[i]?=some op):t.g? i=some op.g:=by simp [Trace.g?,h]
theorem setCell_ne {w:World} {a:Addr} {v:Value} {b:Nat} (h:b≠a.block):(w.setCell a v).heap[b]?=w.heap[b]?:=by
 unfold World.setCell
 simp only [Array.getElem?_modify]
 rw [if_neg fun e=>h e.symm]
theorem setCell_size {w:World} {a:Addr} {v:Value}:(w.setCell a v).heap.size=w.heap.size:=by
 unfold World.setCell;simp
theorem leaves_shy {t:Trace} {wg a:Nat} {h:Hp} {fn:FuncId} {pos:String} {es:Array Event} (k:∃ p,Rel t wg a p∧Kn t (fun j=>Before t j p) h∧AllK t a fun j=>Before t j p) (hn:∀ o,h.own wg o=none∧h.ro wg o=none) (hes:∀ e∈es,EvShy wg e)
  (hd:∀ (j:Nat) (e:Event),es[j]?=some e→(MemAct.ofEvent e).touch?≠none→0<deafBehind (Deaf t a) (es.extract 0 j)) :
  ∃ p,Rel (t++MemOp.ofEvents a fn pos es) wg a p∧Kn (t++MemOp.ofEvents a fn pos es) (fun j=>Before (t++MemOp.ofEvents a fn pos es) j p) h∧AllK (t++MemOp.ofEvents a fn pos es) a fun j=>Before (t++MemOp.ofEvents a fn pos es) j p:=by
 obtain ⟨p,h1,h2,h3⟩:=k
 exact ⟨p,h1.app _,shy_kn h2 (fun j h=>h.app _) (shy_of hes) hn,allK_deaf h3 (fun j h=>h.app _) hes hd⟩
section
variable {gs:Array Goroutine} {w:World} {t:Trace} {M:MN P cv L Em} {sl:List (Slot P cv L)} {hp:Nat→Hp} {X:GX} {nb j k m:Nat} {g:Goroutine} {sc:Option (Nat × Nat)}
theorem cfg_out (c:Cfg W0 gs w t M sl hp) (hX:M.x=.game X) (hG:GameAt X gs w t sl hp nb) (hs:sl[nb+j]?=some (.out (k+1) m)) (hg:gs[nb+j+1]?=some g) :
  ∃ gs' w' ops k' m',runT P (crowd gs w sc) (nb+j+1)=(.next (crowd gs' w' sc),ops)∧(k'<k+1∨(k'=k+1∧m'<m))∧Cfg W0 gs' w' (t++ops) M (sl.set (nb+j) (.out k' m')) hp:=by
 obtain ⟨g0,hg0,hz⟩:=c.thr _ _ hs
 rw [hg] at hg0;cases hg0
 rw [hX] at hz
 replace hz:Zg P L.tWg X.wg (ZS P L.tWg X.wg (k+1)) m g w:=hz
 have hst:(sl.map Slot.stage)[nb+j]?=some (k+1):=by rw [List.getElem?_map,hs];rfl
 have hseat:∀ cs:St X,X.seats[j]?=some cs→SeatAt X cs (hp (nb+j+1)) (.out (k+1) m:Slot P cv L):=fun cs hcs=>by
  obtain ⟨s,h1,h2⟩:=hG.seat j cs hcs
  rw [hs] at h1;cases h1;exact h2
 have hkn:=hG.know j _ hs
 have hk6:k+1≤6:=by
  obtain ⟨h,_⟩ | ⟨h,_⟩:=hkn
  ·omega
  ·omega
 have hnw:=hG.nowg (nb+j+1)
 have key:∀ {g':Goroutine} {w':World} {es:Array Event} {k' m':Nat},stepG P false g w=.go g' w' es→(∀ e∈es,EvShy X.wg e)→(k'<k+1∨(k'=k+1∧m'<m))→Side w w'→(∀ b,b≠X.wg→w'.heap[b]?=w.heap[b]?)→w'.heap.size=w.heap.size →
   WgPh L X ((sl.map Slot.stage).set (nb+j) k') w'→SlotG w' X.wg (deafBehind (Deaf t (nb+j+1)) es) g' (.out k' m':Slot P cv L)→SlotKn (t++MemOp.ofEvents (nb+j+1) g.frame.fn g.frame.place es) X.wg (nb+j+1) (hp (nb+j+1)) (.out k' m':Slot P cv L) →
   g'.status≠.blocked→(¬ WgAt L.tWg X.wg w' 0 1∨(mayWake P g=true∧g'.status≠.waiting)) →
   ∃ gs' w' ops k' m',runT P (crowd gs w sc) (nb+j+1)=(.next (crowd gs' w' sc),ops)∧(k'<k+1∨(k'=k+1∧m'<m))∧Cfg W0 gs' w' (t++ops) M (sl.set (nb+j) (.out k' m')) hp:=by
  intro g' w' es k' m' hstep hes hlt hsd hw hsz ph sg sk hnb hsl
  have hst':stepG P (nb+j+1 == 0) g w=.go g' w' es:=hstep
  refine ⟨_,_,_,k',m',runT_crowd_go hg hst',hlt,?_⟩
  refine Cfg.slot c hX hG hs (gs_go hg) hnb hsd hw hsz ph (shy_of hes) (by rw [Deaf_own];exact sg) sk (fun cx hcx=>?_) (fun _ _ _ _ _ h=>h) (fun g0 h0 hb ho hx=>?_)
  ·exact ⟨by omega,(hseat cx hcx).2⟩
  ·rcases hsl with hsl | ⟨h1,h2⟩
   ·exact hsl hx
   ·rw [Array.getElem?_setIfInBounds_ne (by omega),Array.getElem?_map] at h0
    obtain ⟨o,e1,e2⟩:=Option.map_eq_some_iff.1 h0
    have hwk:woken P g g' w' o=o.again w':=by
     unfold woken
     rw [if_pos]
     simp only [h1,Bool.true_and,Bool.and_eq_true]
     exact ⟨by simpa using hnb,by simpa using h2⟩
    rw [hwk] at e2
    subst e2
    exact again_offers hb ho
 rcases zg_step hz with hz | ⟨m',g',rfl,hstep,hz'⟩
 ·rcases k with _ | _ | _ | _ | _ | _ | k
  ·-- it lets the starter go
   obtain ⟨hr,hmw,hz⟩:=(show Z4 P L.tWg X.wg g w from hz)
   obtain ⟨hp1,hat,hoth⟩:=hG.wg.at1 hst
   obtain ⟨g',q,hstep,hq⟩:=hz hat
   obtain ⟨h6,_,_⟩ | ⟨_,hlv,_,hdf⟩:=hkn
   ·omega
   have hd:Deaf t (nb+j+1)=1:=hdf (by omega) (by omega)
   refine key (k':=0) (m':=q) hstep (fun e he=>?_) (by omega) side_setCell (fun b hb=>setCell_ne hb) setCell_size (.free hp1 (hat.setSm 1) fun k hk=>?_) (by rw [hd];exact hq) (.inr ⟨by omega,leaves_shy hlv hnw ?_ ?_,fun h=>by omega,fun h=>by omega⟩) (fun h=>by have:=QuitsD.status hq;rw [h] at this;rcases this with h | h <;> cases h) (.inr ⟨hmw,fun h=>by have:=QuitsD.status hq;rw [h] at this;rcases this with h | h <;> cases h⟩)
   ·simp only [semEvents,List.mem_toArray,List.mem_cons,List.not_mem_nil,or_false] at he
    rcases he with rfl | rfl | rfl | rfl
    ·exact .inl ⟨_,rfl,rfl,fun a h=>by cases h⟩
    ·exact .inr ⟨_,_,rfl,by decide⟩
    ·exact .inr ⟨_,_,rfl,by decide⟩
    ·exact .inl ⟨_,rfl,rfl,fun a h=>by cases h⟩
   ·obtain ⟨i,hi⟩:=List.getElem?_of_mem hk
    by_cases e:i=nb+j
    ·subst e
     rw [List.getElem?_set_self (by simpa using (List.getElem?_eq_some_iff.1 hst).1)] at hi
     cases hi;rfl
    ·rw [List.getElem?_set_ne fun h=>e h.symm] at hi
     exact hoth i k hi e
   ·intro e he
    simp only [semEvents,List.mem_toArray,List.mem_cons,List.not_mem_nil,or_false] at he
    rcases he with rfl | rfl | rfl | rfl
    ·exact .inl ⟨_,rfl,rfl,fun a h=>by cases h⟩
    ·exact .inr ⟨_,_,rfl,by decide⟩
    ·exact .inr ⟨_,_,rfl,by decide⟩
    ·exact .inl ⟨_,rfl,rfl,fun a h=>by cases h⟩
   ·intro i e he ht
    rw [hd]
    rcases i with _ | _ | _ | _ | i
    ·simp only [semEvents] at he ⊢;simp [deafBehind]
    ·simp only [semEvents] at he ⊢;simp [deafBehind]
    ·simp only [semEvents] at he ⊢;simp [deafBehind]
    ·simp only [semEvents] at he ⊢;simp [deafBehind]
    ·simp [semEvents] at he
  ·-- the count is laid to nought
   obtain ⟨hr,hz⟩:=(show Z3 P L.tWg X.wg g w from hz)
   obtain ⟨hp1,hat,hoth⟩:=hG.wg.at23 hst (.inr rfl)
   obtain ⟨g',q,hstep,hq⟩:=hz hat
   obtain ⟨h6,_,_⟩ | ⟨_,hlv,_,hdf⟩:=hkn
   ·omega
   have hd:Deaf t (nb+j+1)=1:=hdf (by omega) (by omega)
   have hes:∀ e∈#[wr (stA X.wg)],EvShy X.wg e:=fun e he=>by simp at he;subst he;exact .inr ⟨_,_,rfl,by decide⟩
   refine key (k':=1) (m':=q) hstep hes (by omega) side_setCell (fun b hb=>setCell_ne hb) setCell_size (.late1 hp1 (nb+j) (List.getElem?_set_self (List.getElem?_eq_some_iff.1 hst).1) (hat.setSt 0) fun i k hi e=>hoth i k (by rwa [List.getElem?_set_ne fun h=>e h.symm] at hi) e) hq
    (.inr ⟨by omega,leaves_shy hlv hnw hes fun i e he ht=>?_,fun h=>by omega,fun _ _=>?_⟩) (fun h=>by have:=zg_running (k:=1) hq;rw [h] at this;cases this) (.inl fun hx=>absurd ((hat.setSt 0).unique hx).2 (by decide))
   ·rw [hd]
    rcases i with _ | i
    ·simp [deafBehind]
    ·simp at he
   ·rw [Deaf_own,hd];rfl
  ·-- the count is looked at again
   obtain ⟨hr,hz⟩:=(show Z2 P L.tWg X.wg g w from hz)
   obtain ⟨hp1,hat,hoth⟩:=hG.wg.at23 hst (.inl rfl)
   obtain ⟨g',q,hstep,hq⟩:=hz hat
   obtain ⟨h6,_,_⟩ | ⟨_,hlv,_,hdf⟩:=hkn
   ·omega
   have hd:Deaf t (nb+j+1)=1:=hdf (by omega) (by omega)
   have hes:∀ e∈#[rd (stA X.wg)],EvShy X.wg e:=fun e he=>by simp at he;subst he;exact .inr ⟨_,_,rfl,by decide⟩
   refine key (k':=2) (m':=q) hstep hes (by omega) Side.refl (fun b hb=>rfl) rfl (.late hp1 (nb+j) 2 (List.getElem?_set_self (List.getElem?_eq_some_iff.1 hst).1) (.inr rfl) hat fun i k hi e=>hoth i k (by rwa [List.getElem?_set_ne fun h=>e h.symm] at hi) e) hq
    (.inr ⟨by omega,leaves_shy hlv hnw hes fun i e he ht=>?_,fun h=>by omega,fun _ _=>?_⟩) (fun h=>by have:=zg_running (k:=2) hq;rw [h] at this;cases this) (.inl fun hx=>absurd (hat.unique hx).2 (by decide))
   ·rw [hd]
    rcases i with _ | i
    ·simp [deafBehind]
    ·simp at he
   ·rw [Deaf_own,hd];rfl
  ·-- it counts itself out
   obtain ⟨hr,hz⟩:=(show Z1 P L.tWg X.wg g w from hz)
   obtain ⟨v,wt,hat,hv,hlate,hwt,hpark,hb⟩:=hG.wg.at4 hst
   have hcnt:=count_pos (p:=fun k=>decide (4≤k)) hst rfl
   have htail:=count_tail (p:=fun k=>decide (4≤k)) rfl (l:=sl.map Slot.stage) (n:=nb) fun i k hi hk=>by
    rw [List.getElem?_map] at hk
    obtain ⟨s,e1,e2⟩:=Option.map_eq_some_iff.1 hk
    obtain ⟨m',rfl⟩:=(hG.old i s hi e1).out
    exact e2.symm
   have hlen:=hG.len
   have hadl:=hG.adl
   have hadn:X.seats.length+X.nf≤X.ad:=by
    by_cases hpl:X.wt=.play
    ·rcases hG.adp hpl with h | h <;> omega
    ·exact Nat.le_of_eq (hG.ads hpl).1.symm
   simp only [List.length_map] at htail
   obtain ⟨v,rfl⟩:∃ v',v=v'+1:=⟨v-1,by omega⟩
   have hwt1:wt≤1:=by rw [hwt];split <;> omega
   obtain ⟨g',hstep,hq1,hq0⟩:=hz v wt hwt1 (by omega) (by push_cast at hat;exact hat)
   obtain ⟨h6,_,_⟩ | ⟨_,hlv,_,hdf⟩:=hkn
   ·omega
   have hd:Deaf t (nb+j+1)=1:=hdf (by omega) (by omega)
   have hes:∀ e∈#[rd (stA X.wg),wr (stA X.wg)],EvShy X.wg e:=fun e he=>by
    simp at he
    rcases he with rfl | rfl <;> exact .inr ⟨_,_,rfl,by decide⟩
   have hdi:∀ (i:Nat) (e:Event),(#[rd (stA X.wg),wr (stA X.wg)]:Array Event)[i]?=some e→(MemAct.ofEvent e).touch?≠none→0<deafBehind (Deaf t (nb+j+1)) ((#[rd (stA X.wg),wr (stA X.wg)]:Array Event).extract 0 i):=fun i e he ht=>by
    rw [hd]
    rcases i with _ | _ | i
    ·simp [deafBehind]
    ·simp [deafBehind,rd]
    ·simp at he
   have hset:=count_set (p:=fun k=>decide (4≤k)) (b:=0) hst
   simp at hset
   by_cases hl:v=0∧wt=1
   ·obtain ⟨q,hq⟩:=hq1 hl
    obtain ⟨rfl,rfl⟩:=hl
    have hp1:X.wt=.parked:=by
     revert hwt
     cases X.wt <;> simp
    have had:=(hG.ads (by rw [hp1];simp)).1
    have hone:=count_one (p:=fun k=>decide (4≤k)) hst rfl rfl (by omega)
    refine key (k':=3) (m':=q) hstep hes (by omega) side_setCell (fun b hb=>setCell_ne hb) setCell_size (.late hp1 (nb+j) 3 (List.getElem?_set_self (List.getElem?_eq_some_iff.1 hst).1) (.inl rfl) (by simpa using hat.setSt _) fun i k hi e=>?_) hq
     (.inr ⟨by omega,leaves_shy hlv hnw hes hdi,fun h=>by omega,fun _ _=>?_⟩) (fun h=>by have:=zg_running (k:=3) hq;rw [h] at this;cases this) (.inl fun hx=>absurd ((hat.setSt _).unique hx).2 (by decide))
    ·rw [List.getElem?_set_ne fun h=>e h.symm] at hi
     have h1:=hone i k hi e
     have h2:=hlate k (List.mem_of_getElem? hi)
     simp at h1
     omega
    ·rw [Deaf_own,hd];rfl
   ·obtain ⟨q,hq⟩:=hq0 hl
    refine key (k':=0) (m':=q) hstep hes (by omega) side_setCell (fun b hb=>setCell_ne hb) setCell_size (.quiet v wt (hat.setSt _) (by omega) (fun k hk=>?_) hwt (fun hp1=>?_) ?_) (by rw [hd];exact hq)
     (.inr ⟨by omega,leaves_shy hlv hnw hes hdi,fun h=>by omega,fun h=>by omega⟩) (fun h=>by have:=QuitsD.status hq;rw [h] at this;rcases this with h | h <;> cases h) (.inl fun hx=>absurd ((hat.setSt _).unique hx).2 (by decide))
    ·rcases List.mem_or_eq_of_mem_set hk with hk | rfl
     ·exact hlate k hk
     ·exact .inl rfl
    ·have:wt=1:=by rw [hwt,hp1]
     omega
    ·revert hb
     cases X.wt <;> simp <;> omega
  ·-- it is deaf from here on
   obtain ⟨hr,g',q,hstep,hq⟩:=(show ZK P L.tWg X.wg g w from hz)
   obtain ⟨h6,_,_⟩ | ⟨_,hlv,hdf,_⟩:=hkn
   ·omega
   have hd:Deaf t (nb+j+1)=0:=hdf rfl
   have hes:∀ e∈#[mk .disable],EvShy X.wg e:=fun e he=>by simp at he;subst he;exact .inl ⟨_,rfl,rfl,fun a h=>by cases h⟩
   refine key (k':=4) (m':=q) hstep hes (by omega) Side.refl (fun b hb=>rfl) rfl (hG.wg.far hst (by omega) (by omega) fun _ _ h=>h) hq
    (.inr ⟨by omega,leaves_shy hlv hnw hes fun i e he ht=>?_,fun h=>by omega,fun _ _=>?_⟩) (fun h=>by have:=zg_running (k:=4) hq;rw [h] at this;cases this) (.inl (hG.wg.notFree hst (by omega)))
   ·rcases i with _ | i
    ·simp at he;subst he;exact absurd rfl ht
    ·simp at he
   ·rw [Deaf_own,hd];rfl
  ·-- it says that it's through
   obtain ⟨hr,g',q,hstep,hq⟩:=(show ZR P L.tWg X.wg g w from hz)
   obtain ⟨_,hkh,hd⟩ | ⟨h5,_⟩:=hkn
   ·have hes:∀ e∈#[mk (.releaseMerge (stA X.wg))],EvShy X.wg e:=fun e he=>by simp at he;subst he;exact .inl ⟨_,rfl,rfl,fun a h=>by cases h⟩
    have e0:(t++MemOp.ofEvents (nb+j+1) g.frame.fn g.frame.place #[mk (.releaseMerge (stA X.wg))])[t.size]?=some { g:=nb+j+1,fn:=g.frame.fn,pos:=g.frame.place,act:=.mark (.releaseMerge (stA X.wg)) }:=by
     rw [ofEvents_eq,Array.getElem?_append_right (Nat.le_refl _)];simp [mk];rfl
    have hkb:∀ i,Knows t (nb+j+1) i→Before (t++MemOp.ofEvents (nb+j+1) g.frame.fn g.frame.place #[mk (.releaseMerge (stA X.wg))]) i t.size:=fun i hi=>.inr (hi.hb_new (Nat.le_refl _) e0 rfl)
    refine key (k':=5) (m':=q) hstep hes (by omega) Side.refl (fun b hb=>rfl) rfl (hG.wg.far hst (by omega) (by omega) fun _ _ h=>h) hq
     (.inr ⟨by omega,⟨t.size,⟨act?_of e0,g?_of e0,_,g?_of e0,by rw [deaf_old (Nat.le_refl _)];exact hd⟩,shy_kn hkh hkb (shy_of hes) hnw,fun i hi hc=>?_⟩,fun _=>?_,fun h=>by omega⟩)
     (fun h=>by have:=zg_running (k:=5) hq;rw [h] at this;cases this) (.inl (hG.wg.notFree hst (by omega)))
    ·rcases Nat.lt_or_ge i t.size with hlt | hge
     ·rw [g?_app hlt] at hi
      obtain ⟨op,ho,hog⟩:=Option.map_eq_some_iff.1 (show (t[i]?).map (·.g)=some (nb+j+1) from hi)
      exact hkb i (by have:=knows_own ho;rwa [hog] at this)
     ·have:=g?_lt hi
      rw [ofEvents_eq] at this
      simp at this
      exact .inl (by omega)
    ·rw [Deaf_own,hd];rfl
   ·omega
  ·exact hz.elim
 ·refine key (k':=k+1) (m':=m') hstep (fun e he=>by simp at he) (by omega) Side.refl (fun b hb=>rfl) rfl (hG.wg.same hst fun _ _ h=>h) hz' ?_ (fun h=>by have:=zg_running hz';rw [h] at this;cases this) (.inl (hG.wg.notFree hst (by omega)))
  rw [ofEvents_none,Array.append_empty]
  exact hkn
end
end Go.PB
