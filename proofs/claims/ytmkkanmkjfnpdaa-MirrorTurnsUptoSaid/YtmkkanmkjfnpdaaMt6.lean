/-
  Part 6 of 8.
-/
import Derived.Test.YtmkkanmkjfnpdaaMt5
import Derived.Test.YtmkkanmkjfnpdaaMt4
import Derived.Test.YtmkkanmkjfnpdaaMt2
import Derived.Test.YtmkkanmkjfnpdaaMt3
import Derived.Conc.Holds
import Derived.JoinedCond
import Derived.Conc.WgGenN2
set_option linter.unusedVariables false
set_option linter.unusedSimpArgs false
namespace Go.Proofs.Ytmkkanmkjfnpdaa
open Go Go.PB
attribute [local irreducible] Mo Bin Eql Tr Wo Ap Wle
attribute [local instance] Pass.of_no
section
theorem row_cellsQ {b:Nat} {v:Value} {L:List HProp}:∀ (n o:Nat) {h:Hp},Star (arr b o (List.replicate n v)::L) h→Star (all ((List.range' o n).map fun i=>arr b i [v])::L) h
 | 0,o,h,s=>star_shut (M:=[]) (star_drop s)
 | n+1,o,h,s=>by
  rw [List.replicate_succ] at s
  have s1:Star (arr b o [v]::arr b (o+1) (List.replicate n v)::L) h:=star_cut (us:=[v]) s
  rw [List.range'_succ,List.map_cons]
  exact cons_all (star_map s1 (fun _ z=>z) fun _ z=>row_cellsQ n (o+1) z)
theorem star_join:∀ {A B L:List HProp} {h:Hp},Star (all A::all B::L) h→Star (all (A++B)::L) h
 | [],B,L,h,s=>star_drop s
 | c::A,B,L,h,s=>cons_all (star_map (all_cons s) (fun _ z=>z) fun _ z=>star_join z)
theorem map_mapIdxQ {α β γ:Type} {f:Nat→α→β} {g:β→γ} {l:List α}:(l.mapIdx f).map g=l.mapIdx fun i a=>g (f i a):=by
 apply List.ext_getElem?
 intro i
 rw [List.getElem?_map,List.getElem?_mapIdx,List.getElem?_mapIdx]
 cases l[i]? <;> rfl
theorem mapIdx_const {α β:Type} {g:α→β} {l:List α}:(l.mapIdx fun _ a=>g a)=l.map g:=by
 apply List.ext_getElem?
 intro i
 rw [List.getElem?_map,List.getElem?_mapIdx]
theorem sum_le {c:Nat}:∀ {l:List Nat},(∀ a∈l,a≤c)→sumN l≤c*l.length
 | [],_=>Nat.zero_le _
 | a::l,h=>by
  have h1:=h a (by simp)
  have h2:=sum_le (c:=c) (l:=l) fun b hb=>h b (by simp [hb])
  simp only [sumN,List.foldr_cons,List.length_cons,Nat.mul_add,Nat.mul_one] at h2 ⊢;omega
theorem sum_app {l m:List Nat}:sumN (l++m)=sumN l+sumN m:=by
 induction l with
 | nil=>simp [sumN]
 | cons a l ih=>simp only [sumN,List.cons_append,List.foldr_cons] at ih ⊢;omega
theorem dealM {Ro:HProp} (hd:Dup Ro) {cb:Nat} {bs:List HProp} {L:List HProp} {h:Hp} (s:Star (Ro::all bs::arr cb 0 (List.replicate bs.length (.slice none 0 0))::L) h):Star (all (bs.mapIdx fun i p=>mrM Ro cb i p)::Ro::L) h:=by
 have s1:=dup_many hd s bs.length
 have s2:Star (all (List.replicate bs.length Ro)::all bs::arr cb 0 (List.replicate bs.length (.slice none 0 0))::Ro::L) h:=Ent.star (.take .here (.take (.there .here) (.take (.there .here) (.take .here .refl)))) s1
 have s3:=star_zip (by simp) s2
 have s4:=row_cellsQ bs.length 0 (star_swap s3)
 have s6:=star_zip (by simp) (star_swap s4)
 have e:List.zipWith (fun a b=>all [a,b]) (List.zipWith (fun a b=>all [a,b]) (List.replicate bs.length Ro) bs) ((List.range' 0 bs.length).map fun i=>arr cb i [.slice none 0 0])=bs.mapIdx fun i p=>mrM Ro cb i p:=by
  apply List.ext_getElem?
  intro i
  by_cases hi:i<bs.length
  ·simp [mrM,hi,List.getElem?_zipWith,List.getElem?_range',List.getElem?_replicate]
  ·have h1:(bs.mapIdx fun i p=>mrM Ro cb i p)[i]?=none:=List.getElem?_eq_none_iff.2 (by simp;omega)
   rw [h1]
   apply List.getElem?_eq_none_iff.2
   simp;omega
 rw [e] at s6
 exact s6
def mpBs (Wf:Nat→Nat) (ks:List (Nat × Nat)):List HProp:=ks.mapIdx fun i y=>mrBx y.1 y.2 (Wf i) i
def mtBs (ks:List Nat):List HProp:=ks.mapIdx fun i b=>arr b 0 [.int .i64 (i:Nat)]
theorem mpBs_snoc {Wf:Nat→Nat} {ks:List (Nat × Nat)} {y:Nat × Nat}:mpBs Wf (ks++[y])=mpBs Wf ks++[mrBx y.1 y.2 (Wf ks.length) ks.length]:=by
 unfold mpBs;rw [List.mapIdx_append];simp
theorem mtBs_snoc {ks:List Nat} {b:Nat}:mtBs (ks++[b])=mtBs ks++[arr b 0 [.int .i64 (ks.length:Nat)]]:=by
 unfold mtBs;rw [List.mapIdx_append];simp
def mrQ (Wf:Nat→Nat) (pn T:Nat) (kp:List (Nat × Nat)) (kt:List Nat):List MrT:=(kp.mapIdx fun k _=>(⟨⟨k,qpCs k (Wf k),[],[],.load⟩,.c0⟩:MrT))++kt.mapIdx fun k _=>(⟨⟨pn+k,qtCs T,[],[],.load⟩,.c0⟩:MrT)
def qfO (Wf:Nat→Nat) (pn:Nat) (j:Nat):List Nat:=if j<pn then (List.range (Wf j)).map (qVal j) else []
theorem qpCs_some {k W:Nat}:(qpCs k W).filterMap id=(List.range W).map (qVal k):=by
 have key:∀ l:List Nat,(l.map fun i=>some (qVal k i)).filterMap id=l.map (qVal k):=by
  intro l
  induction l with
  | nil=>rfl
  | cons a l ih=>simp only [List.map_cons,List.filterMap_cons,id,ih]
 exact key _
theorem qtCs_some:∀ {T:Nat},(qtCs T).filterMap id=[]
 | 0=>rfl
 | T+1=>by unfold qtCs;rw [List.replicate_succ];exact qtCs_some (T:=T)
theorem qfO_ok {Wf:Nat→Nat} {pn:Nat} (hW:∀ k,Wf k<200) (j:Nat):(qfO Wf pn j).Nodup∧(∀ v∈qfO Wf pn j,v/4294967296=j)∧(pn≤j→qfO Wf pn j=[]):=by
 have hj:=hW j
 refine ⟨?_,fun v hv=>?_,fun h=>if_neg (by omega)⟩
 ·unfold qfO;split
  ·have hnd:(List.range (Wf j)).Nodup:=List.nodup_range
   refine List.Pairwise.map _ (fun a b hab=>?_) hnd
   unfold qVal;omega
  ·exact .nil
 ·unfold qfO at hv;split at hv
  ·obtain ⟨i,hi,rfl⟩:=List.mem_map.1 hv
   have:=List.mem_range.1 hi
   unfold qVal;omega
  ·simp at hv
theorem mrQ_at {Wf:Nat→Nat} {pn T:Nat} {kp:List (Nat × Nat)} {kt:List Nat} (hkp:kp.length=pn) {j:Nat} {q:MrT} (h:(mrQ Wf pn T kp kt)[j]?=some q) :
  (j<pn∧q=⟨⟨j,qpCs j (Wf j),[],[],.load⟩,.c0⟩)∨(pn≤j∧j<pn+kt.length∧q=⟨⟨j,qtCs T,[],[],.load⟩,.c0⟩):=by
 unfold mrQ at h
 by_cases hj:j<pn
 ·left
  rw [List.getElem?_append_left (by simp;omega),List.getElem?_mapIdx] at h
  obtain ⟨a,_,rfl⟩:=Option.map_eq_some_iff.1 h
  exact ⟨hj,rfl⟩
 ·right
  rw [List.getElem?_append_right (by simp;omega),List.getElem?_mapIdx] at h
  obtain ⟨a,ha,rfl⟩:=Option.map_eq_some_iff.1 h
  have hl:=(List.getElem?_eq_some_iff.1 ha).1
  simp only [List.length_mapIdx,hkp] at hl ⊢
  exact ⟨by omega,by omega,by rw [show pn+(j-pn)=j by omega]⟩
def mrSum (Wf:Nat→Nat) (pn:Nat):Nat:=sumN ((List.range pn).map Wf)
theorem mrSum_succ {Wf:Nat→Nat} {pn:Nat}:mrSum Wf (pn+1)=mrSum Wf pn+Wf pn:=by
 unfold mrSum;rw [List.range_succ,List.map_append,sum_app];simp [sumN]
theorem mrSum_le {Wf:Nat→Nat} (hW:∀ k,Wf k<200) (pn:Nat):mrSum Wf pn≤200*pn:=by
 induction pn with
 | zero=>simp [mrSum,sumN]
 | succ pn ih=>rw [mrSum_succ];have:=hW pn;omega
theorem mrQ_begin {n pn tn T:Nat} {Wf:Nat→Nat} {kp:List (Nat × Nat)} {kt:List Nat} {f:Nat→Nat} (hkp:kp.length=pn) (hkt:kt.length=tn) (hW:∀ k,Wf k<200) (hT:T<200) (hpn:pn≤4) (htn:tn≤4) (hn:2≤n) (hf0:f 0=0) (hf1:f 1=0) (hf:∀ i,i<n→f (2+2*i)=i) (h2:f (2*n+2)=0) (h3:f (2*n+3)=0) (h4:f (2*n+4)=0) :
  MrI n 1600 (mrSum Wf pn) ⟨f,[],[]⟩ (mrQ Wf pn T kp kt)∧QE (pn+tn) (qfO Wf pn) (fun j=>pn≤j) ⟨f,[],[]⟩ ((mrQ Wf pn T kp kt).map MrT.q):=by
 have hlen:(mrQ Wf pn T kp kt).length=pn+tn:=by simp [mrQ,hkp,hkt]
 refine mr_begin hn hf0 hf1 hf h2 h3 h4 hlen (fun j q h=>?_) ?_ ?_
 ·rcases mrQ_at hkp h with ⟨h1,rfl⟩ | ⟨h1,h2,rfl⟩
  ·refine ⟨rfl,rfl,rfl,rfl,rfl,?_,fun h=>?_⟩
   ·show ((qpCs j (Wf j)).filterMap id).Sublist _
    rw [qpCs_some,qfO,if_pos h1]
    exact List.Sublist.refl _
   ·have h:none∈qpCs j (Wf j):=h
    simp [qpCs] at h
  ·refine ⟨rfl,rfl,rfl,rfl,rfl,?_,fun _=>h1⟩
   show ((qtCs T).filterMap id).Sublist _
   rw [qtCs_some];exact List.nil_sublist _
 ·have h1:∀ a∈(mrQ Wf pn T kp kt).map (fun q=>q.q.cs.length),a≤200:=by
   intro a ha
   obtain ⟨q,hq,rfl⟩:=List.mem_map.1 ha
   obtain ⟨j,hj⟩:=List.mem_iff_getElem?.1 hq
   have:=hW j
   rcases mrQ_at hkp hj with ⟨h1,rfl⟩ | ⟨h1,h2,rfl⟩
   ·simp [qpCs];omega
   ·simp [qtCs];omega
  have h2:=sum_le h1
  rw [List.length_map,hlen] at h2
  omega
 ·unfold mrQ
  rw [List.map_append,sum_app,map_mapIdxQ,map_mapIdxQ]
  have e1:sumN (kt.mapIdx fun i a=>np (⟨⟨pn+i,qtCs T,[],[],.load⟩,.c0⟩:MrT).q.cs)=0:=sum_zero fun a ha=>by
   obtain ⟨i,hi⟩:=List.mem_iff_getElem?.1 ha
   rw [List.getElem?_mapIdx] at hi
   obtain ⟨_,_,rfl⟩:=Option.map_eq_some_iff.1 hi
   show np (qtCs T)=0
   unfold np;rw [qtCs_some];rfl
  rw [e1,Nat.add_zero]
  unfold mrSum
  congr 1
  apply List.ext_getElem?
  intro i
  rw [List.getElem?_mapIdx,List.getElem?_map]
  by_cases hi:i<pn
  ·rw [List.getElem?_eq_getElem (show i<kp.length by omega),List.getElem?_range hi]
   show some (np (qpCs i (Wf i)))=some (Wf i)
   unfold np;rw [qpCs_some];simp
  ·rw [List.getElem?_eq_none_iff.2 (by omega),List.getElem?_eq_none_iff.2 (by simp;omega)];rfl
theorem rd_allQ {M L:List HProp} {b o:Nat} {v:Value} (r:Rd M b o v):Rd (all M::L) b o v:=rd_allR r
def ShpQ (v:Value) (n:Nat):Prop:=∃ a c,v=.slice a n c∧(a=none→n=0)∧∀ y,a=some y→y=⟨y.block,y.off,none⟩
theorem shpQ_vec {v:Value} {cs:List Value} {h:Hp} (hv:vec 1 v cs h):ShpQ v cs.length:=by
 obtain ⟨a,n,c,rfl,hn,_,hz,hy⟩:=vec_shape (by omega) h hv
 obtain rfl:n=cs.length:=by omega
 exact ⟨a,c,rfl,hz,hy⟩
theorem rdsoQ {L F:List HProp} {a:Option Addr} {n c:Nat} {cs:List Value} (hh:Has L (vec 1 (.slice a n c) cs) F) (hn:cs.length=n) (hz:a=none→n=0) (hy:∀ y,a=some y→y=⟨y.block,y.off,none⟩):RdsO L a n cs:=by
 refine ⟨by omega,?_⟩
 cases a with
 | none=>exact .inl (hz rfl)
 | some y =>
  obtain ⟨b,o,sp⟩:=y
  cases hy _ rfl
  exact .inr ⟨b,o,rfl,fun i v hi=>rd_vec hh hi⟩
def qfOut (s:QS) (pn k:Nat):List Nat:=if k<pn then putBy s k else takenBy s k
def qfC (pb tb pn:Nat) (s:QS) (k:Nat) (sv:Value):HProp:=all [all [mrCell pb tb pn k sv,vec 1 sv ((qfOut s pn k).map num)]]
section
variable {pb tb pn tn n Bd:Nat} {s:QS} {qs:List MrT} {fr:Bool} {T:Nat}
theorem qf_left (hI:MrI n Bd T s qs) (hd:∀ q∈qs,mrPlan n fr q=none) {L:List HProp} {h:Hp} (st:Star (all (qs.map fun q=>all [mrLst pb tb pn q.q.me (mrOut pn q)])::L) h) :
  ∃ svs:List Value,(svs.length=qs.length∧∀ (k:Nat) sv,svs[k]?=some sv→ShpQ sv (qfOut s pn k).length)∧Star (all (svs.mapIdx (qfC pb tb pn s))::L) h:=by
 have:=alls_ex (M:=qs.map fun q=>all [mrLst pb tb pn q.q.me (mrOut pn q)]) (C:=qfC pb tb pn s) (Q:=fun k sv=>ShpQ sv (qfOut s pn k).length) (fun k c hk h hc=>by
  rw [List.getElem?_map] at hk
  obtain ⟨q,hq,rfl⟩:=Option.map_eq_some_iff.1 hk
  obtain ⟨h1,h2,sp,⟨sv,hz⟩,_⟩:=hc
  have hq':=mr_get hq
  have hme:=(hI.q.thr k q.q hq').1
  obtain ⟨hcs,hm⟩:=mr_plan_none (hI.ok k q hq) (hd q (List.mem_iff_getElem?.2 ⟨k,hq⟩))
  have ho:mrOut pn q=qfOut s pn k:=by
   have e1:=hI.q.pas k q.q hq'
   have e2:=hI.q.tas k q.q hq'
   have n1:pendP q.q=[]:=by unfold pendP;rw [hcs]
   have n2:pendT s q.q=[]:=by unfold pendT;rw [hcs]
   rw [n1,List.append_nil] at e1
   rw [n2,List.append_nil] at e2
   unfold mrOut qfOut;rw [hme,e1,e2,hm]
  rw [hme,ho] at hz
  refine ⟨sv,?_,⟨h1,h2,sp,hz,trivial⟩⟩
  obtain ⟨g1,g2,_,_,g3⟩:=hz
  obtain ⟨g4,g5,_,g6,_⟩:=g3
  have:=shpQ_vec g6
  rwa [List.length_map] at this) st
 obtain ⟨ys,⟨h1,h2⟩,h3⟩:=this
 exact ⟨ys,⟨by rw [h1,List.length_map],h2⟩,h3⟩
variable {svs:List Value} {F:List HProp}
theorem qf_cell {k:Nat} {sv:Value} (hk:svs[k]?=some sv):Rd (all (svs.mapIdx (qfC pb tb pn s))::F) (if k<pn then pb else tb) (if k<pn then k else k-pn) sv :=
 rd_item (k:=k) (c:=qfC pb tb pn s k sv) (by rw [List.getElem?_mapIdx,hk];rfl) (rd_allQ (rd_allQ (Rd.row (k:=0) rfl rfl)))
theorem qf_vec {k:Nat} {a:Option Addr} {c:Nat} {l:List Nat} (hk:svs[k]?=some (.slice a l.length c)) (hl:qfOut s pn k=l) (hz:a=none→l.length=0) (hy:∀ y,a=some y→y=⟨y.block,y.off,none⟩):RdsO (all (svs.mapIdx (qfC pb tb pn s))::F) a l.length (l.map num):=by
 subst hl
 refine ⟨by simp,?_⟩
 cases a with
 | none=>exact .inl (hz rfl)
 | some y =>
  obtain ⟨b,o,sp⟩:=y
  cases hy _ rfl
  exact .inr ⟨b,o,rfl,fun i v hi=>rd_item (k:=k) (c:=qfC pb tb pn s k _) (by rw [List.getElem?_mapIdx,hk];rfl) (rd_allQ (rd_allQ (rd_vec (.there .here) hi)))⟩
theorem qf_row (hlen:svs.length=pn+tn) (hS:∀ (k:Nat) sv,svs[k]?=some sv→ShpQ sv (qfOut s pn k).length) :
  (RdsO (all (svs.mapIdx (qfC pb tb pn s))::F) (some ⟨pb,0,none⟩) pn (svs.take pn)∧HdrOk (all (svs.mapIdx (qfC pb tb pn s))::F) (svs.take pn) (qPs s pn)) ∧
  RdsO (all (svs.mapIdx (qfC pb tb pn s))::F) (some ⟨tb,0,none⟩) tn (svs.drop pn)∧HdrOk (all (svs.mapIdx (qfC pb tb pn s))::F) (svs.drop pn) (qTs s pn tn):=by
 refine ⟨⟨⟨by simp;omega,.inr ⟨pb,0,rfl,fun i v hi=>?_⟩⟩,⟨by simp [qPs];omega,fun i l hi=>?_⟩⟩,⟨by simp;omega,.inr ⟨tb,0,rfl,fun i v hi=>?_⟩⟩,⟨by simp [qTs];omega,fun i l hi=>?_⟩⟩
 ·have hlt:i<pn:=by have:=(List.getElem?_eq_some_iff.1 hi).1;simp at this;omega
  rw [List.getElem?_take_of_lt hlt] at hi
  have:=qf_cell (pb:=pb) (tb:=tb) (pn:=pn) (s:=s) (F:=F) hi
  rw [if_pos hlt,if_pos hlt] at this
  rw [Nat.zero_add];exact this
 ·unfold qPs at hi
  rw [List.getElem?_map] at hi
  obtain ⟨i',h1,rfl⟩:=Option.map_eq_some_iff.1 hi
  have hlt:i<pn:=by have:=(List.getElem?_eq_some_iff.1 h1).1;simpa using this
  obtain rfl:i=i':=by rw [List.getElem?_range hlt] at h1;exact Option.some.inj h1
  have e:qfOut s pn i=putBy s i:=if_pos hlt
  obtain ⟨a,c,h3,h4,h5⟩:=hS i _ (List.getElem?_eq_getElem (show i<svs.length by omega))
  rw [e] at h3 h4
  have h6:svs[i]?=some (.slice a (putBy s i).length c):=by rw [List.getElem?_eq_getElem (show i<svs.length by omega),h3]
  exact ⟨a,c,by rw [List.getElem?_take_of_lt hlt];exact h6,qf_vec h6 e h4 h5⟩
 ·rw [List.getElem?_drop] at hi
  have:=qf_cell (pb:=pb) (tb:=tb) (pn:=pn) (s:=s) (F:=F) hi
  rw [if_neg (by omega),if_neg (by omega),Nat.add_sub_cancel_left] at this
  rw [Nat.zero_add];exact this
 ·unfold qTs at hi
  rw [List.getElem?_map] at hi
  obtain ⟨i',h1,rfl⟩:=Option.map_eq_some_iff.1 hi
  have hlt:i<tn:=by have:=(List.getElem?_eq_some_iff.1 h1).1;simpa using this
  obtain rfl:i=i':=by rw [List.getElem?_range hlt] at h1;exact Option.some.inj h1
  have e:qfOut s pn (pn+i)=takenBy s (pn+i):=if_neg (by omega)
  obtain ⟨a,c,h3,h4,h5⟩:=hS (pn+i) _ (List.getElem?_eq_getElem (show pn+i<svs.length by omega))
  rw [e] at h3 h4
  have h6:svs[pn+i]?=some (.slice a (takenBy s (pn+i)).length c):=by rw [List.getElem?_eq_getElem (show pn+i<svs.length by omega),h3]
  exact ⟨a,c,by rw [List.getElem?_drop];exact h6,qf_vec h6 e h4 h5⟩
end
end
end Go.Proofs.Ytmkkanmkjfnpdaa
namespace Go.Proofs.Ytmkkanmkjfnpdaa
open Go Go.PB
attribute [local irreducible] Mo Bin Eql Tr Wo Ap
section
def intC (l:List Int):List Value:=l.map fun k=>.int .i64 k
def orderF (m:Nat) (l:List Int):List Int:=(l.take 2000).map fun k=>k%((m:Int)+1)
section
variable {B:Hand} [Lets B] {L F:List HProp} {x:B.X}
def orderInv (x:B.X) (u:Value) (m:Nat) (l:List Int) (L:List HProp):Inv (Nat × Value) B.X where
 e:=fun i=>[(0,u),(1,.int .i64 (m:Nat)),(5,i.2),(6,.int .i64 (i.1:Nat))]
 L:=fun i=>vec 1 i.2 (intC ((l.take i.1).map fun k=>k%((m:Int)+1)))::L
 x:=fun _=>x
 ok:=fun i=>i.1≤l.length∧i.1≤2000
theorem order_tr {a:Option Addr} {c m:Nat} {l:List Int} (hr:RdsO L a l.length (intC l)) (hm:m<1000000) (hi:∀ k∈l,-9223372036854775808≤k∧k≤9223372036854775807) :
  Tr Try.prog B 29 [.slice a l.length c,.int .i64 (m:Nat)] L x fun v L' x'=>L'=vec 1 v (intC (orderF m l))::L∧x'=x:=by
 refine tr_of_body Try.func29 rfl Try.ntmps29 (by simp) fun um Q _ hQ=>?_
 simp only [argE,Nat.zero_add,Nat.reduceAdd]
 repeat (first | refine we_seq ?_ | (refine wR ?_;try simp only [oS]) | refine wo_nil ?_ | refine wA ?_ | refine we_block ?_)
 refine we_star (vec 1 (.slice none 0 0) (intC ((l.take 0).map fun k=>k%((m:Int)+1)))::L) (fun h st=>vec_nil st) ?_
 refine we_loopN (orderInv x (.slice a l.length c) m l L) (fun i=>l.length-i.1) (0,.slice none 0 0) ⟨Nat.zero_le _,Nat.zero_le _⟩ ⟨rfl,rfl,rfl,rfl,trivial⟩ .refl rfl ?_
 rintro ⟨i,v⟩ ⟨hil,hi2⟩
 simp only at hil hi2
 simp only [orderInv]
 refine we_pure (of_has .here (vec_shape (by omega))) ?_
 rintro ⟨va,vn,vc,rfl,hvn,_⟩
 have hvn:vn=i:=by simp [intC] at hvn;omega
 subst hvn
 by_cases hlt:vn<l.length
 ·by_cases h2:vn<2000
  ·obtain ⟨b,o,rfl,hrd⟩:=hr.rds (by omega)
   obtain ⟨k,hk⟩:∃ k,l[vn]?=some k:=⟨l[vn],List.getElem?_eq_getElem hlt⟩
   have hrk:∀ {d:HProp},Rd (d::L) b (o+vn) (.int .i64 k):=fun {d}=>.there (hrd vn _ (by simp [intC,hk]))
   repeat (first | (apply wo_po;apply mo_index1;exact rfl;exact rfl;omega;exact trivial) | (apply wo_po;apply mo_load;exact rfl;exact hrk;exact trivial) | refine wlssT ?_ | refine we_seq ?_ | (refine wR ?_;try simp only [oS]) | refine wo_nil ?_ | refine wM ?_ | refine wK ?_ | refine wadd ?_ | refine wE ?_ | refine wT ?_ | refine we_skip ?_ | refine we_block ?_)
   refine wo_call (.cons rfl (.cons rfl .nil)) trivial (within_tr (hi k (List.mem_of_getElem? hk)) (by omega)) ?_
   rintro v1 L1 x1 ⟨rfl,rfl,rfl⟩
   repeat (first | (apply wo_mo;apply mo_buildSlice (sz:=1) (vs:=[.int .i64 (k%((m:Int)+1))]);exact rfl;exact .cons rfl .nil;exact rfl;(intro v hv;cases (List.mem_singleton.1 hv);exact rfl);omega;exact trivial))
   rintro v' L' ⟨nb,rfl,rfl⟩
   repeat (first | (apply wo_mo;apply mo_append (sz:=1) (new:=[.int .i64 (k%((m:Int)+1))]);exact rfl;exact rfl;exact rfl;exact rfl;exact (.there .here);exact rfl;exact .inr ⟨_,_,rfl,Rds.all .here⟩;(intro v hv;cases (List.mem_singleton.1 hv);exact rfl);(simp only [sliceLen];omega);exact trivial))
   rintro v' L' rfl
   repeat (first | (refine wR ?_;try simp only [oS]) | refine wo_nil ?_ | refine wM ?_ | refine wA ?_ | refine wadd ?_)
   refine at_round (I:=orderInv x1 (.slice (some ⟨b,o,none⟩) l.length c) m l L) (R:=fun j=>l.length-j.1<l.length-vn) (vn+1,v') (by show l.length-(vn+1)<l.length-vn;omega) ⟨by omega,by omega⟩ ?_ ?_ rfl
   exact ⟨rfl,rfl,rfl,rfl,trivial⟩
   show Ent _ (vec 1 v' (intC ((l.take (vn+1)).map fun k=>k%((m:Int)+1)))::_)
   rw [show intC ((l.take (vn+1)).map fun k=>k%((m:Int)+1))=intC ((l.take vn).map fun k=>k%((m:Int)+1))++[.int .i64 (k%((m:Int)+1))] by rw [List.take_add_one,hk];simp [intC]]
   exact (.take .here (.drop .refl))
  ·obtain rfl:vn=2000:=by omega
   repeat (first | refine wlssT ?_ | refine wlssF ?_ | refine we_seq ?_ | (refine wR ?_;try simp only [oS]) | refine wo_nil ?_ | refine wM ?_ | refine wA ?_ | refine wK ?_ | refine wE ?_ | refine wF ?_ | refine we_ret ?_ | refine we_exit ?_)
   (first | refine or1 Try.func29 Try.results29 hQ rfl ?_ | refine on1 Try.func29 Try.results29 hQ rfl ?_)
   exact ⟨rfl,rfl⟩
 ·obtain rfl:vn=l.length:=by omega
  repeat (first | refine wlssF ?_ | refine we_seq ?_ | (refine wR ?_;try simp only [oS]) | refine wo_nil ?_ | refine wM ?_ | refine wA ?_ | (apply wo_no;exact rfl) | refine wJ ?_ | refine wE ?_ | refine wF ?_ | refine we_ret ?_ | refine we_exit ?_)
  (first | refine or1 Try.func29 Try.results29 hQ rfl ?_ | refine on1 Try.func29 Try.results29 hQ rfl ?_)
  refine ⟨?_,rfl⟩
  unfold orderF
  rw [List.take_of_length_le (by omega),List.take_of_length_le (by omega)]
end
end
end Go.Proofs.Ytmkkanmkjfnpdaa
namespace Go.Proofs.Ytmkkanmkjfnpdaa
open Go Go.PB
attribute [local irreducible] Mo Bin Eql Tr Wo Ap Wle
attribute [local instance] Pass.of_no
section
structure MnD where
 n:Nat
 j:Nat
 mr:Nat
 r:Nat
 b:Nat
 nc:Nat
 yb:Nat
 mb:Nat
 qb:Nat
 pB:Nat
 tB:Nat
 pb:Nat
 tb:Nat
 pn:Nat
 tn:Nat
 T:Nat
 tries:Int
 most:Int
 Wf:Nat→Nat
 kp:List (Nat × Nat)
 kt:List Nat
 Ro:HProp
structure MnOk (D:MnD):Prop where
 hne:D.r≠D.b
 hm1:D.mr≠D.r
 hm2:D.mr≠D.b
 hn:D.n=2^D.j
 hj:1≤D.j∧D.j≤10
 hpn:D.pn≤4
 htn:D.tn≤3
 pos:0<D.pn+D.tn
 hW:∀ k,(D.Wf k:Int)<D.most
 hm:0<D.most∧D.most≤200
 hb:-9223372036854775808≤D.tries∧D.tries≤9223372036854775807
 hT:D.tries%D.most=D.T
 O:MnRo D.Ro D.yb D.mb D.qb D.pB D.tB D.mr D.pb D.tb D.pn D.tn D.tries D.most
 OM:MrRo D.Ro D.mr D.r D.b D.n D.nc
 hd:Dup D.Ro
 hkp:D.kp.length=D.pn
 hkt:D.kt.length=D.tn
def mrTs (D:MnD) (fr:Bool):List (ThrT (mrGm D.n fr D.pb D.tb D.pn D.nc D.mr D.r D.b)) :=
 (D.kp.mapIdx fun k y=>⟨mpF y.1 y.2 D.qb D.pB,(⟨⟨k,qpCs k (D.Wf k),[],[],.load⟩,.c0⟩:MrT),mrM D.Ro D.pb k (mrBx y.1 y.2 (D.Wf k) k)⟩) ++
  D.kt.mapIdx fun k kb=>⟨mtF D.yb D.mb D.qb D.tB kb,(⟨⟨D.pn+k,qtCs D.T,[],[],.load⟩,.c0⟩:MrT),mrM D.Ro D.tb k (arr kb 0 [.int .i64 (k:Nat)])⟩
def mrFv (D:MnD):List Value:=D.kp.map (fun y=>mpF y.1 y.2 D.qb D.pB)++D.kt.map fun kb=>mtF D.yb D.mb D.qb D.tB kb
def mrMs (D:MnD):List HProp:=(mpBs D.Wf D.kp).mapIdx (fun i p=>mrM D.Ro D.pb i p)++(mtBs D.kt).mapIdx fun i p=>mrM D.Ro D.tb i p
def mrU (D:MnD) (f:Nat→Nat):HProp:=all [wds (maddr D.mr D.r D.b D.n) (2*D.n+5) [] f,newsC D.nc]
def mrL (D:MnD) (qs:List MrT):List HProp:=qs.map fun q=>all [mrLst D.pb D.tb D.pn q.q.me (mrOut D.pn q)]
def MnPlay (most:Int) (f:Nat) (cap:List Value) (P:List HProp→Prop):Prop:=∀ (D:MnD) (ta:Option Addr) (tc:Nat) (F:List HProp),MnOk D→D.most=most→RdsO F ta (D.pn+D.tn) (mrFv D)→P F →
 Tr Try.prog mT f (.slice ta (D.pn+D.tn:Nat) tc::cap) (mrU D (seqs D.n)::all (mrMs D)::F) .idle fun v L' x' =>
  ∃ fr s qs,MrI D.n 1600 (mrSum D.Wf D.pn) s qs∧QE (D.pn+D.tn) (qfO D.Wf D.pn) (fun j=>D.pn≤j) s (qs.map MrT.q)∧(∀ q∈qs,mrPlan D.n fr q=none)∧qs.length=D.pn+D.tn∧v=.bool true∧x'=.idle∧L'=mrU D s.f::all (mrL D qs)::F
section
variable {D:MnD} {fr:Bool}
theorem mrTs_q:mrQ D.Wf D.pn D.T D.kp D.kt=(mrTs D fr).map ThrT.q0:=by
 unfold mrQ mrTs;rw [List.map_append,map_mapIdxQ,map_mapIdxQ];rfl
theorem mrTs_f:(mrTs D fr).map ThrT.fv=mrFv D:=by
 unfold mrTs mrFv;rw [List.map_append,map_mapIdxQ,map_mapIdxQ,← mapIdx_const,← mapIdx_const]
theorem mrTs_M:(mrTs D fr).map ThrT.M=mrMs D:=by
 unfold mrTs mrMs mpBs mtBs
 rw [List.map_append,map_mapIdxQ,map_mapIdxQ]
 congr 1 <;> (apply List.ext_getElem?;intro i;simp only [List.getElem?_mapIdx])
 ·cases D.kp[i]? <;> rfl
 ·cases D.kt[i]? <;> rfl
theorem mrTs_len (h:MnOk D):(mrTs D fr).length=D.pn+D.tn:=by simp [mrTs,h.hkp,h.hkt]
theorem mn_n (h:MnOk D):2≤D.n∧D.n≤1024:=by
 have h1:=Nat.pow_le_pow_right (n:=2) (by omega) h.hj.1
 have h2:=h.hn
 exact ⟨by omega,by rw [h2];exact pow_le h.hj.2⟩
theorem mn_W (h:MnOk D) (k:Nat):D.Wf k<200:=by have:=h.hW k;have:=h.hm.2;omega
theorem mn_T (h:MnOk D):D.T<200∧(D.T:Int)<D.most:=by
 have h1:=h.hT
 have h2:=Int.emod_lt_of_pos D.tries h.hm.1
 have h3:=h.hm.2
 omega
theorem seqs_i {n i:Nat} (hi:i<n):seqs n (2+2*i)=i:=by unfold seqs;rw [if_pos (by omega)];omega
theorem seqs_z {n w:Nat} (hw:2*n+2≤w):seqs n w=0:=by unfold seqs;rw [if_neg (by omega)]
theorem mn_begin (h:MnOk D):MrI D.n 1600 (mrSum D.Wf D.pn) ⟨seqs D.n,[],[]⟩ (mrQ D.Wf D.pn D.T D.kp D.kt)∧QE (D.pn+D.tn) (qfO D.Wf D.pn) (fun j=>D.pn≤j) ⟨seqs D.n,[],[]⟩ ((mrQ D.Wf D.pn D.T D.kp D.kt).map MrT.q) :=
 mrQ_begin h.hkp h.hkt (mn_W h) (mn_T h).1 h.hpn (by have:=h.htn;omega) (mn_n h).1 rfl rfl (fun i hi=>seqs_i hi) (seqs_z (by omega)) (seqs_z (by omega)) (seqs_z (by omega))
theorem psi_load {s:QS} {q:QT} (h:q.st=.load):qtPsi 7 s q=23*q.cs.length:=by
 unfold qtPsi qrem qwt
 rw [h]
 simp only [QSt.holds,Bool.false_eq_true,if_false]
 cases q.cs with
 | nil=>simp
 | cons c r=>simp only [List.length_cons];omega
theorem mn_psi (h:MnOk D) (hm:D.most=12):mrPsi 7 ⟨seqs D.n,[],[]⟩ (mrQ D.Wf D.pn D.T D.kp D.kt)<16384∧mrAct (mrQ D.Wf D.pn D.T D.kp D.kt)≤7:=by
 have hp:=h.hpn
 have ht:=h.htn
 have hlen:(mrQ D.Wf D.pn D.T D.kp D.kt).length=D.pn+D.tn:=by simp [mrQ,h.hkp,h.hkt]
 have key:∀ q∈mrQ D.Wf D.pn D.T D.kp D.kt,q.m=.c0∧q.q.st=.load∧q.q.cs.length≤11:=fun q hq=>by
  obtain ⟨j,hj⟩:=List.mem_iff_getElem?.1 hq
  have h1:=h.hW j
  have h2:=(mn_T h).2
  rcases mrQ_at h.hkp hj with ⟨h3,rfl⟩ | ⟨h3,h4,rfl⟩
  ·refine ⟨rfl,rfl,?_⟩
   simp [qpCs];omega
  ·refine ⟨rfl,rfl,?_⟩
   simp [qtCs];omega
 constructor
 ·unfold mrPsi
  have s1:=sum_le (c:=253) (l:=((mrQ D.Wf D.pn D.T D.kp D.kt).map MrT.q).map (qtPsi 7 ⟨seqs D.n,[],[]⟩)) fun a ha=>by
   obtain ⟨b,hb,rfl⟩:=List.mem_map.1 ha
   obtain ⟨q,hq,rfl⟩:=List.mem_map.1 hb
   obtain ⟨_,k1,k2⟩:=key q hq
   rw [psi_load k1];omega
  have s2:=sum_le (c:=22) (l:=(mrQ D.Wf D.pn D.T D.kp D.kt).map uE) fun a ha=>by
   obtain ⟨q,hq,rfl⟩:=List.mem_map.1 ha
   obtain ⟨k0,_,k2⟩:=key q hq
   unfold uE;rw [k0];simp only;omega
  simp only [List.length_map,hlen] at s1 s2
  omega
 ·unfold mrAct
  have s1:=sum_le (c:=1) (l:=((mrQ D.Wf D.pn D.T D.kp D.kt).map MrT.q).map qAct) fun a ha=>by
   obtain ⟨b,hb,rfl⟩:=List.mem_map.1 ha
   unfold qAct;split <;> omega
  simp only [List.length_map,hlen] at s1
  omega
section
variable {g:Game}
def thrW (ts:List (ThrT g)):List (Thr g):=ts.map fun t=>{ fv:=t.fv,ini:=fun s=>(s,t.q0),M:=t.M }
theorem startW:∀ (ts:List (ThrT g)) (s:g.σ),startF (thrW ts) s=(s,ts.map ThrT.q0)
 | [],s=>rfl
 | t::ts,s=>by
  have h:=startW ts s
  show ((startF (thrW ts) s).1,t.q0::(startF (thrW ts) s).2)=_
  rw [h];rfl
theorem rd_upW {L:List HProp}:∀ (M:List HProp) {b o:Nat} {v:Value},Rd L b o v→Rd (M++L) b o v
 | [],b,o,v,h=>h
 | c::M,b,o,v,h=>.there (rd_upW M h)
theorem rdso_upW {L:List HProp} (M:List HProp) {a:Option Addr} {n:Nat} {vs:List Value} (h:RdsO L a n vs):RdsO (M++L) a n vs :=
 ⟨h.1,h.2.imp id fun ⟨b,o,e,r⟩=>⟨b,o,e,fun i v hi=>rd_upW M (r i v hi)⟩⟩
theorem rdsoW {L F:List HProp} {a:Option Addr} {n c:Nat} {cs:List Value} (hh:Has L (vec 1 (.slice a n c) cs) F) (hn:cs.length=n*1) (hz:a=none→n=0) (hy:∀ y,a=some y→y=⟨y.block,y.off,none⟩):RdsO L a n cs:=by
 refine ⟨by omega,?_⟩
 cases a with
 | none=>exact .inl (hz rfl)
 | some y =>
  obtain ⟨b,o,sp⟩:=y
  cases hy _ rfl
  exact .inr ⟨b,o,rfl,fun i v hi=>rd_vec hh hi⟩
end
def mrPI (D:MnD) (p:PS (mrGm D.n false D.pb D.tb D.pn D.nc D.mr D.r D.b)):Prop :=
 MrI D.n 1600 (mrSum D.Wf D.pn) p.s p.qs∧QE (D.pn+D.tn) (qfO D.Wf D.pn) (fun j=>D.pn≤j) p.s ((show List MrT from p.qs).map MrT.q)∧mrAct p.qs≤7
def OrdR (ob:Nat) (F:List HProp):Prop:=∃ (oa:Option Addr) (oc:Nat) (order:List Int),Rd F ob 0 (.slice oa order.length oc)∧RdsO F oa order.length (intC order)∧∀ k∈order,-9223372036854775808≤k∧k≤9223372036854775807
set_option maxHeartbeats 4000000 in
theorem turns_play {ob:Nat}:MnPlay 12 34 [.pointer (some ⟨ob,0,none⟩)] (OrdR ob):=by
 rintro D ta tc F h hmo hrt ⟨oa,oc,order,hob,hro,hoi⟩
 have hlenT:=mrTs_len (fr:=false) h
 have hpn:=h.hpn
 have htn:=h.htn
 have hpos:=h.pos
 let ts:=mrTs D false
 let s0:(mrGm D.n false D.pb D.tb D.pn D.nc D.mr D.r D.b).σ:=(⟨seqs D.n,[],[]⟩:QS)
 have hq0:ts.map ThrT.q0=mrQ D.Wf D.pn D.T D.kp D.kt:=mrTs_q.symm
 have hlen:(thrW ts).length=D.pn+D.tn:=by simp [thrW,ts,hlenT]
 have hfv:(thrW ts).map Thr.fv=mrFv D:=by simp [thrW,ts];exact mrTs_f
 have hM:(thrW ts).map Thr.M=mrMs D:=by simp [thrW,ts];exact mrTs_M
 have hs:∀ (p:PS (mrGm D.n false D.pb D.tb D.pn D.nc D.mr D.r D.b)) k,mrPI D p→mrPI D (takeF p k).1∧((takeF p k).2=true→mrPsi 7 (takeF p k).1.s (takeF p k).1.qs+1≤mrPsi 7 p.s p.qs):=fun p k hI=>by
  rcases takeF_cases p k with e | ⟨m,q,mk,f,_,hq,hp,_,e⟩
  ·rw [e];exact ⟨hI,fun h=>by cases h⟩
  ·rw [e]
   have hT:mrSum D.Wf D.pn<4611686018427387904:=by have:=mrSum_le (mn_W h) D.pn;omega
   obtain ⟨h1,_,h3,h4⟩:=mr_step hI.1 (mn_n h).1 (mn_n h).2 (by omega) hT hq hp
   obtain ⟨h5,h6⟩:=h3 7 hI.2.2
   exact ⟨⟨h1,h4 _ _ _ hI.2.1,h5⟩,fun _=>h6⟩
 obtain ⟨hb1,hb2⟩:=mn_psi h hmo
 have hI0:mrPI D ⟨(startF (thrW ts) s0).1,(startF (thrW ts) s0).2,[]⟩:=by
  rw [startW,hq0]
  exact ⟨(mn_begin h).1,(mn_begin h).2,hb2⟩
 have hol:(orderF (D.pn+D.tn) order).length≤4096:=by simp only [orderF,List.length_map,List.length_take];omega
 obtain ⟨hIe,_,hdone⟩:=play_ends (I:=mrPI D) (Φ:=fun p=>mrPsi 7 p.s p.qs) (ts:=thrW ts) (s:=s0) (o:=orderF (D.pn+D.tn) order) (n:=mrPsi 7 s0 (mrQ D.Wf D.pn D.T D.kp D.kt)) (fun p k h=>(hs p k h).1) (fun p k h=>(hs p k h).2) hI0 (by show mrPsi 7 (startF (thrW ts) s0).1 (startF (thrW ts) s0).2≤_;rw [startW,hq0];exact Nat.le_refl _) hb1
 have hcn:=cutN_nil (n:=(thrW ts).length) hdone
 refine Tr.post (R:=fun v L' x'=>∃ (s:QS) (qs:List MrT),MrI D.n 1600 (mrSum D.Wf D.pn) s qs∧QE (D.pn+D.tn) (qfO D.Wf D.pn) (fun j=>D.pn≤j) s (qs.map MrT.q)∧(∀ q∈qs,mrPlan D.n false q=none)∧qs.length=D.pn+D.tn∧v=.bool true∧x'=MX.idle∧∀ h,Star L' h→Star (mrU D s.f::all (mrL D qs)::F) h) ?_
  (by rintro v L' x' ⟨s,qs,a1,a2,a3,a4,rfl,rfl,h2⟩;exact ⟨_,⟨false,s,qs,a1,a2,a3,a4,rfl,rfl,rfl⟩,h2⟩)
 rw [← hM]
 have hrt':RdsO F ta (D.pn+D.tn) ((thrW ts).map Thr.fv):=by rw [hfv];exact hrt
 refine tr_of_body Try.func34 rfl Try.ntmps34 (by simp) fun um Q _ hQ=>?_
 simp only [argE,Nat.zero_add,Nat.reduceAdd]
 repeat (first | (apply wo_po;apply mo_load;exact rfl;exact hob.there.there;exact trivial) | refine we_seq ?_ | (refine wR ?_;try simp only [oS]) | refine wo_nil ?_ | refine wM ?_ | refine wA ?_ | refine wE ?_)
 refine wo_call (.cons rfl (.cons rfl .nil)) trivial (order_tr (m:=D.pn+D.tn) (rdso_upW [_,_] hro) (by omega) hoi) ?_
 rintro odv L1 x1 ⟨rfl,rfl⟩
 refine wo_pure (of_has .here (vec_shape (by omega))) ?_
 rintro ⟨oda,odn,odc,rfl,hodn,_,hodz,hody⟩
 obtain rfl:odn=(orderF (D.pn+D.tn) order).length:=by simp [intC] at hodn;omega
 refine wo_ent (mrU D (seqs D.n)::all ((thrW ts).map Thr.M)::vec 1 (.slice oda (orderF (D.pn+D.tn) order).length odc) (intC (orderF (D.pn+D.tn) order))::F) (.take (.there .here) (.take (.there .here) (.take .here .refl))) ?_
 repeat (first | refine wM ?_)
 refine wo_call (.cons rfl (.cons rfl .nil)) trivial (plays_tr (g:=mrGm D.n false D.pb D.tb D.pn D.nc D.mr D.r D.b) (ts:=thrW ts) (s0:=s0) (order:=orderF (D.pn+D.tn) order) (mrPI D) (fun _ _=>trivial) hI0 (fun p k h=>(hs p k h).1) (fun _ _ _=>trivial) (fun _ _ z=>z) (fun t ht=>?_) (by omega) (by omega) (by omega) hrt'.there (rdsoW .here (by simp [intC]) hodz hody)) ?_
 ·obtain ⟨u,hu,rfl⟩:=List.mem_map.1 ht
  show ThrOk (mrGm D.n false D.pb D.tb D.pn D.nc D.mr D.r D.b) (fun s=>(s,u.q0)) u.fv u.M
  simp only [ts] at hu
  unfold mrTs at hu
  rcases List.mem_append.1 hu with ht | ht
  ·obtain ⟨i,hi⟩:=List.mem_iff_getElem?.1 ht
   rw [List.getElem?_mapIdx] at hi
   obtain ⟨y,hy,rfl⟩:=Option.map_eq_some_iff.1 hi
   have hlt:i<D.pn:=by have:=(List.getElem?_eq_some_iff.1 hy).1;have:=h.hkp;omega
   exact mP_ok h.hne h.hm1 h.hm2 h.hn h.hj hlt h.hpn (mn_W h i) h.O h.OM h.hd
  ·obtain ⟨i,hi⟩:=List.mem_iff_getElem?.1 ht
   rw [List.getElem?_mapIdx] at hi
   obtain ⟨y,hy,rfl⟩:=Option.map_eq_some_iff.1 hi
   have hlt:i<D.tn:=by have:=(List.getElem?_eq_some_iff.1 hy).1;have:=h.hkt;omega
   exact mT_ok h.hne h.hm1 h.hm2 h.hn h.hj hlt (by have:=h.htn;omega) h.hm h.hb h.hT h.O h.OM h.hd
 rintro v1 L1 x1 ⟨tv2,cv2,rfl,rfl,rfl⟩
 rw [hcn]
 have hql:(playF (thrW ts) s0 (orderF (D.pn+D.tn) order)).qs.length=D.pn+D.tn:=by
  rw [playF_len];exact hlen
 generalize playF (thrW ts) s0 (orderF (D.pn+D.tn) order)=p at hIe hdone hql hcn ⊢
 refine wo_pure (of_has (.there .here) (vec_shape (by omega))) ?_
 rintro ⟨a2,n2,c2,rfl,hn2',_,_⟩
 obtain rfl:n2=0:=by simp [cutC] at hn2';omega
 refine wo_pure (of_has .here (vec_shape (by omega))) ?_
 rintro ⟨a1,n1,c1,rfl,hn1,_⟩
 repeat (first | (apply wo_mo;apply mo_alloc;exact trivial) | refine wM ?_ | (apply wo_po;apply mo_extract;exact rfl;exact rfl;exact gY))
 rintro v' L' ⟨pb3,rfl,rfl⟩
 repeat (first | (apply wo_pm;apply mo_storeA (c:=0) (k:=0) (a:=0) (vs:=[.slice none 0 0,.slice none 0 0]);exact rfl;exact rfl;exact rfl;(intro w hw;simp [Value.cells] at hw;rcases hw with rfl | rfl <;> rfl);exact rfl;exact Nat.le_refl 2;exact .here;exact trivial) | refine weqlT ?_ | refine we_seq ?_ | (refine wR ?_;try simp only [oS]) | refine wo_nil ?_ | refine wM ?_ | refine wA ?_ | refine wK ?_ | refine wD ?_ | refine wL ?_ | refine wE ?_ | refine we_ret ?_)
 (first | refine or1 Try.func34 Try.results34 hQ rfl ?_ | refine on1 Try.func34 Try.results34 hQ rfl ?_)
 refine ⟨p.s,p.qs,hIe.1,hIe.2.1,fun q hq=>?_,hql,rfl,rfl,fun h st=>Ent.star (.take (.there (.there (.there .here))) (.take (.there (.there (.there .here))) (.drop (.drop (.drop (.drop .refl)))))) st⟩
 obtain ⟨k,hk⟩:=List.mem_iff_getElem?.1 hq
 exact hdone k q hk
end
end
end Go.Proofs.Ytmkkanmkjfnpdaa
namespace Go.Proofs.Ytmkkanmkjfnpdaa
open Go Go.PB
attribute [local irreducible] Mo Bin Eql Tr Wo Ap Wle
section
section
variable {B:Hand} [Lets B] {L F:List HProp} {x:B.X} {mr r b n k nc:Nat} {f:Nat→Nat} {row:List Nat} {Ro:HProp}
theorem width_tr {n:Int} (hn:-9223372036854775808≤n∧n≤9223372036854775807) :
  Tr Try.prog B 26 [.int .i64 n] L x fun v L' x'=>∃ k:Nat,1≤k∧k≤3∧v=.int .i64 ((2^k:Nat):Int)∧L'=L∧x'=x:=by
 have h1:=Int.emod_nonneg n (by omega:(3:Int)≠0)
 have h2:=Int.emod_lt_of_pos n (by omega:(0:Int)<3)
 refine tr_of_body Try.func26 rfl Try.ntmps26 (by simp) fun um Q _ hQ=>?_
 simp only [argE,Nat.zero_add,Nat.reduceAdd]
 repeat (first | refine we_seq ?_ | (refine wR ?_;try simp only [oS]) | refine wo_nil ?_ | refine wM ?_ | refine wA ?_)
 refine wo_call (.cons rfl (.cons rfl .nil)) trivial (within_tr hn (by omega)) ?_
 rintro v L' x' ⟨rfl,rfl,rfl⟩
 obtain ⟨k,hk⟩:∃ k:Nat,n%3=k:=⟨(n%3).toNat,by omega⟩
 rw [hk]
 have hk3:k≤2:=by omega
 have hw:IntKind.i64.wrap (2*2^(min (k:Int).toNat IntKind.i64.bits))=((2^(k+1):Nat):Int):=by
  have:k=0∨k=1∨k=2:=by omega
  rcases this with rfl | rfl | rfl <;> rfl
 repeat (first | (apply wo_po;apply mo_bin;exact rfl;exact rfl;apply bin_shl;omega;exact hw;exact gY) | refine wo_nil ?_ | refine wA ?_ | refine we_ret ?_)
 (first | refine or1 Try.func26 Try.results26 hQ rfl ?_ | refine on1 Try.func26 Try.results26 hQ rfl ?_)
 exact ⟨k+1,by omega,by omega,rfl,rfl,rfl⟩
theorem mkeep_at (h1:r≠b) (h2:mr≠r) (h3:mr≠b) (hn:n=2^k) (hk:k≤10) (O:MrRo Ro mr r b n nc):MirAt (kpAcc x (maddr mr r b n) (2*n+5) (m_apart0 h1 h2 h3) Ro) mr r b n k nc :=
 maddr_at rfl hn hk (fun s {_ _ _} q=>rd_allR (.there q)) O
theorem counts_keep (h1:r≠b) (h2:mr≠r) (h3:mr≠b) (hn:n=2^k) (hk:k≤10) (O:MrRo Ro mr r b n nc) (hh:Has L (all [wds (maddr mr r b n) (2*n+5) [] f,Ro]) F) :
  Tr Try.prog B 21 [.pointer (some ⟨mr,0,none⟩),.nilIface] L x fun w L' x'=>w=.tuple #[.int .u64 (f (2*n+2):Nat),.int .u64 (f (2*n+3):Nat),.int .u64 (f (2*n+4):Nat),.int .i64 0]∧L'=all [wds (maddr mr r b n) (2*n+5) [] f,Ro]::F∧x'=x:=by
 refine (mcounts_tr (A:=kpAcc x (maddr mr r b n) (2*n+5) (m_apart0 h1 h2 h3) Ro) (mkeep_at h1 h2 h3 hn hk O) (s:=f) (G:=fun a b' c s'=>a=f (2*n+2)∧b'=f (2*n+3)∧c=f (2*n+4)∧s'=f) ?_ hh).mono ?_
 ·exact ⟨by show 2*n+2+0<2*n+5;omega,by show 2*n+2+1<2*n+5;omega,by show 2*n+2+2<2*n+5;omega,rfl,rfl,rfl,rfl⟩
 ·rintro w L' x' ⟨_,_,_,_,⟨rfl,rfl,rfl,rfl⟩,rfl,rfl,rfl⟩
  exact ⟨rfl,rfl,rfl⟩
theorem take_keep (h1:r≠b) (h2:mr≠r) (h3:mr≠b) (hn:n=2^k) (hk0:1≤k) (hk:k≤10) (O:MrRo Ro mr r b n nc) (R:RowAt n f row) (hh:Has L (all [wds (maddr mr r b n) (2*n+5) [] f,Ro]) F) :
  Tr Try.prog B 20 [.pointer (some ⟨mr,0,none⟩),.nilIface] L x fun w L' x'=>∃ f',RowAt n f' row.tail∧(f' (2*n+2)=f (2*n+2)∧f' (2*n+3)=f (2*n+3)∧f' (2*n+4)=(if row=[] then f (2*n+4) else (f (2*n+4)+1)%18446744073709551616)) ∧
   w=.tuple #[.int .u64 (row.head?.getD 0:Nat),.bool row.head?.isSome,.int .i64 0]∧L'=all [wds (maddr mr r b n) (2*n+5) [] f',Ro]::F∧x'=x:=by
 have hpos:2≤n:=by have:=Nat.pow_le_pow_right (n:=2) (by omega) hk0;omega
 refine (mtake_tr (A:=kpAcc x (maddr mr r b n) (2*n+5) (m_apart0 h1 h2 h3) Ro) (mkeep_at h1 h2 h3 hn hk O) (s:=f) (Q:=fun o f'=>o=row.head?∧RowAt n f' row.tail∧f' (2*n+2)=f (2*n+2)∧f' (2*n+3)=f (2*n+3)∧f' (2*n+4)=(if row=[] then f (2*n+4) else (f (2*n+4)+1)%18446744073709551616)) ?_ hh).mono ?_
 ·show MTakeT (loneAcc x (maddr mr r b n) (2*n+5) [] (m_apart0 h1 h2 h3)) n f (fun o f'=>o=row.head?∧RowAt n f' row.tail∧f' (2*n+2)=f (2*n+2)∧f' (2*n+3)=f (2*n+3)∧f' (2*n+4)=(if row=[] then f (2*n+4) else (f (2*n+4)+1)%18446744073709551616))
  refine take_rowG (x:=x) (ap:=m_apart0 h1 h2 h3) (N:=2*n+5) (by omega) hn hk0 hk R fun f' R' hs=>?_
  have e0:=hs (2*n+2) (by omega)
  have e1:=hs (2*n+3) (by omega)
  have e2:=hs (2*n+4) (by omega)
  cases row with
  | nil=>exact ⟨rfl,R',e0,e1,by rw [if_pos rfl];exact e2⟩
  | cons y l =>
   refine ⟨by show 2*n+2+2<2*n+5;omega,?_⟩
   refine ⟨rfl,rowAt_same (by omega) (by omega) R',?_,?_,?_⟩
   ·rw [upd_other (by omega)];exact e0
   ·rw [upd_other (by omega)];exact e1
   ·rw [if_neg (by simp),upd_same,show 2*n+2+2=2*n+4 from rfl,e2]
 ·rintro w L' x' ⟨o,f',⟨rfl,q1,q2,q3,q4⟩,_,rfl,rfl,rfl⟩
  exact ⟨f',q1,⟨q2,q3,q4⟩,rfl,rfl,rfl⟩
end
end
end Go.Proofs.Ytmkkanmkjfnpdaa
namespace Go.Proofs.Ytmkkanmkjfnpdaa
open Go Go.PB
attribute [local irreducible] Mo Bin Eql Tr Wo Ap Wle
attribute [local instance] Pass.of_no
section
abbrev ints (l:List Int):List Value:=l.map fun k=>.int .i64 k
theorem star_trueQ {L:List HProp} {h:Hp} (st:Star L h):Star ((fun _=>True)::L) h :=
 star_shut (M:=[]) st
theorem star_p {p:Prop} (hp:p) {L:List HProp} {h:Hp} (st:Star L h):Star ((fun _=>p)::L) h :=
 star_map (star_trueQ st) (fun _ _=>hp) fun _ z=>z
theorem hdr_there {L:List HProp} {c:HProp} {vs:List Value} {ls:List (List Nat)} (h:HdrOk L vs ls):HdrOk (c::L) vs ls :=
 ⟨h.1,fun i l hi=>let ⟨a,c',h1,h2⟩:=h.2 i l hi;⟨a,c',h1,h2.there⟩⟩
section
variable {pn tn yb mb qb pB tB:Nat} {pv:Value} {Wf:Nat→Nat} {L:List HProp}
def mnL1 (pv:Value) (pn tn yb mb qb pB tB:Nat) (Wf:Nat→Nat) (L:List HProp):PB.Inv (Nat × Value × List (Nat × Nat) × Nat) MX where
 e:=fun i=>[(2,pv),(3,.pointer (some ⟨yb,0,none⟩)),(4,.pointer (some ⟨mb,0,none⟩)),(7,.pointer (some ⟨qb,0,none⟩)),(9,.int .i64 (pn:Nat)),(10,.int .i64 (tn:Nat)),(11,.pointer (some ⟨pB,0,none⟩)),(12,.pointer (some ⟨tB,0,none⟩)),(13,.int .i64 (mrSum Wf i.1:Nat)),(14,i.2.1),(15,.pointer (some ⟨i.2.2.2,0,none⟩))]
 L:=fun i=>vec 1 i.2.1 (i.2.2.1.map fun y=>mpF y.1 y.2 qb pB)::all (mpBs Wf i.2.2.1)::arr i.2.2.2 0 [.int .i64 (i.1:Nat)]::L
 x:=fun _=>.idle
 ok:=fun i=>i.1≤pn∧i.2.2.1.length=i.1
def mnJ (pv:Value) (pn tn yb mb qb pB tB:Nat) (Wf:Nat→Nat) (ta:Option Addr) (tc kb:Nat) (ks:List (Nat × Nat)) (L:List HProp):PB.Inv Nat MX where
 e:=fun xb=>[(2,pv),(3,.pointer (some ⟨yb,0,none⟩)),(4,.pointer (some ⟨mb,0,none⟩)),(7,.pointer (some ⟨qb,0,none⟩)),(9,.int .i64 (pn:Nat)),(10,.int .i64 (tn:Nat)),(11,.pointer (some ⟨pB,0,none⟩)),(12,.pointer (some ⟨tB,0,none⟩)),(13,.int .i64 (mrSum Wf ks.length:Nat)),(14,.slice ta ks.length tc),(15,.pointer (some ⟨kb,0,none⟩)),(16,.pointer (some ⟨xb,0,none⟩))]
 L:=fun xb=>arr xb 0 [.int .i64 (Wf ks.length:Nat)]::vec 1 (.slice ta ks.length tc) (ks.map fun y=>mpF y.1 y.2 qb pB)::all (mpBs Wf ks)::arr kb 0 [.int .i64 (ks.length:Nat)]::L
 x:=fun _=>.idle
 ok:=fun _=>True
def mnL2 (pv:Value) (pn tn yb mb qb pB tB T:Nat) (kp:List (Nat × Nat)) (L:List HProp):PB.Inv (Nat × Value × List Nat × Nat) MX where
 e:=fun i=>[(2,pv),(3,.pointer (some ⟨yb,0,none⟩)),(4,.pointer (some ⟨mb,0,none⟩)),(7,.pointer (some ⟨qb,0,none⟩)),(9,.int .i64 (pn:Nat)),(10,.int .i64 (tn:Nat)),(11,.pointer (some ⟨pB,0,none⟩)),(12,.pointer (some ⟨tB,0,none⟩)),(13,.int .i64 (T:Nat)),(14,i.2.1),(17,.pointer (some ⟨i.2.2.2,0,none⟩))]
 L:=fun i=>vec 1 i.2.1 ((kp.map fun y=>mpF y.1 y.2 qb pB)++i.2.2.1.map fun kb=>mtF yb mb qb tB kb)::all (mtBs i.2.2.1)::arr i.2.2.2 0 [.int .i64 (i.1:Nat)]::L
 x:=fun _=>.idle
 ok:=fun i=>i.1≤tn∧i.2.2.1.length=i.1
end
structure MnEnd (D:MnD) (s:QS):Prop where
 off:s.f (2*D.n+2)=mrSum D.Wf D.pn
 ref:s.f (2*D.n+3)+s.vs.length=mrSum D.Wf D.pn
 tak:s.f (2*D.n+4)=s.tk.length
 le:s.tk.length≤s.vs.length
 put:sumN ((qPs s D.pn).map List.length)=s.vs.length
 tk:sumN ((qTs s D.pn D.tn).map List.length)=s.tk.length
 left:(qLeft s).length=s.vs.length-s.tk.length
 row:RowAt D.n s.f (qLeft s)
 kept:KeptA (prs (qPs s D.pn)) (qTs s D.pn D.tn++[qLeft s])
 nd:(qPs s D.pn).flatten.Nodup
 val:∀ v∈(qPs s D.pn).flatten,v<18446744073709551616
 len:∀ l∈qTs s D.pn D.tn++[qLeft s],l.length≤1600
 flat:(qPs s D.pn).flatten.length≤D.pn*1600
 sum:mrSum D.Wf D.pn≤200*D.pn
theorem mn_end {D:MnD} (h:MnOk D) {s:QS} {qs:List MrT} {fr:Bool} (hI:MrI D.n 1600 (mrSum D.Wf D.pn) s qs) (hE:QE (D.pn+D.tn) (qfO D.Wf D.pn) (fun j=>D.pn≤j) s (qs.map MrT.q)) (hdn:∀ q∈qs,mrPlan D.n fr q=none):MnEnd D s:=by
 obtain ⟨m1,m2,m3,m4⟩:=mr_end hI hdn
 obtain ⟨k1,k2,k3,k4,k5⟩:=q_kept (pn:=D.pn) (off:=D.pn) (tn:=D.tn) (key:=fun v=>v/4294967296) hI.q hE m1 (qfO_ok (mn_W h)) (fun j hj hT=>⟨hT,by omega⟩)
 have hput:∀ j,j<D.pn+D.tn→(putBy s j).Sublist (qfO D.Wf D.pn j):=fun j hj=>by
  have hlt:j<(qs.map MrT.q).length:=by rw [hE.len];exact hj
  have hq:=List.getElem?_eq_getElem hlt
  have hc:=m1 _ (List.getElem_mem hlt)
  have e1:=hI.q.pas j _ hq
  have e2:pendP ((qs.map MrT.q)[j])=[]:=by unfold pendP;rw [hc]
  rw [e2,List.append_nil] at e1
  obtain ⟨_,e3,_⟩:=hE.sub j _ hq
  rw [hc] at e3
  rw [e1];simpa using e3
 have hown:∀ x∈s.vs,x.1<D.pn:=fun x hx=>Nat.lt_of_not_le fun hle=>by
  have h1:x.2∈putBy s x.1:=by unfold putBy;exact List.mem_map.2 ⟨x,List.mem_filter.2 ⟨hx,by simp⟩,rfl⟩
  have h2:=(hput x.1 (hE.own x hx)).subset h1
  rw [(qfO_ok (mn_W h) x.1).2.2 hle] at h2;simp at h2
 obtain ⟨s1,s2,s3⟩:=mr_sums (pn:=D.pn) (off:=D.pn) (tn:=D.tn) hI.q hE hown (fun j hj hT=>⟨hT,by omega⟩)
 have hsum:=mrSum_le (mn_W h) D.pn
 refine ⟨m2,m3,m4,hI.q.le,s1,s2,s3,hI.q.row (mn_n h).1 (mn_n h).2 (by omega) m1,k1,k2,fun v hv=>?_,k4,k5,hsum⟩
 obtain ⟨j',hj'⟩:=k3 v hv
 unfold qfO at hj'
 split at hj'
 ·obtain ⟨i',hi',rfl⟩:=List.mem_map.1 hj'
  have:=List.mem_range.1 hi'
  have:=mn_W h j'
  have:=h.hpn
  unfold qVal;omega
 ·simp at hj'
section
variable {pn tn qb pB tB:Nat}
theorem sum_take {l:List (List Nat)} {k:Nat} {y:List Nat} (h:l[k]?=some y):sumN ((l.take (k+1)).map List.length)=sumN ((l.take k).map List.length)+y.length:=by
 rw [List.take_add_one,h,Option.toList_some,List.map_append,sum_app];simp [sumN]
theorem sum_upto {l:List (List Nat)}:∀ k:Nat,sumN ((l.take k).map List.length)≤sumN (l.map List.length):=fun k=>by
 have h:l.map List.length=(l.take k).map List.length++(l.drop k).map List.length:=by rw [← List.map_append,List.take_append_drop]
 rw [h,sum_app];omega
def mnL3 (pn tn qb pB tB T a0 a1 a2 mr r b n:Nat) (Ro:HProp) (left:List Nat) (R:List HProp):PB.Inv ((Nat→Nat) × List Nat × List Nat × Value) MX where
 e:=fun i=>[(7,.pointer (some ⟨qb,0,none⟩)),(8,.int .i64 0),(9,.int .i64 (pn:Nat)),(10,.int .i64 (tn:Nat)),(11,.pointer (some ⟨pB,0,none⟩)),(12,.pointer (some ⟨tB,0,none⟩)),(13,.int .i64 (T:Nat)),(18,.int .u64 (a0:Nat)),(19,.int .u64 (a1:Nat)),(20,.int .u64 (a2:Nat)),(21,i.2.2.2)]
 L:=fun i=>vec 1 i.2.2.2 (i.2.2.1.map num)::all [wds (maddr mr r b n) (2*n+5) [] i.1,Ro]::R
 x:=fun _=>.idle
 ok:=fun i=>RowAt n i.1 i.2.1∧i.2.2.1++i.2.1=left∧i.1 (2*n+2)=a0∧i.1 (2*n+3)=a1∧i.1 (2*n+4)=a2+i.2.2.1.length
def mnL4 (pn tn qb pB tB T a0 a1 a2:Nat) (tv:Value) (ps:List (List Nat)) (R:List HProp):PB.Inv Nat MX where
 e:=fun i=>[(7,.pointer (some ⟨qb,0,none⟩)),(8,.int .i64 0),(9,.int .i64 (pn:Nat)),(10,.int .i64 (tn:Nat)),(11,.pointer (some ⟨pB,0,none⟩)),(12,.pointer (some ⟨tB,0,none⟩)),(13,.int .i64 (T:Nat)),(18,.int .u64 (a0:Nat)),(19,.int .u64 (a1:Nat)),(20,.int .u64 (a2:Nat)),(21,tv),(25,.int .i64 (sumN ((ps.take i).map List.length):Nat)),(26,.int .i64 (i:Nat))]
 L:=fun _=>R
 x:=fun _=>.idle
 ok:=fun i=>i≤pn
def mnL5 (pn tn qb pB tB T a0 a1 a2 V:Nat) (tv:Value) (ts:List (List Nat)) (R:List HProp):PB.Inv Nat MX where
 e:=fun i=>[(7,.pointer (some ⟨qb,0,none⟩)),(8,.int .i64 0),(9,.int .i64 (pn:Nat)),(10,.int .i64 (tn:Nat)),(11,.pointer (some ⟨pB,0,none⟩)),(12,.pointer (some ⟨tB,0,none⟩)),(13,.int .i64 (T:Nat)),(18,.int .u64 (a0:Nat)),(19,.int .u64 (a1:Nat)),(20,.int .u64 (a2:Nat)),(21,tv),(25,.int .i64 ((V-sumN ((ts.take i).map List.length):Nat):Int)),(27,.int .i64 (i:Nat))]
 L:=fun _=>R
 x:=fun _=>.idle
 ok:=fun i=>i≤tn
end
set_option maxHeartbeats 4000000 in
theorem many_tr {most:Int} {mf:Nat} {cap:List Value} {P:List HProp→Prop} (hplay:MnPlay most mf cap P) (hm:0<most∧most≤200) [en:Ent' Try.prog mf] {L:List HProp} {a:Option Addr} {n0 c:Nat} {l:List Int} {sl tk tr:Int} (hL:Dup (all L)) (hP:∀ M:List HProp,(∀ {b o:Nat} {v:Value},Rd L b o v→Rd M b o v)→P M)
  (hr0:RdsO L a n0 (ints l)) (hlb:∀ v∈l,-9223372036854775808≤v∧v≤9223372036854775807) (hb:n0≤9223372036854775807)
  (h0:-9223372036854775808≤sl∧sl≤9223372036854775807) (h2:-9223372036854775808≤tk∧tk≤9223372036854775807) (h3:-9223372036854775808≤tr∧tr≤9223372036854775807) :
  Tr Try.prog mT 23 [.agg #[.int .i64 sl,.slice a n0 c,.int .i64 tk,.int .i64 tr],.int .i64 most,.func (.func mf) #[] cap.toArray] L .idle fun v L' x'=>v=.bool true∧x'=.idle:=by
 have hn0:n0=l.length:=by have:=hr0.1;simpa using this
 refine tr_of_body Try.func23 rfl Try.ntmps23 (by simp) fun um Q _ hQ=>?_
 simp only [argE,Nat.zero_add,Nat.reduceAdd]
 repeat (first | (apply wo_mo;apply mo_box;exact rfl;exact trivial) | refine we_seq ?_ | (refine wR ?_;try simp only [oS]))
 rintro v' L' ⟨yb,rfl,rfl⟩
 refine wo_ent (arr yb 0 [.int .i64 sl,.slice a n0 c,.int .i64 tk,.int .i64 tr]::L) .refl ?_
 repeat (first | (apply wo_mo;apply mo_box;exact rfl;exact trivial))
 rintro v' L' ⟨mb,rfl,rfl⟩
 repeat (first | refine we_seq ?_ | (refine wR ?_;try simp only [oS]) | refine wo_nil ?_ | refine wA ?_ | refine wD ?_ | refine wL ?_)
 refine wo_call (.cons rfl .nil) trivial (width_tr h0) ?_
 rintro v1 L1 x1 ⟨j,hj1,hj3,rfl,rfl,rfl⟩
 skip
 refine wo_call (.cons rfl .nil) trivial (mnew_tr (n:=2^j) rfl hj1 (by omega)) ?_
 rintro v1 L1 x1 ⟨mr,r,b,nc,hne,hm1,hm2,rfl,rfl,rfl⟩
 repeat (first | (apply wo_mo;apply mo_alloc;exact trivial) | refine wM ?_ | (apply wo_po;apply mo_extract;exact rfl;exact rfl;exact gY))
 rintro v' L' ⟨qb,rfl,rfl⟩
 repeat (first | refine wS ?_ | refine wneqF ?_ | refine we_seq ?_ | (refine wR ?_;try simp only [oS]) | refine wo_nil ?_ | refine wM ?_ | refine wA ?_ | refine wD ?_ | refine wL ?_ | refine wE ?_ | (apply wo_po;apply mo_min;exact rfl;exact rfl;exact gY) | refine wF ?_ | refine we_skip ?_)
 obtain ⟨pn,hpn⟩:∃ pn:Nat,min ((n0:Nat):Int) 4=pn:=⟨(min ((n0:Nat):Int) 4).toNat,by omega⟩
 have hpn4:pn≤4:=by omega
 have hpn0:pn≤n0:=by omega
 skip
 rw [hpn]
 refine wo_call (.cons rfl (.cons rfl .nil)) trivial (within_tr h2 (by omega)) ?_
 rintro v1 L1 x1 ⟨rfl,rfl,rfl⟩
 have e1:=Int.emod_nonneg tk (by decide:(4:Int)≠0)
 have e2:=Int.emod_lt_of_pos tk (by decide:(0:Int)<4)
 obtain ⟨tn,htn⟩:∃ tn:Nat,tk%4=tn:=⟨(tk%4).toNat,by omega⟩
 rw [htn]
 have htn3:tn≤3:=by omega
 have e3:=Int.emod_nonneg tr (by omega:most≠0)
 have e4:=Int.emod_lt_of_pos tr hm.1
 obtain ⟨T,hT⟩:∃ T:Nat,tr%most=T:=⟨(tr%most).toNat,by omega⟩
 repeat (first | (apply wo_mo;apply mo_make (n:=pn);exact rfl;exact rfl;exact rfl;omega;omega;exact trivial) | refine we_seq ?_ | (refine wR ?_;try simp only [oS]) | refine wo_nil ?_ | refine wM ?_ | refine wA ?_)
 rintro v' L' ⟨pb,rfl,rfl⟩
 repeat (first | (apply wo_mo;apply mo_alloc;exact trivial))
 rintro v' L' ⟨pB,rfl,rfl⟩
 repeat (first | refine wS ?_ | refine we_seq ?_ | (refine wR ?_;try simp only [oS]) | refine wo_nil ?_ | refine wM ?_)
 repeat (first | (apply wo_mo;apply mo_make (n:=tn);exact rfl;exact rfl;exact rfl;omega;omega;exact trivial))
 rintro v' L' ⟨tb,rfl,rfl⟩
 repeat (first | (apply wo_mo;apply mo_alloc;exact trivial))
 rintro v' L' ⟨tB,rfl,rfl⟩
 repeat (first | refine wS ?_ | refine we_seq ?_ | (refine wR ?_;try simp only [oS]) | refine wo_nil ?_ | refine wA ?_)
 repeat (first | (apply wo_mo;apply mo_alloc;exact trivial))
 rintro v' L' ⟨kb,rfl,rfl⟩
 repeat (first | refine wS ?_ | refine wo_nil ?_ | refine we_block ?_)
 let Wf:Nat→Nat:=fun k=>Int.toNat ((l[k]?).getD 0%most)
 let L3:List HProp:=arr tB 0 [.slice (some ⟨tb,0,none⟩) tn tn]::arr tb 0 (zeros tn [.slice none 0 0])::arr pB 0 [.slice (some ⟨pb,0,none⟩) pn pn]::arr pb 0 (zeros pn [.slice none 0 0])::arr qb 0 [.pointer (some ⟨mr,0,none⟩)] ::
  wds (maddr mr r b (2^j)) (2*2^j+5) (mK mr r b (2^j) nc) (seqs (2^j))::newsC nc::arr mb 0 [.int .i64 most]::arr yb 0 [.int .i64 sl,.slice a n0 c,.int .i64 tk,.int .i64 tr]::L
 let pv:Value:=.func (.func mf) #[] cap.toArray
 refine we_star (vec 1 (.slice none 0 0) (([]:List (Nat × Nat)).map fun y=>mpF y.1 y.2 qb pB)::all (mpBs Wf [])::arr kb 0 [.int .i64 ((0:Nat):Int)]::L3) (fun h st=>vec_nil (star_shut (M:=[]) st)) ?_
 refine we_loopN (mnL1 pv pn tn yb mb qb pB tB Wf L3) (fun i=>pn-i.1) (0,.slice none 0 0,[],kb) ⟨Nat.zero_le _,rfl⟩ ⟨rfl,rfl,rfl,rfl,rfl,rfl,rfl,rfl,rfl,rfl,rfl,trivial⟩ .refl rfl ?_
 rintro ⟨i,tv,ks,kb⟩ ⟨hi,hks⟩
 simp only at hi hks
 subst hks
 simp only [mnL1]
 have hW1:∀ k,k<pn→(l[k]?).getD 0%most=((Wf k:Nat):Int):=fun k _=>by
  have:=Int.emod_nonneg ((l[k]?).getD 0) (by omega:most≠0)
  show _=((Int.toNat ((l[k]?).getD 0%most):Nat):Int)
  omega
 have hW2:∀ k,((Wf k:Nat):Int)<most:=fun k=>by
  have:=Int.emod_lt_of_pos ((l[k]?).getD 0) hm.1
  show ((Int.toNat ((l[k]?).getD 0%most):Nat):Int)<most
  omega
 have hW3:∀ k,Wf k<200:=fun k=>by have:=hW2 k;omega
 have hlk:∀ k,k<pn→-9223372036854775808≤(l[k]?).getD 0∧(l[k]?).getD 0≤9223372036854775807:=fun k hk=>by
  rw [List.getElem?_eq_getElem (show k<l.length by omega)]
  exact hlb _ (List.getElem_mem _)
 refine we_pure (of_has .here (vec_shape (by omega))) ?_
 rintro ⟨ta,tn0,tc,rfl,htn0,_,htz,hty⟩
 have htn0:tn0=ks.length:=by simp at htn0;omega
 subst htn0
 by_cases hlt:ks.length<pn
 ·obtain ⟨ab,ao,rfl,hrd⟩:=hr0.rds (by omega)
  have r1:=hrd ks.length (.int .i64 ((l[ks.length]?).getD 0)) (by rw [List.getElem?_map,List.getElem?_eq_getElem (show ks.length<l.length by omega)];rfl)
  repeat (first | refine wlssT ?_ | refine we_seq ?_ | (refine wR ?_;try simp only [oS]) | refine wo_nil ?_ | refine wM ?_ | refine wL ?_ | refine wT ?_ | refine we_skip ?_ | refine we_block ?_)
  refine we_join (mnJ pv pn tn yb mb qb pB tB Wf ta tc kb ks L3) ?_ ?_
  ·refine we_draw (List.range' 0 9) (by kernel_rfl) ?_
   have z1:∀ {F G:List HProp},Has F (arr yb 0 [.int .i64 sl,.slice (some ⟨ab,ao,none⟩) n0 c,.int .i64 tk,.int .i64 tr]) G→Rd F yb 1 (.slice (some ⟨ab,ao,none⟩) n0 c):=fun hF=>Rd.of hF (Rd.row0 rfl)
   have z2:∀ {F G:List HProp},Has F (arr kb 0 [.int .i64 (ks.length:Nat)]) G→Rd F kb 0 (.int .i64 (ks.length:Nat)):=fun hF=>Rd.of hF (Rd.row0 rfl)
   have z3:∀ {F G:List HProp},Has F (arr mb 0 [.int .i64 most]) G→Rd F mb 0 (.int .i64 most):=fun hF=>Rd.of hF (Rd.row0 rfl)
   have z4:Rd (vec 1 (.slice ta ks.length tc) (ks.map fun y=>mpF y.1 y.2 qb pB)::all (mpBs Wf ks)::arr kb 0 [.int .i64 (ks.length:Nat)]::L3) ab (ao+ks.length) (.int .i64 ((l[ks.length]?).getD 0)):=.there (.there (.there (.there (.there (.there (.there (.there (.there (.there (.there (.there r1)))))))))))
   repeat (first | (apply ap_read;exact rfl;exact rfl;exact trivial;apply mo_load;exact rfl;exact z1 (.there (.there (.there (.there (.there (.there (.there (.there (.there (.there (.there .here)))))))))))) | (apply ap_read;exact rfl;exact rfl;exact trivial;apply mo_load;exact rfl;exact z2 (.there (.there .here))) | (apply ap_pure;exact rfl;exact rfl;exact trivial;intro L;apply mo_index1;exact rfl;exact rfl;omega) | (apply ap_read;exact rfl;exact rfl;exact trivial;apply mo_load;exact rfl;exact z4) | (apply ap_read;exact rfl;exact rfl;exact trivial;apply mo_load;exact rfl;exact z3 (.there (.there (.there (.there (.there (.there (.there (.there (.there (.there .here))))))))))) | refine aD ?_)
   refine ap_fork (f:=7) (ord':=[0,1,2,3,4,5,7,6,8]) (by kernel_rfl) (by kernel_rfl) (by kernel_rfl) (by kernel_rfl) ?_ ?_
   ·refine ap1_call (Pd':=[]) rfl (by kernel_rfl) trivial rfl rfl (.cons rfl (.cons rfl .nil)) (within_tr (hlk _ hlt) (by omega)) (fun v L' x' _ p hp=>by cases hp) ?_
    rintro v L' x' ⟨rfl,rfl,rfl⟩
    refine ap_loudR (Pd':=[]) rfl rfl rfl (by kernel_rfl) trivial mo_alloc (fun v L' _ p hp=>by cases hp) ?_
    rintro v L' ⟨xb,rfl,rfl⟩
    rw [hW1 _ hlt]
    refine ap_loud rfl rfl rfl rfl rfl trivial (mo_store rfl rfl rfl (Wt.row0 (k:=0) (vs:=[.int .i64 0]) .here (Nat.lt_succ_self 0))) ?_
    rintro v' L' ⟨rfl,rfl⟩
    repeat (first | refine ap_end ?_)
    refine at_midS (B:=mT) (I:=mnJ pv pn tn yb mb qb pB tB Wf ta tc kb ks L3) xb trivial ⟨rfl,rfl,rfl,rfl,rfl,rfl,rfl,rfl,rfl,rfl,rfl,rfl,trivial⟩ (fun h st=>st) rfl
   ·refine ap1_mo rfl rfl rfl trivial mo_alloc ?_ ?_
    ·rintro v L' ⟨xb,rfl,rfl⟩ p hp
     replace hp:=(List.mem_filter.1 hp).1
     simp only [List.mem_cons,List.not_mem_nil,or_false] at hp
     repeat (obtain rfl | hp:=hp;(· first | exact .inl rfl | exact .inr ⟨_,rfl,trivial,mo_load rfl (z1 (.there (.there (.there (.there (.there (.there (.there (.there (.there (.there (.there (.there .here)))))))))))))⟩ | exact .inr ⟨_,rfl,trivial,mo_load rfl (z2 (.there (.there (.there .here))))⟩ | exact .inr ⟨_,rfl,trivial,mo_load rfl (z3 (.there (.there (.there (.there (.there (.there (.there (.there (.there (.there (.there .here))))))))))))⟩ | exact .inr ⟨_,rfl,trivial,mo_load rfl z4.there⟩))
     all_goals (subst hp;first | exact .inl rfl | exact .inr ⟨_,rfl,trivial,mo_load rfl (z1 (.there (.there (.there (.there (.there (.there (.there (.there (.there (.there (.there (.there .here)))))))))))))⟩ | exact .inr ⟨_,rfl,trivial,mo_load rfl (z2 (.there (.there (.there .here))))⟩ | exact .inr ⟨_,rfl,trivial,mo_load rfl (z3 (.there (.there (.there (.there (.there (.there (.there (.there (.there (.there (.there .here))))))))))))⟩ | exact .inr ⟨_,rfl,trivial,mo_load rfl z4.there⟩)
    rintro v L' ⟨xb,rfl,rfl⟩
    refine ap_callR (Pd':=[]) rfl rfl (by kernel_rfl) trivial rfl rfl (.cons rfl (.cons rfl .nil)) (within_tr (hlk _ hlt) (by omega)) (fun v L' x' _ p hp=>by cases hp) ?_
    rintro v L' x' ⟨rfl,rfl,rfl⟩
    rw [hW1 _ hlt]
    refine ap_loud rfl rfl rfl rfl rfl trivial (mo_store rfl rfl rfl (Wt.row0 (k:=0) (vs:=[.int .i64 0]) .here (Nat.lt_succ_self 0))) ?_
    rintro v' L' ⟨rfl,rfl⟩
    repeat (first | refine ap_end ?_)
    refine at_midS (B:=mT) (I:=mnJ pv pn tn yb mb qb pB tB Wf ta tc kb ks L3) xb trivial ⟨rfl,rfl,rfl,rfl,rfl,rfl,rfl,rfl,rfl,rfl,rfl,rfl,trivial⟩ (fun h st=>st) rfl
  rintro xb _
  simp only [mnJ]
  have hsum:=mrSum_le hW3 ks.length
  have hW4:=hW3 ks.length
  have hms:mrSum Wf (ks.length+1)=mrSum Wf ks.length+Wf ks.length:=mrSum_succ
  have w1:IntKind.i64.wrap ((mrSum Wf ks.length:Nat)+(Wf ks.length:Nat):Int)=((mrSum Wf (ks.length+1):Nat):Int):=(wrap_i64 (by omega) (by omega)).trans (by omega)
  have w2:IntKind.i64.wrap (((ks.length:Nat):Int)+1)=((ks.length+1:Nat):Int):=(wrap_i64 (by omega) (by omega)).trans (by omega)
  repeat (first | (apply wo_po;apply mo_bin;exact rfl;exact rfl;apply bin_add;(first | exact w1 | exact w2);exact trivial) | (apply wo_po;apply mo_makeFunc (first:=[]) (cap:=[_,_,_,_]) (vf:=[]);exact .nil;exact .cons rfl (.cons rfl (.cons rfl (.cons rfl .nil)));exact trivial) | (apply wo_mo;apply mo_buildSlice (sz:=1) (vs:=[mpF xb kb qb pB]);exact rfl;exact .cons rfl .nil;exact rfl;(intro v hv;cases (List.mem_singleton.1 hv);exact rfl);omega;exact trivial) | refine we_seq ?_ | (refine wR ?_;try simp only [oS]) | refine wo_nil ?_ | refine wM ?_ | refine wA ?_ | refine wL ?_)
  rintro v' L' ⟨nb2,rfl,rfl⟩
  repeat (first | (apply wo_mo;apply mo_append (sz:=1) (new:=[mpF xb kb qb pB]);exact rfl;exact rfl;exact rfl;exact rfl;exact (.there (.there .here));exact rfl;exact .inr ⟨_,_,rfl,Rds.all .here⟩;(intro v hv;cases (List.mem_singleton.1 hv);exact rfl);(simp only [sliceLen];omega);exact trivial))
  rintro v' L' rfl
  repeat (first | (apply wo_mo;apply mo_alloc;exact trivial) | refine we_seq ?_ | (refine wR ?_;try simp only [oS]) | refine wo_nil ?_ | refine wA ?_ | refine wL ?_)
  rintro w' L' ⟨kb2,rfl,rfl⟩
  repeat (first | (apply wo_po;apply mo_bin;exact rfl;exact rfl;apply bin_add;(first | exact w1 | exact w2);exact trivial) | refine wS ?_ | (refine wR ?_;try simp only [oS]) | refine wo_nil ?_ | refine wL ?_)
  refine at_roundS (B:=mT) (I:=mnL1 pv pn tn yb mb qb pB tB Wf L3) (R:=fun j=>pn-j.1<pn-ks.length) (ks.length+1,v',ks++[(xb,kb)],kb2) (by show pn-(ks.length+1)<pn-ks.length;omega) ⟨by show ks.length+1≤pn;omega,by simp⟩ ⟨rfl,rfl,rfl,rfl,rfl,rfl,rfl,rfl,rfl,rfl,rfl,trivial⟩ (fun h st=>?_) rfl
  show Star (vec 1 v' ((ks++[(xb,kb)]).map fun y=>mpF y.1 y.2 qb pB)::all (mpBs Wf (ks++[(xb,kb)]))::arr kb2 0 [.int .i64 ((ks.length+1:Nat):Int)]::L3) h
  rw [mpBs_snoc,List.map_append]
  have s1:Star (arr xb 0 [.int .i64 (Wf ks.length:Nat)]::arr kb 0 [.int .i64 (ks.length:Nat)]::all (mpBs Wf ks)::vec 1 v' ((ks.map fun y=>mpF y.1 y.2 qb pB)++[mpF xb kb qb pB])::arr kb2 0 [.int .i64 ((ks.length+1:Nat):Int)]::L3) h:=Ent.star (.take (.there (.there (.there .here))) (.take (.there (.there (.there (.there .here)))) (.take (.there (.there (.there .here))) (.take (.there .here) (.take .here (.drop .refl)))))) st
  have s2:Star (mrBx xb kb (Wf ks.length) ks.length::all (mpBs Wf ks)::vec 1 v' ((ks.map fun y=>mpF y.1 y.2 qb pB)++[mpF xb kb qb pB])::arr kb2 0 [.int .i64 ((ks.length+1:Nat):Int)]::L3) h:=star_shut (M:=[_,_]) s1
  have s3:=star_push s2
  exact Ent.star (.take (.there .here) (.take .here (.take .here .refl))) s3
 obtain hke:ks.length=pn:=by omega
 repeat (first | (apply wo_mo;apply mo_alloc;exact trivial) | refine wlssF ?_ | refine we_seq ?_ | (refine wR ?_;try simp only [oS]) | refine wo_nil ?_ | refine wM ?_ | refine wL ?_ | refine wF ?_ | refine we_exit ?_)
 rintro w' L' ⟨kb3,rfl,rfl⟩
 repeat (first | refine wS ?_ | refine wo_nil ?_ | refine we_block ?_)
 let L4:List HProp:=all (mpBs Wf ks)::L3
 refine we_star (vec 1 (.slice ta ks.length tc) ((ks.map fun y=>mpF y.1 y.2 qb pB)++([]:List Nat).map fun kb=>mtF yb mb qb tB kb)::all (mtBs [])::arr kb3 0 [.int .i64 ((0:Nat):Int)]::L4) (fun h st=>?_) ?_
 ·have s1:Star (vec 1 (.slice ta ks.length tc) (ks.map fun y=>mpF y.1 y.2 qb pB)::arr kb3 0 [.int .i64 ((0:Nat):Int)]::all (mpBs Wf ks)::L3) h:=Ent.star (.take (.there .here) (.take .here (.take .here (.drop .refl)))) st
  rw [List.map_nil,List.append_nil]
  have s2:Star (all []::vec 1 (.slice ta ks.length tc) (ks.map fun y=>mpF y.1 y.2 qb pB)::arr kb3 0 [.int .i64 ((0:Nat):Int)]::all (mpBs Wf ks)::L3) h:=star_shut (M:=[]) s1
  exact Ent.star (.take (.there .here) (.take .here (.take .here .refl))) s2
 refine we_loopN (mnL2 pv pn tn yb mb qb pB tB (mrSum Wf ks.length) ks L4) (fun i=>tn-i.1) (0,.slice ta ks.length tc,[],kb3) ⟨Nat.zero_le _,rfl⟩ ⟨rfl,rfl,rfl,rfl,rfl,rfl,rfl,rfl,rfl,rfl,rfl,trivial⟩ .refl rfl ?_
 clear htz hty
 rintro ⟨i,tv,kt,kb⟩ ⟨hi2,hkt⟩
 simp only at hi2 hkt
 subst hkt
 simp only [mnL2]
 refine we_pure (of_has .here (vec_shape (by omega))) ?_
 rintro ⟨ta,tn0,tc,rfl,htn0,_,htz,hty⟩
 have htn0:tn0=ks.length+kt.length:=by simp at htn0;omega
 subst htn0
 by_cases hlt2:kt.length<tn
 ·have w2:IntKind.i64.wrap (((kt.length:Nat):Int)+1)=((kt.length+1:Nat):Int):=(wrap_i64 (by omega) (by omega)).trans (by omega)
  repeat (first | (apply wo_po;apply mo_makeFunc (first:=[]) (cap:=[_,_,_,_,_]) (vf:=[]);exact .nil;exact .cons rfl (.cons rfl (.cons rfl (.cons rfl (.cons rfl .nil))));exact trivial) | (apply wo_mo;apply mo_buildSlice (sz:=1) (vs:=[mtF yb mb qb tB kb]);exact rfl;exact .cons rfl .nil;exact rfl;(intro v hv;cases (List.mem_singleton.1 hv);exact rfl);omega;exact trivial) | refine wlssT ?_ | refine we_seq ?_ | (refine wR ?_;try simp only [oS]) | refine wo_nil ?_ | refine wM ?_ | refine wL ?_ | refine wT ?_ | refine we_skip ?_ | refine we_block ?_)
  rintro v' L' ⟨nb2,rfl,rfl⟩
  repeat (first | (apply wo_mo;apply mo_append (sz:=1) (new:=[mtF yb mb qb tB kb]);exact rfl;exact rfl;exact rfl;exact rfl;exact (.there .here);exact rfl;exact .inr ⟨_,_,rfl,Rds.all .here⟩;(intro v hv;cases (List.mem_singleton.1 hv);exact rfl);(simp only [sliceLen];omega);exact trivial))
  rintro v' L' rfl
  repeat (first | (apply wo_mo;apply mo_alloc;exact trivial) | refine we_seq ?_ | (refine wR ?_;try simp only [oS]) | refine wo_nil ?_ | refine wA ?_ | refine wL ?_)
  rintro w' L' ⟨kb2,rfl,rfl⟩
  repeat (first | (apply wo_po;apply mo_bin;exact rfl;exact rfl;apply bin_add;exact w2;exact trivial) | refine wS ?_ | (refine wR ?_;try simp only [oS]) | refine wo_nil ?_ | refine wL ?_)
  refine at_roundS (B:=mT) (I:=mnL2 pv pn tn yb mb qb pB tB (mrSum Wf ks.length) ks L4) (R:=fun j=>tn-j.1<tn-kt.length) (kt.length+1,v',kt++[kb],kb2) (by show tn-(kt.length+1)<tn-kt.length;omega) ⟨by show kt.length+1≤tn;omega,by simp⟩ ⟨rfl,rfl,rfl,rfl,rfl,rfl,rfl,rfl,rfl,rfl,rfl,trivial⟩ (fun h st=>?_) rfl
  show Star (vec 1 v' ((ks.map fun y=>mpF y.1 y.2 qb pB)++(kt++[kb]).map fun kb=>mtF yb mb qb tB kb)::all (mtBs (kt++[kb]))::arr kb2 0 [.int .i64 ((kt.length+1:Nat):Int)]::L4) h
  rw [mtBs_snoc,List.map_append,← List.append_assoc]
  have s1:Star (arr kb 0 [.int .i64 (kt.length:Nat)]::all (mtBs kt)::vec 1 v' (((ks.map fun y=>mpF y.1 y.2 qb pB)++kt.map fun kb=>mtF yb mb qb tB kb)++[mtF yb mb qb tB kb])::arr kb2 0 [.int .i64 ((kt.length+1:Nat):Int)]::L4) h:=Ent.star (.take (.there (.there (.there (.there .here)))) (.take (.there (.there (.there .here))) (.take (.there .here) (.take .here (.drop .refl))))) st
  have s2:=star_push s1
  exact Ent.star (.take (.there .here) (.take .here (.take .here .refl))) s2
 obtain hkte:kt.length=tn:=by omega
 by_cases hpos:ks.length+kt.length=0
 ·repeat (first | refine wlssF ?_ | refine weqlT ?_ | refine we_seq ?_ | (refine wR ?_;try simp only [oS]) | refine wo_nil ?_ | refine wM ?_ | refine wA ?_ | refine wL ?_ | refine wE ?_ | refine wT ?_ | refine wF ?_ | refine we_ret ?_ | refine we_exit ?_)
  (first | refine or1 Try.func23 Try.results23 hQ rfl ?_ | refine on1 Try.func23 Try.results23 hQ rfl ?_)
  exact ⟨rfl,rfl⟩
 obtain ⟨zb,zo,rfl⟩:∃ b o,ta=some ⟨b,o,none⟩:=by
  cases ta with
  | none=>have:=htz rfl;omega
  | some y=>exact ⟨y.block,y.off,by rw [hty y rfl]⟩
 let V:HProp:=vec 1 (.slice (some ⟨zb,zo,none⟩) (ks.length+kt.length) tc) ((ks.map fun y=>mpF y.1 y.2 qb pB)++kt.map fun kb=>mtF yb mb qb tB kb)
 let n:Nat:=2^j
 have hn:n=2^j:=rfl
 let hv:Value:=.slice (some ⟨b,0,none⟩) ((n:Nat):Nat) n
 refine we_star (wds (maddr mr r b n) (2*n+5) [] (seqs n)::arr r 2 [hv]::arr mr 3 [.pointer (some ⟨r,0,none⟩)]::arr mr 4 [.chan (some nc)]::newsC nc::arr kb 0 [.int .i64 (kt.length:Nat)]::V::all (mtBs kt)::all (mpBs Wf ks)::arr tB 0 [.slice (some ⟨tb,0,none⟩) tn tn]::arr tb 0 (zeros tn [.slice none 0 0])::arr pB 0 [.slice (some ⟨pb,0,none⟩) pn pn]::arr pb 0 (zeros pn [.slice none 0 0])::arr qb 0 [.pointer (some ⟨mr,0,none⟩)]::arr mb 0 [.int .i64 most]::arr yb 0 [.int .i64 sl,.slice a n0 c,.int .i64 tk,.int .i64 tr]::L) (fun h st=>?_) ?_
 ·have s1:Star (wds (maddr mr r b n) (2*n+5) (mK mr r b n nc) (seqs n)::newsC nc::arr kb 0 [.int .i64 (kt.length:Nat)]::V::all (mtBs kt)::all (mpBs Wf ks)::arr tB 0 [.slice (some ⟨tb,0,none⟩) tn tn]::arr tb 0 (zeros tn [.slice none 0 0])::arr pB 0 [.slice (some ⟨pb,0,none⟩) pn pn]::arr pb 0 (zeros pn [.slice none 0 0])::arr qb 0 [.pointer (some ⟨mr,0,none⟩)]::arr mb 0 [.int .i64 most]::arr yb 0 [.int .i64 sl,.slice a n0 c,.int .i64 tk,.int .i64 tr]::L) h:=Ent.star (.take (.there (.there (.there (.there (.there (.there (.there (.there (.there .here))))))))) (.take (.there (.there (.there (.there (.there (.there (.there (.there (.there .here))))))))) (.take (.there (.there .here)) .refl))) st
  have s2:=wds_cut1 (m_apart hne hm1 hm2) (by intro k hk;simp at hk;rcases hk with rfl | rfl <;> simp [hm1]) s1
  have s3:=wds_cut1 (apart_tail (m_apart hne hm1 hm2)) (by intro k hk;simp at hk;rcases hk with rfl;simp) s2
  have s4:=wds_cut1 (apart_tail (apart_tail (m_apart hne hm1 hm2))) (by intro k hk;simp at hk) s3
  exact Ent.star (.take .here (.take (.there (.there .here)) (.take (.there .here) (.take .here .refl)))) s4
 repeat (first | refine wlssF ?_ | refine weqlF ?_ | refine we_seq ?_ | (refine wR ?_;try simp only [oS]) | refine wo_nil ?_ | refine wM ?_ | refine wL ?_ | refine wE ?_ | refine wF ?_ | refine we_skip ?_ | refine we_exit ?_)
 refine wo_frz (b:=yb) (o:=0) (.there (.there (.there (.there (.there (.there (.there (.there (.there (.there (.there (.there (.there (.there (.there .here))))))))))))))) ?_
 refine wo_frz (b:=mb) (o:=0) (.there (.there (.there (.there (.there (.there (.there (.there (.there (.there (.there (.there (.there (.there (.there .here))))))))))))))) ?_
 refine wo_frz (b:=qb) (o:=0) (.there (.there (.there (.there (.there (.there (.there (.there (.there (.there (.there (.there (.there (.there (.there .here))))))))))))))) ?_
 refine wo_frz (b:=pB) (o:=0) (.there (.there (.there (.there (.there (.there (.there (.there (.there (.there (.there (.there (.there (.there .here)))))))))))))) ?_
 refine wo_frz (b:=tB) (o:=0) (.there (.there (.there (.there (.there (.there (.there (.there (.there (.there (.there (.there (.there .here))))))))))))) ?_
 refine wo_frz (b:=mr) (o:=4) (.there (.there (.there (.there (.there (.there (.there (.there .here)))))))) ?_
 refine wo_frz (b:=mr) (o:=3) (.there (.there (.there (.there (.there (.there (.there (.there .here)))))))) ?_
 refine wo_frz (b:=r) (o:=2) (.there (.there (.there (.there (.there (.there (.there (.there .here)))))))) ?_
 let Ms:List HProp:=[fro r 2 [hv],fro mr 3 [.pointer (some ⟨r,0,none⟩)],fro mr 4 [.chan (some nc)],fro tB 0 [.slice (some ⟨tb,0,none⟩) tn tn],fro pB 0 [.slice (some ⟨pb,0,none⟩) pn pn],fro qb 0 [.pointer (some ⟨mr,0,none⟩)],fro mb 0 [.int .i64 most],fro yb 0 [.int .i64 sl,.slice a n0 c,.int .i64 tk,.int .i64 tr],all L]
 let Ro:HProp:=all Ms
 have hRo:Dup Ro:=dup_all (by intro c hc;simp [Ms] at hc;rcases hc with rfl | rfl | rfl | rfl | rfl | rfl | rfl | rfl | rfl <;> first | exact dup_fro | exact hL)
 have rA:∀ {b o:Nat} {v:Value} {M:List HProp},Rd Ms b o v→Rd (Ro::M) b o v:=fun r=>rd_allQ r
 have O:MnRo Ro yb mb qb pB tB mr pb tb pn tn tr most:=⟨rA (.there (.there (.there (.there (.there (Rd.fro (k:=0) rfl rfl)))))),rA (.there (.there (.there (.there (Rd.fro (k:=0) rfl rfl))))),rA (.there (.there (.there (Rd.fro (k:=0) rfl rfl)))),rA (.there (.there (.there (.there (.there (.there (.there (Rd.fro (k:=3) rfl rfl)))))))),rA (.there (.there (.there (.there (.there (.there (Rd.fro (k:=0) rfl rfl)))))))⟩
 have OM:MrRo Ro mr r b n nc:=⟨rA (Rd.fro (k:=0) rfl rfl),rA (.there (Rd.fro (k:=0) rfl rfl)),rA (.there (.there (Rd.fro (k:=0) rfl rfl)))⟩
 let D:MnD:={ n:=n,j:=j,mr:=mr,r:=r,b:=b,nc:=nc,yb:=yb,mb:=mb,qb:=qb,pB:=pB,tB:=tB,pb:=pb,tb:=tb,pn:=pn,tn:=tn,T:=T,tries:=tr,most:=most,Wf:=Wf,kp:=ks,kt:=kt,Ro:=Ro }
 have hD:MnOk D:=⟨hne,hm1,hm2,hn,⟨hj1,by show j≤10;omega⟩,hpn4,htn3,by show 0<pn+tn;omega,hW2,hm,h3,hT,O,OM,hRo,hke,hkte⟩
 have hrt:RdsO [Ro,V] (some ⟨zb,zo,none⟩) (pn+tn) (mrFv D):=⟨by show pn+tn=(mrFv D).length;simp [mrFv,D,hke,hkte],.inr ⟨zb,zo,rfl,fun i v hv=>rd_vec (.there .here) hv⟩⟩
 have hnt:ks.length+kt.length=pn+tn:=by omega
 rw [hnt]
 refine wo_callv (fv:=pv) rfl rfl (.cons rfl .nil) trivial (tr_star (mrU D (seqs n)::all (mrMs D)::[Ro,V]) (fun h st=>?_) (hplay D (some ⟨zb,zo,none⟩) tc [Ro,V] hD rfl hrt (hP _ fun q=>rA (.there (.there (.there (.there (.there (.there (.there (.there (rd_allQ q)))))))))))) ?_
 ·have s0:Star (all L::fro r 2 [hv]::fro mr 3 [.pointer (some ⟨r,0,none⟩)]::fro mr 4 [.chan (some nc)]::fro tB 0 [.slice (some ⟨tb,0,none⟩) tn tn]::fro pB 0 [.slice (some ⟨pb,0,none⟩) pn pn]::fro qb 0 [.pointer (some ⟨mr,0,none⟩)]::fro mb 0 [.int .i64 most]::fro yb 0 [.int .i64 sl,.slice a n0 c,.int .i64 tk,.int .i64 tr]::wds (maddr mr r b n) (2*n+5) [] (seqs n)::newsC nc::arr kb 0 [.int .i64 (kt.length:Nat)]::V::all (mtBs kt)::all (mpBs Wf ks)::arr tb 0 (zeros tn [.slice none 0 0])::arr pb 0 (zeros pn [.slice none 0 0])::[]) h:=star_tail (M:=[_,_,_,_,_,_,_,_,_,_,_,_,_,_,_,_]) st
  have s1:Star (fro r 2 [hv]::fro mr 3 [.pointer (some ⟨r,0,none⟩)]::fro mr 4 [.chan (some nc)]::fro tB 0 [.slice (some ⟨tb,0,none⟩) tn tn]::fro pB 0 [.slice (some ⟨pb,0,none⟩) pn pn]::fro qb 0 [.pointer (some ⟨mr,0,none⟩)]::fro mb 0 [.int .i64 most]::fro yb 0 [.int .i64 sl,.slice a n0 c,.int .i64 tk,.int .i64 tr]::all L::all (mpBs Wf ks)::arr pb 0 (zeros pn [.slice none 0 0])::all (mtBs kt)::arr tb 0 (zeros tn [.slice none 0 0])::wds (maddr mr r b n) (2*n+5) [] (seqs n)::newsC nc::V::[]) h:=Ent.star (.take (.there .here) (.take (.there .here) (.take (.there .here) (.take (.there .here) (.take (.there .here) (.take (.there .here) (.take (.there .here) (.take (.there .here) (.take .here (.take (.there (.there (.there (.there (.there .here))))) (.take (.there (.there (.there (.there (.there (.there .here)))))) (.take (.there (.there (.there (.there .here)))) (.take (.there (.there (.there (.there .here)))) (.take .here (.take .here (.drop .refl)))))))))))))))) s0
  rw [zeros_rep,zeros_rep] at s1
  have hb1:(mpBs Wf ks).length=pn:=by simp [mpBs,hke]
  have hb2:(mtBs kt).length=tn:=by simp [mtBs,hkte]
  have s2:Star (Ro::all (mpBs Wf ks)::arr pb 0 (List.replicate pn (.slice none 0 0))::all (mtBs kt)::arr tb 0 (List.replicate tn (.slice none 0 0))::wds (maddr mr r b n) (2*n+5) [] (seqs n)::newsC nc::V::[]) h:=star_shut (M:=[_,_,_,_,_,_,_,_,_]) s1
  have s3:Star (Ro::all (mpBs Wf ks)::arr pb 0 (List.replicate (mpBs Wf ks).length (.slice none 0 0))::all (mtBs kt)::arr tb 0 (List.replicate tn (.slice none 0 0))::wds (maddr mr r b n) (2*n+5) [] (seqs n)::newsC nc::V::[]) h:=by rw [hb1];exact s2
  have s4:=dealM hRo s3
  have s5:Star (Ro::all (mtBs kt)::arr tb 0 (List.replicate (mtBs kt).length (.slice none 0 0))::all ((mpBs Wf ks).mapIdx fun i p=>mrM Ro pb i p)::wds (maddr mr r b n) (2*n+5) [] (seqs n)::newsC nc::V::[]) h:=by rw [hb2];exact Ent.star (.take (.there .here) (.take (.there .here) (.take (.there .here) (.take .here .refl)))) s4
  have s6:=dealM hRo s5
  have s7:Star (all ((mpBs Wf ks).mapIdx fun i p=>mrM Ro pb i p)::all ((mtBs kt).mapIdx fun i p=>mrM Ro tb i p)::Ro::wds (maddr mr r b n) (2*n+5) [] (seqs n)::newsC nc::V::[]) h:=Ent.star (.take (.there (.there .here)) (.take .here (.take .here .refl))) s6
  have s8:Star (all (mrMs D)::Ro::wds (maddr mr r b n) (2*n+5) [] (seqs n)::newsC nc::V::[]) h:=star_join s7
  have s9:Star (wds (maddr mr r b n) (2*n+5) [] (seqs n)::newsC nc::all (mrMs D)::Ro::V::[]) h:=Ent.star (.take (.there (.there .here)) (.take (.there (.there .here)) (.take .here (.take .here .refl)))) s8
  exact star_shut (M:=[_,_]) s9
 rintro v1 L1 x1 ⟨fr,s,qs,hI,hE,hdn,hql,rfl,rfl,rfl⟩
 have hEnd:=mn_end hD hI hE hdn
 refine wo_star ((fun h=>∃ svs:List Value,all [fun _=>svs.length=qs.length∧∀ (k:Nat) sv,svs[k]?=some sv→ShpQ sv (qfOut s pn k).length,all (svs.mapIdx (qfC pb tb pn s)),all [wds (maddr mr r b n) (2*n+5) [] s.f,Ro],Ro] h)::[]) (fun h st=>?_) ?_
 ·have t1:Star (wds (maddr mr r b n) (2*n+5) [] s.f::newsC nc::all (mrL D qs)::Ro::V::[]) h:=star_open (M:=[_,_]) st
  have t2:Star (all (mrL D qs)::Ro::wds (maddr mr r b n) (2*n+5) [] s.f::[]) h:=Ent.star (.take (.there (.there .here)) (.take (.there (.there .here)) (.take .here (.drop (.drop .refl))))) t1
  obtain ⟨svs,hs,t3⟩:=qf_left hI hdn t2
  have t4:Star (Ro::Ro::all (svs.mapIdx (qfC pb tb pn s))::wds (maddr mr r b n) (2*n+5) [] s.f::[]) h:=hRo _ _ (star_swap t3)
  have t5:Star (wds (maddr mr r b n) (2*n+5) [] s.f::Ro::all (svs.mapIdx (qfC pb tb pn s))::Ro::[]) h:=Ent.star (.take (.there (.there (.there .here))) (.take .here (.take (.there .here) (.take .here .refl)))) t4
  have t6:Star (all [wds (maddr mr r b n) (2*n+5) [] s.f,Ro]::all (svs.mapIdx (qfC pb tb pn s))::Ro::[]) h:=star_shut (M:=[_,_]) t5
  have t7:=star_p hs (star_swap t6)
  exact star_map (star_shut (M:=[_,_,_,_]) (L:=[]) t7) (fun h' z=>⟨svs,z⟩) fun _ z=>z
 refine wo_ex .here fun svs=>?_
 refine wo_pure (p:=svs.length=qs.length∧∀ (k:Nat) sv,svs[k]?=some sv→ShpQ sv (qfOut s pn k).length) (fun h st=>by obtain ⟨_,_,_,⟨_,_,_,h1,_⟩,_⟩:=st;exact h1) fun ⟨hsl,hsS⟩=>?_
 refine wo_star [all [wds (maddr mr r b n) (2*n+5) [] s.f,Ro],all (svs.mapIdx (qfC pb tb pn s)),Ro] (fun h st=>?_) ?_
 ·have s1:Star ((fun _=>svs.length=qs.length∧∀ (k:Nat) sv,svs[k]?=some sv→ShpQ sv (qfOut s pn k).length)::all (svs.mapIdx (qfC pb tb pn s))::all [wds (maddr mr r b n) (2*n+5) [] s.f,Ro]::Ro::[]) h:=star_open (M:=[_,_,_,_]) st
  exact star_swap (star_drop s1)
 have q9:∀ {A B:HProp} {M:List HProp},Rd (A::B::Ro::M) qb 0 (.pointer (some ⟨mr,0,none⟩)):=.there (.there (rA (.there (.there (.there (.there (.there (Rd.fro (k:=0) rfl rfl))))))))
 have q9':∀ {A B C:HProp} {M:List HProp},Rd (A::B::C::Ro::M) qb 0 (.pointer (some ⟨mr,0,none⟩)):=.there q9
 have q11:∀ {A B C:HProp} {M:List HProp},Rd (A::B::C::Ro::M) pB 0 (.slice (some ⟨pb,0,none⟩) pn pn):=.there (.there (.there (rA (.there (.there (.there (.there (Rd.fro (k:=0) rfl rfl))))))))
 have q12:∀ {A B C:HProp} {M:List HProp},Rd (A::B::C::Ro::M) tB 0 (.slice (some ⟨tb,0,none⟩) tn tn):=.there (.there (.there (rA (.there (.there (.there (Rd.fro (k:=0) rfl rfl)))))))
 repeat (first | (apply wo_po;apply mo_load;exact rfl;exact q9;exact trivial) | refine we_seq ?_ | (refine wR ?_;try simp only [oS]) | refine wo_nil ?_ | (apply wo_po;apply mo_not;exact rfl;exact gY) | refine wF ?_ | refine we_skip ?_)
 refine wo_call (.cons rfl (.cons rfl .nil)) trivial (counts_keep hne hm1 hm2 hn (by omega) OM .here) ?_
 rintro v1 L1 x1 ⟨rfl,rfl,rfl⟩
 repeat (first | refine we_seq ?_ | (refine wR ?_;try simp only [oS]) | refine wo_nil ?_ | refine wM ?_ | refine wA ?_ | (apply wo_po;apply mo_extract;exact rfl;exact rfl;exact gY) | refine we_block ?_)
 obtain ⟨E1,E2,E3,E4,E5,E6,E7,hrow,kA,kN,kV,kL,kF,kS⟩:=hEnd
 have hLen:(qTs s pn tn).length=tn:=by simp [qTs]
 have hLenP:(qPs s pn).length=pn:=by simp [qPs]
 obtain ⟨⟨g1,g2⟩,g3,g4⟩:=qf_row (pb:=pb) (tb:=tb) (pn:=pn) (tn:=tn) (s:=s) (svs:=svs) (F:=[Ro]) (by rw [hsl,hql]) hsS
 replace E1:s.f (2*n+2)=mrSum Wf pn:=E1
 replace E2:s.f (2*n+3)+s.vs.length=mrSum Wf pn:=E2
 replace E3:s.f (2*n+4)=s.tk.length:=E3
 replace E5:sumN ((qPs s pn).map List.length)=s.vs.length:=E5
 replace E6:sumN ((qTs s pn tn).map List.length)=s.tk.length:=E6
 replace kS:mrSum Wf pn≤200*pn:=kS
 replace hrow:RowAt n s.f (qLeft s):=hrow
 rw [hke]
 obtain ⟨a0,ha0⟩:∃ a,s.f (2*n+2)=a:=⟨_,rfl⟩
 obtain ⟨a1,ha1⟩:∃ a,s.f (2*n+3)=a:=⟨_,rfl⟩
 obtain ⟨a2,ha2⟩:∃ a,s.f (2*n+4)=a:=⟨_,rfl⟩
 rw [ha0,ha1,ha2]
 refine we_star (vec 1 (.slice none 0 0) (([]:List Nat).map num)::all [wds (maddr mr r b n) (2*n+5) [] s.f,Ro]::all (svs.mapIdx (qfC pb tb pn s))::Ro::[]) (fun h st=>vec_nil st) ?_
 refine we_loopN (mnL3 pn tn qb pB tB (mrSum Wf pn) a0 a1 a2 mr r b n Ro (qLeft s) [all (svs.mapIdx (qfC pb tb pn s)),Ro]) (fun i=>i.2.1.length) (s.f,qLeft s,[],.slice none 0 0) ⟨hrow,rfl,ha0,ha1,ha2⟩ ⟨rfl,rfl,rfl,rfl,rfl,rfl,rfl,rfl,rfl,rfl,rfl,trivial⟩ .refl rfl ?_
 rintro ⟨f,row,acc,tv⟩ ⟨c1,c2,c3,c4,c5⟩
 dsimp only at c1 c2 c3 c4 c5
 simp only [mnL3]
 refine we_pure (of_has .here (vec_shape (by omega))) ?_
 rintro ⟨va,vn,vc,rfl,hvn,_,hvz,hvy⟩
 have hvn:vn=acc.length:=by simp at hvn;omega
 subst hvn
 have hacc:acc.length+row.length=s.vs.length-s.tk.length:=by rw [← E7,← c2,List.length_append]
 repeat (first | (apply wo_po;apply mo_load;exact rfl;exact q9';exact trivial) | refine we_seq ?_ | (refine wR ?_;try simp only [oS]) | refine we_block ?_)
 refine wo_call (.cons rfl (.cons rfl .nil)) trivial (take_keep hne hm1 hm2 hn hj1 (by omega) OM c1 (.there .here)) ?_
 rintro v1 L1 x1 ⟨f2,d1,⟨d2,d3,d4⟩,rfl,rfl,rfl⟩
 cases row with
 | cons y row =>
  replace d1:RowAt n f2 row:=d1
  rw [if_neg (by simp)] at d4
  repeat (first | (apply wo_mo;apply mo_buildSlice (sz:=1) (vs:=[num y]);exact rfl;exact .cons rfl .nil;exact rfl;(intro v hv;cases (List.mem_singleton.1 hv);exact rfl);omega;exact trivial) | refine wneqF ?_ | refine we_seq ?_ | (refine wR ?_;try simp only [oS]) | refine wo_nil ?_ | refine wM ?_ | refine wA ?_ | (apply wo_po;apply mo_extract;exact rfl;exact rfl;exact gY) | (apply wo_po;apply mo_not;exact rfl;exact gY) | refine wF ?_ | refine we_skip ?_)
  rintro v' L' ⟨sb2,rfl,rfl⟩
  repeat (first | (apply wo_mo;apply mo_append (sz:=1) (new:=[num y]);exact rfl;exact rfl;exact rfl;exact rfl;exact (.there (.there .here));exact rfl;exact .inr ⟨_,_,rfl,Rds.all .here⟩;(intro v hv;cases (List.mem_singleton.1 hv);exact rfl);(simp only [sliceLen];simp at hacc;omega);exact trivial))
  rintro v' L' rfl
  repeat (first | refine wo_nil ?_ | refine wA ?_)
  refine at_roundS (B:=mT) (I:=mnL3 pn tn qb pB tB (mrSum Wf pn) a0 a1 a2 mr r b n Ro (qLeft s) [all (svs.mapIdx (qfC pb tb pn s)),Ro]) (R:=fun z=>z.2.1.length<(y::row).length) (f2,row,acc++[y],v') (by show row.length<row.length+1;omega) ⟨d1,by show (acc++[y])++row=qLeft s;rw [← c2];simp,by show f2 (2*n+2)=a0;omega,by show f2 (2*n+3)=a1;omega,?_⟩ ⟨rfl,rfl,rfl,rfl,rfl,rfl,rfl,rfl,rfl,rfl,rfl,trivial⟩ (fun h st=>?_) rfl
  ·show f2 (2*n+4)=a2+(acc++[y]).length
   rw [d4,List.length_append,List.length_singleton]
   simp at hacc
   omega
  ·show Star (vec 1 v' ((acc++[y]).map num)::all [wds (maddr mr r b n) (2*n+5) [] f2,Ro]::all (svs.mapIdx (qfC pb tb pn s))::Ro::[]) h
   rw [List.map_append]
   exact Ent.star (.take .here (.drop .refl)) st
 | nil =>
  rw [if_pos rfl] at d4
  obtain rfl:acc=qLeft s:=by rw [← c2,List.append_nil]
  have x0:f2 (2*n+2)=a0:=by omega
  have x1:f2 (2*n+3)=a1:=by omega
  have x2:f2 (2*n+4)=a2+(qLeft s).length:=by omega
  have k1':=Nat.mul_le_mul_left 200 hpn4
  rw [ha0] at E1
  rw [ha1] at E2
  rw [ha2] at E3
  repeat (first | refine wneqF ?_ | refine we_seq ?_ | (refine wR ?_;try simp only [oS]) | refine wo_nil ?_ | refine wM ?_ | refine wA ?_ | (apply wo_po;apply mo_extract;exact rfl;exact rfl;exact gY) | (apply wo_po;apply mo_not;exact rfl;exact gY) | refine wT ?_ | refine wF ?_ | refine we_skip ?_ | refine we_block ?_ | refine we_exit ?_)
  obtain ⟨R,hR⟩:∃ R:List HProp,R=all [wds (maddr mr r b n) (2*n+5) [] f2,Ro]::vec 1 (.slice va (qLeft s).length vc) ((qLeft s).map num)::all (svs.mapIdx (qfC pb tb pn s))::Ro::[]:=⟨_,rfl⟩
  rw [← hR]
  have r7:Rd R qb 0 (.pointer (some ⟨mr,0,none⟩)):=by rw [hR];exact q9'
  have r11:Rd R pB 0 (.slice (some ⟨pb,0,none⟩) pn pn):=by rw [hR];exact q11
  have r12:Rd R tB 0 (.slice (some ⟨tb,0,none⟩) tn tn):=by rw [hR];exact q12
  have G1:RdsO R (some ⟨pb,0,none⟩) pn (svs.take pn):=by rw [hR];exact g1.there.there
  have G2:HdrOk R (svs.take pn) (qPs s pn):=by rw [hR];exact hdr_there (hdr_there g2)
  have G3:RdsO R (some ⟨tb,0,none⟩) tn (svs.drop pn):=by rw [hR];exact g3.there.there
  have G4:HdrOk R (svs.drop pn) (qTs s pn tn):=by rw [hR];exact hdr_there (hdr_there g4)
  have G5:RdsO R va (qLeft s).length ((qLeft s).map num):=by rw [hR];exact rdsoQ (.there .here) (by simp) hvz hvy
  refine we_loopN (mnL4 pn tn qb pB tB (mrSum Wf pn) a0 a1 a2 (.slice va (qLeft s).length vc) (qPs s pn) R) (fun i=>pn-i) 0 (Nat.zero_le _) ⟨rfl,rfl,rfl,rfl,rfl,rfl,rfl,rfl,rfl,rfl,rfl,rfl,rfl,trivial⟩ .refl rfl ?_
  intro k hk
  replace hk:k≤pn:=hk
  simp only [mnL4]
  by_cases hlt:k<pn
  ·obtain ⟨l,hl⟩:∃ l,(qPs s pn)[k]?=some l:=⟨_,List.getElem?_eq_getElem (by rw [hLenP];exact hlt)⟩
   obtain ⟨la,lc,u1,u2⟩:=G2.2 k l hl
   obtain ⟨pb',po',pe,hrd⟩:=G1.rds (by omega)
   cases pe
   have rk:=hrd k _ u1
   have t1:=sum_take hl
   have t2:=sum_upto (l:=qPs s pn) (k+1)
   have w1:IntKind.i64.wrap ((sumN (((qPs s pn).take k).map List.length):Nat)+(l.length:Nat):Int)=((sumN (((qPs s pn).take (k+1)).map List.length):Nat):Int):=(wrap_i64 (by omega) (by omega)).trans (by omega)
   have w2:IntKind.i64.wrap (((k:Nat):Int)+1)=((k+1:Nat):Int):=(wrap_i64 (by omega) (by omega)).trans (by omega)
   repeat (first | (apply wo_po;apply mo_load;exact rfl;(first | exact r11 | exact rk);exact trivial) | (apply wo_po;apply mo_index1;exact rfl;exact rfl;omega;exact trivial) | (apply wo_po;apply mo_bin;exact rfl;exact rfl;apply bin_add;(first | exact w1 | exact w2);exact trivial) | refine wlssT ?_ | refine we_seq ?_ | (refine wR ?_;try simp only [oS]) | refine wo_nil ?_ | refine wM ?_ | refine wA ?_ | refine wE ?_ | refine wT ?_ | refine we_skip ?_ | refine we_block ?_)
   refine at_round (B:=mT) (I:=mnL4 pn tn qb pB tB (mrSum Wf pn) a0 a1 a2 (.slice va (qLeft s).length vc) (qPs s pn) R) (R:=fun j=>pn-j<pn-k) (k+1) (by show pn-(k+1)<pn-k;omega) (by show k+1≤pn;omega) ⟨rfl,rfl,rfl,rfl,rfl,rfl,rfl,rfl,rfl,rfl,rfl,rfl,rfl,trivial⟩ .refl rfl
  obtain rfl:k=pn:=by omega
  rw [List.take_of_length_le (show (qPs s k).length≤k by omega),E5]
  repeat (first | refine wlssF ?_ | refine we_seq ?_ | (refine wR ?_;try simp only [oS]) | refine wo_nil ?_ | refine wM ?_ | refine wA ?_ | refine wF ?_ | refine we_block ?_ | refine we_exit ?_)
  refine we_loopN (mnL5 k tn qb pB tB (mrSum Wf k) a0 a1 a2 s.vs.length (.slice va (qLeft s).length vc) (qTs s k tn) R) (fun i=>tn-i) 0 (Nat.zero_le _) ⟨rfl,rfl,rfl,rfl,rfl,rfl,rfl,rfl,rfl,rfl,rfl,rfl,rfl,trivial⟩ .refl rfl ?_
  intro i hi
  replace hi:i≤tn:=hi
  simp only [mnL5]
  by_cases hlt2:i<tn
  ·obtain ⟨l,hl⟩:∃ l,(qTs s k tn)[i]?=some l:=⟨_,List.getElem?_eq_getElem (by rw [hLen];exact hlt2)⟩
   obtain ⟨la,lc,u1,u2⟩:=G4.2 i l hl
   obtain ⟨tb',to',te,hrd⟩:=G3.rds (by omega)
   cases te
   have rk:=hrd i _ u1
   have t1:=sum_take hl
   have t2:=sum_upto (l:=qTs s k tn) (i+1)
   have w1:IntKind.i64.wrap (((s.vs.length-sumN (((qTs s k tn).take i).map List.length):Nat):Int)-(l.length:Nat))=((s.vs.length-sumN (((qTs s k tn).take (i+1)).map List.length):Nat):Int):=(wrap_i64 (by omega) (by omega)).trans (by omega)
   have w2:IntKind.i64.wrap (((i:Nat):Int)+1)=((i+1:Nat):Int):=(wrap_i64 (by omega) (by omega)).trans (by omega)
   repeat (first | (apply wo_po;apply mo_load;exact rfl;(first | exact r12 | exact rk);exact trivial) | (apply wo_po;apply mo_index1;exact rfl;exact rfl;omega;exact trivial) | (apply wo_po;apply mo_bin;exact rfl;exact rfl;apply bin_sub;exact w1;exact trivial) | (apply wo_po;apply mo_bin;exact rfl;exact rfl;apply bin_add;exact w2;exact trivial) | refine wlssT ?_ | refine we_seq ?_ | (refine wR ?_;try simp only [oS]) | refine wo_nil ?_ | refine wM ?_ | refine wA ?_ | refine wE ?_ | refine wT ?_ | refine we_skip ?_ | refine we_block ?_)
   refine at_round (B:=mT) (I:=mnL5 k tn qb pB tB (mrSum Wf k) a0 a1 a2 s.vs.length (.slice va (qLeft s).length vc) (qTs s k tn) R) (R:=fun j=>tn-j<tn-i) (i+1) (by show tn-(i+1)<tn-i;omega) (by show i+1≤tn;omega) ⟨rfl,rfl,rfl,rfl,rfl,rfl,rfl,rfl,rfl,rfl,rfl,rfl,rfl,trivial⟩ .refl rfl
  obtain rfl:i=tn:=by omega
  rw [List.take_of_length_le (show (qTs s k i).length≤i by omega),E6]
  repeat (first | (apply wo_po;apply mo_load;exact rfl;exact r7;exact trivial) | refine wlssF ?_ | refine we_seq ?_ | (refine wR ?_;try simp only [oS]) | refine wo_nil ?_ | refine wM ?_ | refine wF ?_ | refine we_exit ?_)
  refine wo_call (.cons rfl (.cons rfl .nil)) trivial (counts_keep (f:=f2) hne hm1 hm2 hn (by omega) OM (F:=vec 1 (.slice va (qLeft s).length vc) ((qLeft s).map num)::all (svs.mapIdx (qfC pb tb k s))::Ro::[]) (by rw [hR];exact .here)) ?_
  rintro v1 L1 x1 ⟨rfl,rfl,rfl⟩
  rw [x0,x1,x2,← hR]
  have cT:IntKind.u64.wrap ((mrSum Wf k:Nat):Int)=((mrSum Wf k:Nat):Int):=wrap_u64 (by omega) (by omega)
  have cV:IntKind.u64.wrap ((s.vs.length-s.tk.length:Nat):Int)=((s.vs.length-s.tk.length:Nat):Int):=wrap_u64 (by omega) (by omega)
  have cL:IntKind.u64.wrap (((qLeft s).length:Nat):Int)=(((qLeft s).length:Nat):Int):=wrap_u64 (by omega) (by omega)
  have cA:IntKind.u64.wrap ((a1:Int)+(a2:Int))=((a1+a2:Nat):Int):=(wrap_u64 (by omega) (by omega)).trans (by omega)
  have cB:IntKind.u64.wrap (((a1+a2:Nat):Int)+((s.vs.length-s.tk.length:Nat):Int))=((a1+a2+(s.vs.length-s.tk.length):Nat):Int):=(wrap_u64 (by omega) (by omega)).trans (by omega)
  have cC:IntKind.u64.wrap ((a2:Int)+((qLeft s).length:Int))=((a2+(qLeft s).length:Nat):Int):=(wrap_u64 (by omega) (by omega)).trans (by omega)
  repeat (first | (apply wo_po;apply mo_load;exact rfl;(first | exact r11 | exact r12);exact gY) | (apply wo_po;apply mo_conv;exact rfl;(first | exact cT | exact cV | exact cL);exact gY) | (apply wo_po;apply mo_bin;exact rfl;exact rfl;apply bin_add;(first | exact cA | exact cB | exact cC);exact gY) | refine weqlT ?_ | refine we_seq ?_ | (refine wR ?_;try simp only [oS]) | refine wo_nil ?_ | refine wM ?_ | refine wA ?_ | refine wK ?_ | (apply wo_po;apply mo_extract;exact rfl;exact rfl;exact gY) | refine wE ?_)
  refine wo_call (.cons rfl (.cons rfl (.cons rfl .nil))) rfl (kept_tr G1 G2 G3 G4 G5 (by omega) (by omega) (by have:=Nat.mul_le_mul_right 1600 hpn4;have:(qPs s k).flatten.length≤k*1600:=kF;omega) kV kN (fun l hl=>by have:=kL l hl;omega) kA) ?_
  rintro v1 L1 x1 ⟨rfl,rfl⟩
  repeat (first | refine wo_nil ?_ | refine wA ?_ | refine wK ?_ | refine we_ret ?_)
  (first | refine or1 Try.func23 Try.results23 hQ rfl ?_ | refine on1 Try.func23 Try.results23 hQ rfl ?_)
  exact ⟨rfl,rfl⟩
end
end Go.Proofs.Ytmkkanmkjfnpdaa
namespace Go.Proofs.Ytmkkanmkjfnpdaa
open Go Go.PB
attribute [local irreducible] Mo Bin Eql Tr Wo Ap Wle
section
section
theorem counts_lone0 {B:Hand} [Lets B] {x:B.X} {mr r b n nc:Nat} {f:Nat→Nat} {ap:Apart (maddr mr r b n) (2*n+5) (mK mr r b n nc)} {G:Nat→Nat→Nat→(Nat→Nat)→Prop} (g:G (f (2*n+2)) (f (2*n+3)) (f (2*n+4)) f):CountsT (loneAcc x (maddr mr r b n) (2*n+5) (mK mr r b n nc) ap) n f G :=
 ⟨by show 2*n+2+0<2*n+5;omega,by show 2*n+2+1<2*n+5;omega,by show 2*n+2+2<2*n+5;omega,g⟩
end
section
variable {B:Hand} [Lets B] [Chans B] {L:List HProp} {x:B.X}
theorem works_tr:Tr Try.prog B 10 [] L x fun v L' x'=>v=.bool true∧L'=L∧x'=x:=by
 refine Tr.post (R:=fun v L' x'=>v=.bool true∧x'=x∧∀ h,Star L' h→Star L h) ?_ (by rintro v L' x' ⟨h0,rfl,hs⟩;exact ⟨L,⟨h0,rfl,rfl⟩,hs⟩)
 refine tr_of_body Try.func10 rfl Try.ntmps10 (by simp) fun um Q _ hQ=>?_
 simp only [argE,Nat.zero_add,Nat.reduceAdd]
 repeat (first | refine we_seq ?_ | (refine wR ?_;try simp only [oS]) | refine wo_nil ?_ | refine wA ?_)
 refine wo_call (.cons rfl .nil) trivial (mnew_tr (n:=2) (k:=1) rfl (by omega) (by omega)) ?_
 rintro v' L' x' ⟨mr,r,b,nc,hrb,hmr,hmb,rfl,rfl,rfl⟩
 repeat (first | refine wneqF ?_ | refine we_seq ?_ | (refine wR ?_;try simp only [oS]) | refine wo_nil ?_ | refine wM ?_ | refine wA ?_ | (apply wo_po;apply mo_extract;exact rfl;exact rfl;exact gY) | refine wF ?_ | refine we_skip ?_)
 refine wo_star ((mirLone x' mr r b 2 nc (m_apart hrb hmr hmb)).C (seqs 2)::L) (fun h st=>star_shut (M:=[_,_]) st) ?_
 refine wo_call (.cons rfl (.cons rfl (.cons rfl .nil))) trivial (moffer_tr (A:=(mirLone x' mr r b 2 nc (m_apart hrb hmr hmb))) (lone_at (k:=1) rfl (by omega)) lone_news (v:=5) (by omega) (offer_lone (k:=1) rfl (by omega) (by omega) (RowAt.seqs (by omega) (by omega)) (G:=fun q f'=>q=true∧RowAt 2 f' [5]∧f' (2*2+2)=1∧f' (2*2+3)=0∧f' (2*2+4)=0) (fun f' R' e0 e1 e2=>⟨rfl,R',e0.trans rfl,e1.trans rfl,e2.trans rfl⟩)) .here) ?_
 rintro v' L' x' ⟨q1,f1,⟨rfl,R1,a1,b1,d1⟩,rfl,rfl,rfl⟩
 repeat (first | refine we_seq ?_ | (refine wR ?_;try simp only [oS]) | refine wo_nil ?_ | refine wM ?_ | refine wA ?_ | (apply wo_po;apply mo_extract;exact rfl;exact rfl;exact gY))
 refine wo_call (.cons rfl (.cons rfl (.cons rfl .nil))) trivial (moffer_tr (A:=(mirLone x' mr r b 2 nc (m_apart hrb hmr hmb))) (lone_at (k:=1) rfl (by omega)) lone_news (v:=6) (by omega) (offer_lone (k:=1) rfl (by omega) (by omega) R1 (G:=fun q f'=>q=true∧RowAt 2 f' [5,6]∧f' (2*2+2)=2∧f' (2*2+3)=0∧f' (2*2+4)=0) (fun f' R' e0 e1 e2=>⟨rfl,R',e0.trans (by rw [a1]),e1.trans b1,e2.trans d1⟩)) .here) ?_
 rintro v' L' x' ⟨q2,f2,⟨rfl,R2,a2,b2,d2⟩,rfl,rfl,rfl⟩
 repeat (first | refine we_seq ?_ | (refine wR ?_;try simp only [oS]) | refine wo_nil ?_ | refine wM ?_ | refine wA ?_ | (apply wo_po;apply mo_extract;exact rfl;exact rfl;exact gY))
 refine wo_call (.cons rfl (.cons rfl (.cons rfl .nil))) trivial (moffer_tr (A:=(mirLone x' mr r b 2 nc (m_apart hrb hmr hmb))) (lone_at (k:=1) rfl (by omega)) lone_news (v:=7) (by omega) (offer_lone (k:=1) rfl (by omega) (by omega) R2 (G:=fun q f'=>q=false∧RowAt 2 f' [5,6]∧f' (2*2+2)=3∧f' (2*2+3)=1∧f' (2*2+4)=0) (fun f' R' e0 e1 e2=>⟨rfl,R',e0.trans (by rw [a2]),e1.trans (by rw [b2];rfl),e2.trans d2⟩)) .here) ?_
 rintro v' L' x' ⟨q3,f3,⟨rfl,R3,a3,b3,d3⟩,rfl,rfl,rfl⟩
 repeat (first | refine we_seq ?_ | (refine wR ?_;try simp only [oS]) | refine wo_nil ?_ | refine wM ?_ | refine wA ?_ | (apply wo_po;apply mo_extract;exact rfl;exact rfl;exact gY))
 refine wo_call (.cons rfl (.cons rfl .nil)) trivial (mtake_tr (A:=(mirLone x' mr r b 2 nc (m_apart hrb hmr hmb))) (lone_at (k:=1) rfl (by omega)) (take_lone (k:=1) rfl (by omega) (by omega) R3 (G:=fun q f'=>q=some 5∧f' (2*2+2)=3∧f' (2*2+3)=1∧f' (2*2+4)=1) (fun f' R' e0 e1 e2=>⟨rfl,e0.trans a3,e1.trans b3,e2.trans (by rw [d3];rfl)⟩)) .here) ?_
 rintro v' L' x' ⟨q4,f4,⟨rfl,a4,b4,d4⟩,_,rfl,rfl,rfl⟩
 repeat (first | refine we_seq ?_ | (refine wR ?_;try simp only [oS]) | refine wo_nil ?_ | refine wM ?_ | refine wA ?_ | (apply wo_po;apply mo_extract;exact rfl;exact rfl;exact gY))
 refine wo_call (.cons rfl (.cons rfl .nil)) trivial (mcounts_tr (A:=(mirLone x' mr r b 2 nc (m_apart hrb hmr hmb))) (lone_at (k:=1) rfl (by omega)) (counts_with (A:=loneAcc x' (maddr mr r b 2) (2*2+5) (mK mr r b 2 nc) (m_apart hrb hmr hmb)) (counts_lone0 (G:=fun a b c f'=>a=3∧b=1∧c=1) ⟨a4,b4,d4⟩)) .here) ?_
 rintro v' L' x' ⟨ca,cb,cc,f5,⟨rfl,rfl,rfl⟩,rfl,rfl,rfl⟩
 repeat (first | refine weqlT ?_ | refine we_seq ?_ | (refine wR ?_;try simp only [oS]) | refine wo_nil ?_ | refine wM ?_ | refine wA ?_ | refine wK ?_ | (apply wo_po;apply mo_extract;exact rfl;exact rfl;exact gY) | (apply wo_po;apply mo_not;exact rfl;exact gY) | refine we_ret ?_)
 (first | refine or1 Try.func10 Try.results10 hQ rfl ?_ | refine on1 Try.func10 Try.results10 hQ rfl ?_)
 exact ⟨rfl,rfl,fun h st=>star_drop st⟩
end
end
end Go.Proofs.Ytmkkanmkjfnpdaa
namespace Go.Proofs.Ytmkkanmkjfnpdaa
open Go Go.PB
attribute [local irreducible] Mo Bin Eql Tr Wo Ap Wle
attribute [local instance] Pass.of_no
section
section
variable {L:List HProp} {a:Option Addr} {n0 c:Nat} {l:List Int} {sl tk tr:Int}
theorem mTurns_tr {oa:Option Addr} {oc:Nat} {order:List Int} (hL:∀ c∈L,Dup c) (hr0:RdsO L a n0 (ints l)) (hlb:∀ v∈l,-9223372036854775808≤v∧v≤9223372036854775807) (hb:n0≤9223372036854775807)
  (h0:-9223372036854775808≤sl∧sl≤9223372036854775807) (h2:-9223372036854775808≤tk∧tk≤9223372036854775807) (h3:-9223372036854775808≤tr∧tr≤9223372036854775807)
  (hro:RdsO L oa order.length (intC order)) (hoi:∀ k∈order,-9223372036854775808≤k∧k≤9223372036854775807) :
  Tr Try.prog mT 7 [.agg #[.int .i64 sl,.slice a n0 c,.int .i64 tk,.int .i64 tr],.slice oa order.length oc] L .idle fun v L' x'=>v=.bool true∧x'=.idle:=by
 refine tr_of_body Try.func7 rfl Try.ntmps7 (by simp) fun um Q _ hQ=>?_
 simp only [argE,Nat.zero_add,Nat.reduceAdd]
 repeat (first | (apply wo_mo;apply mo_box;exact rfl;exact trivial) | refine we_seq ?_ | (refine wR ?_;try simp only [oS]))
 rintro v' L' ⟨yb,rfl,rfl⟩
 refine wo_ent (arr yb 0 [.int .i64 sl,.slice a n0 c,.int .i64 tk,.int .i64 tr]::L) .refl ?_
 repeat (first | (apply wo_mo;apply mo_box;exact rfl;exact trivial))
 rintro v' L' ⟨ob,rfl,rfl⟩
 repeat (first | refine we_seq ?_ | (refine wR ?_;try simp only [oS]) | refine wo_nil ?_ | refine wA ?_)
 refine wo_call .nil trivial works_tr ?_
 rintro v1 L1 x1 ⟨rfl,rfl,rfl⟩
 refine wo_frz (b:=ob) (o:=0) (vs:=[.slice oa order.length oc]) .here ?_
 repeat (first | (apply wo_po;apply mo_loadA (b:=yb) (c:=0) (vs:=[.int .i64 sl,.slice a n0 c,.int .i64 tk,.int .i64 tr]);exact rfl;exact rfl;exact Rds.all (.there .here);exact rfl) | (apply wo_po;apply mo_makeFunc (first:=[]) (cap:=[_]) (vf:=[]);exact .nil;exact .cons rfl .nil;exact rfl) | refine wM ?_)
 refine wo_ent (fro ob 0 [.slice oa order.length oc]::L) (.take .here (.drop .refl)) ?_
 refine wo_call (.cons rfl (.cons rfl (.cons rfl .nil))) rfl (many_tr (mf:=34) (cap:=[.pointer (some ⟨ob,0,none⟩)]) turns_play ⟨by omega,by omega⟩ (dup_all (by intro c hc;rcases List.mem_cons.1 hc with rfl | hc;exact dup_fro;exact hL c hc)) (fun M hM=>⟨oa,oc,order,hM (Rd.fro (k:=0) rfl rfl),⟨hro.1,hro.2.imp id fun ⟨b,o,e,r⟩=>⟨b,o,e,fun i v hi=>hM (.there (r i v hi))⟩⟩,hoi⟩) hr0.there hlb hb h0 h2 h3) ?_
 rintro v1 L1 x1 ⟨rfl,rfl⟩
 repeat (first | refine wo_nil ?_ | refine wA ?_ | refine wK ?_ | refine we_ret ?_)
 (first | refine or1 Try.func7 Try.results7 hQ rfl ?_ | refine on1 Try.func7 Try.results7 hQ rfl ?_)
 exact ⟨rfl,rfl⟩
end
end
end Go.Proofs.Ytmkkanmkjfnpdaa
namespace Go.PB
open Go
section
theorem form_in {c:OpenClaim} (h1:c.start=.entering) (h2:c.stops=[]) {C:Checked} {os:Os} {f:FuncId} {L:List FuncId} {Pre:World→Array Value→Prop} {Post:Stop.Interp→World→Array Value→Value→World→Prop} :
  c.form C os f L Pre Post↔∀ F:Stop.Interp,ReturnsInOpen c.assume none C os f .any c.okInput Pre (Post F) (c.atReturn C.prog) (c.always C.prog L):=by
 unfold OpenClaim.form
 rw [h1,h2]
theorem upto_of {p:Pinned} {s:ChangeSpec} {k:(H:Type)→List (DataW H)→Bool} {c:OpenClaim} (hstart:c.start=.entering) (hstops:c.stops=[]) (hlaid:c.laid=[]) (hout:c.outside=[]) (hnb:c.noBlocks=false) (h:c.holds p (OpenSpec.ofChange s))
  (hfit:∀ f fn,p.checked.prog.funcNamed c.func=some f→p.checked.prog.funcs[f]?=some fn→∀ os:Os,os.Started→∀ (H:Type) (enc:TypeId × Value→H),
   ∃ (w:World) (tape:Tape) (i:Input),w.os=os∧(w.forCall tape i).Shaped p.checked.prog∧i.vars=[]∧Input.okWide p.checked.prog (w.forCall tape i) .any w.heap.size f i ∧
    ({ OpenSpec.ofChange s with cond:=some k }:OpenSpec).pre6 enc p.checked.prog fn c.domain c.apart (w.forCall tape i).memory i.args∧c.assume.holds p.checked.prog (lone (Frame.enter p.checked.prog f i.args .normal) [] (w.forCall tape i))) :
  ({ c with narrowed:=true }:OpenClaim).holds p { OpenSpec.ofChange s with cond:=some k }:=by
 obtain ⟨a1,a2,a3,a4,a5,a6,a7,a8,f,fn,g1,g2,r,b1,b2,b3,b4,b5,kn,c1,c2,c3,c4,c5,c6,m,l,q,n1,v1,e1,L,hL,all⟩:=h
 refine ⟨a1,a2,a3,a4,a5,a6,a7,a8,f,fn,g1,g2,r,b1,b2,b3,b4,b5,kn,c1,c2,c3,c4,c5,c6,m,l,q,by simp,v1,e1,L,hL,fun os x y H enc inj=>?_⟩
 have A:=all os x y H enc inj
 have st:os.Started:=by
  have x':c.world os:=x
  unfold OpenClaim.world at x'
  rw [hout,hstart] at x'
  exact x'
 have fit:=hfit f fn g1 g2 os st H enc
 refine (form_in (c:={ c with narrowed:=true }) hstart hstops).2 fun F=>?_
 have B:=(form_in hstart hstops).1 A F
 rw [OpenClaim.pre_of_none' hlaid] at B
 rw [OpenClaim.pre_of_none' (c:={ c with narrowed:=true }) hlaid]
 obtain ⟨h0,h1,h2,_,h4⟩:=B
 refine ⟨h0,h1,h2,?_,fun w tape i ⟨d1,d2,d3,d4,d5,d6,d7⟩=>h4 w tape i ⟨d1,d2,d3,d4,?_,d6,d7⟩⟩
 ·obtain ⟨w,tape,i,f1,f2,f3,f4,f5,f6⟩:=fit
  refine ⟨w,tape,i,f1,f2,f3,?_,f5,f6,trivial⟩
  show c.okInput _ _ _ _ _ _
  unfold OpenClaim.okInput
  rw [hnb]
  exact f4
 ·obtain ⟨e2,e3⟩:=d5
  obtain ⟨ds,gs,before,z1,z2,z3⟩:=(OpenSpec.pre_some (k:=k) rfl _ _ _ _).1 e2
  exact ⟨⟨ds,gs,before,z1,z2⟩,e3⟩
end
end Go.PB
namespace Go.PB
open Go.Conc Go.Conc.Lib Go.ConcR.Gen
open Go.ConcR (KK stA smA rd wr mk DC0)
def WgAt (ty:TypeId) (wg:Nat) (w:World) (st sm:Int):Prop:=∃ f:Nat × Nat,w.heap[wg]?=some (.cells #[.int .u64 st,.int .u32 sm] ty f)∧w.frozen? ⟨wg,0,none⟩=false∧w.frozen? ⟨wg,1,none⟩=false
section
variable {ty:TypeId} {wg:Nat} {w w':World} {st sm:Int}
theorem WgAt.cellSt (h:WgAt ty wg w st sm):w.cell? (stA wg)=some (.int .u64 st):=by obtain ⟨f,h,_⟩:=h;simp [World.cell?,stA,h]
theorem WgAt.cellSm (h:WgAt ty wg w st sm):w.cell? (smA wg)=some (.int .u32 sm):=by obtain ⟨f,h,_⟩:=h;simp [World.cell?,smA,h]
theorem WgAt.thaw (h:WgAt ty wg w st sm) (n:Nat) (hn:n<2:=by decide):w.frozen? ⟨wg,n,none⟩=false:=by
 obtain ⟨f,_,h0,h1⟩:=h
 rcases n with _ | _ | n
 ·exact h0
 ·exact h1
 ·omega
theorem WgAt.unique {st' sm':Int} (h:WgAt ty wg w st sm) (h':WgAt ty wg w st' sm'):st=st'∧sm=sm':=by
 obtain ⟨f,h,_⟩:=h
 obtain ⟨f',h',_⟩:=h'
 rw [h] at h'
 simp at h'
 exact ⟨h'.1.1,h'.1.2⟩
theorem WgAt.setSt (h:WgAt ty wg w st sm) (v:Int):WgAt ty wg (w.setCell (stA wg) (.int .u64 v)) v sm:=by
 obtain ⟨f,h,h0,h1⟩:=h
 refine ⟨f,?_,by rw [frozen_setCell];exact h0,by rw [frozen_setCell];exact h1⟩
 simp [World.setCell,stA,Array.getElem?_modify,h]
theorem WgAt.setSm (h:WgAt ty wg w st sm) (v:Int):WgAt ty wg (w.setCell (smA wg) (.int .u32 v)) st v:=by
 obtain ⟨f,h,h0,h1⟩:=h
 refine ⟨f,?_,by rw [frozen_setCell];exact h0,by rw [frozen_setCell];exact h1⟩
 simp [World.setCell,smA,Array.getElem?_modify,h]
theorem WgAt.of_heap (h:WgAt ty wg w st sm) (e:w'.heap[wg]?=w.heap[wg]?):WgAt ty wg w' st sm:=by
 obtain ⟨f,h,h0,h1⟩:=h
 have hf:∀ o,w'.frozen? ⟨wg,o,none⟩=w.frozen? ⟨wg,o,none⟩:=fun o=>by unfold World.frozen?;rw [e]
 exact ⟨f,e.trans h,(hf 0).trans h0,(hf 1).trans h1⟩
def WgLive (ty:TypeId) (Wg:Nat) (w:World):Prop:=∃ st sm,WgAt ty Wg w st sm
end
def RL (ty:TypeId) (Wg:Nat) (w w₁:World):Prop:=WgLive ty Wg w→WgLive ty Wg w₁
theorem live_cell {ty:TypeId} {Wg:Nat} {w:World} (h:WgLive ty Wg w):∃ v,w.cell? ⟨Wg,0,none⟩=some v:=let ⟨_,_,x⟩:=h;⟨_,WgAt.cellSt x⟩
section
variable (P:Program) (ty:TypeId) (Wg:Nat)
def Zg (Stop:Goroutine→World→Prop) (m:Nat) (g:Goroutine) (w:World):Prop:=Goes P false (RL ty Wg) DC0 Stop m g w
def Z4 (g:Goroutine) (w:World):Prop :=
 g.status=.running∧mayWake P g=true∧(WgAt ty Wg w 0 0→∃ g' q,stepG P false g w=.go g' (w.setCell (smA Wg) (.int .u32 1)) (semEvents (smA Wg))∧QuitsD P q 1 g')
def Z3 (g:Goroutine) (w:World):Prop :=
 g.status=.running∧(WgAt ty Wg w 1 0→∃ g' m,stepG P false g w=.go g' (w.setCell (stA Wg) (.int .u64 0)) #[wr (stA Wg)]∧Zg P ty Wg (Z4 P ty Wg) m g' (w.setCell (stA Wg) (.int .u64 0)))
def Z2 (g:Goroutine) (w:World):Prop :=
 g.status=.running∧(WgAt ty Wg w 1 0→∃ g' m,stepG P false g w=.go g' w #[rd (stA Wg)]∧Zg P ty Wg (Z3 P ty Wg) m g' w)
def Z1 (g:Goroutine) (w:World):Prop :=
 g.status=.running∧∀ v wt:Nat,wt≤1→v<2147483647→WgAt ty Wg w ((v+1)*KK+wt) 0 →
  ∃ g',stepG P false g w=.go g' (w.setCell (stA Wg) (.int .u64 (v*KK+wt))) #[rd (stA Wg),wr (stA Wg)] ∧
   ((v=0∧wt=1)→∃ m,Zg P ty Wg (Z2 P ty Wg) m g' (w.setCell (stA Wg) (.int .u64 (v*KK+wt))))∧(¬ (v=0∧wt=1)→∃ q,QuitsD P q 1 g')
def ZK (g:Goroutine) (w:World):Prop :=
 g.status=.running∧∃ g' m,stepG P false g w=.go g' w #[mk .disable]∧Zg P ty Wg (Z1 P ty Wg) m g' w
def ZR (g:Goroutine) (w:World):Prop :=
 g.status=.running∧∃ g' m,stepG P false g w=.go g' w #[mk (.releaseMerge (stA Wg))]∧Zg P ty Wg (ZK P ty Wg) m g' w
end
end Go.PB
namespace Go.PB
open Go.Conc Go.Conc.Lib Go.ConcR.Gen
open Go.ConcR (KK stA smA rd wr mk DC0)
theorem quits_more {P:Program}:∀ {n d:Nat} {g:Goroutine},QuitsD P n d g→QuitsD P (n+1) d g
 | 0,_,_,h=>.inl h
 | _+1,_,_,h=>h.imp id fun ⟨hs,g',es,hm,hst,hq⟩=>⟨hs,g',es,hm,hst,quits_more hq⟩
theorem quits_mono {P:Program} {n n' d:Nat} {g:Goroutine} (h:QuitsD P n d g) (hn:n≤n'):QuitsD P n' d g:=by
 induction hn with
 | refl=>exact h
 | step _ ih=>exact quits_more ih
set_option maxRecDepth 100000 in
set_option maxHeartbeats 8000000 in
theorem add_goes [Go.ConcR.Payload] {P:Program} {L:WgLink} (H:WgLib P L) {Wg:Nat} {b₀:Frame} {a₀:Act} {ops₀:Array Oper} {i₀:Nat} {rest₀:List Nat} {k₀:List Item} {cs:List Frame} {qt:Nat}
  (hT:QuitsD P qt 0 (G (b₀.at (a₀.put ((ops₀[i₀]?).bind (·.dst)) (.tuple #[])) (.inRegion ops₀ rest₀::k₀)) cs)) (w:World) (hK:WgLive L.tWg Wg w) :
  Zg P L.tWg Wg (ZR P L.tWg Wg) 20 (G ((Go.Conc.base L.add).at ⟨#[.pointer (some ⟨Wg,0,none⟩),.int .i64 (-1)]++Array.replicate 115 undef,[]⟩ [.code (body_add L)]) (b₀.at a₀ (.inRegion ops₀ (i₀::rest₀)::k₀)::cs)) w:=by
 lib_facts
 simp only [body_add,addFn,Option.getD_some,Array.replicate_succ,Array.replicate_zero]
 unfold Zg
 have key:∀ {w w₁:World},WgLive L.tWg Wg w→RL L.tWg Wg w w₁→WgLive L.tWg Wg w₁:=fun h r=>r h
 walk_nrm
 repeat (first | u_c stepG_seq key hK | u_c stepG_region_end key hK | u_c stepG_skip key hK | u_reg key hK | u_skip key hK | u_op key hK | u_cond true key hK | u_cond false key hK | u_c stepG_ret' key hK | u_c stepG_block key hK | u_c stepG_loop key hK | u_c stepG_end key hK | u_defer key hK | u_leave1 H.f_uAdd key hK | u_leave1 H.f_uLoad key hK | u_leave0 H.f_uStore key hK | u_call H.f_uAdd (nm_uAdd L) uAddFn key hK | u_call H.f_uLoad (nm_uLoad L) uLoadFn key hK | u_call H.f_uStore (nm_uStore L) uStoreFn key hK | u_bub key hK)
 u_conv H.underlying_tWgP H.room_tWg (live_cell hK).choose_spec key hK
 refine Goes.stop (fun w₁ h₁=>?_)
 replace hK:=key hK h₁
 clear h₁
 refine ⟨rfl,_,30,stepG_markAt .releaseMerge (by simp) rfl rfl (by k_ne) rfl H.f_relMerge (x_relMerge_n L) (x_relMerge_b L) (x_relMerge_x L) (x_relMerge_f L) (by simp [Act.eval,stA]),?_⟩
 unfold Zg
 walk_nrm
 repeat (first | u_c stepG_seq key hK | u_c stepG_region_end key hK | u_c stepG_skip key hK | u_reg key hK | u_skip key hK | u_op key hK | u_cond true key hK | u_cond false key hK | u_c stepG_ret' key hK | u_c stepG_block key hK | u_c stepG_loop key hK | u_c stepG_end key hK | u_defer key hK | u_leave1 H.f_uAdd key hK | u_leave1 H.f_uLoad key hK | u_leave0 H.f_uStore key hK | u_call H.f_uAdd (nm_uAdd L) uAddFn key hK | u_call H.f_uLoad (nm_uLoad L) uLoadFn key hK | u_call H.f_uStore (nm_uStore L) uStoreFn key hK | u_bub key hK)
 refine Goes.stop (fun w₁ h₁=>?_)
 replace hK:=key hK h₁
 clear h₁
 refine ⟨rfl,_,80,stepG_mark0 .disable (by simp) rfl rfl (by k_ne) rfl H.f_disable (x_disable_n L) (x_disable_b L) (x_disable_x L) (x_disable_f L),?_⟩
 unfold Zg
 walk_nrm
 repeat (first | u_c stepG_seq key hK | u_c stepG_region_end key hK | u_c stepG_skip key hK | u_reg key hK | u_skip key hK | u_op key hK | u_cond true key hK | u_cond false key hK | u_c stepG_ret' key hK | u_c stepG_block key hK | u_c stepG_loop key hK | u_c stepG_end key hK | u_defer key hK | u_leave1 H.f_uAdd key hK | u_leave1 H.f_uLoad key hK | u_leave0 H.f_uStore key hK | u_call H.f_uAdd (nm_uAdd L) uAddFn key hK | u_call H.f_uLoad (nm_uLoad L) uLoadFn key hK | u_call H.f_uStore (nm_uStore L) uStoreFn key hK | u_bub key hK)
 refine Goes.stop (fun w₁ h₁=>?_)
 clear h₁ hK
 refine ⟨rfl,fun v wt hwt hv hw=>?_⟩
 have e0:IntKind.u64.wrap (KK+18446744069414584320)=0:=by decide
 have e1:IntKind.u64.wrap (KK+1+18446744069414584320)=1:=by decide
 rcases Nat.eq_zero_or_pos v with rfl | hvp <;> (obtain rfl | rfl:wt=0∨wt=1:=by omega)
 ·-- nobody is left,nobody waits
  replace hw:WgAt L.tWg Wg w₁ KK 0:=by simpa using hw
  have z:((0:Nat):Int)*KK+((0:Nat):Int)=0:=by simp
  rw [z]
  refine ⟨_,(stepG_add_atomic rfl rfl (by k_ne) rfl H.f_addU64 (x_addU64_n L) (x_addU64_b L) (x_addU64_x L) .u64 (x_addU64_f L) rfl rfl (WgAt.cellSt hw) (WgAt.thaw hw 0)).trans (by rw [e0];rfl),fun hl=>absurd hl.2 (by decide),fun _=>⟨qt+200,?_⟩⟩
  clear hw
  walk_nrm
  q_val (.int .u64 0)
  q_c stepG_region_end
  q_c stepG_ret'
  q_leave1 H.f_uAdd
  q_val (.int .u64 0)
  q_c stepG_region_end
  q_c stepG_seq
  q_c stepG_seq
  q_reg
  q_val (.int .u64 0)
  q_val (.int .u64 0)
  q_val (.bool false)
  q_val (.bool false)
  q_skip
  q_skip
  q_val (.bool false)
  q_c stepG_region_end
  q_cond false
  q_c stepG_skip
  q_c stepG_seq
  q_reg
  q_val (.int .u64 0)
  q_val (.int .u64 0)
  q_val (.int .i32 0)
  q_val (.int .i32 0)
  q_c stepG_region_end
  q_c stepG_seq
  q_reg
  q_val (.int .u64 0)
  q_val (.int .u64 0)
  q_val (.int .u32 0)
  q_val (.int .u32 0)
  q_c stepG_region_end
  q_c stepG_seq
  q_c stepG_seq
  q_reg
  q_val (.bool true)
  q_val (.int .i64 (-1))
  q_val (.bool false)
  q_val (.bool false)
  q_val (.bool false)
  q_skip
  q_skip
  q_skip
  q_skip
  q_val (.bool false)
  q_c stepG_region_end
  q_cond false
  q_c stepG_skip
  q_c stepG_seq
  q_c stepG_seq
  q_reg
  q_val (.int .i32 0)
  q_val (.bool false)
  q_c stepG_region_end
  q_cond false
  q_c stepG_skip
  q_c stepG_seq
  q_c stepG_seq
  q_reg
  q_val (.int .u32 0)
  q_val (.bool false)
  q_val (.bool false)
  q_skip
  q_skip
  q_val (.bool false)
  q_val (.bool false)
  q_skip
  q_skip
  q_skip
  q_skip
  q_val (.bool false)
  q_c stepG_region_end
  q_cond false
  q_c stepG_skip
  q_c stepG_seq
  q_c stepG_seq
  q_reg
  q_val (.int .i32 0)
  q_val (.bool false)
  q_val (.bool false)
  q_val (.int .u32 0)
  q_val (.bool true)
  q_val (.bool true)
  q_c stepG_region_end
  q_cond true
  q_c stepG_ret'
  q_enable
  q_leave0 H.f_add
  exact quits_mono hT (by omega)
 ·-- nobody is left,the starter waits: the last one
  replace hw:WgAt L.tWg Wg w₁ (KK+1) 0:=by simpa using hw
  have z:((0:Nat):Int)*KK+((1:Nat):Int)=1:=by simp
  rw [z]
  refine ⟨_,(stepG_add_atomic rfl rfl (by k_ne) rfl H.f_addU64 (x_addU64_n L) (x_addU64_b L) (x_addU64_x L) .u64 (x_addU64_f L) rfl rfl (WgAt.cellSt hw) (WgAt.thaw hw 0)).trans (by rw [e1];rfl),fun _=>⟨150,?_⟩,fun hl=>absurd ⟨rfl,rfl⟩ hl⟩
  have hK:WgLive L.tWg Wg (w₁.setCell (stA Wg) (.int .u64 1)):=⟨_,_,WgAt.setSt hw 1⟩
  clear hw
  unfold Zg
  walk_nrm
  u_op key hK
  u_c stepG_region_end key hK
  u_c stepG_ret' key hK
  u_leave1 H.f_uAdd key hK
  u_op key hK
  u_c stepG_region_end key hK
  u_c stepG_seq key hK
  u_c stepG_seq key hK
  u_reg key hK
  u_op key hK
  u_op key hK
  u_op key hK
  u_op key hK
  u_skip key hK
  u_skip key hK
  u_op key hK
  u_c stepG_region_end key hK
  u_cond false key hK
  u_c stepG_skip key hK
  u_c stepG_seq key hK
  u_reg key hK
  u_op key hK
  u_op key hK
  u_op key hK
  u_op key hK
  u_c stepG_region_end key hK
  u_c stepG_seq key hK
  u_reg key hK
  u_op key hK
  u_op key hK
  u_op key hK
  u_op key hK
  u_c stepG_region_end key hK
  u_c stepG_seq key hK
  u_c stepG_seq key hK
  u_reg key hK
  u_op key hK
  u_op key hK
  u_op key hK
  u_op key hK
  u_op key hK
  u_skip key hK
  u_skip key hK
  u_skip key hK
  u_skip key hK
  u_op key hK
  u_c stepG_region_end key hK
  u_cond false key hK
  u_c stepG_skip key hK
  u_c stepG_seq key hK
  u_c stepG_seq key hK
  u_reg key hK
  u_op key hK
  u_op key hK
  u_c stepG_region_end key hK
  u_cond false key hK
  u_c stepG_skip key hK
  u_c stepG_seq key hK
  u_c stepG_seq key hK
  u_reg key hK
  u_op key hK
  u_op key hK
  u_op key hK
  u_op key hK
  u_op key hK
  u_op key hK
  u_op key hK
  u_skip key hK
  u_skip key hK
  u_skip key hK
  u_skip key hK
  u_op key hK
  u_c stepG_region_end key hK
  u_cond false key hK
  u_c stepG_skip key hK
  u_c stepG_seq key hK
  u_c stepG_seq key hK
  u_reg key hK
  u_op key hK
  u_op key hK
  u_op key hK
  u_op key hK
  u_op key hK
  u_op key hK
  u_c stepG_region_end key hK
  u_cond false key hK
  u_c stepG_skip key hK
  u_c stepG_seq key hK
  u_c stepG_seq key hK
  u_reg key hK
  u_op key hK
  u_op key hK
  u_op key hK
  u_call H.f_uLoad (nm_uLoad L) uLoadFn key hK
  u_c stepG_seq key hK
  u_reg key hK
  u_op key hK
  u_c stepG_region_end key hK
  u_c stepG_seq key hK
  u_reg key hK
  u_op key hK
  u_op key hK
  u_op key hK
  refine Goes.stop (fun w₂ h₂=>?_)
  clear h₂ hK
  refine ⟨rfl,fun hw=>⟨_,60,stepG_load_atomic rfl rfl (by k_ne) rfl H.f_loadU64 (x_loadU64_n L) (x_loadU64_b L) (x_loadU64_x L) .u64 (x_loadU64_f L) rfl (WgAt.cellSt hw),?_⟩⟩
  have hK:WgLive L.tWg Wg w₂:=⟨_,_,hw⟩
  clear hw
  unfold Zg
  walk_nrm
  u_op key hK
  u_c stepG_region_end key hK
  u_c stepG_ret' key hK
  u_leave1 H.f_uLoad key hK
  u_op key hK
  u_op key hK
  u_c stepG_region_end key hK
  u_cond false key hK
  u_c stepG_skip key hK
  u_c stepG_seq key hK
  u_reg key hK
  u_op key hK
  u_op key hK
  u_op key hK
  u_call H.f_uStore (nm_uStore L) uStoreFn key hK
  u_reg key hK
  u_op key hK
  u_op key hK
  u_op key hK
  u_op key hK
  refine Goes.stop (fun w₃ h₃=>?_)
  clear h₃ hK
  refine ⟨rfl,fun hw=>⟨_,60,stepG_store_atomic rfl rfl (by k_ne) rfl H.f_storeU64 (x_storeU64_n L) (x_storeU64_b L) (x_storeU64_x L) (x_storeU64_f L) rfl rfl (WgAt.cellSt hw) (WgAt.thaw hw 0),?_⟩⟩
  have hK:WgLive L.tWg Wg (w₃.setCell (stA Wg) (.int .u64 0)):=⟨_,_,WgAt.setSt hw 0⟩
  clear hw
  unfold Zg
  walk_nrm
  u_c stepG_region_end key hK
  u_c stepG_end key hK
  u_leave0 H.f_uStore key hK
  u_c stepG_region_end key hK
  u_c stepG_seq key hK
  u_c stepG_seq key hK
  u_reg key hK
  u_op key hK
  u_c stepG_region_end key hK
  u_cond false key hK
  u_c stepG_skip key hK
  u_c stepG_block key hK
  u_c stepG_loop key hK
  u_c stepG_seq key hK
  u_c stepG_seq key hK
  u_reg key hK
  u_op key hK
  u_op key hK
  u_c stepG_region_end key hK
  u_cond true key hK
  u_c stepG_skip key hK
  u_c stepG_seq key hK
  u_c stepG_block key hK
  u_reg key hK
  u_op key hK
  u_op key hK
  u_op key hK
  refine Goes.stop (fun w₄ h₄=>?_)
  clear h₄ hK
  refine ⟨rfl,mayWake_entry rfl rfl H.f_semrelease (x_semrelease_b L),fun hw=>⟨_,qt+40,(stepG_semrelease rfl rfl (by k_ne) rfl H.f_semrelease (x_semrelease_n L) (x_semrelease_b L) (x_semrelease_x L) (x_semrelease_f L) (by simp [Act.eval,smA]) (WgAt.cellSm hw) (WgAt.thaw hw 1)).trans (by rfl),?_⟩⟩
  clear hw
  walk_nrm
  q_c stepG_region_end
  q_c stepG_inBlock
  q_reg
  q_val (.int .u32 1)
  q_val (.int .u32 0)
  q_val (.int .u32 0)
  q_c stepG_region_end
  q_c stepG_inLoop
  q_c stepG_seq
  q_c stepG_seq
  q_reg
  q_val (.int .u32 0)
  q_val (.bool false)
  q_c stepG_region_end
  q_cond false
  q_exit
  q_c stepG_end
  q_enable
  q_leave0 H.f_add
  exact quits_mono hT (by omega)
 ·-- some are left,nobody waits
  replace hw:WgAt L.tWg Wg w₁ (((v:Nat)+1)*KK+0) 0:=by simpa using hw
  have z:((v:Nat):Int)*KK+((0:Nat):Int)=(v:Int)*KK+0:=by simp
  rw [z]
  have eS:IntKind.u64.wrap (((v:Nat)+1)*KK+0+18446744069414584320)=(v:Int)*KK+0:=by rw [IntKind.wrap_u64];simp only [KK];omega
  obtain ⟨S,hS⟩:∃ S:Int,S=(v:Int)*KK+0:=⟨_,rfl⟩
  rw [← hS] at eS ⊢
  have a1:S/4294967296=(v:Int):=by rw [hS];simp only [KK];omega
  have a2:0≤S∧S<9223372036854775808:=by rw [hS];simp only [KK];omega
  have b1:bits .and .u64 S 2147483648=0:=by rw [hS];have:=Go.ConcN.st_flag v 0 (by omega) (by omega);simpa [KK] using this
  have b2:bits .and .u64 S 2147483647=0:=by rw [hS];have:=Go.ConcN.st_waiters v 0 (by omega) (by omega);simpa [KK] using this
  clear hS z
  refine ⟨_,(stepG_add_atomic rfl rfl (by k_ne) rfl H.f_addU64 (x_addU64_n L) (x_addU64_b L) (x_addU64_x L) .u64 (x_addU64_f L) rfl rfl (WgAt.cellSt hw) (WgAt.thaw hw 0)).trans (by rw [eS];rfl),fun hl=>absurd hl.1 (by omega),fun _=>⟨qt+150,?_⟩⟩
  clear hw
  walk_nrm
  q_vn (.int .u64 S)
  q_c stepG_region_end
  q_c stepG_ret'
  q_leave1 H.f_uAdd
  q_vn (.int .u64 S)
  q_c stepG_region_end
  q_c stepG_seq
  q_c stepG_seq
  q_reg
  q_vn (.int .u64 S)
  q_vn (.int .u64 0)
  q_vn (.bool false)
  q_vn (.bool false)
  q_skip
  q_skip
  q_vn (.bool false)
  q_c stepG_region_end
  q_cond false
  q_c stepG_skip
  q_c stepG_seq
  q_reg
  q_vn (.int .u64 S)
  q_vn (.int .u64 (v:Int))
  q_vn (.int .i32 (v:Int))
  q_vn (.int .i32 (v:Int))
  q_c stepG_region_end
  q_c stepG_seq
  q_reg
  q_vn (.int .u64 S)
  q_vn (.int .u64 0)
  q_vn (.int .u32 0)
  q_vn (.int .u32 0)
  q_c stepG_region_end
  q_c stepG_seq
  q_c stepG_seq
  q_reg
  q_vn (.bool true)
  q_vn (.int .i64 (-1))
  q_vn (.bool false)
  q_vn (.bool false)
  q_vn (.bool false)
  q_skip
  q_skip
  q_skip
  q_skip
  q_vn (.bool false)
  q_c stepG_region_end
  q_cond false
  q_c stepG_skip
  q_c stepG_seq
  q_c stepG_seq
  q_reg
  q_vn (.int .i32 (v:Int))
  q_vn (.bool false)
  q_c stepG_region_end
  q_cond false
  q_c stepG_skip
  q_c stepG_seq
  q_c stepG_seq
  q_reg
  q_vn (.int .u32 0)
  q_vn (.bool false)
  q_vn (.bool false)
  q_skip
  q_skip
  q_vn (.bool false)
  q_vn (.bool false)
  q_skip
  q_skip
  q_skip
  q_skip
  q_vn (.bool false)
  q_c stepG_region_end
  q_cond false
  q_c stepG_skip
  q_c stepG_seq
  q_c stepG_seq
  q_reg
  q_vn (.int .i32 (v:Int))
  q_vn (.bool true)
  q_vn (.bool true)
  q_skip
  q_skip
  q_vn (.bool true)
  q_c stepG_region_end
  q_cond true
  q_c stepG_ret'
  q_enable
  q_leave0 H.f_add
  exact quits_mono hT (by omega)
 ·-- some are left,the starter waits
  replace hw:WgAt L.tWg Wg w₁ (((v:Nat)+1)*KK+1) 0:=by simpa using hw
  have z:((v:Nat):Int)*KK+((1:Nat):Int)=(v:Int)*KK+1:=by simp
  rw [z]
  have eS:IntKind.u64.wrap (((v:Nat)+1)*KK+1+18446744069414584320)=(v:Int)*KK+1:=by rw [IntKind.wrap_u64];simp only [KK];omega
  obtain ⟨S,hS⟩:∃ S:Int,S=(v:Int)*KK+1:=⟨_,rfl⟩
  rw [← hS] at eS ⊢
  have a1:S/4294967296=(v:Int):=by rw [hS];simp only [KK];omega
  have a2:0≤S∧S<9223372036854775808:=by rw [hS];simp only [KK];omega
  have b1:bits .and .u64 S 2147483648=0:=by rw [hS];have:=Go.ConcN.st_flag v 1 (by omega) (by omega);simpa [KK] using this
  have b2:bits .and .u64 S 2147483647=1:=by rw [hS];have:=Go.ConcN.st_waiters v 1 (by omega) (by omega);simpa [KK] using this
  clear hS z
  refine ⟨_,(stepG_add_atomic rfl rfl (by k_ne) rfl H.f_addU64 (x_addU64_n L) (x_addU64_b L) (x_addU64_x L) .u64 (x_addU64_f L) rfl rfl (WgAt.cellSt hw) (WgAt.thaw hw 0)).trans (by rw [eS];rfl),fun hl=>absurd hl.1 (by omega),fun _=>⟨qt+150,?_⟩⟩
  clear hw
  walk_nrm
  q_vn (.int .u64 S)
  q_c stepG_region_end
  q_c stepG_ret'
  q_leave1 H.f_uAdd
  q_vn (.int .u64 S)
  q_c stepG_region_end
  q_c stepG_seq
  q_c stepG_seq
  q_reg
  q_vn (.int .u64 S)
  q_vn (.int .u64 0)
  q_vn (.bool false)
  q_vn (.bool false)
  q_skip
  q_skip
  q_vn (.bool false)
  q_c stepG_region_end
  q_cond false
  q_c stepG_skip
  q_c stepG_seq
  q_reg
  q_vn (.int .u64 S)
  q_vn (.int .u64 (v:Int))
  q_vn (.int .i32 (v:Int))
  q_vn (.int .i32 (v:Int))
  q_c stepG_region_end
  q_c stepG_seq
  q_reg
  q_vn (.int .u64 S)
  q_vn (.int .u64 1)
  q_vn (.int .u32 1)
  q_vn (.int .u32 1)
  q_c stepG_region_end
  q_c stepG_seq
  q_c stepG_seq
  q_reg
  q_vn (.bool true)
  q_vn (.int .i64 (-1))
  q_vn (.bool false)
  q_vn (.bool false)
  q_vn (.bool false)
  q_skip
  q_skip
  q_skip
  q_skip
  q_vn (.bool false)
  q_c stepG_region_end
  q_cond false
  q_c stepG_skip
  q_c stepG_seq
  q_c stepG_seq
  q_reg
  q_vn (.int .i32 (v:Int))
  q_vn (.bool false)
  q_c stepG_region_end
  q_cond false
  q_c stepG_skip
  q_c stepG_seq
  q_c stepG_seq
  q_reg
  q_vn (.int .u32 1)
  q_vn (.bool true)
  q_vn (.bool true)
  q_vn (.int .i64 (-1))
  q_vn (.bool false)
  q_vn (.bool false)
  q_vn (.bool false)
  q_skip
  q_skip
  q_skip
  q_skip
  q_vn (.bool false)
  q_c stepG_region_end
  q_cond false
  q_c stepG_skip
  q_c stepG_seq
  q_c stepG_seq
  q_reg
  q_vn (.int .i32 (v:Int))
  q_vn (.bool true)
  q_vn (.bool true)
  q_skip
  q_skip
  q_vn (.bool true)
  q_c stepG_region_end
  q_cond true
  q_c stepG_ret'
  q_enable
  q_leave0 H.f_add
  exact quits_mono hT (by omega)
end Go.PB
namespace Go.PB
open Go.Conc Go.Conc.Lib Go.ConcR.Gen
open Go.ConcR (KK stA smA rd wr mk DC0)
set_option maxRecDepth 100000 in
theorem add_goes2 [Go.ConcR.Payload] {P:Program} {L:WgLink} (H:WgLib P L) {Wg:Nat} {b₀:Frame} {a₀:Act} {ops₀:Array Oper} {i₀:Nat} {rest₀:List Nat} {k₀:List Item} {cs:List Frame} {qt:Nat}
  (hT:QuitsD P qt 0 (G (b₀.at (a₀.put ((ops₀[i₀]?).bind (·.dst)) (.tuple #[])) (.inRegion ops₀ rest₀::k₀)) cs)) (w:World) (hK:WgLive L.tWg Wg w) :
  Zg P L.tWg Wg (ZR P L.tWg Wg) 20 (G ((Go.Conc.base L.add).at ⟨#[.pointer (some ⟨Wg,0,none⟩),.int .i64 (-1),undef,undef,undef,undef,undef,undef,undef,undef,undef,undef,undef,undef,undef,undef,undef,undef,undef,undef,undef,undef,undef,undef,undef,undef,undef,undef,undef,undef,undef,undef,undef,undef,undef,undef,undef,undef,undef,undef,undef,undef,undef,undef,undef,undef,undef,undef,undef,undef,undef,undef,undef,undef,undef,undef,undef,undef,undef,undef,undef,undef,undef,undef,undef,undef,undef,undef,undef,undef,undef,undef,undef,undef,undef,undef,undef,undef,undef,undef,undef,undef,undef,undef,undef,undef,undef,undef,undef,undef,undef,undef,undef,undef,undef,undef,undef,undef,undef,undef,undef,undef,undef,undef,undef,undef,undef,undef,undef,undef,undef,undef,undef,undef,undef,undef,undef],[]⟩ [.code (body_add L)]) (b₀.at a₀ (.inRegion ops₀ (i₀::rest₀)::k₀)::cs)) w:=by
 have e:(#[.pointer (some ⟨Wg,0,none⟩),.int .i64 (-1),undef,undef,undef,undef,undef,undef,undef,undef,undef,undef,undef,undef,undef,undef,undef,undef,undef,undef,undef,undef,undef,undef,undef,undef,undef,undef,undef,undef,undef,undef,undef,undef,undef,undef,undef,undef,undef,undef,undef,undef,undef,undef,undef,undef,undef,undef,undef,undef,undef,undef,undef,undef,undef,undef,undef,undef,undef,undef,undef,undef,undef,undef,undef,undef,undef,undef,undef,undef,undef,undef,undef,undef,undef,undef,undef,undef,undef,undef,undef,undef,undef,undef,undef,undef,undef,undef,undef,undef,undef,undef,undef,undef,undef,undef,undef,undef,undef,undef,undef,undef,undef,undef,undef,undef,undef,undef,undef,undef,undef,undef,undef,undef,undef,undef,undef]:Array Value)=#[.pointer (some ⟨Wg,0,none⟩),.int .i64 (-1)]++Array.replicate 115 undef:=by kernel_rfl
 rw [e]
 exact add_goes H hT w hK
set_option maxHeartbeats 8000000 in
set_option maxRecDepth 100000 in
theorem done_goes [Go.ConcR.Payload] {P:Program} {L:WgLink} (H:WgLib P L) {Wg:Nat} {c:Frame} {cs:List Frame} {qt:Nat} (hcm:c.mode=.returning) (hT:QuitsD P qt 0 (G c cs)) (w:World) (hK:WgLive L.tWg Wg w) :
  Zg P L.tWg Wg (ZR P L.tWg Wg) 23 (G ((baseD L.done).at ⟨#[.pointer (some ⟨Wg,0,none⟩),undef,undef,undef],[]⟩ [.code (body_done L)]) (c::cs)) w:=by
 lib_facts
 have hA:=@add_goes2 _ P L H Wg
 unfold Zg at hA ⊢
 have key:∀ {w w₁:World},WgLive L.tWg Wg w→RL L.tWg Wg w w₁→WgLive L.tWg Wg w₁:=fun h r=>r h
 simp only [body_done,body_add,doneFn,addFn,Option.getD_some] at hA ⊢
 u_reg key hK
 u_op key hK
 u_in key hK
 refine goes_call rfl rfl (by k_ne) rfl H.f_add (nm_add L) rfl ⟨by u_nil,?_⟩
 walk_nrmf addFn
 refine hA (qt:=qt+3) ?_ _ hK
 q_c stepG_region_end
 q_c stepG_end
 exact QuitsD.leaveD rfl rfl H.f_done rfl hcm hT
theorem done_enter {P:Program} {L:WgLink} (H:WgLib P L) {v:Value}:Frame.enter P L.done #[v] .deferred=(baseD L.done).at ⟨#[v,undef,undef,undef],[]⟩ [.code (body_done L)]:=by
 simp [Frame.enter,H.f_done,body_done,doneFn]
 rfl
end Go.PB
namespace Go.PB
open Go.Conc Go.Conc.Lib
open Go.ConcR (KK stA smA rd wr mk DC0)
section
variable {P:Program} {main:Bool} {fr:Frame} {cs:List Frame} {o:Oper} {w w':World}
theorem atOp_step (a:AtOp fr o):∃ ops i l k,fr=mkFr ⟨fr.fn,fr.kind⟩ fr.tmps fr.defers (.inRegion ops (i::l)::k)∧ops[i]?=some o∧Region.wanted o (yielded ops fr.tmps)=true∧fr.eval=evT fr.tmps:=by
 obtain ⟨hm,hr,ops,i,l,k,htd,ho,hw⟩:=a
 refine ⟨ops,i,l,k,?_,ho,hw,?_⟩
 ·cases fr;simp only at hm hr htd;subst hm;subst hr;subst htd;rfl
 ·funext q;cases q <;> rfl
theorem step_value {v:Value} {es:Array Event} (a:AtOp fr o) (ne:fr.kind≠.early) (hr:(execOp fr.eval o).runT P w #[]=(.ok (.value v) w',es)) :
  stepG P main (G fr cs) w=.go (G (fr.finish v) cs) w' (seen P fr.fn es):=by
 obtain ⟨ops,i,l,k,e,ho,hw,he⟩:=atOp_step a
 have hs:=stepG_op (P:=P) (main:=main) (b:=⟨fr.fn,fr.kind⟩) (t:=fr.tmps) (d:=fr.defers) (l:=l) (k:=k) (cs:=cs) (w:=w) ho hw
 rw [← e] at hs
 rw [hs]
 rw [he] at hr
 have hk:(fr.kind == .early)=false:=by cases hx:fr.kind <;> first | rfl | exact absurd hx ne
 have hk':((mkFr ⟨fr.fn,fr.kind⟩ fr.tmps fr.defers (.inRegion ops (i::l)::k)).kind == .early)=false:=hk
 simp only [stepG.apply,if_true,hr,hk,GStep.after,Bool.false_eq_true,if_false,Array.append_empty]
 rfl
theorem step_comm {cases:Array CommCase} {bl:Bool} {sh:CommShape} (a:AtOp fr o) (hr:(execOp fr.eval o).runT P w #[]=(.ok (.comm cases bl sh) w,#[])) :
  stepG P main (G fr cs) w=.comm (G fr cs) cases bl sh w #[]:=by
 obtain ⟨ops,i,l,k,e,ho,hw,he⟩:=atOp_step a
 have hs:=stepG_op (P:=P) (main:=main) (b:=⟨fr.fn,fr.kind⟩) (t:=fr.tmps) (d:=fr.defers) (l:=l) (k:=k) (cs:=cs) (w:=w) ho hw
 rw [← e] at hs
 rw [hs]
 rw [he] at hr
 simp only [stepG.apply,if_true,hr,GStep.after,ite_self]
 rfl
theorem step_spawn {d:Deferred} {f:Fn} {cap:Array Value} (hd:d.target=.fn f cap) (a:AtOp fr o) (hr:(execOp fr.eval o).runT P w #[]=(.ok (.spawn d) w,#[])) :
  stepG P main (G fr cs) w=.spawn (G (fr.finish undef) cs) (G (goFr P d) []) w #[]:=by
 obtain ⟨ops,i,l,k,e,ho,hw,he⟩:=atOp_step a
 have hs:=stepG_op (P:=P) (main:=main) (b:=⟨fr.fn,fr.kind⟩) (t:=fr.tmps) (d:=fr.defers) (l:=l) (k:=k) (cs:=cs) (w:=w) ho hw
 rw [← e] at hs
 rw [hs]
 rw [he] at hr
 simp only [stepG.apply,if_true,hr,GStep.after,ite_self,hd,Bool.and_false,Bool.false_and,Bool.false_eq_true,if_false]
 rfl
theorem step_block {es:Array Event} (a:AtOp fr o) (hr:(execOp fr.eval o).runT P w #[]=(.halt .blocked w',es)) :
  stepG P main (G fr cs) w=.go { G fr cs with status:=.blocked } w' #[]:=by
 obtain ⟨ops,i,l,k,e,ho,hw,he⟩:=atOp_step a
 have hs:=stepG_op (P:=P) (main:=main) (b:=⟨fr.fn,fr.kind⟩) (t:=fr.tmps) (d:=fr.defers) (l:=l) (k:=k) (cs:=cs) (w:=w) ho hw
 rw [← e] at hs
 rw [hs]
 rw [he] at hr
 simp only [stepG.apply,if_true,hr,GStep.after,ite_self]
 rfl
end
structure Runs (g:Goroutine) (fr:Frame) (cs:List Frame):Prop where
 frame:g.frame=fr
 callers:g.callers=cs
 status:g.status=.running
 dying:g.dying=none
structure Parks (g:Goroutine) (fr:Frame) (cs:List Frame) (cases:Array CommCase) (sh:CommShape):Prop where
 frame:g.frame=fr
 callers:g.callers=cs
 status:g.status=.blocked
 dying:g.dying=none
 offers:g.offers=some (cases,sh)
structure Sleeps (g:Goroutine) (fr:Frame) (cs:List Frame):Prop where
 frame:g.frame=fr
 callers:g.callers=cs
 status:g.status=.blocked
 dying:g.dying=none
 offers:g.offers=none
theorem Runs.step {P:Program} {main:Bool} {g:Goroutine} {fr:Frame} {cs:List Frame} (r:Runs g fr cs) (w:World):stepG P main g w=stepG P main (G fr cs) w :=
 stepG_same r.frame r.callers r.dying w
theorem runs_G {fr:Frame} {cs:List Frame}:Runs (G fr cs) fr cs:=⟨rfl,rfl,rfl,rfl⟩
theorem Parks.eq {g:Goroutine} {fr:Frame} {cs:List Frame} {cases:Array CommCase} {sh:CommShape} (p:Parks g fr cs cases sh):g=parked (G fr cs) cases sh:=by
 obtain ⟨h1,h2,h3,h4,h5⟩:=p
 cases g;simp only at h1 h2 h3 h4 h5;subst h1;subst h2;subst h3;subst h4;subst h5;rfl
section
variable (P:Program) (cv:Value) (L:WgLink) (Em:Frame→List Frame→Hp→MX→Prop)
abbrev TN:=Node P (tHand P cv) false (tEnd P L.done)
abbrev MN:=Node P (mHand P cv L.done L.tWg) true Em
inductive Slot:Type 1
 | act (n:TN P cv L)
 | out (k m:Nat)
variable {P cv L}
def SBel:Slot P cv L→Slot P cv L→Prop
 | .act n,.act n'=>Relation.TransGen Below n n'
 | .out _ _,.act _=>True
 | .act _,.out _ _=>False
 | .out k m,.out k' m'=>k<k'∨(k=k'∧m<m')
theorem sbel_wf:WellFounded (SBel (P:=P) (cv:=cv) (L:=L)):=by
 have ho:∀ k m,Acc (SBel (P:=P) (cv:=cv) (L:=L)) (.out k m):=by
  intro k
  induction k using Nat.strongRecOn with
  | _ k ihk =>
   intro m
   induction m using Nat.strongRecOn with
   | _ m ihm =>
    refine ⟨_,fun s hs=>?_⟩
    cases s with
    | act n=>exact hs.elim
    | out k' m' =>
     rcases hs with h | ⟨rfl,h⟩
     ·exact ihk k' h m'
     ·exact ihm m' h
 refine ⟨fun s=>?_⟩
 cases s with
 | out k m=>exact ho k m
 | act n =>
  induction n using (WellFounded.transGen (below_wf (P:=P) (B:=tHand P cv) (main:=false) (E:=tEnd P L.done))).induction with
  | _ n ih =>
   refine ⟨_,fun s hs=>?_⟩
   cases s with
   | act n'=>exact ih n' hs
   | out k m=>exact ho k m
def ZS (P:Program) (ty:TypeId) (Wg:Nat):Nat→Goroutine→World→Prop
 | 6=>ZR P ty Wg
 | 5=>ZK P ty Wg
 | 4=>Z1 P ty Wg
 | 3=>Z2 P ty Wg
 | 2=>Z3 P ty Wg
 | 1=>Z4 P ty Wg
 | _=>fun _ _=>False
theorem zs_running {P:Program} {ty:TypeId} {Wg k:Nat} {g:Goroutine} {w:World} (h:ZS P ty Wg k g w):g.status=.running:=by
 unfold ZS at h
 split at h <;> first | exact h.1 | exact h.elim
theorem zg_running {P:Program} {ty:TypeId} {Wg k m:Nat} {g:Goroutine} {w:World} (h:Zg P ty Wg (ZS P ty Wg k) m g w):g.status=.running:=by
 unfold Zg at h
 cases m with
 | zero=>exact zs_running (h w fun x=>x)
 | succ m=>exact h.elim (fun h=>zs_running (h w fun x=>x)) (fun h=>h.1)
theorem zg_step {P:Program} {ty:TypeId} {Wg k m:Nat} {g:Goroutine} {w:World} (h:Zg P ty Wg (ZS P ty Wg k) m g w) :
  ZS P ty Wg k g w∨∃ m' g',m=m'+1∧stepG P false g w=.go g' w #[]∧Zg P ty Wg (ZS P ty Wg k) m' g' w:=by
 unfold Zg at h
 cases m with
 | zero=>exact .inl (h w fun x=>x)
 | succ m =>
  rcases h with h | ⟨_,h⟩
  ·exact .inl (h w fun x=>x)
  ·right
   have:=h w fun x=>x
   revert this
   cases e:stepG P false g w <;> simp only [GStep.goes,false_imp_iff]
   rintro ⟨⟨rfl,rfl⟩,q⟩
   exact ⟨m,_,rfl,rfl,q⟩
theorem zg_rely {P:Program} {ty:TypeId} {Wg m:Nat} {S:Goroutine→World→Prop} {g:Goroutine} {w w':World} (h:Zg P ty Wg S m g w) (r:RL ty Wg w w'):Zg P ty Wg S m g w' :=
 Goes.rely (fun _ _ _ a b x=>b (a x)) h r
structure Mem (w:World) (t:Trace) (hp:Nat→Hp):Prop where
 fits:∀ i,Fits (hp i) w
 sep:∀ i j,i≠j→Sep (hp i) (hp j)
 nr:∀ said,¬ Race said t
 low:Low t w.heap.size
 norel:∀ op∈t,∀ a,op.act≠.mark (.release a)
def put (hp:Nat→Hp) (a:Nat) (h:Hp):Nat→Hp:=fun i=>if i=a then h else hp i
theorem put_self {hp:Nat→Hp} {a:Nat} {h:Hp}:put hp a h a=h:=by simp [put]
theorem put_ne {hp:Nat→Hp} {a i:Nat} {h:Hp} (hi:i≠a):put hp a h i=hp i:=by simp [put,hi]
structure Own (a:Nat) (h:Hp) (w w':World) (h':Hp) (u:Trace):Prop where
 guar:Guar h w w' h'
 g:∀ op∈u,op.g=a
 mine:∀ op∈u,∀ b,op.act.touch?=some b→Mine h w w'.heap.size b
 plain:∀ op∈u,Plain op
theorem Mem.own {w w':World} {t u:Trace} {hp:Nat→Hp} {a:Nat} {h':Hp} (m:Mem w t hp) (o:Own a (hp a) w w' h' u) (k:Kn t (Knows t a) (hp a)):Mem w' (t++u) (put hp a h') where
 fits:=fun i=>by
  by_cases hi:i=a
  ·subst hi;rw [put_self];exact o.guar.fits
  ·rw [put_ne hi];exact fits_other o.guar (m.sep a i fun e=>hi e.symm) (m.fits a) (m.fits i)
 sep:=fun i j hij=>by
  by_cases hi:i=a
  ·subst hi;rw [put_self,put_ne fun e=>hij e.symm];exact sep_other o.guar (m.sep _ _ hij) (m.fits j)
  ·by_cases hj:j=a
   ·subst hj;rw [put_self,put_ne hi];exact (sep_other o.guar (m.sep _ _ fun e=>hij e.symm) (m.fits i)).symm
   ·rw [put_ne hi,put_ne hj];exact m.sep _ _ hij
 nr:=fun said=>(kn_step (m.nr said) k m.low o.guar o.g o.mine).1
 low:=(kn_step (m.nr false) k m.low o.guar o.g o.mine).2.2
 norel:=fun op ho b=>by
  rcases Array.mem_append.1 ho with ho | ho
  ·exact m.norel op ho b
  ·intro e;rcases o.plain op ho _ e with h | ⟨f,h⟩ <;> cases h
theorem Mem.mute {w w':World} {t u:Trace} {hp:Nat→Hp} (m:Mem w t hp) (hf:∀ i,Fits (hp i) w') (hs:w.heap.size≤w'.heap.size) (hm:∀ op∈u,op.act.touch?=none) (hr:∀ op∈u,∀ a,op.act≠.mark (.release a)):Mem w' (t++u) hp :=
 ⟨hf,m.sep,fun said=>race_mute (m.nr said) hm,(low_mute m.low hm).mono hs,fun op ho b=>(Array.mem_append.1 ho).elim (fun ho=>m.norel op ho b) (fun ho=>hr op ho b)⟩
theorem counts_old {t u:Trace} {j:Nat} (hj:j<t.size):(t++u).counts j↔t.counts j:=by
 unfold Trace.counts
 rw [act?_old hj]
 have:(t++u).heard j↔t.heard j:=by
  unfold Trace.heard Trace.g?
  simp only [getElem?_append_old hj,deaf_old (Nat.le_of_lt hj)]
 rw [this]
theorem g?_lt {t:Trace} {j i:Nat} (h:t.g? j=some i):j<t.size:=by
 unfold Trace.g? at h
 obtain ⟨op,ho,_⟩:=Option.map_eq_some_iff.1 h
 exact lt_size_of_getElem? ho
theorem g?_app {t u:Trace} {j:Nat} (h:j<t.size):(t++u).g? j=t.g? j:=by unfold Trace.g?;rw [getElem?_append_old h]
theorem g?_new {t u:Trace} {i j:Nat} (hu:∀ op∈u,op.g≠i) (h:(t++u).g? j=some i):j<t.size∧t.g? j=some i:=by
 unfold Trace.g? at h
 obtain ⟨op,ho,hg⟩:=Option.map_eq_some_iff.1 h
 rcases getElem?_append_cases ho with ⟨h1,h2⟩ | ⟨_,h2⟩
 ·exact ⟨h1,by simp [Trace.g?,h2,hg]⟩
 ·exact absurd hg (hu op h2)
def AllK (t:Trace) (i:Nat) (K:Nat→Prop):Prop:=∀ j,t.g? j=some i→t.counts j→K j
theorem AllK.app {t u:Trace} {i:Nat} {K K':Nat→Prop} (h:AllK t i K) (hK:∀ j,K j→K' j) (hu:∀ op∈u,op.g≠i):AllK (t++u) i K':=fun j hj hc=>by
 obtain ⟨h1,h2⟩:=g?_new hu hj
 exact hK _ (h j h2 ((counts_old h1).1 hc))
structure Rel (t:Trace) (wg i p:Nat):Prop where
 act:t.act? p=some (.mark (.releaseMerge ⟨wg,0,none⟩))
 g:t.g? p=some i
 heard:t.heard p
theorem Rel.app {t:Trace} {wg i p:Nat} (r:Rel t wg i p) (u:Trace):Rel (t++u) wg i p:=by
 have hp:=g?_lt r.g
 refine ⟨by rw [act?_old hp];exact r.act,by rw [g?_app hp];exact r.g,?_⟩
 obtain ⟨g,h1,h2⟩:=r.heard
 exact ⟨g,by rw [g?_app hp];exact h1,by rw [deaf_old (Nat.le_of_lt hp)];exact h2⟩
def SlotKn (t:Trace) (wg i:Nat) (h:Hp):Slot P cv L→Prop
 | .act n=>Kn t (Knows t i) h∧n.h=h∧Deaf t i=0
 | .out k m=>(k=6∧Kn t (Knows t i) h∧Deaf t i=0) ∨
   (k≤5∧(∃ p,Rel t wg i p∧Kn t (fun j=>Before t j p) h∧AllK t i fun j=>Before t j p)∧(k=5→Deaf t i=0)∧(1≤k→k≤4→Deaf t i=1))
theorem SlotKn.app {t u:Trace} {wg i:Nat} {h:Hp} {s:Slot P cv L} (k:SlotKn t wg i h s) (hu:∀ op∈u,op.g≠i) (hk:∀ {K K':Nat→Prop},Kn t K h→(∀ j,K j→K' j)→Kn (t++u) K' h):SlotKn (t++u) wg i h s:=by
 cases s with
 | act n=>exact ⟨hk k.1 fun j h=>h.app u,k.2.1,by rw [Deaf_others hu];exact k.2.2⟩
 | out c m =>
  rcases k with ⟨h1,h2,h3⟩ | ⟨h1,⟨p,h2,h3,h4⟩,h5,h6⟩
  ·exact .inl ⟨h1,hk h2 fun j h=>h.app u,by rw [Deaf_others hu];exact h3⟩
  ·exact .inr ⟨h1,⟨p,h2.app u,hk h3 fun j h=>h.app u,h4.app (fun j h=>h.app u) hu⟩,by rw [Deaf_others hu];exact h5,by rw [Deaf_others hu];exact h6⟩
structure Old (t:Trace) (i:Nat) (h:Hp) (s:Slot P cv L):Prop where
 out:∃ m,s=.out 0 m
 empty:h=Hp.empty
 all:AllK t i (Knows t 0)
theorem Old.app {t u:Trace} {i:Nat} {h:Hp} {s:Slot P cv L} (o:Old t i h s) (hu:∀ op∈u,op.g≠i):Old (t++u) i h s:=⟨o.out,o.empty,o.all.app (fun j h=>h.app u) hu⟩
end
end Go.PB
namespace Go.PB
open Go.Conc Go.Conc.Lib
open Go.ConcR (KK stA smA rd wr mk DC0)
def Seat.ch {σ θ:Type} (c:Seat σ θ):Nat→Nat
 | 0=>c.says
 | 1=>c.turn
 | _=>c.fin
def NewG (W0:World):MX→Prop
 | .idle=>True
 | .game X=>W0.heap.size≤X.wg∧∀ (j:Nat) (c:Seat X.g.σ X.g.θ) (a:Nat),X.seats[j]?=some c→W0.heap.size≤c.ch a
structure Side (w w':World):Prop where
 os:w'.os=w.os
 tape:w'.tape=w.tape
 output:w'.output=w.output
 frz:∀ a,w'.frozen? a=w.frozen? a
theorem Side.refl {w:World}:Side w w:=⟨rfl,rfl,rfl,fun _=>rfl⟩
theorem side_setCell {w:World} {a:Addr} {v:Value}:Side w (w.setCell a v):=⟨rfl,rfl,rfl,fun a'=>frozen_setCell ..⟩
structure Aft (W0 w:World) (hp:Nat→Hp) (x:MX):Prop where
 after:After W0 w
 own:∀ i b o v,(hp i).own b o=some v→W0.heap.size≤b
 obj:∀ i b v,(hp i).obj b=some v→W0.heap.size≤b
 game:NewG W0 x
section
variable {W0 w w':World} {hp:Nat→Hp} {x x':MX} {t u:Trace} {a:Nat} {h':Hp}
theorem Aft.le (A:Aft W0 w hp x):W0.heap.size≤w.heap.size:=A.after.1.size
theorem Aft.own_step (A:Aft W0 w hp x) (o:Own a (hp a) w w' h' u):Aft W0 w' (put hp a h') x where
 after:=⟨⟨o.guar.os.trans A.after.1.os,o.guar.tape.trans A.after.1.tape,o.guar.output.trans A.after.1.output,Nat.le_trans A.after.1.size o.guar.size,fun i hi=>by
  rw [o.guar.block i (Nat.lt_of_lt_of_le hi A.le) (fun o=>none_of fun v e=>by have:=A.own _ _ _ _ e;omega) (none_of fun v e=>by have:=A.obj _ _ _ e;omega)]
  exact A.after.1.block i hi⟩,fun a=>(o.guar.frz a).trans (A.after.2 a)⟩
 own:=fun i b k v e=>by
  by_cases hi:i=a
  ·subst hi
   rw [put_self] at e
   refine Nat.le_of_not_lt fun hlt=>?_
   have hlt':=Nat.lt_of_lt_of_le hlt A.le
   cases eh:(hp i).own b k with
   | none=>rw [o.guar.newo _ _ hlt' eh] at e;cases e
   | some v'=>have:=A.own _ _ _ _ eh;omega
  ·rw [put_ne hi] at e;exact A.own _ _ _ _ e
 obj:=fun i b v e=>by
  by_cases hi:i=a
  ·subst hi
   rw [put_self] at e
   refine Nat.le_of_not_lt fun hlt=>?_
   have hlt':=Nat.lt_of_lt_of_le hlt A.le
   cases eh:(hp i).obj b with
   | none=>rw [o.guar.newb _ hlt' eh] at e;cases e
   | some v'=>have:=A.obj _ _ _ eh;omega
  ·rw [put_ne hi] at e;exact A.obj _ _ _ e
 game:=A.game
theorem Aft.at_block (A:Aft W0 w hp x) {c:Nat} (hc:W0.heap.size≤c) (s:Side w w') (hw:∀ b,b≠c→w'.heap[b]?=w.heap[b]?) (hs:w'.heap.size=w.heap.size) (hx:NewG W0 x'):Aft W0 w' hp x' where
 after:=⟨⟨s.os.trans A.after.1.os,s.tape.trans A.after.1.tape,s.output.trans A.after.1.output,by rw [hs];exact A.after.1.size,fun i hi=>by rw [hw i (by omega)];exact A.after.1.block i hi⟩,fun a=>(s.frz a).trans (A.after.2 a)⟩
 own:=A.own
 obj:=A.obj
 game:=hx
theorem Aft.parts' (A:Aft W0 w hp x) {hp':Nat→Hp} (h1:∀ i b o v,(hp' i).own b o=some v→∃ k,(hp k).own b o=some v) (h2:∀ i b v,(hp' i).obj b=some v→∃ k,(hp k).obj b=some v) (hx:NewG W0 x'):Aft W0 w hp' x' where
 after:=A.after
 own:=fun i b o v e=>by obtain ⟨k,e⟩:=h1 _ _ _ _ e;exact A.own _ _ _ _ e
 obj:=fun i b v e=>by obtain ⟨k,e⟩:=h2 _ _ _ e;exact A.obj _ _ _ e
 game:=hx
theorem side_chan {ch:Nat} {o:Obj} {c n m:Nat} {bf:Array Value} {cl tm:Bool} (e:w.heap[ch]?=some (.chan c bf cl n m tm)) (ho:isCells o=false) (hos:w'.os=w.os) (ht:w'.tape=w.tape) (hou:w'.output=w.output) (hw:w'.heap=w.heap.setIfInBounds ch o):Side w w' where
 os:=hos
 tape:=ht
 output:=hou
 frz:=fun a=>by
  unfold World.frozen?
  rw [hw]
  by_cases h:ch=a.block
  ·subst h
   rw [Array.getElem?_setIfInBounds_self_of_lt (Array.getElem?_eq_some_iff.1 e).1,e]
   cases o <;> simp [isCells] at ho ⊢
  ·rw [Array.getElem?_setIfInBounds_ne h]
end
end Go.PB
namespace Go.PB
open Go.Conc Go.Conc.Lib
open Go.ConcR (KK stA smA rd wr mk DC0)
variable {W0:World} {P:Program} {cv:Value} {L:WgLink} {Em:Frame→List Frame→Hp→MX→Prop}
def SeatSt.isShut {σ θ:Type}:SeatSt σ θ→Bool
 | .shut _=>true
 | _=>false
def SeatSt.isRun {σ θ:Type}:SeatSt σ θ→Bool
 | .run _ _=>true
 | _=>false
inductive PhOk {g:Game} (left:Nat):SeatSt g.σ g.θ→Ph g.σ g.θ→Prop
 | run {s q n} (h:left≤n):PhOk left (.run s q) (.busy s q n)
 | said {q n} (h:left≤n) (hp:(g.plan q).isSome=true):PhOk left (.said q) (.said q n)
 | over {q} (hp:g.plan q=none):PhOk left (.said q) (.over q)
 | shutS {q n} (hp:(g.plan q).isSome=true):PhOk left (.shut q) (.said q n)
 | shutO {q}:PhOk left (.shut q) (.over q)
 | shutC {q}:PhOk left (.shut q) (.cut q)
def SlotG (w:World) (wg d:Nat) (g:Goroutine):Slot P cv L→Prop
 | .act n=>Runs g n.fr n.cs∨∃ cases sh,Parks g n.fr n.cs cases sh∧∃ fr cs h x o O at_ rr a k,n=⟨fr,cs,h,x,.comm o cases true sh O at_ rr a k⟩
 | .out 0 m=>QuitsD P m d g
 | .out (k+1) m=>Zg P L.tWg wg (ZS P L.tWg wg (k+1)) m g w
def SeatAt (X:GX) (c:Seat X.g.σ X.g.θ) (h:Hp):Slot P cv L→Prop
 | .act n=>∃ ph,n.x=⟨X.g,c.says,c.turn,c.fin,X.wg,ph⟩∧PhOk X.left c.st ph
 | .out k m=>k≤6∧∃ q,((c.st=.said q∧X.g.plan q=none)∨c.st=.shut q)∧Star [X.g.Fin q] h
def Slot.stage:Slot P cv L→Nat
 | .act _=>7
 | .out k _=>k
inductive WgPh (L:WgLink) (X:GX) (st:List Nat) (w:World):Prop
 | quiet (v wt:Nat) (at_:WgAt L.tWg X.wg w (v*KK+wt) 0) (hv:v+(X.seats.length+X.nf)=(st.filter fun k=>decide (4≤k)).length+X.ad) (late:∀ k∈st,k=0∨4≤k)
   (hw:wt=match X.wt with | .parked=>1 | _=>0) (park:X.wt=.parked→0<v)
   (b:match X.wt with | .wait b=>v≤b | .seen v0=>v≤v0 | .woken=>v=0 | .zero=>v=0 | _=>True)
 | late (p:X.wt=.parked) (i k:Nat) (hi:st[i]?=some k) (hk:k=3∨k=2) (at_:WgAt L.tWg X.wg w 1 0) (oth:∀ j k,st[j]?=some k→j≠i→k=0)
 | late1 (p:X.wt=.parked) (i:Nat) (hi:st[i]?=some 1) (at_:WgAt L.tWg X.wg w 0 0) (oth:∀ j k,st[j]?=some k→j≠i→k=0)
 | free (p:X.wt=.parked) (at_:WgAt L.tWg X.wg w 0 1) (oth:∀ k∈st,k=0)
abbrev St (X:GX):=Seat X.g.σ X.g.θ
structure GameAt (X:GX) (gs:Array Goroutine) (w:World) (t:Trace) (sl:List (Slot P cv L)) (hp:Nat→Hp) (nb:Nat):Prop where
 len:sl.length=nb+(X.seats.length+X.nf)
 old:∀ (i:Nat) (s:Slot P cv L),i<nb→sl[i]?=some s→Old t (i+1) (hp (i+1)) s
 seat:∀ (j:Nat) (c:St X),X.seats[j]?=some c→∃ s,sl[nb+j]?=some s∧SeatAt X c (hp (nb+j+1)) s
 know:∀ (j:Nat) (s:Slot P cv L),sl[nb+j]?=some s→SlotKn t X.wg (nb+j+1) (hp (nb+j+1)) s
 chan:∀ (j:Nat) (c:St X),X.seats[j]?=some c→∀ a,a<3→∃ n,w.heap[c.ch a]?=some (Obj.chan 0 #[] (decide (a=2)&&c.st.isShut) n n false)
 dist:∀ (j j':Nat) (c c':St X) (a a':Nat),X.seats[j]?=some c→X.seats[j']?=some c'→a<3→a'<3→c.ch a=c'.ch a'→j=j'∧a=a'
 noch:∀ (i j:Nat) (c:St X) (a:Nat),X.seats[j]?=some c→a<3→(hp i).obj (c.ch a)=none
 nowg:∀ i o,(hp i).own X.wg o=none∧(hp i).ro X.wg o=none
 wg:WgPh L X (sl.map Slot.stage) w
 wgt:∀ (i:Nat) (a:Touch) (o:Nat),o<2→touchAt t i=some a→a.loc=.cell ⟨X.wg,o,none⟩ →
  (a.kind≠.plain∧(a.kind=.said→t.g? i=some 0))∨(Knows t 0 i∧∀ (j:Nat),j<X.seats.length+X.nf→Knows t (nb+j+1) i)
 deaf:Deaf t 0=if X.deaf then 1 else 0
 tok0:X.tok=none→∃ (j:Nat) (c:St X),X.seats[j]?=some c∧c.st.isRun=true∧∀ (j':Nat) (c':St X),X.seats[j']?=some c'→j'≠j→c'.st.isRun=false
 tok1:X.tok.isSome=true→∀ (j:Nat) (c:St X),X.seats[j]?=some c→c.st.isRun=false
 adp:X.wt=.play→X.ad=X.seats.length+X.nf∨(X.ad=X.seats.length+X.nf+1∧X.tok.isSome=true)
 ads:X.wt≠.play→X.ad=X.seats.length+X.nf∧∀ (j:Nat) (c:St X),X.seats[j]?=some c→c.st.isShut=true
 adl:X.ad≤1000
 live:∀ (j:Nat) (c:St X) (g:Goroutine),X.seats[j]?=some c→gs[nb+j+1]?=some g→c.st.isShut=true→g.status≠.blocked
 park:∀ (g0:Goroutine) (cases:Array CommCase) (sh:CommShape),gs[0]?=some g0→g0.status=.blocked→g0.offers=some (cases,sh)→∃ (j:Nat) (c:St X),X.seats[j]?=some c∧X.wt=.play ∧
   ((∃ z,cases=#[rcase c.says z])∨(∃ v z,cases=#[scase c.turn v z]))∧∀ (g:Goroutine),gs[nb+j+1]?=some g→g.status≠.blocked
 sleep:∀ (g0:Goroutine),gs[0]?=some g0→g0.status=.blocked→g0.offers=none→X.wt=.parked∧¬ WgAt L.tWg X.wg w 0 1
 cht:∀ (j:Nat) (c:St X) (a i:Nat) (b:Touch),X.seats[j]?=some c→a<3→touchAt t i=some b→b.loc=.obj (c.ch a)→Knows t 0 i
def FreeSt {g:Game} (wg m:Nat) (q:g.θ) (h:Hp):Slot P cv L→Prop
 | .act n=>∃ n',n.x=⟨g,0,0,0,wg,.free q n'⟩∧m≤n'
 | .out _ _=>g.plan q=none∧Star [g.Fin q] h
structure Pool (W0:World) (g:Game) (wg nf:Nat) (d:FreeD g) (w:World) (t:Trace) (sl:List (Slot P cv L)) (hp:Nat→Hp) (nb:Nat) (pl:Hp) (s:g.σ) (qs:List g.θ):Prop where
 len:sl.length=nb+nf
 u:g.U s pl
 fits:Fits pl w
 obj:∀ b ob,pl.obj b=some ob→W0.heap.size≤b∧∀ i a,touchAt t i=some a→a.loc=.obj b→Knows t 0 i
 sep:∀ i,Sep (hp i) pl
 nowg:∀ o,pl.own wg o=none∧pl.ro wg o=none
 new:∀ b o v,pl.own b o=some v→W0.heap.size≤b
 kno:∀ b o v,pl.own b o=some v→∀ i a,touchAt t i=some a→a.loc=.cell ⟨b,o,none⟩→(a.kind=.atomic∧t.counts i∧∃ j,j<nf∧t.g? i=some (nb+j+1))∨(Knows t 0 i∧∀ j,j<nf→Knows t (nb+j+1) i)
 knr:∀ b o v,pl.ro b o=some v→∀ i a,touchAt t i=some a→a.loc=.cell ⟨b,o,none⟩→a.write=true→Knows t 0 i∧∀ j,j<nf→Knows t (nb+j+1) i
 inv:d.I s qs
 pot:d.φ s qs≤d.N
 qlen:qs.length=d.q0.length
 slot:∀ (j:Nat) (sx:Slot P cv L),sl[nb+j]?=some sx→∃ q,qs[j]?=some q∧FreeSt wg (d.φ s qs) q (hp (nb+j+1)) sx
 rest:∀ j,nf≤j→qs[j]?=d.q0[j]?
def PoolOk (W0:World) (x:MX) (w:World) (t:Trace) (sl:List (Slot P cv L)) (hp:Nat→Hp):Prop:=match x with
 | .idle=>True
 | .game X=>(X.free=none→X.nf=0)∧∀ d,X.free=some d→X.seats=[]∧X.tok.isSome=true∧∃ nb pl s qs,Pool W0 X.g X.wg X.nf d w t sl hp nb pl s qs
theorem touchAt_lt {t:Trace} {i:Nat} {a:Touch} (h:touchAt t i=some a):i<t.size:=by
 obtain ⟨op,ho,_⟩:=touch_of h
 exact lt_size_of_getElem? ho
theorem Pool.step {g:Game} {wg nf:Nat} {d:FreeD g} {w w':World} {t u:Trace} {sl sl':List (Slot P cv L)} {hp hp':Nat→Hp} {nb:Nat} {pl:Hp} {s:g.σ} {qs:List g.θ} (p:Pool W0 g wg nf d w t sl hp nb pl s qs)
  (hf:Fits pl w') (hs:∀ i,Sep (hp' i) pl) (hu:∀ op∈u,∀ a,op.act.touch?=some a→(∀ b o,a.loc=.cell ⟨b,o,none⟩→pl.own b o=none∧(a.write=true→pl.ro b o=none))∧∀ b,a.loc=.obj b→pl.obj b=none) (hl:sl'.length=sl.length)
  (hsl:∀ (m:Nat) (q:g.θ) (i:Nat) (sx':Slot P cv L),sl'[i]?=some sx'→∃ sx,sl[i]?=some sx∧(FreeSt wg m q (hp (i+1)) sx→FreeSt wg m q (hp' (i+1)) sx')):Pool W0 g wg nf d w' (t++u) sl' hp' nb pl s qs where
 len:=by rw [hl];exact p.len
 u:=p.u
 fits:=hf
 obj:=fun b ob e=>⟨(p.obj b ob e).1,fun i a ha hl=>by
  rcases touch_split ha with ha | ⟨op,ho,_,h2⟩
  ·exact ((p.obj b ob e).2 i a ha hl).app u
  ·have:=(hu op ho a h2).2 b hl
   rw [e] at this;cases this⟩
 sep:=hs
 nowg:=p.nowg
 new:=p.new
 kno:=fun b o v e i a ha hl=>by
  rcases touch_split ha with ha | ⟨op,ho,_,h2⟩
  ·rcases p.kno b o v e i a ha hl with ⟨h1,h2,j,h3,h4⟩ | ⟨h1,h2⟩
   ·exact .inl ⟨h1,(counts_old (touchAt_lt ha)).2 h2,j,h3,by rw [g?_app (touchAt_lt ha)];exact h4⟩
   ·exact .inr ⟨h1.app u,fun j hj=>(h2 j hj).app u⟩
  ·have:=((hu op ho a h2).1 b o hl).1
   rw [e] at this;cases this
 knr:=fun b o v e i a ha hl hw=>by
  rcases touch_split ha with ha | ⟨op,ho,_,h2⟩
  ·obtain ⟨h1,h2⟩:=p.knr b o v e i a ha hl hw
   exact ⟨h1.app u,fun j hj=>(h2 j hj).app u⟩
  ·have:=((hu op ho a h2).1 b o hl).2 hw
   rw [e] at this;cases this
 inv:=p.inv
 pot:=p.pot
 qlen:=p.qlen
 slot:=fun j sx' hj=>by
  obtain ⟨q0,_⟩:∃ q,qs[j]?=some q:=by
   obtain ⟨sx,h1,_⟩:∃ sx,sl[nb+j]?=some sx∧True:=⟨_,List.getElem?_eq_getElem (by rw [← hl];exact (List.getElem?_eq_some_iff.1 hj).1),trivial⟩
   obtain ⟨q,h2,_⟩:=p.slot j sx h1
   exact ⟨q,h2⟩
  obtain ⟨sx,h1,h2⟩:=hsl (d.φ s qs) q0 (nb+j) sx' hj
  obtain ⟨q,h3,h4⟩:=p.slot j sx h1
  obtain ⟨sx2,h5,h6⟩:=hsl (d.φ s qs) q (nb+j) sx' hj
  rw [h1] at h5;cases h5
  exact ⟨q,h3,h6 h4⟩
 rest:=p.rest
theorem PoolOk.step {x:MX} {w w':World} {t u:Trace} {sl sl':List (Slot P cv L)} {hp hp':Nat→Hp} (p:PoolOk W0 x w t sl hp)
  (H:∀ pl:Hp,(∀ X,x=.game X→∀ o,pl.own X.wg o=none∧pl.ro X.wg o=none)→(∀ i,Sep (hp i) pl)→Fits pl w→Fits pl w'∧(∀ i,Sep (hp' i) pl) ∧
   ∀ op∈u,∀ a,op.act.touch?=some a→(∀ b o,a.loc=.cell ⟨b,o,none⟩→pl.own b o=none∧(a.write=true→pl.ro b o=none))∧∀ b,a.loc=.obj b→pl.obj b=none) (hl:sl'.length=sl.length)
  (hsl:∀ (g:Game) (wg m:Nat) (q:g.θ) (i:Nat) (sx':Slot P cv L),sl'[i]?=some sx'→∃ sx,sl[i]?=some sx∧(FreeSt wg m q (hp (i+1)) sx→FreeSt wg m q (hp' (i+1)) sx')):PoolOk W0 x w' (t++u) sl' hp':=by
 cases x with
 | idle=>trivial
 | game X =>
  refine ⟨p.1,fun d hd=>?_⟩
  obtain ⟨h1,h2,nb,pl,s,qs,h3⟩:=p.2 d hd
  obtain ⟨e1,e2,e3⟩:=H pl (fun X' e o=>by cases e;exact h3.nowg o) h3.sep h3.fits
  exact ⟨h1,h2,nb,pl,s,qs,h3.step e1 e2 e3 hl fun m q=>hsl X.g X.wg m q⟩
theorem PoolOk.same {x:MX} {w:World} {t:Trace} {sl:List (Slot P cv L)} {hp hp':Nat→Hp} (p:PoolOk W0 x w t sl hp) (hs:∀ i,Frz (hp i) (hp' i)) (ho:∀ i,i≠0→hp' i=hp i):PoolOk W0 x w t sl hp':=by
 have:=p.step (w':=w) (u:=#[]) (sl':=sl) (hp':=hp') (fun pl _ h2 h3=>⟨h3,fun i=>(hs i).sep (h2 i),fun op ho=>by simp at ho⟩) rfl fun g wg m q i sx hi=>⟨sx,hi,fun h=>by rw [ho _ (by omega)];exact h⟩
 rwa [Array.append_empty] at this
structure IdleAt (t:Trace) (sl:List (Slot P cv L)) (hp:Nat→Hp) (gs:Array Goroutine):Prop where
 old:∀ (i:Nat) (s:Slot P cv L),sl[i]?=some s→Old t (i+1) (hp (i+1)) s
 deaf:Deaf t 0=0
 runs:∀ (g0:Goroutine),gs[0]?=some g0→g0.status≠.blocked
def MainG (g:Goroutine) (n:MN P cv L Em):Prop :=
 Runs g n.fr n.cs∨(∃ cases sh,Parks g n.fr n.cs cases sh∧∃ fr cs h x o O at_ rr a k,n=⟨fr,cs,h,x,.comm o cases true sh O at_ rr a k⟩) ∨
  (Sleeps g n.fr n.cs∧∃ fr cs h x o O at_ ne a k,n=⟨fr,cs,h,x,.act o O at_ ne a k⟩)
structure Cfg (W0:World) (gs:Array Goroutine) (w:World) (t:Trace) (M:MN P cv L Em) (sl:List (Slot P cv L)) (hp:Nat→Hp):Prop where
 size:gs.size=sl.length+1
 main:∃ g,gs[0]?=some g∧MainG g M
 thr:∀ i s,sl[i]?=some s→∃ g,gs[i+1]?=some g∧SlotG w (match M.x with | .game X=>X.wg | .idle=>0) (Deaf t (i+1)) g s
 mem:Mem w t hp
 aft:Aft W0 w hp M.x
 hp0:hp 0=M.h
 hpn:∀ i,sl.length<i→hp i=Hp.empty
 tg:∀ (i:Nat) (op:MemOp),t[i]?=some op→op.g≤sl.length
 kn0:Kn t (Knows t 0) (hp 0)
 game:match M.x with
  | .idle=>IdleAt t sl hp gs
  | .game X=>∃ nb,GameAt X gs w t sl hp nb
 pool:PoolOk W0 M.x w t sl hp
theorem Cfg.turns {gs:Array Goroutine} {w:World} {t:Trace} {M:MN P cv L Em} {sl:List (Slot P cv L)} {hp:Nat→Hp} {X:GX} {j:Nat} {cx:St X} (c:Cfg W0 gs w t M sl hp) (hX:M.x=.game X) (hj:X.seats[j]?=some cx):X.free=none∧X.nf=0:=by
 have hp:=c.pool
 rw [hX] at hp
 cases hf:X.free with
 | none=>exact ⟨rfl,hp.1 hf⟩
 | some d=>rw [(hp.2 d hf).1] at hj;simp at hj
end Go.PB
namespace Go.PB
open Go.Conc Go.Conc.Lib
open Go.ConcR (KK stA smA rd wr mk DC0)
variable {W0:World} {P:Program} {cv:Value} {L:WgLink} {Em:Frame→List Frame→Hp→MX→Prop}
theorem woken_cases (g g':Goroutine) (w':World) (o:Goroutine):woken P g g' w' o=o∨(woken P g g' w' o={ o with status:=.running }∧(o.status=.blocked∨o.status=.waiting)):=by
 unfold woken
 split
 ·unfold Goroutine.again
  split
  ·rename_i h1 h2
   simp only
   split
   ·exact .inr ⟨rfl,.inl h1⟩
   ·exact .inl rfl
  ·rename_i h1 h2;exact .inr ⟨rfl,.inl h1⟩
  ·rename_i h1;exact .inr ⟨rfl,.inr h1⟩
  ·exact .inl rfl
 ·exact .inl rfl
theorem woken_blocked {g g':Goroutine} {w':World} {o:Goroutine} (h:(woken P g g' w' o).status=.blocked):woken P g g' w' o=o:=by
 rcases woken_cases (P:=P) g g' w' o with e | ⟨e,_⟩
 ·exact e
 ·rw [e] at h;cases h
theorem woken_run {g g':Goroutine} {w':World} {o:Goroutine} (h:o.status=.running):woken P g g' w' o=o:=by
 rcases woken_cases (P:=P) g g' w' o with e | ⟨e,h' | h'⟩
 ·exact e
 ·rw [h] at h';cases h'
 ·rw [h] at h';cases h'
theorem woken_fin {g g':Goroutine} {w':World} {o:Goroutine} (h:o.status=.running∨o.status=.finished):woken P g g' w' o=o:=by
 rcases woken_cases (P:=P) g g' w' o with e | ⟨e,h' | h'⟩
 ·exact e
 ·rcases h with h | h <;> (rw [h] at h';cases h')
 ·rcases h with h | h <;> (rw [h] at h';cases h')
theorem MainG.woken {w':World} {g g' o:Goroutine} {n:MN P cv L Em} (h:MainG o n):MainG (woken P g g' w' o) n:=by
 rcases woken_cases (P:=P) g g' w' o with e | ⟨e,hb⟩
 ·rw [e];exact h
 ·rw [e]
  rcases h with h | ⟨_,_,h,_⟩ | ⟨h,_⟩
  ·exact .inl ⟨h.frame,h.callers,rfl,h.dying⟩
  ·exact .inl ⟨h.frame,h.callers,rfl,h.dying⟩
  ·exact .inl ⟨h.frame,h.callers,rfl,h.dying⟩
structure Gs (P:Program) (a:Nat) (gs gs':Array Goroutine) (g':Goroutine):Prop where
 size:gs'.size=gs.size
 self:gs'[a]?=some g'
 other:∀ (i:Nat) (g:Goroutine),i≠a→gs[i]?=some g→∃ x x' w,gs'[i]?=some (woken P x x' w g)
 back:∀ (i:Nat) (g:Goroutine),i≠a→gs'[i]?=some g→g.status=.blocked→gs[i]?=some g
theorem gs_go {a:Nat} {gs:Array Goroutine} {g g':Goroutine} {w':World} (h:gs[a]?=some g):Gs P a gs ((gs.map (woken P g g' w')).setIfInBounds a g') g':=by
 have hlt:=(Array.getElem?_eq_some_iff.1 h).1
 refine ⟨by simp,by simp [hlt],fun i o hi ho=>⟨g,g',w',?_⟩,fun i o hi ho hb=>?_⟩
 ·rw [Array.getElem?_setIfInBounds_ne fun e=>hi e.symm,Array.getElem?_map,ho];rfl
 ·rw [Array.getElem?_setIfInBounds_ne fun e=>hi e.symm,Array.getElem?_map] at ho
  obtain ⟨o',h1,h2⟩:=Option.map_eq_some_iff.1 ho
  subst h2
  rw [woken_blocked hb];exact h1
theorem own_chan {w w':World} {h h':Hp} {b:Nat} {ob:Obj} (g:Guar h w w' h') (f:Fits h w) (hn:h.obj b=none) (hc:isCells ob=false) (e:w.heap[b]?=some ob):w'.heap[b]?=some ob:=by
 rw [g.block b (Array.getElem?_eq_some_iff.1 e).1 (fun o=>none_of fun v hv=>?_) hn]
 ·exact e
 ·have h1:=f.own _ _ _ hv
  unfold World.cell? at h1
  simp only [e] at h1
  cases ob <;> simp [isCells] at h1 hc
theorem own_wg {w w':World} {h h':Hp} {ty:TypeId} {wg:Nat} {st sm:Int} (g:Guar h w w' h') (f:Fits h w) (hn:∀ o,h.own wg o=none∧h.ro wg o=none) (e:WgAt ty wg w st sm):WgAt ty wg w' st sm:=by
 refine e.of_heap ?_
 obtain ⟨fz,e,_⟩:=e
 rw [g.block wg (Array.getElem?_eq_some_iff.1 e).1 (fun o=>(hn o).1) (none_of fun v hv=>?_)]
 ·have h1:=f.obj _ _ hv
  rw [e] at h1;cases h1
  have:=f.objn _ _ hv
  simp [isCells] at this
theorem WgPh.at {X:GX} {st:List Nat} {w w':World} (p:WgPh L X st w) (h:∀ a b,WgAt L.tWg X.wg w a b→WgAt L.tWg X.wg w' a b):WgPh L X st w':=by
 cases p with
 | quiet v wt a hv late hw park b=>exact .quiet v wt (h _ _ a) hv late hw park b
 | late p i k hi hk a oth=>exact .late p i k hi hk (h _ _ a) oth
 | late1 p i hi a oth=>exact .late1 p i hi (h _ _ a) oth
 | free p a oth=>exact .free p (h _ _ a) oth
theorem WgPh.ex {X:GX} {st:List Nat} {w:World} (p:WgPh L X st w):∃ a b,WgAt L.tWg X.wg w a b:=by
 cases p with
 | quiet v wt a=>exact ⟨_,_,a⟩
 | late p i k hi hk a=>exact ⟨_,_,a⟩
 | late1 p i hi a=>exact ⟨_,_,a⟩
 | free p a=>exact ⟨_,_,a⟩
theorem wgAt_lt {ty:TypeId} {wg:Nat} {w:World} {a b:Int} (h:WgAt ty wg w a b):wg<w.heap.size:=by obtain ⟨_,h,_⟩:=h;exact (Array.getElem?_eq_some_iff.1 h).1
structure Sl (a:Nat) (sl sl':List (Slot P cv L)) (h':Hp):Prop where
 len:sl'.length=sl.length
 other:∀ j,j+1≠a→sl'[j]?=sl[j]?
 self:∀ j,j+1=a→∃ n n':TN P cv L,sl[j]?=some (.act n)∧sl'[j]?=some (.act n')∧n'.x=n.x∧n'.h=h'
theorem Sl.stages {a:Nat} {sl sl':List (Slot P cv L)} {h':Hp} (s:Sl a sl sl' h'):sl'.map Slot.stage=sl.map Slot.stage:=by
 apply List.ext_getElem?
 intro j
 simp only [List.getElem?_map]
 by_cases hj:j+1=a
 ·obtain ⟨n,n',h1,h2,_⟩:=s.self j hj
  rw [h1,h2];rfl
 ·rw [s.other j hj]
theorem GameAt.own {X:GX} {gs gs':Array Goroutine} {w w':World} {t u:Trace} {sl sl':List (Slot P cv L)} {hp:Nat→Hp} {nb a:Nat} {h':Hp} {g':Goroutine}
  (G:GameAt X gs w t sl hp nb) (m:Mem w t hp) (o:Own a (hp a) w w' h' u) (k:Kn t (Knows t a) (hp a)) (q:Gs P a gs gs' g') (s:Sl a sl sl' h') (hr:g'.status≠.blocked):GameAt X gs' w' (t++u) sl' (put hp a h') nb:=by
 have hwg:=G.wg.ex
 obtain ⟨wa,wb,hwa⟩:=hwg
 have hnew:∀ i a' o',touchAt (t++u) i=some a'→a'.loc=.cell ⟨X.wg,o',none⟩→touchAt t i=some a':=fun i a' o' ha hl=>by
  rcases touch_split ha with ha | ⟨op,ho,_,hb⟩
  ·exact ha
  ·exfalso
   rcases o.mine op ho a' hb with ⟨bl,o2,h1,_,h3⟩ | ⟨r,h1,_⟩
   ·rw [h1] at hl;cases hl
    have:=G.nowg a o'
    rcases h3 with h3 | h3 | ⟨_,h3⟩
    ·have:=wgAt_lt hwa;omega
    ·rw [this.1] at h3;cases h3
    ·rw [this.2] at h3;cases h3
   ·rw [h1] at hl;cases hl
 have hna:∀ i,i≠a→∀ op∈u,op.g≠i:=fun i hi op ho e=>hi (by rw [← e,o.g op ho])
 refine ⟨by rw [s.len];exact G.len,fun i c hi hc=>?_,fun j c hc=>?_,fun j c hc=>?_,fun j c hc b hb=>?_,G.dist,fun i j c b hc hb=>?_,fun i b=>?_,?_,fun i b o' ho2 hb hl=>?_,?_,G.tok0,G.tok1,G.adp,G.ads,G.adl,fun j c g hc hg hs hb=>?_,fun g0 cases sh hg hb ho=>?_,fun g0 hg hb ho=>?_,fun j c b i x hc hb hx hl=>?_⟩
 ·by_cases ha:i+1=a
  ·obtain ⟨n,n',h1,_⟩:=s.self i ha
   obtain ⟨m',e⟩:=(G.old i _ hi h1).out
   cases e
  ·rw [s.other i ha] at hc
   rw [put_ne ha]
   exact (G.old i c hi hc).app (hna _ ha)
 ·obtain ⟨sx,h1,h2⟩:=G.seat j c hc
  by_cases ha:nb+j+1=a
  ·obtain ⟨n,n',h3,h4,h5,h6⟩:=s.self _ ha
   rw [h1] at h3;cases h3
   exact ⟨_,h4,by
    obtain ⟨ph,e1,e2⟩:=h2
    exact ⟨ph,h5.trans e1,e2⟩⟩
  ·exact ⟨sx,by rw [s.other _ ha];exact h1,by rw [put_ne ha];exact h2⟩
 ·by_cases ha:nb+j+1=a
  ·obtain ⟨n,n',h3,h4,h5,h6⟩:=s.self _ ha
   rw [h4] at hc;cases hc
   have hk:=G.know j _ h3
   subst ha
   rw [put_self]
   exact ⟨(kn_step (m.nr false) k m.low o.guar o.g o.mine).2.1,h6,by rw [Deaf_plain o.plain];exact hk.2.2⟩
  ·rw [s.other _ ha] at hc
   rw [put_ne ha]
   exact (G.know j c hc).app (hna _ ha) fun kk hK=>kn_other kk (fun j hj=>hK j hj) (m.sep a _ fun e=>ha e.symm) (m.fits _) o.mine
 ·obtain ⟨n,e⟩:=G.chan j c hc b hb
  exact ⟨n,own_chan o.guar (m.fits a) (G.noch a j c b hc hb) rfl e⟩
 ·by_cases ha:i=a
  ·subst ha
   obtain ⟨n,e⟩:=G.chan j c hc b hb
   rw [put_self]
   exact o.guar.newb _ (Array.getElem?_eq_some_iff.1 e).1 (G.noch i j c b hc hb)
  ·rw [put_ne ha];exact G.noch i j c b hc hb
 ·by_cases ha:i=a
  ·subst ha
   rw [put_self]
   exact ⟨o.guar.newo _ _ (wgAt_lt hwa) (G.nowg i b).1,o.guar.newr _ _ (wgAt_lt hwa) (G.nowg i b).1 (G.nowg i b).2⟩
  ·rw [put_ne ha];exact G.nowg i b
 ·rw [s.stages]
  exact G.wg.at fun x y hxy=>own_wg o.guar (m.fits a) (G.nowg a) hxy
 ·have hb':=hnew i b o' hb hl
  rcases G.wgt i b o' ho2 hb' hl with this | ⟨k0,k1⟩
  ·refine .inl ⟨this.1,fun hs=>?_⟩
   have h1:=this.2 hs
   rw [g?_app (g?_lt h1)];exact h1
  ·exact .inr ⟨k0.app u,fun j hj=>(k1 j hj).app u⟩
 ·rw [Deaf_plain o.plain];exact G.deaf
 ·by_cases ha:nb+j+1=a
  ·subst ha;rw [q.self] at hg;cases hg;exact hr hb
  ·exact G.live j c g hc (q.back _ _ ha hg hb) hs hb
 ·by_cases ha:0=a
  ·subst ha;rw [q.self] at hg;cases hg;exact absurd hb hr
  ·obtain ⟨j,c,h1,h2,h3,h4⟩:=G.park g0 cases sh (q.back _ _ ha hg hb) hb ho
   refine ⟨j,c,h1,h2,h3,fun g hg2 hb2=>?_⟩
   by_cases ha2:nb+j+1=a
   ·subst ha2;rw [q.self] at hg2;cases hg2;exact hr hb2
   ·exact h4 g (q.back _ _ ha2 hg2 hb2) hb2
 ·by_cases ha:0=a
  ·subst ha;rw [q.self] at hg;cases hg;exact absurd hb hr
  ·have:=G.sleep g0 (q.back _ _ ha hg hb) hb ho
   refine ⟨this.1,fun hx=>this.2 ?_⟩
   have hz:=own_wg o.guar (m.fits a) (G.nowg a) hwa
   have:=WgAt.unique hz hx
   rw [this.1,this.2] at hwa;exact hwa
 ·rcases touch_split hx with hx | ⟨op,ho,_,h2⟩
  ·exact (G.cht j c b i x hc hb hx hl).app u
  ·exfalso
   obtain ⟨n,e⟩:=G.chan j c hc b hb
   rcases o.mine op ho x h2 with ⟨bl,o2,h1,_⟩ | ⟨r,h1,_,h3⟩
   ·rw [h1] at hl;cases hl
   ·rw [h1] at hl;cases hl
    rcases h3 with h3 | h3
    ·have:=(Array.getElem?_eq_some_iff.1 e).1;omega
    ·rw [G.noch a j c b hc hb] at h3;cases h3
end Go.PB
namespace Go.PB
open Go.Conc Go.Conc.Lib
open Go.ConcR (KK stA smA rd wr mk DC0)
variable {W0:World} {P:Program} {cv:Value} {L:WgLink} {Em:Frame→List Frame→Hp→MX→Prop}
theorem own_of_events {a:Nat} {h h':Hp} {w w':World} {fn:FuncId} {pos:String} {es:Array Event} (g:Guar h w w' h') (he:∀ e∈es,EvOk Still h w w'.heap.size e):Own a h w w' h' (MemOp.ofEvents a fn pos es) where
 guar:=g
 g:=fun op ho=>by obtain ⟨e,_,rfl⟩:=ofEvents_mem ho;rfl
 mine:=fun op ho b hb=>by obtain ⟨e,h1,rfl⟩:=ofEvents_mem ho;exact (mine_of_event (fun _ x=>x) (he e h1)).2 b hb
 plain:=fun op ho m hm=>by obtain ⟨e,h1,rfl⟩:=ofEvents_mem ho;exact (mine_of_event (fun _ x=>x) (he e h1)).1 m hm
theorem slot_woken {w w' w2:World} {wg d d':Nat} {g g' o:Goroutine} {s:Slot P cv L} (hd:d'=d) (r:RL L.tWg wg w w') (hs:SlotG w wg d o s):SlotG w' wg d' (woken P g g' w2 o) s:=by
 subst hd
 cases s with
 | act n =>
  rcases hs with h | ⟨cases,sh,h,hx⟩
  ·exact .inl (by rw [woken_run h.status];exact h)
  ·rcases woken_cases (P:=P) g g' w2 o with e | ⟨e,_⟩
   ·exact .inr ⟨cases,sh,by rw [e];exact h,hx⟩
   ·exact .inl (by rw [e];exact ⟨h.frame,h.callers,rfl,h.dying⟩)
 | out k m =>
  cases k with
  | zero=>show QuitsD P m d' _;rw [woken_fin (QuitsD.status hs)];exact hs
  | succ k=>show Zg P L.tWg wg _ m _ w';rw [woken_run (zg_running hs)];exact zg_rely hs r
theorem old_woken {w w' w2:World} {wg d d':Nat} {g g' o:Goroutine} {t:Trace} {i:Nat} {h:Hp} {s:Slot P cv L} (ol:Old t i h s) (hd:d'=d) (hs:SlotG w wg d o s):SlotG w' wg d' (woken P g g' w2 o) s:=by
 obtain ⟨m,rfl⟩:=ol.out
 subst hd
 show QuitsD P m d' _
 rw [woken_fin (QuitsD.status hs)];exact hs
theorem Cfg.own {gs gs':Array Goroutine} {w w':World} {t u:Trace} {M M':MN P cv L Em} {sl sl':List (Slot P cv L)} {hp:Nat→Hp} {a:Nat} {h':Hp} {fr':Frame} {cs':List Frame}
  (c:Cfg W0 gs w t M sl hp) (ha:a≤sl.length) (o:Own a (hp a) w w' h' u) (kn:Kn t (Knows t a) (hp a)) (q:Gs P a gs gs' (G fr' cs')) (s:Sl a sl sl' h') (hx:M'.x=M.x) (hh:M'.h=put hp a h' 0)
  (hm:a≠0→M'=M) (hm0:a=0→M'.fr=fr'∧M'.cs=cs') (hs:∀ j n',j+1=a→sl'[j]?=some (.act n')→n'.fr=fr'∧n'.cs=cs'):Cfg W0 gs' w' (t++u) M' sl' (put hp a h') where
 size:=by rw [q.size,s.len];exact c.size
 main:=by
  by_cases h0:a=0
  ·subst h0
   obtain ⟨e1,e2⟩:=hm0 rfl
   exact ⟨_,q.self,.inl (by rw [e1,e2];exact runs_G)⟩
  ·rw [hm h0]
   obtain ⟨g,h1,h2⟩:=c.main
   obtain ⟨x,x',w2,h3⟩:=q.other 0 g (fun e=>h0 e.symm) h1
   exact ⟨_,h3,h2.woken⟩
 thr:=fun i sx hi=>by
  by_cases hia:i+1=a
  ·obtain ⟨n,n',h1,h2,h3,h4⟩:=s.self i hia
   rw [h2] at hi;cases hi
   obtain ⟨e1,e2⟩:=hs i n' hia h2
   exact ⟨_,by rw [hia];exact q.self,.inl (by rw [e1,e2];exact runs_G)⟩
  ·rw [s.other i hia] at hi
   obtain ⟨g,h1,h2⟩:=c.thr i sx hi
   obtain ⟨x,x',w2,h3⟩:=q.other (i+1) g hia h1
   refine ⟨_,h3,?_⟩
   have hd:Deaf (t++u) (i+1)=Deaf t (i+1):=Deaf_others fun op ho e=>hia (by rw [← e,o.g op ho])
   have hgame:=c.game
   rw [hx]
   cases hM:M.x with
   | idle=>rw [hM] at hgame h2;exact old_woken (hgame.old i sx hi) hd h2
   | game X =>
    rw [hM] at hgame h2
    obtain ⟨nb,hG⟩:=hgame
    obtain ⟨p1,p2,hp'⟩:=hG.wg.ex
    exact slot_woken hd (fun _=>⟨_,_,own_wg o.guar (c.mem.fits a) (hG.nowg a) hp'⟩) h2
 mem:=c.mem.own o kn
 aft:=by rw [hx];exact c.aft.own_step o
 hp0:=hh.symm
 hpn:=fun i hi=>by
  rw [s.len] at hi
  rw [put_ne (by omega)];exact c.hpn i hi
 tg:=fun i op hi=>by
  rw [s.len]
  rcases getElem?_append_cases hi with ⟨_,h⟩ | ⟨_,h⟩
  ·exact c.tg i op h
  ·rw [o.g op h];exact ha
 kn0:=by
  by_cases h0:a=0
  ·subst h0;rw [put_self];exact (kn_step (c.mem.nr false) kn c.mem.low o.guar o.g o.mine).2.1
  ·rw [put_ne fun e=>h0 e.symm]
   exact kn_other c.kn0 (fun j hj=>hj.app u) (c.mem.sep a 0 h0) (c.mem.fits 0) o.mine
 game:=by
  have hgame:=c.game
  rw [hx]
  cases hM:M.x with
  | idle =>
   rw [hM] at hgame
   refine ⟨fun i sx hi=>?_,by rw [Deaf_plain o.plain];exact hgame.deaf,fun g0 hg hb=>?_⟩
   ·by_cases hia:i+1=a
    ·obtain ⟨n,n',h1,h2,h3,h4⟩:=s.self i hia
     obtain ⟨m',e⟩:=(hgame.old i _ h1).out
     cases e
    ·rw [s.other i hia] at hi
     rw [put_ne hia]
     exact (hgame.old i sx hi).app fun op ho e=>hia (by rw [← e,o.g op ho])
   ·by_cases h0:0=a
    ·subst h0;rw [q.self] at hg;cases hg;cases hb
    ·exact hgame.runs g0 (q.back _ _ h0 hg hb) hb
  | game X =>
   rw [hM] at hgame
   obtain ⟨nb,hG⟩:=hgame
   exact ⟨nb,hG.own c.mem o kn q s (by intro e;cases e)⟩
 pool:=by
  rw [hx]
  refine c.pool.step (fun pl _ hsp hf=>⟨fits_other o.guar (hsp a) (c.mem.fits a) hf,fun i=>?_,fun op ho b hb=>⟨fun x y hl=>?_,fun x hl=>?_⟩⟩) s.len fun g wg m q i sx' hi=>?_
  ·by_cases hi:i=a
   ·subst hi;rw [put_self];exact sep_other o.guar (hsp i) hf
   ·rw [put_ne hi];exact hsp i
  rotate_left
  ·rcases o.mine op ho b hb with ⟨bl,o2,h1,_,h3⟩ | ⟨r,h1,_,h3⟩
   ·rw [h1] at hl;cases hl
   ·rw [h1] at hl;cases hl
    rcases h3 with h3 | h3
    ·exact none_of fun v e=>by have:=(Array.getElem?_eq_some_iff.1 (hf.obj _ _ e)).1;omega
    ·obtain ⟨v,hv⟩:=Option.isSome_iff_exists.1 h3
     exact (hsp a).bb _ _ hv
  rotate_left
  ·rcases o.mine op ho b hb with ⟨bl,o2,h1,_,h3⟩ | ⟨r,h1,_⟩
   ·rw [h1] at hl;cases hl
    rcases h3 with h3 | h3 | ⟨hw,h3⟩
    ·exact ⟨none_of fun v e=>by have:=cell_lt (hf.own _ _ _ e);omega,fun _=>none_of fun v e=>by have:=cell_lt (hf.ro _ _ _ e);omega⟩
    ·obtain ⟨v,hv⟩:=Option.isSome_iff_exists.1 h3
     exact ⟨(hsp a).oo _ _ _ hv,fun _=>(hsp a).wr _ _ _ hv⟩
    ·obtain ⟨v,hv⟩:=Option.isSome_iff_exists.1 h3
     exact ⟨(hsp a).rw _ _ _ hv,fun h=>by rw [hw] at h;cases h⟩
   ·rw [h1] at hl;cases hl
  ·by_cases hia:i+1=a
   ·obtain ⟨n,n',h1,h2,h3,h4⟩:=s.self i hia
    rw [h2] at hi;cases hi
    exact ⟨_,h1,fun ⟨n2,e,h⟩=>⟨n2,h3.trans e,h⟩⟩
   ·exact ⟨sx',by rw [← s.other i hia];exact hi,fun h=>by rw [put_ne hia];exact h⟩
theorem cfg_priv0 {gs:Array Goroutine} {w:World} {t:Trace} {fr:Frame} {cs:List Frame} {h:Hp} {x:MX} {r:Run P (mHand P cv L.done L.tWg) true Em fr cs h x} {sl:List (Slot P cv L)} {hp:Nat→Hp} {g:Goroutine} {sc:Option (Nat × Nat)}
  (c:Cfg W0 gs w t (⟨fr,cs,h,x,r⟩:MN P cv L Em) sl hp) (hg:gs[0]?=some g) (hr:Runs g fr cs) (nx:Nx P Still true fr cs h w) (r':Run P (mHand P cv L.done L.tWg) true Em nx.fr' nx.cs' nx.h' x) :
  ∃ gs' ops,runT P (crowd gs w sc) 0=(.next (crowd gs' nx.w' sc),ops)∧Cfg W0 gs' nx.w' (t++ops) (⟨nx.fr',nx.cs',nx.h',x,r'⟩:MN P cv L Em) sl (put hp 0 nx.h'):=by
 have hst:stepG P ((0:Nat) == 0) g w=.go (G nx.fr' nx.cs') nx.w' nx.es:=by rw [hr.step];exact nx.step
 have h0:hp 0=h:=c.hp0
 refine ⟨_,_,runT_crowd_go hg hst,?_⟩
 refine Cfg.own c (Nat.zero_le _) (by rw [h0];exact own_of_events nx.guar nx.evs) c.kn0 (gs_go hg) ⟨rfl,fun j _=>rfl,fun j hj=>by omega⟩ rfl (by rw [put_self]) (fun e=>absurd rfl e) (fun _=>⟨rfl,rfl⟩) (fun j n' hj=>by omega)
theorem cfg_priv1 {gs:Array Goroutine} {w:World} {t:Trace} {M:MN P cv L Em} {sl:List (Slot P cv L)} {hp:Nat→Hp} {g:Goroutine} {sc:Option (Nat × Nat)} {i:Nat} {fr:Frame} {cs:List Frame} {h:Hp} {x:TX} {r:Run P (tHand P cv) false (tEnd P L.done) fr cs h x}
  (c:Cfg W0 gs w t M sl hp) (hi:sl[i]?=some (.act ⟨fr,cs,h,x,r⟩)) (hg:gs[i+1]?=some g) (hr:Runs g fr cs) (nx:Nx P Still false fr cs h w) (r':Run P (tHand P cv) false (tEnd P L.done) nx.fr' nx.cs' nx.h' x) :
  ∃ gs' ops,runT P (crowd gs w sc) (i+1)=(.next (crowd gs' nx.w' sc),ops)∧Cfg W0 gs' nx.w' (t++ops) M (sl.set i (.act ⟨nx.fr',nx.cs',nx.h',x,r'⟩)) (put hp (i+1) nx.h'):=by
 have hlt:i<sl.length:=(List.getElem?_eq_some_iff.1 hi).1
 have hst:stepG P (i+1 == 0) g w=.go (G nx.fr' nx.cs') nx.w' nx.es:=by rw [hr.step];exact nx.step
 have hkn:Kn t (Knows t (i+1)) (hp (i+1))∧h=hp (i+1):=by
  have hgame:=c.game
  cases hM:M.x with
  | idle=>rw [hM] at hgame;obtain ⟨m',e⟩:=(hgame.old i _ hi).out;cases e
  | game X =>
   rw [hM] at hgame
   obtain ⟨nb,hG⟩:=hgame
   by_cases hin:i<nb
   ·obtain ⟨m',e⟩:=(hG.old i _ hin hi).out;cases e
   ·have:=hG.know (i-nb) _ (by rw [Nat.add_sub_cancel' (by omega)];exact hi)
    rw [Nat.add_sub_cancel' (by omega)] at this
    exact ⟨this.1,this.2.1⟩
 obtain ⟨hkn,he⟩:=hkn
 refine ⟨_,_,runT_crowd_go hg hst,?_⟩
 refine Cfg.own c (by omega) (by rw [← he];exact own_of_events nx.guar nx.evs) hkn (gs_go hg) ⟨by simp,fun j hj=>by rw [List.getElem?_set_ne (by omega)],fun j hj=>?_⟩ rfl (by rw [put_ne (by omega)];exact c.hp0.symm) (fun _=>rfl) (fun e=>by omega) (fun j n' hj hn=>?_)
 ·obtain rfl:j=i:=by omega
  exact ⟨_,⟨nx.fr',nx.cs',nx.h',x,r'⟩,hi,by simp [hlt],rfl,rfl⟩
 ·obtain rfl:j=i:=by omega
  simp [hlt] at hn
  subst hn
  exact ⟨rfl,rfl⟩
end Go.PB
namespace Go.PB
open Go.Conc Go.Conc.Lib
open Go.ConcR (KK stA smA rd wr mk DC0)
variable {W0:World} {P:Program} {cv:Value} {L:WgLink} {Em:Frame→List Frame→Hp→MX→Prop}
theorem fits_wg {h:Hp} {w w':World} {ty:TypeId} {wg:Nat} {a b a' b':Int} (f:Fits h w) (hn:∀ o,h.own wg o=none∧h.ro wg o=none) (e:WgAt ty wg w a b) (e':WgAt ty wg w' a' b') (hw:∀ c,c≠wg→w'.heap[c]?=w.heap[c]?):Fits h w':=by
 obtain ⟨fz,e,_⟩:=e
 obtain ⟨fz',e',_⟩:=e'
 have hc:∀ c o,c≠wg→w'.cell? ⟨c,o,none⟩=w.cell? ⟨c,o,none⟩:=fun c o hne=>by unfold World.cell?;rw [hw c hne]
 have hfz:∀ c o,c≠wg→w'.frozen? ⟨c,o,none⟩=w.frozen? ⟨c,o,none⟩:=fun c o hne=>by unfold World.frozen?;rw [hw c hne]
 have no:∀ c o v,h.own c o=some v→c≠wg:=fun c o v hv he=>by subst he;rw [(hn o).1] at hv;cases hv
 have nr:∀ c o v,h.ro c o=some v→c≠wg:=fun c o v hv he=>by subst he;rw [(hn o).2] at hv;cases hv
 refine ⟨fun c o v hv=>by rw [hc _ _ (no _ _ _ hv)];exact f.own _ _ _ hv,fun c o v hv=>by rw [hfz _ _ (no _ _ _ hv)];exact f.thaw _ _ _ hv,fun c o v hv=>by rw [hc _ _ (nr _ _ _ hv)];exact f.ro _ _ _ hv,f.disj,fun c ob hv=>?_,f.objn,fun c y hv=>?_⟩
 ·by_cases hcw:c=wg
  ·subst hcw
   have h1:=f.obj _ _ hv
   rw [e] at h1;cases h1
   have:=f.objn _ _ hv
   simp [isCells] at this
  ·rw [hw c hcw];exact f.obj _ _ hv
 ·by_cases hcw:c=wg
  ·subst hcw
   have h1:=f.shp _ _ hv
   unfold World.shape? at h1 ⊢
   rw [e] at h1;rw [e']
   simpa using h1
  ·unfold World.shape?;rw [hw c hcw];exact f.shp _ _ hv
structure Shy (wg a:Nat) (u:Trace):Prop where
 g:∀ op∈u,op.g=a
 touch:∀ op∈u,∀ b,op.act.touch?=some b→(∃ o,o<2∧b.loc=.cell ⟨wg,o,none⟩)∧b.kind=.atomic
 norel:∀ op∈u,∀ a,op.act≠.mark (.release a)
theorem shy_race {said:Bool} {t u:Trace} {wg a:Nat} (nr:¬ Race said t) (s:Shy wg a u) (h:∀ i b o,o<2→touchAt t i=some b→b.loc=.cell ⟨wg,o,none⟩→(b.kind≠.plain∧(b.kind=.said→t.g? i=some 0))∨Knows t a i):¬ Race said (t++u) :=
 noRace_append nr s.g fun i b hb op ho b' hb' hc=>by
  obtain ⟨⟨o,ho2,h1⟩,h2⟩:=s.touch op ho b' hb'
  obtain ⟨hl,_,_,h3⟩:=hc
  rw [h1] at hl
  rcases h i b o ho2 hb hl with this | hk
  rotate_left
  ·exact hk
  rcases h3 with h3 | h3 | ⟨_,_,h3⟩
  ·exact absurd h3 this.1
  ·rw [h2] at h3;cases h3
  ·rw [h2] at h3;cases h3
theorem shy_kn {t u:Trace} {K K':Nat→Prop} {h:Hp} {wg a:Nat} (kn:Kn t K h) (hK:∀ j,K j→K' j) (s:Shy wg a u) (hn:∀ o,h.own wg o=none∧h.ro wg o=none):Kn (t++u) K' h where
 own:=fun b o v e i b' hb hl=>by
  rcases touch_split hb with hb | ⟨op,ho,_,h2⟩
  ·exact hK _ (kn.own _ _ _ e _ _ hb hl)
  ·obtain ⟨⟨o',_,h1⟩,_⟩:=s.touch op ho b' h2
   rw [h1] at hl;cases hl;rw [(hn o).1] at e;cases e
 ro:=fun b o v e i b' hb hl hw=>by
  rcases touch_split hb with hb | ⟨op,ho,_,h2⟩
  ·exact hK _ (kn.ro _ _ _ e _ _ hb hl hw)
  ·obtain ⟨⟨o',_,h1⟩,_⟩:=s.touch op ho b' h2
   rw [h1] at hl;cases hl;rw [(hn o).2] at e;cases e
 obj:=fun b v e i b' hb hl=>by
  rcases touch_split hb with hb | ⟨op,ho,_,h2⟩
  ·exact hK _ (kn.obj _ _ e _ _ hb hl)
  ·obtain ⟨⟨o',_,h1⟩,_⟩:=s.touch op ho b' h2
   rw [h1] at hl;cases hl
theorem Mem.shy {w w':World} {t u:Trace} {hp:Nat→Hp} {wg a:Nat} {ty:TypeId} {p q p' q':Int} (m:Mem w t hp) (s:Shy wg a u) (hn:∀ i o,(hp i).own wg o=none∧(hp i).ro wg o=none)
  (h:∀ i b o,o<2→touchAt t i=some b→b.loc=.cell ⟨wg,o,none⟩→(b.kind≠.plain∧(b.kind=.said→t.g? i=some 0))∨Knows t a i) (e:WgAt ty wg w p q) (e':WgAt ty wg w' p' q') (hw:∀ c,c≠wg→w'.heap[c]?=w.heap[c]?) (hs:w'.heap.size=w.heap.size):Mem w' (t++u) hp where
 fits:=fun i=>fits_wg (m.fits i) (hn i) e e' hw
 sep:=m.sep
 nr:=fun said=>shy_race (m.nr said) s h
 low:=fun i b hb=>by
  rw [hs]
  rcases touch_split hb with hb | ⟨op,ho,_,h2⟩
  ·exact m.low i b hb
  ·obtain ⟨⟨o',_,h1⟩,_⟩:=s.touch op ho b h2
   exact ⟨fun d hd=>(by rw [h1] at hd;cases hd;exact wgAt_lt e),fun r hr=>by rw [h1] at hr;cases hr⟩
 norel:=fun op ho b=>(Array.mem_append.1 ho).elim (fun ho=>m.norel op ho b) (fun ho=>s.norel op ho b)
theorem Cfg.slot {gs gs':Array Goroutine} {w w':World} {t u:Trace} {M:MN P cv L Em} {sl:List (Slot P cv L)} {hp:Nat→Hp} {X:GX} {nb j:Nat} {s s':Slot P cv L} {g':Goroutine}
  (c:Cfg W0 gs w t M sl hp) (hX:M.x=.game X) (hG:GameAt X gs w t sl hp nb) (hs:sl[nb+j]?=some s) (q:Gs P (nb+j+1) gs gs' g') (hr:g'.status≠.blocked)
  (hsd:Side w w') (hw:∀ b,b≠X.wg→w'.heap[b]?=w.heap[b]?) (hsz:w'.heap.size=w.heap.size) (ph:WgPh L X ((sl.map Slot.stage).set (nb+j) s'.stage) w') (sh:Shy X.wg (nb+j+1) u)
  (sg:SlotG w' X.wg (Deaf (t++u) (nb+j+1)) g' s') (sk:SlotKn (t++u) X.wg (nb+j+1) (hp (nb+j+1)) s') (sa:∀ c:St X,X.seats[j]?=some c→SeatAt X c (hp (nb+j+1)) s')
  (sp:∀ (g:Game) (wg m:Nat) (q:g.θ) (h:Hp),FreeSt wg m q h s→FreeSt wg m q h s')
  (hsl:∀ g0,gs'[0]?=some g0→g0.status=.blocked→g0.offers=none→¬ WgAt L.tWg X.wg w' 0 1):Cfg W0 gs' w' (t++u) M (sl.set (nb+j) s') hp:=by
 have hlt:nb+j<sl.length:=(List.getElem?_eq_some_iff.1 hs).1
 obtain ⟨p1,p2,e1⟩:=hG.wg.ex
 obtain ⟨p3,p4,e2⟩:=ph.ex
 have hwg0:W0.heap.size≤X.wg:=by have:=c.aft.game;rw [hX] at this;exact this.1
 have hng:∀ i,i≠nb+j+1→∀ op∈u,op.g≠i:=fun i hi op ho e=>hi (by rw [← e,sh.g op ho])
 have hrl:RL L.tWg X.wg w w':=fun _=>⟨_,_,e2⟩
 have hmem:=c.mem.shy sh hG.nowg (fun i b o ho2 hb hl=>(hG.wgt i b o ho2 hb hl).imp id fun k=>k.2 j (by have:=hG.len;omega)) e1 e2 hw hsz
 refine ⟨by rw [q.size,List.length_set];exact c.size,?_,fun i sx hi=>?_,hmem,c.aft.at_block hwg0 hsd hw hsz c.aft.game,c.hp0,fun i hi=>c.hpn i (by simpa using hi),fun i op hi=>?_,?_,?_,?_⟩
 ·obtain ⟨g,h1,h2⟩:=c.main
  obtain ⟨x,x',w2,h3⟩:=q.other 0 g (by omega) h1
  exact ⟨_,h3,h2.woken⟩
 ·rw [hX]
  by_cases hij:i=nb+j
  ·subst hij
   simp [hlt] at hi
   subst hi
   exact ⟨_,q.self,sg⟩
  ·rw [List.getElem?_set_ne fun e=>hij e.symm] at hi
   obtain ⟨g,h1,h2⟩:=c.thr i sx hi
   rw [hX] at h2
   obtain ⟨x,x',w2,h3⟩:=q.other (i+1) g (by omega) h1
   exact ⟨_,h3,slot_woken (Deaf_others (hng _ (by omega))) hrl h2⟩
 ·simp only [List.length_set]
  rcases getElem?_append_cases hi with ⟨_,h⟩ | ⟨_,h⟩
  ·exact c.tg i op h
  ·rw [sh.g op h];omega
 ·exact shy_kn c.kn0 (fun j h=>h.app u) sh (hG.nowg 0)
 ·rw [hX]
  refine ⟨nb,⟨by rw [List.length_set];exact hG.len,fun i sx hi hc=>?_,fun k cx hc=>?_,fun k sx hc=>?_,fun k cx hc b hb=>?_,hG.dist,hG.noch,hG.nowg,by simpa only [List.map_set] using ph,fun i b o ho2 hb hl=>?_,?_,hG.tok0,hG.tok1,hG.adp,hG.ads,hG.adl,fun k cx g hc hg hsx hb=>?_,fun g0 cases shp hg hb ho=>?_,fun g0 hg hb ho=>⟨?_,hsl g0 hg hb ho⟩,fun k cx b i x hc hb hx hl=>?_⟩⟩
  ·rw [List.getElem?_set_ne (by omega)] at hc
   exact (hG.old i sx hi hc).app (hng _ (by omega))
  ·obtain ⟨sx,h1,h2⟩:=hG.seat k cx hc
   by_cases hkj:k=j
   ·subst hkj;exact ⟨s',by simp [hlt],sa cx hc⟩
   ·exact ⟨sx,by rw [List.getElem?_set_ne (by omega)];exact h1,h2⟩
  ·by_cases hkj:k=j
   ·subst hkj
    simp [hlt] at hc
    subst hc;exact sk
   ·rw [List.getElem?_set_ne (by omega)] at hc
    exact (hG.know k sx hc).app (hng _ (by omega)) fun kk hK=>shy_kn kk hK sh (hG.nowg _)
  ·obtain ⟨n,e⟩:=hG.chan k cx hc b hb
   refine ⟨n,?_⟩
   rw [hw _ fun he=>?_]
   ·exact e
   ·obtain ⟨_,e1,_⟩:=e1;rw [he] at e;rw [e1] at e;cases e
  ·rcases touch_split hb with hb | ⟨op,ho,hi,h2⟩
   ·rcases hG.wgt i b o ho2 hb hl with this | ⟨k0,k1⟩
    ·refine .inl ⟨this.1,fun hsd=>?_⟩
     have h1:=this.2 hsd
     rw [g?_app (g?_lt h1)];exact h1
    ·exact .inr ⟨k0.app u,fun j hj=>(k1 j hj).app u⟩
   ·have:=(sh.touch op ho b h2).2
    rw [this];exact .inl ⟨by simp,fun h=>by cases h⟩
  ·rw [Deaf_others (hng 0 (by omega))];exact hG.deaf
  ·by_cases hkj:k=j
   ·subst hkj;rw [q.self] at hg;cases hg;exact hr hb
   ·exact hG.live k cx g hc (q.back _ _ (by omega) hg hb) hsx hb
  ·obtain ⟨k,cx,h1,h2,h3,h4⟩:=hG.park g0 cases shp (q.back _ _ (by omega) hg hb) hb ho
   refine ⟨k,cx,h1,h2,h3,fun g hg2 hb2=>?_⟩
   by_cases hkj:k=j
   ·subst hkj;rw [q.self] at hg2;cases hg2;exact hr hb2
   ·exact h4 g (q.back _ _ (by omega) hg2 hb2) hb2
  ·exact (hG.sleep g0 (q.back _ _ (by omega) hg hb) hb ho).1
  ·rcases touch_split hx with hx | ⟨op,ho,_,h2⟩
   ·exact (hG.cht k cx b i x hc hb hx hl).app u
   ·obtain ⟨⟨o',_,h1⟩,_⟩:=sh.touch op ho x h2
    rw [h1] at hl;cases hl
 ·refine c.pool.step (fun pl hw' hs' hf=>⟨fits_wg hf (hw' X hX) e1 e2 hw,hs',fun op ho b hb=>⟨fun x y hl=>?_,fun x hl=>by rw [(sh.touch op ho b hb).1.choose_spec.2] at hl;cases hl⟩⟩) (by rw [List.length_set]) fun g wg m q i sx' hi=>?_
  ·obtain ⟨⟨o',_,h1⟩,_⟩:=sh.touch op ho b hb
   rw [h1] at hl;cases hl
   exact ⟨(hw' X hX _).1,fun _=>(hw' X hX _).2⟩
  ·by_cases hij:i=nb+j
   ·subst hij
    simp [hlt] at hi
    subst hi
    exact ⟨s,hs,sp g wg m q _⟩
   ·rw [List.getElem?_set_ne fun e=>hij e.symm] at hi
    exact ⟨sx',hi,id⟩
end Go.PB
namespace Go.PB
open Go.Conc Go.Conc.Lib
open Go.ConcR (KK stA smA rd wr mk DC0)
theorem count_set {p:Nat→Bool}:∀ {l:List Nat} {i a:Nat} (b:Nat),l[i]?=some a→((l.set i b).filter p).length+(if p a then 1 else 0)=(l.filter p).length+(if p b then 1 else 0)
 | x::l,0,a,b,h=>by
  simp at h;subst h
  simp only [List.set_cons_zero,List.filter_cons]
  cases p b <;> cases p x <;> simp
 | x::l,i+1,a,b,h=>by
  have ih:=count_set (p:=p) (l:=l) (i:=i) b (by simpa using h)
  simp only [List.set_cons_succ,List.filter_cons]
  cases p x <;> simp <;> omega
 | [],i,a,b,h=>by simp at h
theorem count_pos {p:Nat→Bool} {l:List Nat} {i a:Nat} (h:l[i]?=some a) (hp:p a=true):0<(l.filter p).length :=
 List.length_pos_of_mem (List.mem_filter.2 ⟨List.mem_of_getElem? h,hp⟩)
theorem count_one {p:Nat→Bool} {l:List Nat} {i a:Nat} (h:l[i]?=some a) (hp:p a=true) (h0:p 0=false) (h1:(l.filter p).length=1):∀ j k,l[j]?=some k→j≠i→p k=false:=by
 intro j k hj hne
 have:=count_set (p:=p) 0 h
 rw [hp,h0,h1] at this
 simp at this
 by_cases hk:p k=true
 ·have h2:(l.set i 0)[j]?=some k:=by rw [List.getElem?_set_ne fun e=>hne e.symm];exact hj
  have:=this k (List.mem_of_getElem? h2)
  rw [hk] at this;cases this
 ·simpa using hk
theorem count_tail {p:Nat→Bool} (h0:p 0=false):∀ {l:List Nat} {n:Nat},(∀ i k,i<n→l[i]?=some k→k=0)→(l.filter p).length≤l.length-n
 | [],n,_=>by simp
 | x::l,0,_=>by simpa using List.length_filter_le p (x::l)
 | x::l,n+1,h=>by
  have hx:x=0:=h 0 x (by omega) rfl
  subst hx
  have:=count_tail (p:=p) h0 (l:=l) (n:=n) fun i k hi hk=>h (i+1) k (by omega) (by simpa using hk)
  simp only [List.filter_cons,h0]
  simpa using this
section
variable {L:WgLink} {X:GX} {st:List Nat} {w w':World} {I:Nat}
theorem WgPh.far {a b:Nat} (p:WgPh L X st w) (hi:st[I]?=some a) (ha:4≤a) (hb:4≤b) (h:∀ x y,WgAt L.tWg X.wg w x y→WgAt L.tWg X.wg w' x y):WgPh L X (st.set I b) w':=by
 have hlt:=(List.getElem?_eq_some_iff.1 hi).1
 cases p with
 | quiet v wt at_ hv late hw park bb =>
  have:=count_set (p:=fun k=>decide (4≤k)) b hi
  simp only [ha,hb,decide_true,if_true] at this
  refine .quiet v wt (h _ _ at_) (by omega) (fun k hk=>?_) hw park bb
  rcases List.mem_or_eq_of_mem_set hk with hk | rfl
  ·exact late k hk
  ·exact .inr hb
 | late p i k hik hk at_ oth =>
  exfalso
  by_cases e:I=i
  ·subst e;rw [hi] at hik;cases hik;omega
  ·have:=oth I a hi e;omega
 | late1 p i hik at_ oth =>
  exfalso
  by_cases e:I=i
  ·subst e;rw [hi] at hik;cases hik;omega
  ·have:=oth I a hi e;omega
 | free p at_ oth=>exfalso;have:=oth a (List.mem_of_getElem? hi);omega
theorem WgPh.same {a:Nat} (p:WgPh L X st w) (hi:st[I]?=some a) (h:∀ x y,WgAt L.tWg X.wg w x y→WgAt L.tWg X.wg w' x y):WgPh L X (st.set I a) w':=by
 have hlt:=(List.getElem?_eq_some_iff.1 hi).1
 have e:st.set I a=st:=by
  apply List.ext_getElem?
  intro j
  by_cases hj:I=j
  ·subst hj;rw [List.getElem?_set_self hlt,hi]
  ·rw [List.getElem?_set_ne hj]
 rw [e]
 exact p.at h
theorem WgPh.at4 (p:WgPh L X st w) (hi:st[I]?=some 4):∃ v wt:Nat,WgAt L.tWg X.wg w (v*KK+wt) 0∧v+(X.seats.length+X.nf)=(st.filter fun k=>decide (4≤k)).length+X.ad∧(∀ k∈st,k=0∨4≤k) ∧
  wt=(match X.wt with | .parked=>1 | _=>0)∧(X.wt=.parked→0<v)∧(match X.wt with | .wait b=>v≤b | .seen v0=>v≤v0 | .woken=>v=0 | .zero=>v=0 | _=>True):=by
 cases p with
 | quiet v wt at_ hv late hw park bb=>exact ⟨v,wt,at_,hv,late,hw,park,bb⟩
 | late p i k hik hk at_ oth =>
  exfalso
  by_cases e:I=i
  ·subst e;rw [hi] at hik;cases hik;omega
  ·have:=oth I 4 hi e;omega
 | late1 p i hik at_ oth =>
  exfalso
  by_cases e:I=i
  ·subst e;rw [hi] at hik;cases hik
  ·have:=oth I 4 hi e;omega
 | free p at_ oth=>exfalso;have:=oth 4 (List.mem_of_getElem? hi);omega
theorem WgPh.at23 {k:Nat} (p:WgPh L X st w) (hi:st[I]?=some k) (hk:k=3∨k=2):X.wt=.parked∧WgAt L.tWg X.wg w 1 0∧∀ j k,st[j]?=some k→j≠I→k=0:=by
 cases p with
 | quiet v wt at_ hv late hw park bb=>exfalso;have:=late k (List.mem_of_getElem? hi);omega
 | late p i k' hik hk' at_ oth =>
  by_cases e:I=i
  ·subst e;exact ⟨p,at_,oth⟩
  ·exfalso;have:=oth I k hi e;omega
 | late1 p i hik at_ oth =>
  exfalso
  by_cases e:I=i
  ·subst e;rw [hi] at hik;cases hik;omega
  ·have:=oth I k hi e;omega
 | free p at_ oth=>exfalso;have:=oth k (List.mem_of_getElem? hi);omega
theorem WgPh.at1 (p:WgPh L X st w) (hi:st[I]?=some 1):X.wt=.parked∧WgAt L.tWg X.wg w 0 0∧∀ j k,st[j]?=some k→j≠I→k=0:=by
 cases p with
 | quiet v wt at_ hv late hw park bb=>exfalso;have:=late 1 (List.mem_of_getElem? hi);omega
 | late p i k' hik hk' at_ oth =>
  exfalso
  by_cases e:I=i
  ·subst e;rw [hi] at hik;cases hik;omega
  ·have:=oth I 1 hi e;omega
 | late1 p i hik at_ oth =>
  by_cases e:I=i
  ·subst e;exact ⟨p,at_,oth⟩
  ·exfalso;have:=oth I 1 hi e;omega
 | free p at_ oth=>exfalso;have:=oth 1 (List.mem_of_getElem? hi);omega
theorem WgPh.notFree {k:Nat} (p:WgPh L X st w) (hi:st[I]?=some k) (hk:0<k):¬ WgAt L.tWg X.wg w 0 1:=by
 intro hx
 cases p with
 | quiet v wt at_ hv late hw park bb=>exact absurd (at_.unique hx).2 (by decide)
 | late p i k' hik hk' at_ oth=>exact absurd (at_.unique hx).2 (by decide)
 | late1 p i hik at_ oth=>exact absurd (at_.unique hx).2 (by decide)
 | free p at_ oth=>have:=oth k (List.mem_of_getElem? hi);omega
end
def EvShy (wg:Nat) (e:Event):Prop:=(∃ m,e=⟨.mark m,false,true⟩∧(MemAct.mark m).touch?=none∧∀ a,m≠.release a)∨∃ o wr,e=⟨.cell ⟨wg,o,none⟩,wr,true⟩∧o<2
theorem evShy_act {wg:Nat} {e:Event} (h:EvShy wg e):(∀ b,(MemAct.ofEvent e).touch?=some b→(∃ o,o<2∧b.loc=.cell ⟨wg,o,none⟩)∧b.kind=.atomic)∧∀ a,MemAct.ofEvent e≠.mark (.release a):=by
 rcases h with ⟨m,rfl,h1,h2⟩ | ⟨o,wr,rfl,ho2⟩
 ·refine ⟨fun b hb=>?_,fun a ha=>?_⟩
  ·have:(MemAct.ofEvent ⟨.mark m,false,true⟩).touch?=none:=h1
   rw [this] at hb;cases hb
  ·have:MemAct.ofEvent ⟨.mark m,false,true⟩=.mark m:=rfl
   rw [this] at ha;cases ha;exact h2 a rfl
 ·refine ⟨fun b hb=>?_,fun a ha=>?_⟩
  ·have:(MemAct.ofEvent ⟨.cell ⟨wg,o,none⟩,wr,true⟩).touch?=some ⟨.cell ⟨wg,o,none⟩,wr,.atomic⟩:=by cases wr <;> rfl
   rw [this] at hb;cases hb;exact ⟨⟨o,ho2,rfl⟩,rfl⟩
  ·cases wr <;> cases ha
theorem shy_of {wg a:Nat} {fn:FuncId} {pos:String} {es:Array Event} (h:∀ e∈es,EvShy wg e):Shy wg a (MemOp.ofEvents a fn pos es) where
 g:=fun op ho=>by obtain ⟨e,_,rfl⟩:=ofEvents_mem ho;rfl
 touch:=fun op ho b hb=>by obtain ⟨e,h1,rfl⟩:=ofEvents_mem ho;exact (evShy_act (h e h1)).1 b hb
 norel:=fun op ho b=>by obtain ⟨e,h1,rfl⟩:=ofEvents_mem ho;exact (evShy_act (h e h1)).2 b
theorem allK_deaf {t:Trace} {K K':Nat→Prop} {a wg:Nat} {fn:FuncId} {pos:String} {es:Array Event} (h:AllK t a K) (hK:∀ j,K j→K' j) (hes:∀ e∈es,EvShy wg e)
  (hd:∀ (j:Nat) (e:Event),es[j]?=some e→(MemAct.ofEvent e).touch?≠none→0<deafBehind (Deaf t a) (es.extract 0 j)):AllK (t++MemOp.ofEvents a fn pos es) a K':=by
 intro j hj hc
 rcases Nat.lt_or_ge j t.size with hlt | hge
 ·exact hK _ (h j (by rw [← g?_app hlt];exact hj) ((counts_old hlt).1 hc))
 ·exfalso
  obtain ⟨x,h1,h2,h3⟩:=hc
  obtain ⟨op,ho,hx⟩:=touch_of h1
  obtain ⟨i,rfl⟩:∃ i,j=t.size+i:=⟨j-t.size,by omega⟩
  have ho':(MemOp.ofEvents a fn pos es)[i]?=some op:=by
   rw [Array.getElem?_append_right (by omega)] at ho
   simpa using ho
  rw [ofEvents_eq] at ho'
  rw [Array.getElem?_map] at ho'
  obtain ⟨e,he,rfl⟩:=Option.map_eq_some_iff.1 ho'
  have hem:e∈es:=Array.mem_of_getElem? he
  have hk:=((evShy_act (hes e hem)).1 x hx).2
  rcases h3 with h3 | ⟨g,hg,hd0⟩
  ·exact h3 hk
  ·have hlt:=(Array.getElem?_eq_some_iff.1 he).1
   rw [hj] at hg;cases hg
   rw [deaf_inside t a fn pos es i (by omega)] at hd0
   have:=hd i e he (by rw [hx];simp)
   omega
end Go.PB
namespace Go.PB
open Go.Conc Go.Conc.Lib
open Go.ConcR (KK stA smA rd wr mk DC0)
variable {W0:World} {P:Program} {cv:Value} {L:WgLink} {Em:Frame→List Frame→Hp→MX→Prop}
theorem again_offers {o:Goroutine} {w:World} (h:(o.again w).status=.blocked):(o.again w).offers≠none:=by
 intro hn
 rcases ho:o.offers with _ | ⟨a,b⟩ <;> cases hs:o.status <;> simp only [Goroutine.again,hs,ho] at h hn <;> first | (cases h;done) | (rw [hs] at h;cases h;done) | (split at hn <;> (simp only [ho] at hn;cases hn;done)) | (rw [ho] at hn;cases hn;done) | skip
theorem g?_of {t:Trace} {i:Nat} {op:MemOp} (h:t[i]?=some op):t.g? i=some op.g:=by simp [Trace.g?,h]
theorem setCell_ne {w:World} {a:Addr} {v:Value} {b:Nat} (h:b≠a.block):(w.setCell a v).heap[b]?=w.heap[b]?:=by
 unfold World.setCell
 simp only [Array.getElem?_modify]
 rw [if_neg fun e=>h e.symm]
theorem setCell_size {w:World} {a:Addr} {v:Value}:(w.setCell a v).heap.size=w.heap.size:=by
 unfold World.setCell;simp
theorem leaves_shy {t:Trace} {wg a:Nat} {h:Hp} {fn:FuncId} {pos:String} {es:Array Event} (k:∃ p,Rel t wg a p∧Kn t (fun j=>Before t j p) h∧AllK t a fun j=>Before t j p) (hn:∀ o,h.own wg o=none∧h.ro wg o=none) (hes:∀ e∈es,EvShy wg e)
  (hd:∀ (j:Nat) (e:Event),es[j]?=some e→(MemAct.ofEvent e).touch?≠none→0<deafBehind (Deaf t a) (es.extract 0 j)) :
  ∃ p,Rel (t++MemOp.ofEvents a fn pos es) wg a p∧Kn (t++MemOp.ofEvents a fn pos es) (fun j=>Before (t++MemOp.ofEvents a fn pos es) j p) h∧AllK (t++MemOp.ofEvents a fn pos es) a fun j=>Before (t++MemOp.ofEvents a fn pos es) j p:=by
 obtain ⟨p,h1,h2,h3⟩:=k
 exact ⟨p,h1.app _,shy_kn h2 (fun j h=>h.app _) (shy_of hes) hn,allK_deaf h3 (fun j h=>h.app _) hes hd⟩
section
variable {gs:Array Goroutine} {w:World} {t:Trace} {M:MN P cv L Em} {sl:List (Slot P cv L)} {hp:Nat→Hp} {X:GX} {nb j k m:Nat} {g:Goroutine} {sc:Option (Nat × Nat)}
theorem cfg_out (c:Cfg W0 gs w t M sl hp) (hX:M.x=.game X) (hG:GameAt X gs w t sl hp nb) (hs:sl[nb+j]?=some (.out (k+1) m)) (hg:gs[nb+j+1]?=some g) :
  ∃ gs' w' ops k' m',runT P (crowd gs w sc) (nb+j+1)=(.next (crowd gs' w' sc),ops)∧(k'<k+1∨(k'=k+1∧m'<m))∧Cfg W0 gs' w' (t++ops) M (sl.set (nb+j) (.out k' m')) hp:=by
 obtain ⟨g0,hg0,hz⟩:=c.thr _ _ hs
 rw [hg] at hg0;cases hg0
 rw [hX] at hz
 replace hz:Zg P L.tWg X.wg (ZS P L.tWg X.wg (k+1)) m g w:=hz
 have hst:(sl.map Slot.stage)[nb+j]?=some (k+1):=by rw [List.getElem?_map,hs];rfl
 have hseat:∀ cs:St X,X.seats[j]?=some cs→SeatAt X cs (hp (nb+j+1)) (.out (k+1) m:Slot P cv L):=fun cs hcs=>by
  obtain ⟨s,h1,h2⟩:=hG.seat j cs hcs
  rw [hs] at h1;cases h1;exact h2
 have hkn:=hG.know j _ hs
 have hk6:k+1≤6:=by
  obtain ⟨h,_⟩ | ⟨h,_⟩:=hkn
  ·omega
  ·omega
 have hnw:=hG.nowg (nb+j+1)
 have key:∀ {g':Goroutine} {w':World} {es:Array Event} {k' m':Nat},stepG P false g w=.go g' w' es→(∀ e∈es,EvShy X.wg e)→(k'<k+1∨(k'=k+1∧m'<m))→Side w w'→(∀ b,b≠X.wg→w'.heap[b]?=w.heap[b]?)→w'.heap.size=w.heap.size →
   WgPh L X ((sl.map Slot.stage).set (nb+j) k') w'→SlotG w' X.wg (deafBehind (Deaf t (nb+j+1)) es) g' (.out k' m':Slot P cv L)→SlotKn (t++MemOp.ofEvents (nb+j+1) g.frame.fn g.frame.place es) X.wg (nb+j+1) (hp (nb+j+1)) (.out k' m':Slot P cv L) →
   g'.status≠.blocked→(¬ WgAt L.tWg X.wg w' 0 1∨(mayWake P g=true∧g'.status≠.waiting)) →
   ∃ gs' w' ops k' m',runT P (crowd gs w sc) (nb+j+1)=(.next (crowd gs' w' sc),ops)∧(k'<k+1∨(k'=k+1∧m'<m))∧Cfg W0 gs' w' (t++ops) M (sl.set (nb+j) (.out k' m')) hp:=by
  intro g' w' es k' m' hstep hes hlt hsd hw hsz ph sg sk hnb hsl
  have hst':stepG P (nb+j+1 == 0) g w=.go g' w' es:=hstep
  refine ⟨_,_,_,k',m',runT_crowd_go hg hst',hlt,?_⟩
  refine Cfg.slot c hX hG hs (gs_go hg) hnb hsd hw hsz ph (shy_of hes) (by rw [Deaf_own];exact sg) sk (fun cx hcx=>?_) (fun _ _ _ _ _ h=>h) (fun g0 h0 hb ho hx=>?_)
  ·exact ⟨by omega,(hseat cx hcx).2⟩
  ·rcases hsl with hsl | ⟨h1,h2⟩
   ·exact hsl hx
   ·rw [Array.getElem?_setIfInBounds_ne (by omega),Array.getElem?_map] at h0
    obtain ⟨o,e1,e2⟩:=Option.map_eq_some_iff.1 h0
    have hwk:woken P g g' w' o=o.again w':=by
     unfold woken
     rw [if_pos]
     simp only [h1,Bool.true_and,Bool.and_eq_true]
     exact ⟨by simpa using hnb,by simpa using h2⟩
    rw [hwk] at e2
    subst e2
    exact again_offers hb ho
 rcases zg_step hz with hz | ⟨m',g',rfl,hstep,hz'⟩
 ·rcases k with _ | _ | _ | _ | _ | _ | k
  ·-- it lets the starter go
   obtain ⟨hr,hmw,hz⟩:=(show Z4 P L.tWg X.wg g w from hz)
   obtain ⟨hp1,hat,hoth⟩:=hG.wg.at1 hst
   obtain ⟨g',q,hstep,hq⟩:=hz hat
   obtain ⟨h6,_,_⟩ | ⟨_,hlv,_,hdf⟩:=hkn
   ·omega
   have hd:Deaf t (nb+j+1)=1:=hdf (by omega) (by omega)
   refine key (k':=0) (m':=q) hstep (fun e he=>?_) (by omega) side_setCell (fun b hb=>setCell_ne hb) setCell_size (.free hp1 (hat.setSm 1) fun k hk=>?_) (by rw [hd];exact hq) (.inr ⟨by omega,leaves_shy hlv hnw ?_ ?_,fun h=>by omega,fun h=>by omega⟩) (fun h=>by have:=QuitsD.status hq;rw [h] at this;rcases this with h | h <;> cases h) (.inr ⟨hmw,fun h=>by have:=QuitsD.status hq;rw [h] at this;rcases this with h | h <;> cases h⟩)
   ·simp only [semEvents,List.mem_toArray,List.mem_cons,List.not_mem_nil,or_false] at he
    rcases he with rfl | rfl | rfl | rfl
    ·exact .inl ⟨_,rfl,rfl,fun a h=>by cases h⟩
    ·exact .inr ⟨_,_,rfl,by decide⟩
    ·exact .inr ⟨_,_,rfl,by decide⟩
    ·exact .inl ⟨_,rfl,rfl,fun a h=>by cases h⟩
   ·obtain ⟨i,hi⟩:=List.getElem?_of_mem hk
    by_cases e:i=nb+j
    ·subst e
     rw [List.getElem?_set_self (by simpa using (List.getElem?_eq_some_iff.1 hst).1)] at hi
     cases hi;rfl
    ·rw [List.getElem?_set_ne fun h=>e h.symm] at hi
     exact hoth i k hi e
   ·intro e he
    simp only [semEvents,List.mem_toArray,List.mem_cons,List.not_mem_nil,or_false] at he
    rcases he with rfl | rfl | rfl | rfl
    ·exact .inl ⟨_,rfl,rfl,fun a h=>by cases h⟩
    ·exact .inr ⟨_,_,rfl,by decide⟩
    ·exact .inr ⟨_,_,rfl,by decide⟩
    ·exact .inl ⟨_,rfl,rfl,fun a h=>by cases h⟩
   ·intro i e he ht
    rw [hd]
    rcases i with _ | _ | _ | _ | i
    ·simp only [semEvents] at he ⊢;simp [deafBehind]
    ·simp only [semEvents] at he ⊢;simp [deafBehind]
    ·simp only [semEvents] at he ⊢;simp [deafBehind]
    ·simp only [semEvents] at he ⊢;simp [deafBehind]
    ·simp [semEvents] at he
  ·-- the count is laid to nought
   obtain ⟨hr,hz⟩:=(show Z3 P L.tWg X.wg g w from hz)
   obtain ⟨hp1,hat,hoth⟩:=hG.wg.at23 hst (.inr rfl)
   obtain ⟨g',q,hstep,hq⟩:=hz hat
   obtain ⟨h6,_,_⟩ | ⟨_,hlv,_,hdf⟩:=hkn
   ·omega
   have hd:Deaf t (nb+j+1)=1:=hdf (by omega) (by omega)
   have hes:∀ e∈#[wr (stA X.wg)],EvShy X.wg e:=fun e he=>by simp at he;subst he;exact .inr ⟨_,_,rfl,by decide⟩
   refine key (k':=1) (m':=q) hstep hes (by omega) side_setCell (fun b hb=>setCell_ne hb) setCell_size (.late1 hp1 (nb+j) (List.getElem?_set_self (List.getElem?_eq_some_iff.1 hst).1) (hat.setSt 0) fun i k hi e=>hoth i k (by rwa [List.getElem?_set_ne fun h=>e h.symm] at hi) e) hq
    (.inr ⟨by omega,leaves_shy hlv hnw hes fun i e he ht=>?_,fun h=>by omega,fun _ _=>?_⟩) (fun h=>by have:=zg_running (k:=1) hq;rw [h] at this;cases this) (.inl fun hx=>absurd ((hat.setSt 0).unique hx).2 (by decide))
   ·rw [hd]
    rcases i with _ | i
    ·simp [deafBehind]
    ·simp at he
   ·rw [Deaf_own,hd];rfl
  ·-- the count is looked at again
   obtain ⟨hr,hz⟩:=(show Z2 P L.tWg X.wg g w from hz)
   obtain ⟨hp1,hat,hoth⟩:=hG.wg.at23 hst (.inl rfl)
   obtain ⟨g',q,hstep,hq⟩:=hz hat
   obtain ⟨h6,_,_⟩ | ⟨_,hlv,_,hdf⟩:=hkn
   ·omega
   have hd:Deaf t (nb+j+1)=1:=hdf (by omega) (by omega)
   have hes:∀ e∈#[rd (stA X.wg)],EvShy X.wg e:=fun e he=>by simp at he;subst he;exact .inr ⟨_,_,rfl,by decide⟩
   refine key (k':=2) (m':=q) hstep hes (by omega) Side.refl (fun b hb=>rfl) rfl (.late hp1 (nb+j) 2 (List.getElem?_set_self (List.getElem?_eq_some_iff.1 hst).1) (.inr rfl) hat fun i k hi e=>hoth i k (by rwa [List.getElem?_set_ne fun h=>e h.symm] at hi) e) hq
    (.inr ⟨by omega,leaves_shy hlv hnw hes fun i e he ht=>?_,fun h=>by omega,fun _ _=>?_⟩) (fun h=>by have:=zg_running (k:=2) hq;rw [h] at this;cases this) (.inl fun hx=>absurd (hat.unique hx).2 (by decide))
   ·rw [hd]
    rcases i with _ | i
    ·simp [deafBehind]
    ·simp at he
   ·rw [Deaf_own,hd];rfl
  ·-- it counts itself out
   obtain ⟨hr,hz⟩:=(show Z1 P L.tWg X.wg g w from hz)
   obtain ⟨v,wt,hat,hv,hlate,hwt,hpark,hb⟩:=hG.wg.at4 hst
   have hcnt:=count_pos (p:=fun k=>decide (4≤k)) hst rfl
   have htail:=count_tail (p:=fun k=>decide (4≤k)) rfl (l:=sl.map Slot.stage) (n:=nb) fun i k hi hk=>by
    rw [List.getElem?_map] at hk
    obtain ⟨s,e1,e2⟩:=Option.map_eq_some_iff.1 hk
    obtain ⟨m',rfl⟩:=(hG.old i s hi e1).out
    exact e2.symm
   have hlen:=hG.len
   have hadl:=hG.adl
   have hadn:X.seats.length+X.nf≤X.ad:=by
    by_cases hpl:X.wt=.play
    ·rcases hG.adp hpl with h | h <;> omega
    ·exact Nat.le_of_eq (hG.ads hpl).1.symm
   simp only [List.length_map] at htail
   obtain ⟨v,rfl⟩:∃ v',v=v'+1:=⟨v-1,by omega⟩
   have hwt1:wt≤1:=by rw [hwt];split <;> omega
   obtain ⟨g',hstep,hq1,hq0⟩:=hz v wt hwt1 (by omega) (by push_cast at hat;exact hat)
   obtain ⟨h6,_,_⟩ | ⟨_,hlv,_,hdf⟩:=hkn
   ·omega
   have hd:Deaf t (nb+j+1)=1:=hdf (by omega) (by omega)
   have hes:∀ e∈#[rd (stA X.wg),wr (stA X.wg)],EvShy X.wg e:=fun e he=>by
    simp at he
    rcases he with rfl | rfl <;> exact .inr ⟨_,_,rfl,by decide⟩
   have hdi:∀ (i:Nat) (e:Event),(#[rd (stA X.wg),wr (stA X.wg)]:Array Event)[i]?=some e→(MemAct.ofEvent e).touch?≠none→0<deafBehind (Deaf t (nb+j+1)) ((#[rd (stA X.wg),wr (stA X.wg)]:Array Event).extract 0 i):=fun i e he ht=>by
    rw [hd]
    rcases i with _ | _ | i
    ·simp [deafBehind]
    ·simp [deafBehind,rd]
    ·simp at he
   have hset:=count_set (p:=fun k=>decide (4≤k)) (b:=0) hst
   simp at hset
   by_cases hl:v=0∧wt=1
   ·obtain ⟨q,hq⟩:=hq1 hl
    obtain ⟨rfl,rfl⟩:=hl
    have hp1:X.wt=.parked:=by
     revert hwt
     cases X.wt <;> simp
    have had:=(hG.ads (by rw [hp1];simp)).1
    have hone:=count_one (p:=fun k=>decide (4≤k)) hst rfl rfl (by omega)
    refine key (k':=3) (m':=q) hstep hes (by omega) side_setCell (fun b hb=>setCell_ne hb) setCell_size (.late hp1 (nb+j) 3 (List.getElem?_set_self (List.getElem?_eq_some_iff.1 hst).1) (.inl rfl) (by simpa using hat.setSt _) fun i k hi e=>?_) hq
     (.inr ⟨by omega,leaves_shy hlv hnw hes hdi,fun h=>by omega,fun _ _=>?_⟩) (fun h=>by have:=zg_running (k:=3) hq;rw [h] at this;cases this) (.inl fun hx=>absurd ((hat.setSt _).unique hx).2 (by decide))
    ·rw [List.getElem?_set_ne fun h=>e h.symm] at hi
     have h1:=hone i k hi e
     have h2:=hlate k (List.mem_of_getElem? hi)
     simp at h1
     omega
    ·rw [Deaf_own,hd];rfl
   ·obtain ⟨q,hq⟩:=hq0 hl
    refine key (k':=0) (m':=q) hstep hes (by omega) side_setCell (fun b hb=>setCell_ne hb) setCell_size (.quiet v wt (hat.setSt _) (by omega) (fun k hk=>?_) hwt (fun hp1=>?_) ?_) (by rw [hd];exact hq)
     (.inr ⟨by omega,leaves_shy hlv hnw hes hdi,fun h=>by omega,fun h=>by omega⟩) (fun h=>by have:=QuitsD.status hq;rw [h] at this;rcases this with h | h <;> cases h) (.inl fun hx=>absurd ((hat.setSt _).unique hx).2 (by decide))
    ·rcases List.mem_or_eq_of_mem_set hk with hk | rfl
     ·exact hlate k hk
     ·exact .inl rfl
    ·have:wt=1:=by rw [hwt,hp1]
     omega
    ·revert hb
     cases X.wt <;> simp <;> omega
  ·-- it is deaf from here on
   obtain ⟨hr,g',q,hstep,hq⟩:=(show ZK P L.tWg X.wg g w from hz)
   obtain ⟨h6,_,_⟩ | ⟨_,hlv,hdf,_⟩:=hkn
   ·omega
   have hd:Deaf t (nb+j+1)=0:=hdf rfl
   have hes:∀ e∈#[mk .disable],EvShy X.wg e:=fun e he=>by simp at he;subst he;exact .inl ⟨_,rfl,rfl,fun a h=>by cases h⟩
   refine key (k':=4) (m':=q) hstep hes (by omega) Side.refl (fun b hb=>rfl) rfl (hG.wg.far hst (by omega) (by omega) fun _ _ h=>h) hq
    (.inr ⟨by omega,leaves_shy hlv hnw hes fun i e he ht=>?_,fun h=>by omega,fun _ _=>?_⟩) (fun h=>by have:=zg_running (k:=4) hq;rw [h] at this;cases this) (.inl (hG.wg.notFree hst (by omega)))
   ·rcases i with _ | i
    ·simp at he;subst he;exact absurd rfl ht
    ·simp at he
   ·rw [Deaf_own,hd];rfl
  ·-- it says that it's through
   obtain ⟨hr,g',q,hstep,hq⟩:=(show ZR P L.tWg X.wg g w from hz)
   obtain ⟨_,hkh,hd⟩ | ⟨h5,_⟩:=hkn
   ·have hes:∀ e∈#[mk (.releaseMerge (stA X.wg))],EvShy X.wg e:=fun e he=>by simp at he;subst he;exact .inl ⟨_,rfl,rfl,fun a h=>by cases h⟩
    have e0:(t++MemOp.ofEvents (nb+j+1) g.frame.fn g.frame.place #[mk (.releaseMerge (stA X.wg))])[t.size]?=some { g:=nb+j+1,fn:=g.frame.fn,pos:=g.frame.place,act:=.mark (.releaseMerge (stA X.wg)) }:=by
     rw [ofEvents_eq,Array.getElem?_append_right (Nat.le_refl _)];simp [mk];rfl
    have hkb:∀ i,Knows t (nb+j+1) i→Before (t++MemOp.ofEvents (nb+j+1) g.frame.fn g.frame.place #[mk (.releaseMerge (stA X.wg))]) i t.size:=fun i hi=>.inr (hi.hb_new (Nat.le_refl _) e0 rfl)
    refine key (k':=5) (m':=q) hstep hes (by omega) Side.refl (fun b hb=>rfl) rfl (hG.wg.far hst (by omega) (by omega) fun _ _ h=>h) hq
     (.inr ⟨by omega,⟨t.size,⟨act?_of e0,g?_of e0,_,g?_of e0,by rw [deaf_old (Nat.le_refl _)];exact hd⟩,shy_kn hkh hkb (shy_of hes) hnw,fun i hi hc=>?_⟩,fun _=>?_,fun h=>by omega⟩)
     (fun h=>by have:=zg_running (k:=5) hq;rw [h] at this;cases this) (.inl (hG.wg.notFree hst (by omega)))
    ·rcases Nat.lt_or_ge i t.size with hlt | hge
     ·rw [g?_app hlt] at hi
      obtain ⟨op,ho,hog⟩:=Option.map_eq_some_iff.1 (show (t[i]?).map (·.g)=some (nb+j+1) from hi)
      exact hkb i (by have:=knows_own ho;rwa [hog] at this)
     ·have:=g?_lt hi
      rw [ofEvents_eq] at this
      simp at this
      exact .inl (by omega)
    ·rw [Deaf_own,hd];rfl
   ·omega
  ·exact hz.elim
 ·refine key (k':=k+1) (m':=m') hstep (fun e he=>by simp at he) (by omega) Side.refl (fun b hb=>rfl) rfl (hG.wg.same hst fun _ _ h=>h) hz' ?_ (fun h=>by have:=zg_running hz';rw [h] at this;cases this) (.inl (hG.wg.notFree hst (by omega)))
  rw [ofEvents_none,Array.append_empty]
  exact hkn
end
end Go.PB
