/-
  Part 6 of 8.
-/
import Derived.Test.YthghlchcjeocpaaQy5
import Derived.Test.YthghlchcjeocpaaQy2
import Derived.Test.YthghlchcjeocpaaQy4
import Derived.Test.YthghlchcjeocpaaQy3
import Derived.Conc.Holds
import Derived.JoinedCond
import Derived.Conc.WgGenN2
set_option linter.unusedVariables false
set_option linter.unusedSimpArgs false
namespace Go.Proofs.Ythghlchcjeocpaa
open Go Go.PB
attribute [local irreducible] Mo Bin Eql Tr Wo Ap
section
section
variable {B:Hand} [Lets B] {L:List HProp} {x:B.X}
theorem width_tr {n:Int} (hn:-9223372036854775808≤n∧n≤9223372036854775807) :
  Tr Try.prog B 10 [.int .i64 n] L x fun v L' x'=>∃ k:Nat,1≤k∧k≤3∧v=.int .i64 ((2^k:Nat):Int)∧L'=L∧x'=x:=by
 have h1:=Int.emod_nonneg n (by omega:(3:Int)≠0)
 have h2:=Int.emod_lt_of_pos n (by omega:(0:Int)<3)
 refine tr_of_body Try.func10 rfl Try.ntmps10 (by simp) fun um Q _ hQ=>?_
 simp only [argE,Nat.zero_add,Nat.reduceAdd]
 repeat (first | refine we_seq ?_ | (refine wR ?_;try simp only [oS]) | refine wo_nil ?_ | refine wM ?_ | refine wA ?_)
 refine wo_call (.cons rfl (.cons rfl .nil)) trivial (within_tr hn (by omega)) ?_
 rintro v L' x' ⟨rfl,rfl,rfl⟩
 obtain ⟨k,hk⟩:∃ k:Nat,n%3=k:=⟨(n%3).toNat,by omega⟩
 rw [hk]
 have hk3:k≤2:=by omega
 have hw:IntKind.i64.wrap (2*2^(min (k:Int).toNat IntKind.i64.bits))=((2^(k+1):Nat):Int):=by
  have:k=0∨k=1∨k=2:=by omega
  rcases this with rfl | rfl | rfl <;> rfl
 repeat (first | (apply wo_po;apply mo_bin;exact rfl;exact rfl;apply bin_shl;omega;exact hw;exact gY) | refine wo_nil ?_ | refine wA ?_ | refine we_ret ?_)
 (first | refine or1 Try.func10 Try.results10 hQ rfl ?_ | refine on1 Try.func10 Try.results10 hQ rfl ?_)
 exact ⟨k+1,by omega,by omega,rfl,rfl,rfl⟩
end
variable {B:Hand} [Lets B] {L F:List HProp} {x:B.X} {r b n k:Nat} {s:Nat→Nat} {row:List Nat}
theorem new_lone (hn:n=2^k) (hk0:1≤k) (hk:k≤10) :
  Tr Try.prog B 11 [.int .i64 n] L x fun v L' x'=>∃ r b,∃ h:r≠b,∃ s,v=.tuple #[.pointer (some ⟨r,0,none⟩),.int .i64 0]∧RowAt n s []∧L'=(queueAcc x r b n h).C s::L∧x'=x:=by
 have hle:n≤1024:=by rw [hn];exact pow_le hk
 refine (new_tr hn hk0 hk).mono ?_
 rintro v L' x' ⟨r,b,rfl,hne,rfl,rfl⟩
 refine ⟨r,b,hne,seqs n,rfl,⟨by simp,rfl,by show 0<18446744073709551616;decide,fun i v hi=>by simp at hi,fun i _ hi=>?_⟩,rfl,rfl⟩
 show seqs n (2+2*((0+i)%n))=(0+i)%18446744073709551616
 rw [Nat.zero_add,Nat.mod_eq_of_lt hi,Nat.mod_eq_of_lt (by omega)]
 unfold seqs
 rw [if_pos (by omega)]
 omega
theorem put_lone (h:r≠b) (hn:n=2^k) (hk0:1≤k) (hk:k≤10) (R:RowAt n s row) {v:Nat} (hv:v<18446744073709551616) (hh:Has L ((queueAcc x r b n h).C s) F) :
  Tr Try.prog B 13 [.pointer (some ⟨r,0,none⟩),.nilIface,.int .u64 v] L x fun v' L' x'=>∃ s',v'=.tuple #[.bool (decide (row.length<n)),.int .i64 0]∧RowAt n s' (if row.length<n then row++[v] else row)∧L'=(queueAcc x r b n h).C s'::F∧x'=x :=
 (put_tr (A:=queueAcc x r b n h) (queue_at h hn hk) hv (put_row hn hk0 hk R) hh).mono fun v' L' x' ⟨q,s',⟨h1,h2⟩,h3,h4,h5⟩=>⟨s',h1▸h3,h2,h4,h5⟩
theorem take_lone (h:r≠b) (hn:n=2^k) (hk0:1≤k) (hk:k≤10) (R:RowAt n s row) (hh:Has L ((queueAcc x r b n h).C s) F) :
  Tr Try.prog B 14 [.pointer (some ⟨r,0,none⟩),.nilIface] L x fun v' L' x'=>∃ s',row.head?.getD 0<18446744073709551616∧v'=.tuple #[.int .u64 (row.head?.getD 0:Nat),.bool row.head?.isSome,.int .i64 0]∧RowAt n s' row.tail∧L'=(queueAcc x r b n h).C s'::F∧x'=x :=
 (take_tr (A:=queueAcc x r b n h) (queue_at h hn hk) (take_row hn hk0 hk R) hh).mono fun v' L' x' ⟨q,s',⟨h1,h2⟩,h3,h4,h5,h6⟩=>⟨s',h1▸h3,h1▸h4,h2,h5,h6⟩
theorem drain_lone (h:r≠b) (hn:n=2^k) (hk0:1≤k) (hk:k≤10) (R:RowAt n s row) (hh:Has L ((queueAcc x r b n h).C s) F) :
  Tr Try.prog B 15 [.pointer (some ⟨r,0,none⟩),.nilIface] L x fun v' L' x'=>∃ s' v,v'=.tuple #[v,.int .i64 0]∧RowAt n s' []∧L'=(queueAcc x r b n h).C s'::vec 1 v (row.map num)::F∧x'=x :=
 (drain_tr (A:=queueAcc x r b n h) (queue_at h hn hk) (drain_row hn hk0 hk n R.len R) hh).mono fun v' L' x' ⟨out,s',v,⟨h1,h2⟩,h3,h4,h5⟩=>⟨s',v,h3,h2,by rw [h4,h1,List.nil_append],h5⟩
theorem works_tr:Tr Try.prog B 9 [] L x fun v L' x'=>v=.bool true∧L'=L∧x'=x:=by
 refine Tr.post (R:=fun v L' x'=>∃ c,v=.bool true∧L'=c::L∧x'=x) ?_ (by rintro v L' x' ⟨c,rfl,rfl,rfl⟩;exact ⟨L,⟨rfl,rfl,rfl⟩,fun h s=>star_drop s⟩)
 refine tr_of_body Try.func9 rfl Try.ntmps9 (by simp) fun um Q _ hQ=>?_
 simp only [argE,Nat.zero_add,Nat.reduceAdd]
 repeat (first | refine we_seq ?_ | (refine wR ?_;try simp only [oS]) | refine wo_nil ?_ | refine wA ?_)
 refine wo_call (.cons rfl .nil) trivial (new_lone (n:=2) (k:=1) rfl (by omega) (by omega)) ?_
 rintro v L' x' ⟨r,b,h,s,rfl,R,rfl,rfl⟩
 repeat (first | refine we_seq ?_ | (refine wR ?_;try simp only [oS]) | refine wo_nil ?_ | refine wM ?_ | refine wA ?_ | (apply wo_po;apply mo_extract;exact rfl;exact rfl;exact gY))
 refine wo_call (.cons rfl (.cons rfl (.cons rfl .nil))) trivial (put_lone (k:=1) (v:=5) h rfl (by omega) (by omega) R (by omega) .here) ?_
 rintro v L' x' ⟨s,rfl,R,rfl,rfl⟩
 repeat (first | refine we_seq ?_ | (refine wR ?_;try simp only [oS]) | refine wo_nil ?_ | refine wM ?_ | refine wA ?_ | (apply wo_po;apply mo_extract;exact rfl;exact rfl;exact gY))
 refine wo_call (.cons rfl (.cons rfl .nil)) trivial (take_lone (k:=1) h rfl (by omega) (by omega) R .here) ?_
 rintro v L' x' ⟨s,_,rfl,R,rfl,rfl⟩
 repeat (first | refine we_seq ?_ | (refine wR ?_;try simp only [oS]) | refine wo_nil ?_ | refine wM ?_ | refine wA ?_ | (apply wo_po;apply mo_extract;exact rfl;exact rfl;exact gY))
 refine wo_call (.cons rfl (.cons rfl .nil)) trivial (take_lone (k:=1) h rfl (by omega) (by omega) R .here) ?_
 rintro v L' x' ⟨s,_,rfl,R,rfl,rfl⟩
 repeat (first | refine weqlT ?_ | refine we_seq ?_ | (refine wR ?_;try simp only [oS]) | refine wo_nil ?_ | refine wM ?_ | refine wA ?_ | refine wK ?_ | (apply wo_po;apply mo_extract;exact rfl;exact rfl;exact gY) | (apply wo_po;apply mo_not;exact rfl;exact gY) | (apply wo_po;apply mo_bin;exact rfl;exact rfl;exact bin_eql;exact gY) | refine we_ret ?_)
 (first | refine or1 Try.func9 Try.results9 hQ rfl ?_ | refine on1 Try.func9 Try.results9 hQ rfl ?_)
 exact ⟨_,rfl,rfl,rfl⟩
structure DoAt (L:List HProp) (a:Option Addr) (l:List (Int × Nat)):Prop where
 rng:∀ y∈l,(-9223372036854775808≤y.1∧y.1≤9223372036854775807)∧y.2<18446744073709551616
 at_:∀ i y,l[i]?=some y→∃ b o,a=some ⟨b,o,none⟩∧Rd L b (o+2*i) (.int .i64 y.1)∧Rd L b (o+2*i+1) (.int .u64 y.2)
end
end Go.Proofs.Ythghlchcjeocpaa
namespace Go.Proofs.Ythghlchcjeocpaa
open Go Go.PB
attribute [local irreducible] Mo Bin Eql Tr Wo Ap Wle
section
theorem q_begin {n Bd m:Nat} {o:Nat→List Nat} {T:Nat→Prop} {qs:List QT} {f:Nat→Nat} (hn:2≤n) (hf0:f 0=0) (hf1:f 1=0) (hf:∀ i,i<n→f (2+2*i)=i) (hm:qs.length=m)
  (hq:∀ (j:Nat) (q:QT),qs[j]?=some q→q.me=j∧q.pa=[]∧q.ta=[]∧q.st=.load∧(q.cs.filterMap id).Sublist (o j)∧(none∈q.cs→T j)) (hb:sumN (qs.map qrem)≤Bd):QI n Bd ⟨f,[],[]⟩ qs∧QE m o T ⟨f,[],[]⟩ qs:=by
 have hnh:∀ (j:Nat) (q:QT),qs[j]?=some q→q.st.holds=false:=fun j q h=>by rw [(hq j q h).2.2.2.1];rfl
 refine ⟨⟨hf0,hf1,Nat.le_refl _,by simpa using hb,fun i hi=>⟨i,Nat.mod_eq_of_lt hi,Nat.zero_le _,by show i<0+n;omega,.inl ⟨hf i hi,Nat.zero_le _,fun h=>absurd h (Nat.not_lt_zero i)⟩⟩,fun j q h=>⟨(hq j q h).1,?_⟩,fun j j' q q' t h1 h2 hh=>?_,fun j q h=>?_,fun j q h=>?_⟩,⟨hm,fun x hx=>by simp at hx,fun x hx=>by simp at hx,fun j q h=>?_⟩⟩
 ·obtain ⟨_,_,_,e,_⟩:=hq j q h
  obtain ⟨me,cs,pa,ta,st⟩:=q
  replace e:st=.load:=e
  subst e
  cases cs <;> first | rfl | trivial
 ·rcases hh with ⟨h3,_⟩ | ⟨h3,_⟩
  ·exact (not_puts (hnh j q h1) h3).elim
  ·exact (not_takes (hnh j q h1) h3).elim
 ·rw [(hq j q h).2.1,pendP_none (hnh j q h)];rfl
 ·rw [(hq j q h).2.2.1,pendT_none (hnh j q h)];rfl
 ·obtain ⟨h1,h2,_,_,h5,h6⟩:=hq j q h
  exact ⟨h1,by rw [h2];exact h5,h6⟩
end
end Go.Proofs.Ythghlchcjeocpaa
namespace Go.Proofs.Ythghlchcjeocpaa
open Go Go.PB
attribute [local irreducible] Mo Bin Eql Tr Wo Ap Wle
attribute [local instance] Pass.of_no
section
theorem row_cellsQ {b:Nat} {v:Value} {L:List HProp}:∀ (n o:Nat) {h:Hp},Star (arr b o (List.replicate n v)::L) h→Star (all ((List.range' o n).map fun i=>arr b i [v])::L) h
 | 0,o,h,s=>star_shut (M:=[]) (star_drop s)
 | n+1,o,h,s=>by
  rw [List.replicate_succ] at s
  have s1:Star (arr b o [v]::arr b (o+1) (List.replicate n v)::L) h:=star_cut (us:=[v]) s
  rw [List.range'_succ,List.map_cons]
  exact cons_all (star_map s1 (fun _ z=>z) fun _ z=>row_cellsQ n (o+1) z)
theorem sum_le {c:Nat}:∀ {l:List Nat},(∀ a∈l,a≤c)→sumN l≤c*l.length
 | [],_=>Nat.zero_le _
 | a::l,h=>by
  have h1:=h a (by simp)
  have h2:=sum_le (c:=c) (l:=l) fun b hb=>h b (by simp [hb])
  simp only [sumN,List.foldr_cons,List.length_cons,Nat.mul_add,Nat.mul_one] at h2 ⊢;omega
def boxesQ (ts:List Nat):List HProp:=ts.mapIdx fun i b=>arr b 0 [.int .i64 (i:Nat)]
theorem boxesQ_snoc {ts:List Nat} {b:Nat}:boxesQ (ts++[b])=boxesQ ts++[arr b 0 [.int .i64 (ts.length:Nat)]]:=by
 unfold boxesQ
 rw [List.mapIdx_append]
 simp
section
variable {Ro:HProp} {xb yb qb pB tB r b n pb tb pn tn T j:Nat} {kp kt:List Nat} {Wf:Nat→Nat}
end
end
end Go.Proofs.Ythghlchcjeocpaa
namespace Go.Proofs.Ythghlchcjeocpaa
open Go Go.PB
attribute [local irreducible] Mo Bin Eql Tr Wo Ap Wle
section
def HdrOk (L:List HProp) (vs:List Value) (ls:List (List Nat)):Prop:=vs.length=ls.length∧∀ (i:Nat) l,ls[i]?=some l→∃ a c,vs[i]?=some (.slice a l.length c)∧RdsO L a l.length (l.map num)
theorem mGet_put {k k':Int} {v:Value}:∀ {l:List (Int × Value)},mGet (mPut l k v) k'=if k'=k then some v else mGet l k'
 | []=>by unfold mPut mGet;rfl
 | e::l=>by
  unfold mPut
  by_cases h:k=e.1
  ·rw [if_pos h]
   unfold mGet
   by_cases h2:k'=k
   ·rw [if_pos h2,if_pos h2]
   ·rw [if_neg h2,if_neg h2,if_neg (fun h3=>h2 (h3.trans h.symm))]
  ·rw [if_neg h]
   unfold mGet
   by_cases h2:k'=e.1
   ·rw [if_pos h2,if_neg (fun h3=>h (h3.symm.trans h2)),if_pos h2]
   ·rw [if_neg h2,if_neg h2];exact mGet_put
section
variable {P:Program} {e:Env} {ty:TypeId} {L F:List HProp} {ki:IntKind} {b:Nat} {l:List (Int × Value)}
theorem mo_look2 {t key el:Nat} {kk:IntKind} {zv u:Value} {m ko:Operand} {k:Int} [p:Und P t (.map key el)] [pk:InT P key kk] [z:Zer P el zv] (hG:mGet l k=some u) (hm:ev e m=some (.map (some b))) (hk:ev e ko=some (.int ki k)) (hh:Has L (mapC ki b l) F) :
  Mo P e (.lookup t m ko true) ty L fun v' L'=>v'=.tuple #[u,.bool true]∧L'=L:=by
 have h:=mo_lookup2 (P:=P) (e:=e) (ty:=ty) (L:=L) (F:=F) (t:=t) (ki:=ki) (b:=b) (l:=l) (m:=m) (ko:=ko) (k:=k) (el:=el) (key:=key) (kk:=kk) (zv:=zv) hm hk hh
 rw [hG] at h
 exact h
theorem mo_look1 {t key el:Nat} {kk:IntKind} {zv u:Value} {m ko:Operand} {k:Int} [p:Und P t (.map key el)] [pk:InT P key kk] [z:Zer P el zv] (hG:mGet l k=some u∨(mGet l k=none∧zv=u)) (hm:ev e m=some (.map (some b))) (hk:ev e ko=some (.int ki k)) (hh:Has L (mapC ki b l) F) :
  Mo P e (.lookup t m ko false) ty L fun v' L'=>v'=u∧L'=L:=by
 have h:=mo_lookup1 (P:=P) (e:=e) (ty:=ty) (L:=L) (F:=F) (t:=t) (ki:=ki) (b:=b) (l:=l) (m:=m) (ko:=ko) (k:=k) (el:=el) (key:=key) (kk:=kk) (zv:=zv) hm hk hh
 rcases hG with hG | ⟨hG,rfl⟩ <;> rw [hG] at h <;> exact h
end
section
variable {B:Hand} [Lets B] {L:List HProp} {x:B.X}
theorem prs_nil {qs:List (List Nat)}:prs (qs++[[]])=prs qs:=by rw [prs_snoc];simp [ents]
theorem prs_len {qs:List (List Nat)}:(prs qs).length=qs.flatten.length:=by rw [← List.length_map (f:=(·.1)),prs_fst]
theorem flat_split {ps:List (List Nat)} {l:List Nat} {k i v:Nat} (hk:ps[k]?=some l) (hi:l[i]?=some v):ps.flatten=((ps.take k).flatten++l.take i)++v::(l.drop (i+1)++(ps.drop (k+1)).flatten):=by
 obtain ⟨h1,e1⟩:=List.getElem?_eq_some_iff.1 hk
 obtain ⟨h2,e2⟩:=List.getElem?_eq_some_iff.1 hi
 have d1:ps.drop k=l::ps.drop (k+1):=by rw [List.drop_eq_getElem_cons h1,e1]
 have d2:l.drop i=v::l.drop (i+1):=by rw [List.drop_eq_getElem_cons h2,e2]
 conv=>lhs;rw [← List.take_append_drop k ps,List.flatten_append,d1,List.flatten_cons,← List.take_append_drop i l,d2]
 simp
theorem flat_len {ps:List (List Nat)} {l:List Nat} {k i:Nat} (hk:ps[k]?=some l) (hi:i≤l.length):(prs (ps.take k++[l.take i])).length≤ps.flatten.length:=by
 obtain ⟨h1,e1⟩:=List.getElem?_eq_some_iff.1 hk
 have d1:ps.drop k=l::ps.drop (k+1):=by rw [List.drop_eq_getElem_cons h1,e1]
 rw [prs_len]
 conv=>rhs;rw [← List.take_append_drop k ps,List.flatten_append,d1,List.flatten_cons]
 simp only [List.flatten_append,List.length_append,List.flatten_cons,List.flatten_nil,List.append_nil,List.length_take]
 omega
theorem row_len {ps:List (List Nat)} {l:List Nat} {k:Nat} (hk:ps[k]?=some l):l.length≤ps.flatten.length:=by
 have:=flat_len hk (Nat.le_refl l.length)
 rw [prs_len] at this
 simp only [List.flatten_append,List.length_append,List.flatten_cons,List.flatten_nil,List.append_nil,List.take_length] at this
 omega
theorem flat_new {ps:List (List Nat)} {l:List Nat} {k i v:Nat} (hnd:ps.flatten.Nodup) (hk:ps[k]?=some l) (hi:l[i]?=some v):v∉(prs (ps.take k++[l.take i])).map (·.1):=by
 rw [prs_fst,List.flatten_append]
 rw [flat_split hk hi] at hnd
 have:=(List.nodup_append.1 hnd).2.2
 intro hm
 exact this v (by simpa using hm) v List.mem_cons_self rfl
theorem prs_step {ps:List (List Nat)} {l:List Nat} {k i v:Nat} (hk:ps[k]?=some l) (hi:l[i]?=some v):prs (ps.take k++[l.take (i+1)])=prs (ps.take k++[l.take i])++[((v,(k,i)):KE)]:=by
 obtain ⟨h1,e1⟩:=List.getElem?_eq_some_iff.1 hk
 obtain ⟨h2,e2⟩:=List.getElem?_eq_some_iff.1 hi
 rw [prs_snoc,prs_snoc,List.take_succ_eq_append_getElem h2,ents_snoc,e2,List.length_take,List.length_take,Nat.min_eq_left (by omega),Nat.min_eq_left (by omega),List.append_assoc]
theorem prs_row {ps:List (List Nat)} {l:List Nat} {k:Nat} (hk:ps[k]?=some l):prs (ps.take k++[l.take l.length])=prs (ps.take (k+1)):=by
 obtain ⟨h1,e1⟩:=List.getElem?_eq_some_iff.1 hk
 rw [List.take_length,List.take_succ_eq_append_getElem h1,e1]
def kInv1 (put tak lef:Value) (mb:Nat) (ps:List (List Nat)) (L:List HProp) (x:B.X):PB.Inv Nat B.X where
 e:=fun k=>[(0,put),(1,tak),(2,lef),(6,.bool false),(7,.map (some mb)),(8,.int .i64 ((prs (ps.take k)).length:Nat)),(9,.int .i64 (k:Nat))]
 L:=fun k=>mapC .u64 mb ((prs (ps.take k)).map kEnc)::L
 x:=fun _=>x
 ok:=fun k=>k≤ps.length
def kInv2 (put tak lef:Value) (mb:Nat) (ps:List (List Nat)) (k:Nat) (l:List Nat) (L:List HProp) (x:B.X):PB.Inv Nat B.X where
 e:=fun i=>[(0,put),(1,tak),(2,lef),(6,.bool false),(7,.map (some mb)),(8,.int .i64 ((prs (ps.take k++[l.take i])).length:Nat)),(9,.int .i64 (k:Nat)),(10,.int .i64 (i:Nat))]
 L:=fun i=>mapC .u64 mb ((prs (ps.take k++[l.take i])).map kEnc)::L
 x:=fun _=>x
 ok:=fun i=>i≤l.length
def kInv3 (put tak lef all_:Value) (mb:Nat) (ls:List (List Nat)) (L:List HProp) (x:B.X):PB.Inv (Nat × List KE) B.X where
 e:=fun i=>[(0,put),(1,tak),(2,lef),(6,.bool false),(7,.map (some mb)),(8,.int .i64 (i.2.length:Nat)),(11,all_),(12,.int .i64 (i.1:Nat))]
 L:=fun i=>mapC .u64 mb (i.2.map kEnc)::L
 x:=fun _=>x
 ok:=fun i=>i.1≤ls.length∧(i.2.map (·.1)).Nodup∧i.2.length≤1000000∧(∀ y∈i.2,y.1<18446744073709551616∧y.2.1<1000000∧y.2.2<1000000)∧KeptA i.2 (ls.drop i.1)
structure K4 where
 i:Nat
 R:List KE
 f:Nat→Nat
 lm:List (Int × Value)
def kInv4 (put tak lef all_:Value) (mb lb:Nat) (ls:List (List Nat)) (t:Nat) (l:List Nat) (L:List HProp) (x:B.X):PB.Inv K4 B.X where
 e:=fun i=>[(0,put),(1,tak),(2,lef),(6,.bool false),(7,.map (some mb)),(8,.int .i64 (i.R.length:Nat)),(11,all_),(12,.int .i64 (t:Nat)),(13,.map (some lb)),(14,.int .i64 (i.i:Nat))]
 L:=fun i=>mapC .u64 mb (i.R.map kEnc)::mapC .i64 lb i.lm::L
 x:=fun _=>x
 ok:=fun i=>i.i≤l.length∧(i.R.map (·.1)).Nodup∧i.R.length≤1000000∧(∀ y∈i.R,y.1<18446744073709551616∧y.2.1<1000000∧y.2.2<1000000)∧KeptL i.R (l.drop i.i) i.f∧KeptA (rmvs i.R (l.drop i.i)) (ls.drop (t+1)) ∧
  ∀ k:Nat,mGet i.lm (k:Nat)=some (.int .i64 (i.f k:Nat))∨(mGet i.lm (k:Nat)=none∧i.f k=0)
set_option maxHeartbeats 4000000 in
theorem kept_tr {pa ta la:Option Addr} {pn pc tn tc ln lc:Nat} {pvs tvs:List Value} {ps ts:List (List Nat)} {left:List Nat} (hp:RdsO L pa pn pvs) (hps:HdrOk L pvs ps) (ht:RdsO L ta tn tvs) (hts:HdrOk L tvs ts) (hl:RdsO L la ln (left.map num))
  (hb1:ps.length≤1000) (hb2:ts.length≤1000) (hb3:ps.flatten.length≤100000) (hb4:∀ v∈ps.flatten,v<18446744073709551616) (hnd:ps.flatten.Nodup) (hbl:∀ l∈ts++[left],l.length≤1000000) (hK:KeptA (prs ps) (ts++[left])) :
  Tr Try.prog B 29 [.slice pa pn pc,.slice ta tn tc,.slice la ln lc] L x fun v L' x'=>v=.bool true∧x'=x:=by
 have hpn:pn=ps.length:=by have:=hp.1;have:=hps.1;omega
 have htn:tn=ts.length:=by have:=ht.1;have:=hts.1;omega
 have hln:ln=left.length:=by have:=hl.1;simpa using this
 subst hpn
 subst htn
 subst hln
 refine tr_of_body Try.func29 rfl Try.ntmps29 (by simp) fun um Q _ hQ=>?_
 simp only [argE,Nat.zero_add,Nat.reduceAdd]
 repeat (first | (apply wo_mo;apply mo_makeMap .u64;exact trivial) | refine we_seq ?_ | (refine wR ?_;try simp only [oS]) | refine wo_nil ?_ | refine wA ?_)
 rintro v' L' ⟨mb,rfl,rfl⟩
 repeat (first | refine we_seq ?_ | (refine wR ?_;try simp only [oS]) | refine wo_nil ?_ | refine wA ?_ | refine we_block ?_)
 refine we_loopN (kInv1 (.slice pa ps.length pc) (.slice ta ts.length tc) (.slice la left.length lc) mb ps L x) (fun k=>ps.length-k) 0 (Nat.zero_le _) ⟨rfl,rfl,rfl,rfl,rfl,rfl,rfl,trivial⟩ .refl rfl ?_
 intro k hk
 replace hk:k≤ps.length:=hk
 simp only [kInv1]
 by_cases hlt:k<ps.length
 ·obtain ⟨l,hlk⟩:∃ l,ps[k]?=some l:=⟨_,List.getElem?_eq_getElem hlt⟩
  obtain ⟨a,c,hv,hrow⟩:=hps.2 k l hlk
  obtain ⟨pb,po,rfl,hpr⟩:=hp.rds (by omega)
  have hhd:=hpr k _ hv
  repeat (first | refine wlssT ?_ | refine we_seq ?_ | (refine wR ?_;try simp only [oS]) | refine wo_nil ?_ | refine wM ?_ | refine wA ?_ | refine wE ?_ | refine wT ?_ | refine we_skip ?_ | refine we_block ?_)
  refine we_loopN (kInv2 (.slice (some ⟨pb,po,none⟩) ps.length pc) (.slice ta ts.length tc) (.slice la left.length lc) mb ps k l L x) (fun i=>l.length-i) 0 (Nat.zero_le _) ?_ ?_ rfl ?_
  ·simp only [kInv2,List.take_zero,prs_nil]
   exact ⟨rfl,rfl,rfl,rfl,rfl,rfl,rfl,rfl,trivial⟩
  ·simp only [kInv2,List.take_zero,prs_nil]
   exact .refl
  intro i hi
  replace hi:i≤l.length:=hi
  simp only [kInv2]
  have hfl:=flat_len hlk hi
  have hrl:=row_len hlk
  have h9:Rd (mapC .u64 mb ((prs (ps.take k++[l.take i])).map kEnc)::L) pb (po+k) (.slice a l.length c):=.there hhd
  by_cases hlt2:i<l.length
  ·obtain ⟨v,hvi⟩:∃ v,l[i]?=some v:=⟨_,List.getElem?_eq_getElem hlt2⟩
   obtain ⟨b,o,rfl,hrd⟩:=hrow.rds (by omega)
   have h10:Rd (mapC .u64 mb ((prs (ps.take k++[l.take i])).map kEnc)::L) b (o+i) (num v):=.there (hrd i (num v) (by rw [List.getElem?_map,hvi];rfl))
   have hnew:=kPut (k:=k) (i:=i) (flat_new hnd hlk hvi)
   repeat (first | (apply wo_po;apply mo_index1;exact rfl;exact rfl;omega;exact gY) | (apply wo_po;apply mo_load;exact rfl;(first | exact h9 | exact h10);exact trivial) | refine wlssT ?_ | refine we_seq ?_ | (refine wR ?_;try simp only [oS]) | refine wo_nil ?_ | refine wM ?_ | refine wE ?_ | refine wT ?_ | refine we_skip ?_ | refine we_block ?_)
   repeat (first | (apply wo_po;apply mo_buildArr (pv:=[(0,_),(1,_)]);exact rfl;exact .cons rfl (.cons rfl .nil);exact rfl;exact trivial) | (apply wo_pm;apply mo_mapUpdate (ki:=.u64) (k:=(v:Nat));exact rfl;exact rfl;exact rfl;exact .here;exact trivial) | (refine wR ?_;try simp only [oS]) | refine wo_nil ?_ | refine wM ?_ | refine wA ?_ | refine wadd ?_)
   refine at_roundS (B:=B) (I:=kInv2 (.slice (some ⟨pb,po,none⟩) ps.length pc) (.slice ta ts.length tc) (.slice la left.length lc) mb ps k l L x) (R:=fun j=>l.length-j<l.length-i) (i+1) (by omega) (show i+1≤l.length by omega) ?_ (fun h st=>?_) rfl
   ·simp only [kInv2,prs_step hlk hvi,List.length_append,List.length_singleton]
    exact ⟨rfl,rfl,rfl,rfl,rfl,rfl,rfl,rfl,trivial⟩
   ·show Star (mapC .u64 mb ((prs (ps.take k++[l.take (i+1)])).map kEnc)::L) h
    rw [prs_step hlk hvi,← hnew]
    exact st
  ·obtain rfl:i=l.length:=by omega
   repeat (first | (apply wo_po;apply mo_index1;exact rfl;exact rfl;omega;exact gY) | (apply wo_po;apply mo_load;exact rfl;exact h9;exact trivial) | refine wlssF ?_ | refine we_seq ?_ | (refine wR ?_;try simp only [oS]) | refine wo_nil ?_ | refine wM ?_ | refine wA ?_ | refine wadd ?_ | refine wE ?_ | refine wF ?_ | refine we_exit ?_)
   refine at_roundS (B:=B) (I:=kInv1 (.slice (some ⟨pb,po,none⟩) ps.length pc) (.slice ta ts.length tc) (.slice la left.length lc) mb ps L x) (R:=fun j=>ps.length-j<ps.length-k) (k+1) (by omega) (show k+1≤ps.length by omega) ?_ (fun h st=>?_) rfl
   ·simp only [kInv1,← prs_row hlk]
    exact ⟨rfl,rfl,rfl,rfl,rfl,rfl,rfl,trivial⟩
   ·show Star (mapC .u64 mb ((prs (ps.take (k+1))).map kEnc)::L) h
    rw [← prs_row hlk]
    exact st
 obtain rfl:k=ps.length:=by omega
 rw [List.take_length]
 repeat (first | refine wlssF ?_ | refine we_seq ?_ | (refine wR ?_;try simp only [oS]) | refine wo_nil ?_ | refine wM ?_ | refine wA ?_ | refine wE ?_ | refine wF ?_ | refine we_exit ?_)
 -- all lists,one behind the other
 refine wo_star (vec 1 (.slice none 0 0) []::mapC .u64 mb ((prs ps).map kEnc)::L) (fun h st=>vec_nil st) ?_
 have hone:∀ w∈tvs,one w=true:=fun w hw=>by
  obtain ⟨i,hi⟩:=List.mem_iff_getElem?.1 hw
  have hlt:=(List.getElem?_eq_some_iff.1 hi).1
  obtain ⟨a,c,e,_⟩:=hts.2 i _ (List.getElem?_eq_getElem (by have:=hts.1;omega))
  rw [hi] at e;cases e;rfl
 have hrd1:ts.length=0∨∃ xb xo,ta=some ⟨xb,xo,none⟩∧Rds (vec 1 (.slice none 0 0) []::mapC .u64 mb ((prs ps).map kEnc)::L) xb xo tvs:=ht.2.imp id fun ⟨b,o,e,r⟩=>⟨b,o,e,fun i v hi=>.there (.there (r i v hi))⟩
 repeat (first | (apply wo_mo;apply mo_append (sz:=1) (cs:=[]) (new:=tvs);exact rfl;exact rfl;exact rfl;exact rfl;exact .here;(have:=ht.1;omega);exact hrd1;exact hone;(simp only [sliceLen];omega);exact trivial))
 rintro v1 L1 rfl
 repeat (first | (apply wo_mo;apply mo_buildSlice (sz:=1) (vs:=[.slice la left.length lc]);exact rfl;exact .cons rfl .nil;exact rfl;(intro v hv;cases (List.mem_singleton.1 hv);exact rfl);omega;exact trivial) | refine wM ?_)
 rintro v2 L2 ⟨nb,rfl,rfl⟩
 refine wo_pure (of_has (.there .here) (vec_shape (by omega))) ?_
 rintro ⟨ua,un,uc,rfl,hun,_⟩
 have hun:un=ts.length:=by have:=hts.1;simp at hun;omega
 repeat (first | (apply wo_mo;apply mo_append (sz:=1) (cs:=[]++tvs) (new:=[.slice la left.length lc]);exact rfl;exact rfl;exact rfl;exact rfl;exact (.there .here);exact rfl;exact .inr ⟨_,_,rfl,Rds.all .here⟩;(intro v hv;cases (List.mem_singleton.1 hv);exact rfl);(simp only [sliceLen];omega);exact trivial))
 rintro v3 L3 rfl
 refine wo_pure (of_has .here (vec_shape (by omega))) ?_
 rintro ⟨va,vn,vc,rfl,hvn,_,hvz,hvy⟩
 have hvn:vn=ts.length+1:=by have:=hts.1;simp at hvn;omega
 subst hvn
 obtain ⟨vb,vo,rfl⟩:∃ b o,va=some ⟨b,o,none⟩:=by
  cases va with
  | none=>have:=hvz rfl;omega
  | some y=>exact ⟨y.block,y.off,by rw [hvy y rfl]⟩
 let LS:List HProp:=vec 1 (.slice (some ⟨vb,vo,none⟩) (ts.length+1) vc) ([]++tvs++[.slice la left.length lc])::arr nb 0 [.slice la left.length lc]::L
 let ls:List (List Nat):=ts++[left]
 have hH:∀ (i:Nat) l,ls[i]?=some l→∃ a c,Rd LS vb (vo+i) (.slice a l.length c)∧RdsO LS a l.length (l.map num):=fun i l hi=>by
  rcases Nat.lt_or_ge i ts.length with hlt | hge
  ·rw [List.getElem?_append_left hlt] at hi
   obtain ⟨a,c,e,r⟩:=hts.2 i l hi
   exact ⟨a,c,rd_vec .here (by rw [List.nil_append,List.getElem?_append_left (by have:=hts.1;omega)];exact e),r.there.there⟩
  ·rw [List.getElem?_append_right hge] at hi
   have:i-ts.length=0:=by have:=(List.getElem?_eq_some_iff.1 hi).1;simp at this;omega
   rw [this] at hi;simp at hi;subst hi
   exact ⟨la,lc,rd_vec .here (by rw [List.nil_append,List.getElem?_append_right (by have:=hts.1;omega),show i-tvs.length=0 by have:=hts.1;omega];rfl),hl.there.there⟩
 repeat (first | refine we_seq ?_ | (refine wR ?_;try simp only [oS]) | refine wo_nil ?_ | refine wA ?_ | refine we_block ?_)
 refine we_star (mapC .u64 mb ((prs ps).map kEnc)::LS) (fun h st=>Ent.star (.take (.there (.there .here)) .refl) st) ?_
 refine we_loopN (kInv3 (.slice pa ps.length pc) (.slice ta ts.length tc) (.slice la left.length lc) (.slice (some ⟨vb,vo,none⟩) (ts.length+1) vc) mb ls LS x) (fun i=>ls.length-i.1) (0,prs ps) ⟨Nat.zero_le _,?_,?_,?_,?_⟩ ⟨rfl,rfl,rfl,rfl,rfl,rfl,rfl,rfl,trivial⟩ .refl rfl ?_
 ·show ((prs ps).map (·.1)).Nodup
  rw [prs_fst];exact hnd
 ·show (prs ps).length≤1000000
  rw [prs_len];omega
 ·intro y hy
  obtain ⟨l,h1,h2⟩:=prs_mem hy
  have e1:=(List.getElem?_eq_some_iff.1 h1).1
  have e2:=(List.getElem?_eq_some_iff.1 h2).1
  have e3:=row_len h1
  exact ⟨hb4 _ (List.mem_flatten.2 ⟨l,List.mem_of_getElem? h1,List.mem_of_getElem? h2⟩),by omega,by omega⟩
 ·exact hK
 rintro ⟨t,R⟩ ⟨ht1,ht2,ht3,ht4,ht5⟩
 simp only at ht1 ht2 ht3 ht4 ht5
 simp only [kInv3]
 have hlsl:ls.length=ts.length+1:=by simp [ls]
 by_cases hlt:t<ls.length
 ·obtain ⟨l,hlt'⟩:∃ l,ls[t]?=some l:=⟨_,List.getElem?_eq_getElem hlt⟩
  obtain ⟨a,c,r1,r2⟩:=hH t l hlt'
  have hll:=hbl l (List.mem_of_getElem? hlt')
  have hdl:ls.drop t=l::ls.drop (t+1):=by rw [List.drop_eq_getElem_cons hlt,(List.getElem?_eq_some_iff.1 hlt').2]
  rw [hdl] at ht5
  obtain ⟨hK1,hK2⟩:=ht5
  repeat (first | (apply wo_mo;apply mo_makeMap .i64;exact trivial) | refine wlssT ?_ | refine we_seq ?_ | (refine wR ?_;try simp only [oS]) | refine wo_nil ?_ | refine wM ?_ | refine wE ?_ | refine wT ?_ | refine we_skip ?_ | refine we_block ?_)
  rintro v' L' ⟨lb,rfl,rfl⟩
  repeat (first | refine we_seq ?_ | (refine wR ?_;try simp only [oS]) | refine wo_nil ?_ | refine wA ?_ | refine we_block ?_)
  refine we_loopN (kInv4 (.slice pa ps.length pc) (.slice ta ts.length tc) (.slice la left.length lc) (.slice (some ⟨vb,vo,none⟩) (ts.length+1) vc) mb lb ls t l LS x) (fun i=>l.length-i.i) ⟨0,R,fun _=>0,[]⟩ ⟨Nat.zero_le _,ht2,ht3,ht4,hK1,hK2,fun k=>.inr ⟨rfl,rfl⟩⟩ ⟨rfl,rfl,rfl,rfl,rfl,rfl,rfl,rfl,rfl,rfl,trivial⟩ (.take (.there .here) (.take .here .refl)) rfl ?_
  rintro ⟨i,R,f,lm⟩ ⟨hi1,hi2,hi3,hi4,hi5,hi6,hi7⟩
  simp only at hi1 hi2 hi3 hi4 hi5 hi6 hi7
  simp only [kInv4]
  have g9:∀ {c1 c2:HProp},Rd (c1::c2::LS) vb (vo+t) (.slice a l.length c):=.there (.there r1)
  by_cases hlt2:i<l.length
  ·obtain ⟨v,hvi⟩:∃ v,l[i]?=some v:=⟨_,List.getElem?_eq_getElem hlt2⟩
   have hdi:l.drop i=v::l.drop (i+1):=by rw [List.drop_eq_getElem_cons hlt2,(List.getElem?_eq_some_iff.1 hvi).2]
   rw [hdi] at hi5 hi6
   obtain ⟨k,p,hm,hf,hrest⟩:=hi5
   obtain ⟨b,o,rfl,hrd⟩:=r2.rds (by omega)
   have g10:∀ {c1 c2:HProp},Rd (c1::c2::LS) b (o+i) (num v):=.there (.there (hrd i (num v) (by rw [List.getElem?_map,hvi];rfl)))
   have hG:=kGet hi2 hm
   have hD:=kDel (v:=v) hi2
   obtain ⟨hb5,hb6,hb7⟩:=hi4 _ hm
   simp only at hb5 hb6 hb7
   have hlast:mGet lm ((k:Nat):Int)=some (.int .i64 (f k:Nat))∨(mGet lm ((k:Nat):Int)=none∧(Value.int .i64 0)=.int .i64 (f k:Nat)):=(hi7 k).imp id fun ⟨e1,e2⟩=>⟨e1,by rw [e2];rfl⟩
   repeat (first | (apply wo_po;apply mo_index1;exact rfl;exact rfl;omega;exact gY) | (apply wo_po;apply mo_load;exact rfl;(first | exact g9 | exact g10);exact trivial) | (apply wo_po;apply mo_look2 (ki:=.u64) (k:=((v:Nat):Int)) (l:=R.map kEnc) hG;exact rfl;exact rfl;exact .here;exact trivial) | (apply wo_mo;apply mo_alloc;exact trivial) | refine wlssT ?_ | refine we_seq ?_ | (refine wR ?_;try simp only [oS]) | refine wo_nil ?_ | refine wM ?_ | (apply wo_po;apply mo_extract;exact rfl;exact rfl;exact gY) | refine wE ?_ | refine wT ?_ | refine we_skip ?_ | refine we_block ?_)
   rintro v' L' ⟨xb,rfl,rfl⟩
   repeat (first | (apply wo_pm;apply mo_storeA (c:=0) (k:=0) (a:=0) (vs:=[.int .i64 0,.int .i64 0]);exact rfl;exact rfl;exact rfl;(intro w hw;simp [kV,Value.cells] at hw;rcases hw with rfl | rfl <;> rfl);exact rfl;exact Nat.le_refl 2;exact .here;exact trivial) | refine we_seq ?_ | (refine wR ?_;try simp only [oS]) | refine wo_nil ?_ | refine wM ?_ | refine wA ?_ | (apply wo_po;apply mo_not;exact rfl;exact gY))
   refine wo_star (arr xb 0 [.int .i64 (k:Nat),.int .i64 (p:Nat)]::mapC .u64 mb (R.map kEnc)::mapC .i64 lb lm::LS) (fun h st=>st) ?_
   have x0:∀ {M:List HProp},Rd (arr xb 0 [.int .i64 (k:Nat),.int .i64 (p:Nat)]::M) xb (0+0) (.int .i64 (k:Nat)):=Rd.row (k:=0) rfl rfl
   have x1:∀ {M:List HProp},Rd (arr xb 0 [.int .i64 (k:Nat),.int .i64 (p:Nat)]::M) xb (0+1) (.int .i64 (p:Nat)):=Rd.row (k:=1) rfl rfl
   repeat (first | (apply wo_po;apply mo_indexArr1 (j:=0);exact rfl;exact rfl;omega;exact gY) | (apply wo_po;apply mo_indexArr1 (j:=1);exact rfl;exact rfl;omega;exact gY) | (apply wo_po;apply mo_load;exact rfl;(first | exact x0 | exact x1);exact gY) | (apply wo_po;apply mo_look1 (ki:=.i64) (k:=((k:Nat):Int)) (l:=lm) hlast;exact rfl;exact rfl;exact (.there (.there .here));exact gY) | refine wgtrF ?_ | refine we_seq ?_ | (refine wR ?_;try simp only [oS]) | refine wo_nil ?_ | refine wM ?_ | refine wJ ?_ | refine wF ?_ | refine we_skip ?_)
   obtain ⟨R',hR'⟩:∃ R',R'=R.filter fun y=>decide (y.1≠v):=⟨_,rfl⟩
   have hlen:=kLen hi2 hm
   rw [← hR'] at hD hrest hlen
   have hn1:IntKind.i64.wrap (((R.length:Nat):Int)-1)=((R'.length:Nat):Int):=(wrap_i64 (by omega) (by omega)).trans (by omega)
   repeat (first | (apply wo_pm;apply mo_mapUpdate (ki:=.i64) (k:=((k:Nat):Int));exact rfl;exact rfl;exact rfl;exact (.there (.there .here));exact trivial) | refine we_seq ?_ | (refine wR ?_;try simp only [oS]) | refine wo_nil ?_ | refine wM ?_)
   refine wo_star (mapC .u64 mb (R.map kEnc)::mapC .i64 lb (mPut lm ((k:Nat):Int) (.int .i64 (p:Nat)))::LS) (fun h st=>Ent.star (.take (.there (.there .here)) (.take .here (.drop .refl))) st) ?_
   repeat (first | (apply wo_po;apply mo_index1;exact rfl;exact rfl;omega;exact gY) | (apply wo_po;apply mo_load;exact rfl;(first | exact g9 | exact g10);exact trivial) | (apply wo_pm;apply mo_mapDelete (ki:=.u64) (k:=((v:Nat):Int));exact rfl;exact rfl;exact .here;exact trivial) | (apply wo_po;apply mo_bin;exact rfl;exact rfl;apply bin_sub;exact hn1;exact gY) | (refine wR ?_;try simp only [oS]) | refine wo_nil ?_ | refine wM ?_ | refine wA ?_ | refine wadd ?_)
   rw [hD]
   refine at_round (B:=B) (I:=kInv4 (.slice pa ps.length pc) (.slice ta ts.length tc) (.slice la left.length lc) (.slice (some ⟨vb,vo,none⟩) (ts.length+1) vc) mb lb ls t l LS x) (R:=fun j=>l.length-j.i<l.length-i) ⟨i+1,R',upd f k p,mPut lm ((k:Nat):Int) (.int .i64 (p:Nat))⟩ (by show l.length-(i+1)<l.length-i;omega) ⟨by show i+1≤l.length;omega,?_,?_,?_,hrest,?_,fun k'=>?_⟩ ⟨rfl,rfl,rfl,rfl,rfl,rfl,rfl,rfl,rfl,rfl,trivial⟩ .refl rfl
   ·show (R'.map (·.1)).Nodup
    rw [hR'];exact kNd hi2
   ·show R'.length≤1000000
    omega
   ·intro y hy
    rw [hR'] at hy
    exact hi4 y (List.mem_filter.1 hy).1
   ·show KeptA (rmvs R' (l.drop (i+1))) _
    rw [hR'];exact hi6
   ·show mGet (mPut lm ((k:Nat):Int) (.int .i64 (p:Nat))) ((k':Nat):Int)=some (.int .i64 (upd f k p k':Nat))∨(mGet (mPut lm ((k:Nat):Int) (.int .i64 (p:Nat))) ((k':Nat):Int)=none∧upd f k p k'=0)
    rw [mGet_put]
    by_cases e:k'=k
    ·subst e
     rw [if_pos rfl,upd_same];exact .inl rfl
    ·rw [if_neg (by omega),upd_other e];exact hi7 k'
  ·obtain rfl:i=l.length:=by omega
   repeat (first | (apply wo_po;apply mo_index1;exact rfl;exact rfl;omega;exact gY) | (apply wo_po;apply mo_load;exact rfl;exact g9;exact trivial) | refine wlssF ?_ | refine we_seq ?_ | (refine wR ?_;try simp only [oS]) | refine wo_nil ?_ | refine wM ?_ | refine wA ?_ | refine wadd ?_ | refine wE ?_ | refine wF ?_ | refine we_exit ?_)
   have e0:l.drop l.length=[]:=List.drop_length
   rw [e0] at hi6
   refine at_round (B:=B) (I:=kInv3 (.slice pa ps.length pc) (.slice ta ts.length tc) (.slice la left.length lc) (.slice (some ⟨vb,vo,none⟩) (ts.length+1) vc) mb ls LS x) (R:=fun j=>ls.length-j.1<ls.length-t) (t+1,R) (by show ls.length-(t+1)<ls.length-t;omega) ⟨by show t+1≤ls.length;omega,hi2,hi3,hi4,hi6⟩ ⟨rfl,rfl,rfl,rfl,rfl,rfl,rfl,rfl,trivial⟩ (.take .here (.drop .refl)) rfl
 ·obtain rfl:t=ls.length:=by omega
  rw [List.drop_length] at ht5
  replace ht5:R=[]:=ht5
  subst ht5
  rw [hlsl]
  repeat (first | refine wlssF ?_ | refine we_seq ?_ | (refine wR ?_;try simp only [oS]) | refine wo_nil ?_ | refine wM ?_ | refine wA ?_ | (apply wo_po;apply mo_bin;exact rfl;exact rfl;exact bin_eql;exact gY) | refine wE ?_ | refine wF ?_ | refine we_ret ?_ | refine we_exit ?_)
  (first | refine or1 Try.func29 Try.results29 hQ rfl ?_ | refine on1 Try.func29 Try.results29 hQ rfl ?_)
  exact ⟨rfl,rfl⟩
end
end
section
theorem rd_allQ {M L:List HProp} {b o:Nat} {v:Value} (r:Rd M b o v):Rd (all M::L) b o v:=fun h s =>
 r h (star_drop (star_tail (star_open s)))
def ShpQ (v:Value) (n:Nat):Prop:=∃ a c,v=.slice a n c∧(a=none→n=0)∧∀ y,a=some y→y=⟨y.block,y.off,none⟩
theorem shpQ_vec {v:Value} {cs:List Value} {h:Hp} (hv:vec 1 v cs h):ShpQ v cs.length:=by
 obtain ⟨a,n,c,rfl,hn,_,hz,hy⟩:=vec_shape (by omega) h hv
 obtain rfl:n=cs.length:=by omega
 exact ⟨a,c,rfl,hz,hy⟩
theorem rdsoQ {L F:List HProp} {a:Option Addr} {n c:Nat} {cs:List Value} (hh:Has L (vec 1 (.slice a n c) cs) F) (hn:cs.length=n) (hz:a=none→n=0) (hy:∀ y,a=some y→y=⟨y.block,y.off,none⟩):RdsO L a n cs:=by
 refine ⟨by omega,?_⟩
 cases a with
 | none=>exact .inl (hz rfl)
 | some y =>
  obtain ⟨b,o,sp⟩:=y
  cases hy _ rfl
  exact .inr ⟨b,o,rfl,fun i v hi=>rd_vec hh hi⟩
section
variable {pb tb pn tn n Bd:Nat} {s:QS} {qs:List QT}
variable {svs:List Value} {F:List HProp}
end
end
end Go.Proofs.Ythghlchcjeocpaa
namespace Go.Proofs.Ythghlchcjeocpaa
open Go Go.PB
attribute [local irreducible] Mo Bin Eql Tr Wo Ap
section
theorem mo_sliceHd {P:Program} {e:Env} {ty:TypeId} {L:List HProp} {t el sz n c u:Nat} {a:Option Addr} {k:IntKind} {j:Int} {o hi:Operand} [p:SlT P t el] [s:Siz P el sz] (hx:ev e o=some (.slice a n c)) (hh:ev e hi=some (.int k j)) (hj:j=(u:Nat)) (hu:u≤c) :
  Mo P e (.slice t o none (some hi) none) ty L fun v' L'=>v'=.slice a u c∧L'=L:=by
 have h:=mo_slice (P:=P) (e:=e) (ty:=ty) (L:=L) (t:=t) (l:=0) (u:=u) hx .no (.yes hh hj) (Nat.zero_le _) hu
 have e1:(if c=0 then a else a.map (·.add (0*sz)))=a:=by
  split
  ·rfl
  ·cases a with
   | none=>rfl
   | some y=>simp [Addr.add]
 rw [e1] at h
 exact h
abbrev RW:=Option Addr × Nat × List (Int × Nat)
def rv (y:RW):Value:=.slice y.1 y.2.2.length y.2.1
def ThsAt (L:List HProp) (a:Option Addr) (rs:List RW):Prop:=∀ (i:Nat) y,rs[i]?=some y→∃ b o,a=some ⟨b,o,none⟩∧Rd L b (o+i) (rv y)∧DoAt L y.1 y.2.2∧y.2.2.length≤y.2.1
def cutR (y:RW):RW:=(y.1,y.2.1,y.2.2.take 10)
def fewR (rs:List RW):List RW:=if rs=[] then [(none,0,[])] else (rs.take 6).map cutR
section
variable {B:Hand} [Lets B] {L F:List HProp} {x:B.X}
def fewInv (x:B.X) (a:Option Addr) (c:Nat) (rs:List RW) (L:List HProp):Inv (Nat × Value) B.X where
 e:=fun i=>[(0,.slice a rs.length c),(3,i.2),(4,.int .i64 (i.1:Nat))]
 L:=fun i=>vec 1 i.2 (((rs.take i.1).map cutR).map rv)::L
 x:=fun _=>x
 ok:=fun i=>i.1≤rs.length∧i.1≤6
theorem few_tr {a:Option Addr} {c:Nat} {rs:List RW} (hr:ThsAt L a rs) :
  Tr Try.prog B 30 [.slice a rs.length c] L x fun v L' x'=>L'=vec 1 v ((fewR rs).map rv)::L∧x'=x:=by
 refine Tr.post (R:=fun v L' x'=>x'=x∧∀ h,Star L' h→Star (vec 1 v ((fewR rs).map rv)::L) h) ?_
  (by rintro v L' x' ⟨rfl,h2⟩;exact ⟨_,⟨rfl,rfl⟩,h2⟩)
 refine tr_of_body Try.func30 rfl Try.ntmps30 (by simp) fun um Q _ hQ=>?_
 simp only [argE,Nat.zero_add,Nat.reduceAdd]
 repeat (first | (fail) | refine wlssT ?_ | refine wlssF ?_ | refine wleqT ?_ | refine wleqF ?_ | refine wgtrT ?_ | refine wgtrF ?_ | refine wgeqT ?_ | refine wgeqF ?_ | refine weqlT ?_ | refine weqlF ?_ | refine wneqT ?_ | refine wneqF ?_ | refine we_seq ?_ | (refine wR ?_;try simp only [oS]) | refine wo_nil ?_ | refine wM ?_ | refine wA ?_ | (apply wo_no;exact rfl) | (apply wo_nu;exact rfl) | refine wK ?_ | refine wJ ?_ | refine wN ?_ | refine wD ?_ | (apply wo_po;apply mo_extract;exact rfl;exact rfl;exact gY) | (apply wo_po;apply mo_not;exact rfl;exact gY) | refine wL ?_ | (apply wo_po;apply mo_bin;exact rfl;exact rfl;exact bin_lss;exact gY) | (apply wo_po;apply mo_bin;exact rfl;exact rfl;exact bin_gtr;exact gY) | (apply wo_po;apply mo_bin;exact rfl;exact rfl;exact bin_leq;exact gY) | (apply wo_po;apply mo_bin;exact rfl;exact rfl;exact bin_geq;exact gY) | (apply wo_po;apply mo_bin;exact rfl;exact rfl;exact bin_eql;exact gY) | (apply wo_po;apply mo_bin;exact rfl;exact rfl;exact bin_neq;exact gY) | refine wadd ?_ | refine wsub ?_ | (apply wo_po;apply mo_bin;exact rfl;exact rfl;apply bin_ne;apply eql_ptr_nil;exact gY) | (apply wo_po;apply mo_bin;exact rfl;exact rfl;apply bin_eq;apply eql_ptr_nil;exact gY) | (apply wo_po;apply mo_bin;exact rfl;exact rfl;apply bin_ne;apply eql_slice_nil;exact gY) | (apply wo_po;apply mo_bin;exact rfl;exact rfl;apply bin_eq;apply eql_slice_nil;exact gY) | (apply wo_po;apply mo_bin;exact rfl;exact rfl;apply bin_ne;apply eql_nil_nil;exact gY) | (apply wo_po;apply mo_bin;exact rfl;exact rfl;apply bin_eq;apply eql_nil_nil;exact gY) | (apply wo_po;apply mo_bin;exact rfl;exact rfl;apply bin_ne;apply eql_iface_nil;exact gY) | refine wE ?_ | (apply wo_po;apply mo_conv;exact rfl;(first | exact wrap_i64 (by omega) (by omega) | exact wrap_u64 (by omega) (by omega));exact gY) | (apply wo_po;apply mo_min;exact rfl;exact rfl;exact gY) | refine wT ?_ | refine wF ?_ | refine we_ret ?_ | refine we_skip ?_ | refine we_label ?_ | refine we_block ?_ | refine we_scope ?_ | refine we_exit ?_)
 refine we_star (vec 1 (.slice none 0 0) (((rs.take 0).map cutR).map rv)::L) (fun h st=>vec_nil st) ?_
 refine we_loopN (fewInv x a c rs L) (fun i=>rs.length-i.1) (0,.slice none 0 0) ⟨Nat.zero_le _,Nat.zero_le _⟩ ⟨rfl,rfl,rfl,trivial⟩ .refl rfl ?_
 rintro ⟨i,v⟩ ⟨hil,hi4⟩
 simp only at hil hi4
 simp only [fewInv]
 refine we_pure (of_has .here (vec_shape (by omega))) ?_
 rintro ⟨va,vn,vc,rfl,hvn,_⟩
 have hvn:vn=i:=by simp at hvn;omega
 subst hvn
 by_cases hgo:vn<rs.length∧vn<6
 ·obtain ⟨hlt,h4⟩:=hgo
  obtain ⟨y,hy⟩:∃ k,rs[vn]?=some k:=⟨rs[vn],List.getElem?_eq_getElem hlt⟩
  obtain ⟨b,o,rfl,hrd,hdo,hcap⟩:=hr vn y hy
  obtain ⟨ya,yc,yl⟩:=y
  simp only [rv] at hrd hdo hcap
  have hrk:∀ {d:HProp},Rd (d::L) b (o+vn) (.slice ya yl.length yc):=fun {d}=>.there hrd
  have hmin:min (yl.length:Int) 10=((yl.take 10).length:Nat):=by rw [List.length_take];omega
  have hle16:(yl.take 10).length≤yc:=by rw [List.length_take];omega
  repeat (first | (fail) | refine wlssT ?_ | refine wlssF ?_ | refine wleqT ?_ | refine wleqF ?_ | refine wgtrT ?_ | refine wgtrF ?_ | refine wgeqT ?_ | refine wgeqF ?_ | refine weqlT ?_ | refine weqlF ?_ | refine wneqT ?_ | refine wneqF ?_ | refine we_seq ?_ | (refine wR ?_;try simp only [oS]) | refine wo_nil ?_ | refine wM ?_ | refine wA ?_ | (apply wo_no;exact rfl) | (apply wo_nu;exact rfl) | refine wK ?_ | refine wJ ?_ | refine wN ?_ | refine wD ?_ | (apply wo_po;apply mo_extract;exact rfl;exact rfl;exact gY) | (apply wo_po;apply mo_not;exact rfl;exact gY) | refine wL ?_ | (apply wo_po;apply mo_bin;exact rfl;exact rfl;exact bin_lss;exact gY) | (apply wo_po;apply mo_bin;exact rfl;exact rfl;exact bin_gtr;exact gY) | (apply wo_po;apply mo_bin;exact rfl;exact rfl;exact bin_leq;exact gY) | (apply wo_po;apply mo_bin;exact rfl;exact rfl;exact bin_geq;exact gY) | (apply wo_po;apply mo_bin;exact rfl;exact rfl;exact bin_eql;exact gY) | (apply wo_po;apply mo_bin;exact rfl;exact rfl;exact bin_neq;exact gY) | refine wadd ?_ | refine wsub ?_ | (apply wo_po;apply mo_bin;exact rfl;exact rfl;apply bin_ne;apply eql_ptr_nil;exact gY) | (apply wo_po;apply mo_bin;exact rfl;exact rfl;apply bin_eq;apply eql_ptr_nil;exact gY) | (apply wo_po;apply mo_bin;exact rfl;exact rfl;apply bin_ne;apply eql_slice_nil;exact gY) | (apply wo_po;apply mo_bin;exact rfl;exact rfl;apply bin_eq;apply eql_slice_nil;exact gY) | (apply wo_po;apply mo_bin;exact rfl;exact rfl;apply bin_ne;apply eql_nil_nil;exact gY) | (apply wo_po;apply mo_bin;exact rfl;exact rfl;apply bin_eq;apply eql_nil_nil;exact gY) | (apply wo_po;apply mo_bin;exact rfl;exact rfl;apply bin_ne;apply eql_iface_nil;exact gY) | refine wE ?_ | (apply wo_po;apply mo_conv;exact rfl;(first | exact wrap_i64 (by omega) (by omega) | exact wrap_u64 (by omega) (by omega));exact gY) | (apply wo_po;apply mo_min;exact rfl;exact rfl;exact gY) | refine wT ?_ | refine wF ?_ | refine we_ret ?_ | refine we_skip ?_ | refine we_label ?_ | refine we_block ?_ | refine we_scope ?_ | refine we_exit ?_)
  refine we_draw (List.range' 0 15) (by kernel_rfl) ?_
  repeat (first | (apply ap_pure;exact rfl;exact rfl;exact trivial;intro L;apply mo_index1;exact rfl;exact rfl;omega) | (apply ap_read;exact rfl;exact rfl;exact trivial;apply mo_load;exact rfl;exact hrk) | (apply ap_pure;exact rfl;exact rfl;exact trivial;intro L;apply mo_min;exact rfl;exact rfl) | (apply ap_pure;exact rfl;exact rfl;exact trivial;intro L;apply mo_sliceHd;exact rfl;exact rfl;exact hmin;exact hle16) | refine aM ?_ | refine aA ?_ | (apply ap_no;exact rfl;exact rfl;exact rfl;exact rfl) | refine aN ?_ | refine aD ?_ | (apply ap_pure;exact rfl;exact rfl;exact gY;intro L;apply mo_extract;exact rfl;exact rfl) | (apply ap_pure;exact rfl;exact rfl;exact gY;intro L;apply mo_not;exact rfl) | (apply ap_pure;exact rfl;exact rfl;exact gY;intro L;apply mo_pickT;exact rfl;exact rfl;exact rfl) | (apply ap_pure;exact rfl;exact rfl;exact gY;intro L;apply mo_pickF;exact rfl;exact rfl;exact rfl) | (apply ap_pure;exact rfl;exact rfl;exact gY;intro L;apply mo_len;exact rfl) | (apply ap_pure;exact rfl;exact rfl;exact gY;intro L;apply mo_bin;exact rfl;exact rfl;exact bin_lss) | (apply ap_pure;exact rfl;exact rfl;exact gY;intro L;apply mo_bin;exact rfl;exact rfl;exact bin_gtr) | (apply ap_pure;exact rfl;exact rfl;exact gY;intro L;apply mo_bin;exact rfl;exact rfl;exact bin_leq) | (apply ap_pure;exact rfl;exact rfl;exact gY;intro L;apply mo_bin;exact rfl;exact rfl;exact bin_geq) | (apply ap_pure;exact rfl;exact rfl;exact gY;intro L;apply mo_bin;exact rfl;exact rfl;exact bin_eql) | (apply ap_pure;exact rfl;exact rfl;exact gY;intro L;apply mo_bin;exact rfl;exact rfl;exact bin_neq) | (apply ap_pure;exact rfl;exact rfl;exact gY;intro L;apply mo_bin;exact rfl;exact rfl;apply bin_add;exact wrap_i64 (by omega) (by omega)) | (apply ap_pure;exact rfl;exact rfl;exact gY;intro L;apply mo_bin;exact rfl;exact rfl;apply bin_sub;exact wrap_i64 (by omega) (by omega)) | refine aL ?_ | refine ap_end ?_)
  refine ap_loudR rfl rfl rfl rfl trivial (mo_buildSlice (sz:=1) (vs:=[.slice ya (yl.take 10).length yc]) rfl (.cons rfl .nil) rfl (by intro v hv;cases (List.mem_singleton.1 hv);exact rfl) (by omega)) ?_ ?_
  ·rintro v L' ⟨sb2,rfl,rfl⟩ p hp
   replace hp:=(List.mem_filter.1 hp).1
   simp only [List.mem_cons,List.not_mem_nil,or_false] at hp
   repeat (rcases hp with rfl | hp;· first | exact .inl rfl | exact .inr ⟨_,rfl,trivial,mo_load rfl (Rd.there hrk)⟩)
   all_goals first | (subst hp;first | exact .inl rfl | exact .inr ⟨_,rfl,trivial,mo_load rfl (Rd.there hrk)⟩)
  rintro v' L' ⟨sb2,rfl,rfl⟩
  refine ap_loud rfl rfl rfl rfl rfl trivial (mo_append (sz:=1) (new:=[.slice ya (yl.take 10).length yc]) rfl rfl rfl rfl (.there .here) rfl (.inr ⟨_,_,rfl,Rds.all .here⟩) (by intro v hv;cases (List.mem_singleton.1 hv);exact rfl) (by simp only [sliceLen];omega)) ?_
  rintro v' L' rfl
  repeat (first | (fail) | refine aM ?_ | refine aA ?_ | (apply ap_no;exact rfl;exact rfl;exact rfl;exact rfl) | refine aN ?_ | refine aD ?_ | (apply ap_pure;exact rfl;exact rfl;exact gY;intro L;apply mo_extract;exact rfl;exact rfl) | (apply ap_pure;exact rfl;exact rfl;exact gY;intro L;apply mo_not;exact rfl) | (apply ap_pure;exact rfl;exact rfl;exact gY;intro L;apply mo_pickT;exact rfl;exact rfl;exact rfl) | (apply ap_pure;exact rfl;exact rfl;exact gY;intro L;apply mo_pickF;exact rfl;exact rfl;exact rfl) | (apply ap_pure;exact rfl;exact rfl;exact gY;intro L;apply mo_len;exact rfl) | (apply ap_pure;exact rfl;exact rfl;exact gY;intro L;apply mo_bin;exact rfl;exact rfl;exact bin_lss) | (apply ap_pure;exact rfl;exact rfl;exact gY;intro L;apply mo_bin;exact rfl;exact rfl;exact bin_gtr) | (apply ap_pure;exact rfl;exact rfl;exact gY;intro L;apply mo_bin;exact rfl;exact rfl;exact bin_leq) | (apply ap_pure;exact rfl;exact rfl;exact gY;intro L;apply mo_bin;exact rfl;exact rfl;exact bin_geq) | (apply ap_pure;exact rfl;exact rfl;exact gY;intro L;apply mo_bin;exact rfl;exact rfl;exact bin_eql) | (apply ap_pure;exact rfl;exact rfl;exact gY;intro L;apply mo_bin;exact rfl;exact rfl;exact bin_neq) | (apply ap_pure;exact rfl;exact rfl;exact gY;intro L;apply mo_bin;exact rfl;exact rfl;apply bin_add;exact wrap_i64 (by omega) (by omega)) | (apply ap_pure;exact rfl;exact rfl;exact gY;intro L;apply mo_bin;exact rfl;exact rfl;apply bin_sub;exact wrap_i64 (by omega) (by omega)) | refine aL ?_ | refine ap_end ?_)
  repeat (first | (fail) | refine wlssT ?_ | refine wlssF ?_ | refine wleqT ?_ | refine wleqF ?_ | refine wgtrT ?_ | refine wgtrF ?_ | refine wgeqT ?_ | refine wgeqF ?_ | refine weqlT ?_ | refine weqlF ?_ | refine wneqT ?_ | refine wneqF ?_ | refine we_seq ?_ | (refine wR ?_;try simp only [oS]) | refine wo_nil ?_ | refine wM ?_ | refine wA ?_ | (apply wo_no;exact rfl) | (apply wo_nu;exact rfl) | refine wK ?_ | refine wJ ?_ | refine wN ?_ | refine wD ?_ | (apply wo_po;apply mo_extract;exact rfl;exact rfl;exact gY) | (apply wo_po;apply mo_not;exact rfl;exact gY) | refine wL ?_ | (apply wo_po;apply mo_bin;exact rfl;exact rfl;exact bin_lss;exact gY) | (apply wo_po;apply mo_bin;exact rfl;exact rfl;exact bin_gtr;exact gY) | (apply wo_po;apply mo_bin;exact rfl;exact rfl;exact bin_leq;exact gY) | (apply wo_po;apply mo_bin;exact rfl;exact rfl;exact bin_geq;exact gY) | (apply wo_po;apply mo_bin;exact rfl;exact rfl;exact bin_eql;exact gY) | (apply wo_po;apply mo_bin;exact rfl;exact rfl;exact bin_neq;exact gY) | refine wadd ?_ | refine wsub ?_ | (apply wo_po;apply mo_bin;exact rfl;exact rfl;apply bin_ne;apply eql_ptr_nil;exact gY) | (apply wo_po;apply mo_bin;exact rfl;exact rfl;apply bin_eq;apply eql_ptr_nil;exact gY) | (apply wo_po;apply mo_bin;exact rfl;exact rfl;apply bin_ne;apply eql_slice_nil;exact gY) | (apply wo_po;apply mo_bin;exact rfl;exact rfl;apply bin_eq;apply eql_slice_nil;exact gY) | (apply wo_po;apply mo_bin;exact rfl;exact rfl;apply bin_ne;apply eql_nil_nil;exact gY) | (apply wo_po;apply mo_bin;exact rfl;exact rfl;apply bin_eq;apply eql_nil_nil;exact gY) | (apply wo_po;apply mo_bin;exact rfl;exact rfl;apply bin_ne;apply eql_iface_nil;exact gY) | refine wE ?_ | (apply wo_po;apply mo_conv;exact rfl;(first | exact wrap_i64 (by omega) (by omega) | exact wrap_u64 (by omega) (by omega));exact gY) | (apply wo_po;apply mo_min;exact rfl;exact rfl;exact gY) | refine wT ?_ | refine wF ?_ | refine we_ret ?_ | refine we_skip ?_ | refine we_label ?_ | refine we_block ?_ | refine we_scope ?_ | refine we_exit ?_)
  refine at_round (I:=fewInv x (some ⟨b,o,none⟩) c rs L) (R:=fun j=>rs.length-j.1<rs.length-vn) (vn+1,v') (by show rs.length-(vn+1)<rs.length-vn;omega) ⟨by show vn+1≤rs.length;omega,by show vn+1≤6;omega⟩ ?_ ?_ rfl
  exact ⟨rfl,rfl,rfl,trivial⟩
  show Ent _ (vec 1 v' (((rs.take (vn+1)).map cutR).map rv)::_)
  rw [show ((rs.take (vn+1)).map cutR).map rv=((rs.take vn).map cutR).map rv++[.slice ya (yl.take 10).length yc] by rw [List.take_add_one,hy];simp [cutR,rv]]
  exact (.take .here (.drop .refl))
 ·have hend:rs.take vn=rs.take 6:=by
   by_cases h4:vn=6
   ·rw [h4]
   ·have:vn=rs.length:=by omega
    rw [this,List.take_length,List.take_of_length_le (by omega)]
  rw [hend]
  by_cases h0:rs=[]
  ·subst h0
   obtain rfl:vn=0:=by simp at hil;omega
   repeat (first | (apply wo_mo;apply mo_buildSlice (sz:=1) (vs:=[.slice none 0 0]);exact rfl;exact .cons rfl .nil;exact rfl;(intro v hv;cases (List.mem_singleton.1 hv);exact rfl);omega;exact trivial) | refine wlssT ?_ | refine wlssF ?_ | refine wleqT ?_ | refine wleqF ?_ | refine wgtrT ?_ | refine wgtrF ?_ | refine wgeqT ?_ | refine wgeqF ?_ | refine weqlT ?_ | refine weqlF ?_ | refine wneqT ?_ | refine wneqF ?_ | refine we_seq ?_ | (refine wR ?_;try simp only [oS]) | refine wo_nil ?_ | refine wM ?_ | refine wA ?_ | (apply wo_no;exact rfl) | (apply wo_nu;exact rfl) | refine wK ?_ | refine wJ ?_ | refine wN ?_ | refine wD ?_ | (apply wo_po;apply mo_extract;exact rfl;exact rfl;exact gY) | (apply wo_po;apply mo_not;exact rfl;exact gY) | refine wL ?_ | (apply wo_po;apply mo_bin;exact rfl;exact rfl;exact bin_lss;exact gY) | (apply wo_po;apply mo_bin;exact rfl;exact rfl;exact bin_gtr;exact gY) | (apply wo_po;apply mo_bin;exact rfl;exact rfl;exact bin_leq;exact gY) | (apply wo_po;apply mo_bin;exact rfl;exact rfl;exact bin_geq;exact gY) | (apply wo_po;apply mo_bin;exact rfl;exact rfl;exact bin_eql;exact gY) | (apply wo_po;apply mo_bin;exact rfl;exact rfl;exact bin_neq;exact gY) | refine wadd ?_ | refine wsub ?_ | (apply wo_po;apply mo_bin;exact rfl;exact rfl;apply bin_ne;apply eql_ptr_nil;exact gY) | (apply wo_po;apply mo_bin;exact rfl;exact rfl;apply bin_eq;apply eql_ptr_nil;exact gY) | (apply wo_po;apply mo_bin;exact rfl;exact rfl;apply bin_ne;apply eql_slice_nil;exact gY) | (apply wo_po;apply mo_bin;exact rfl;exact rfl;apply bin_eq;apply eql_slice_nil;exact gY) | (apply wo_po;apply mo_bin;exact rfl;exact rfl;apply bin_ne;apply eql_nil_nil;exact gY) | (apply wo_po;apply mo_bin;exact rfl;exact rfl;apply bin_eq;apply eql_nil_nil;exact gY) | (apply wo_po;apply mo_bin;exact rfl;exact rfl;apply bin_ne;apply eql_iface_nil;exact gY) | refine wE ?_ | (apply wo_po;apply mo_conv;exact rfl;(first | exact wrap_i64 (by omega) (by omega) | exact wrap_u64 (by omega) (by omega));exact gY) | (apply wo_po;apply mo_min;exact rfl;exact rfl;exact gY) | refine wT ?_ | refine wF ?_ | refine we_ret ?_ | refine we_skip ?_ | refine we_label ?_ | refine we_block ?_ | refine we_scope ?_ | refine we_exit ?_)
   rintro v' L' ⟨nb,rfl,rfl⟩
   repeat (first | (apply wo_mo;apply mo_append (sz:=1) (new:=[.slice none 0 0]);exact rfl;exact rfl;exact rfl;exact rfl;exact (.there .here);exact rfl;exact .inr ⟨_,_,rfl,Rds.all .here⟩;(intro v hv;cases (List.mem_singleton.1 hv);exact rfl);(simp only [sliceLen];omega);exact trivial) | refine wlssT ?_ | refine wlssF ?_ | refine wleqT ?_ | refine wleqF ?_ | refine wgtrT ?_ | refine wgtrF ?_ | refine wgeqT ?_ | refine wgeqF ?_ | refine weqlT ?_ | refine weqlF ?_ | refine wneqT ?_ | refine wneqF ?_ | refine we_seq ?_ | (refine wR ?_;try simp only [oS]) | refine wo_nil ?_ | refine wM ?_ | refine wA ?_ | (apply wo_no;exact rfl) | (apply wo_nu;exact rfl) | refine wK ?_ | refine wJ ?_ | refine wN ?_ | refine wD ?_ | (apply wo_po;apply mo_extract;exact rfl;exact rfl;exact gY) | (apply wo_po;apply mo_not;exact rfl;exact gY) | refine wL ?_ | (apply wo_po;apply mo_bin;exact rfl;exact rfl;exact bin_lss;exact gY) | (apply wo_po;apply mo_bin;exact rfl;exact rfl;exact bin_gtr;exact gY) | (apply wo_po;apply mo_bin;exact rfl;exact rfl;exact bin_leq;exact gY) | (apply wo_po;apply mo_bin;exact rfl;exact rfl;exact bin_geq;exact gY) | (apply wo_po;apply mo_bin;exact rfl;exact rfl;exact bin_eql;exact gY) | (apply wo_po;apply mo_bin;exact rfl;exact rfl;exact bin_neq;exact gY) | refine wadd ?_ | refine wsub ?_ | (apply wo_po;apply mo_bin;exact rfl;exact rfl;apply bin_ne;apply eql_ptr_nil;exact gY) | (apply wo_po;apply mo_bin;exact rfl;exact rfl;apply bin_eq;apply eql_ptr_nil;exact gY) | (apply wo_po;apply mo_bin;exact rfl;exact rfl;apply bin_ne;apply eql_slice_nil;exact gY) | (apply wo_po;apply mo_bin;exact rfl;exact rfl;apply bin_eq;apply eql_slice_nil;exact gY) | (apply wo_po;apply mo_bin;exact rfl;exact rfl;apply bin_ne;apply eql_nil_nil;exact gY) | (apply wo_po;apply mo_bin;exact rfl;exact rfl;apply bin_eq;apply eql_nil_nil;exact gY) | (apply wo_po;apply mo_bin;exact rfl;exact rfl;apply bin_ne;apply eql_iface_nil;exact gY) | refine wE ?_ | (apply wo_po;apply mo_conv;exact rfl;(first | exact wrap_i64 (by omega) (by omega) | exact wrap_u64 (by omega) (by omega));exact gY) | (apply wo_po;apply mo_min;exact rfl;exact rfl;exact gY) | refine wT ?_ | refine wF ?_ | refine we_ret ?_ | refine we_skip ?_ | refine we_label ?_ | refine we_block ?_ | refine we_scope ?_ | refine we_exit ?_)
   rintro v' L' rfl
   repeat (first | (fail) | refine wlssT ?_ | refine wlssF ?_ | refine wleqT ?_ | refine wleqF ?_ | refine wgtrT ?_ | refine wgtrF ?_ | refine wgeqT ?_ | refine wgeqF ?_ | refine weqlT ?_ | refine weqlF ?_ | refine wneqT ?_ | refine wneqF ?_ | refine we_seq ?_ | (refine wR ?_;try simp only [oS]) | refine wo_nil ?_ | refine wM ?_ | refine wA ?_ | (apply wo_no;exact rfl) | (apply wo_nu;exact rfl) | refine wK ?_ | refine wJ ?_ | refine wN ?_ | refine wD ?_ | (apply wo_po;apply mo_extract;exact rfl;exact rfl;exact gY) | (apply wo_po;apply mo_not;exact rfl;exact gY) | refine wL ?_ | (apply wo_po;apply mo_bin;exact rfl;exact rfl;exact bin_lss;exact gY) | (apply wo_po;apply mo_bin;exact rfl;exact rfl;exact bin_gtr;exact gY) | (apply wo_po;apply mo_bin;exact rfl;exact rfl;exact bin_leq;exact gY) | (apply wo_po;apply mo_bin;exact rfl;exact rfl;exact bin_geq;exact gY) | (apply wo_po;apply mo_bin;exact rfl;exact rfl;exact bin_eql;exact gY) | (apply wo_po;apply mo_bin;exact rfl;exact rfl;exact bin_neq;exact gY) | refine wadd ?_ | refine wsub ?_ | (apply wo_po;apply mo_bin;exact rfl;exact rfl;apply bin_ne;apply eql_ptr_nil;exact gY) | (apply wo_po;apply mo_bin;exact rfl;exact rfl;apply bin_eq;apply eql_ptr_nil;exact gY) | (apply wo_po;apply mo_bin;exact rfl;exact rfl;apply bin_ne;apply eql_slice_nil;exact gY) | (apply wo_po;apply mo_bin;exact rfl;exact rfl;apply bin_eq;apply eql_slice_nil;exact gY) | (apply wo_po;apply mo_bin;exact rfl;exact rfl;apply bin_ne;apply eql_nil_nil;exact gY) | (apply wo_po;apply mo_bin;exact rfl;exact rfl;apply bin_eq;apply eql_nil_nil;exact gY) | (apply wo_po;apply mo_bin;exact rfl;exact rfl;apply bin_ne;apply eql_iface_nil;exact gY) | refine wE ?_ | (apply wo_po;apply mo_conv;exact rfl;(first | exact wrap_i64 (by omega) (by omega) | exact wrap_u64 (by omega) (by omega));exact gY) | (apply wo_po;apply mo_min;exact rfl;exact rfl;exact gY) | refine wT ?_ | refine wF ?_ | refine we_ret ?_ | refine we_skip ?_ | refine we_label ?_ | refine we_block ?_ | refine we_scope ?_ | refine we_exit ?_)
   (first | refine or1 Try.func30 Try.results30 hQ rfl ?_ | refine on1 Try.func30 Try.results30 hQ rfl ?_)
   exact ⟨rfl,fun h st=>Ent.star (.take .here (.drop .refl)) st⟩
  ·have he:fewR rs=(rs.take 6).map cutR:=if_neg h0
   have hpos:0<rs.length:=List.length_pos_iff.2 h0
   have hvp:0<vn:=by omega
   by_cases hv:vn<rs.length
   ·obtain rfl:vn=6:=by omega
    repeat (first | (fail) | refine wlssT ?_ | refine wlssF ?_ | refine wleqT ?_ | refine wleqF ?_ | refine wgtrT ?_ | refine wgtrF ?_ | refine wgeqT ?_ | refine wgeqF ?_ | refine weqlT ?_ | refine weqlF ?_ | refine wneqT ?_ | refine wneqF ?_ | refine we_seq ?_ | (refine wR ?_;try simp only [oS]) | refine wo_nil ?_ | refine wM ?_ | refine wA ?_ | (apply wo_no;exact rfl) | (apply wo_nu;exact rfl) | refine wK ?_ | refine wJ ?_ | refine wN ?_ | refine wD ?_ | (apply wo_po;apply mo_extract;exact rfl;exact rfl;exact gY) | (apply wo_po;apply mo_not;exact rfl;exact gY) | refine wL ?_ | (apply wo_po;apply mo_bin;exact rfl;exact rfl;exact bin_lss;exact gY) | (apply wo_po;apply mo_bin;exact rfl;exact rfl;exact bin_gtr;exact gY) | (apply wo_po;apply mo_bin;exact rfl;exact rfl;exact bin_leq;exact gY) | (apply wo_po;apply mo_bin;exact rfl;exact rfl;exact bin_geq;exact gY) | (apply wo_po;apply mo_bin;exact rfl;exact rfl;exact bin_eql;exact gY) | (apply wo_po;apply mo_bin;exact rfl;exact rfl;exact bin_neq;exact gY) | refine wadd ?_ | refine wsub ?_ | (apply wo_po;apply mo_bin;exact rfl;exact rfl;apply bin_ne;apply eql_ptr_nil;exact gY) | (apply wo_po;apply mo_bin;exact rfl;exact rfl;apply bin_eq;apply eql_ptr_nil;exact gY) | (apply wo_po;apply mo_bin;exact rfl;exact rfl;apply bin_ne;apply eql_slice_nil;exact gY) | (apply wo_po;apply mo_bin;exact rfl;exact rfl;apply bin_eq;apply eql_slice_nil;exact gY) | (apply wo_po;apply mo_bin;exact rfl;exact rfl;apply bin_ne;apply eql_nil_nil;exact gY) | (apply wo_po;apply mo_bin;exact rfl;exact rfl;apply bin_eq;apply eql_nil_nil;exact gY) | (apply wo_po;apply mo_bin;exact rfl;exact rfl;apply bin_ne;apply eql_iface_nil;exact gY) | refine wE ?_ | (apply wo_po;apply mo_conv;exact rfl;(first | exact wrap_i64 (by omega) (by omega) | exact wrap_u64 (by omega) (by omega));exact gY) | (apply wo_po;apply mo_min;exact rfl;exact rfl;exact gY) | refine wT ?_ | refine wF ?_ | refine we_ret ?_ | refine we_skip ?_ | refine we_label ?_ | refine we_block ?_ | refine we_scope ?_ | refine we_exit ?_)
    (first | refine or1 Try.func30 Try.results30 hQ rfl ?_ | refine on1 Try.func30 Try.results30 hQ rfl ?_)
    exact ⟨rfl,fun h st=>by rw [he];exact st⟩
   ·obtain rfl:vn=rs.length:=by omega
    repeat (first | (fail) | refine wlssT ?_ | refine wlssF ?_ | refine wleqT ?_ | refine wleqF ?_ | refine wgtrT ?_ | refine wgtrF ?_ | refine wgeqT ?_ | refine wgeqF ?_ | refine weqlT ?_ | refine weqlF ?_ | refine wneqT ?_ | refine wneqF ?_ | refine we_seq ?_ | (refine wR ?_;try simp only [oS]) | refine wo_nil ?_ | refine wM ?_ | refine wA ?_ | (apply wo_no;exact rfl) | (apply wo_nu;exact rfl) | refine wK ?_ | refine wJ ?_ | refine wN ?_ | refine wD ?_ | (apply wo_po;apply mo_extract;exact rfl;exact rfl;exact gY) | (apply wo_po;apply mo_not;exact rfl;exact gY) | refine wL ?_ | (apply wo_po;apply mo_bin;exact rfl;exact rfl;exact bin_lss;exact gY) | (apply wo_po;apply mo_bin;exact rfl;exact rfl;exact bin_gtr;exact gY) | (apply wo_po;apply mo_bin;exact rfl;exact rfl;exact bin_leq;exact gY) | (apply wo_po;apply mo_bin;exact rfl;exact rfl;exact bin_geq;exact gY) | (apply wo_po;apply mo_bin;exact rfl;exact rfl;exact bin_eql;exact gY) | (apply wo_po;apply mo_bin;exact rfl;exact rfl;exact bin_neq;exact gY) | refine wadd ?_ | refine wsub ?_ | (apply wo_po;apply mo_bin;exact rfl;exact rfl;apply bin_ne;apply eql_ptr_nil;exact gY) | (apply wo_po;apply mo_bin;exact rfl;exact rfl;apply bin_eq;apply eql_ptr_nil;exact gY) | (apply wo_po;apply mo_bin;exact rfl;exact rfl;apply bin_ne;apply eql_slice_nil;exact gY) | (apply wo_po;apply mo_bin;exact rfl;exact rfl;apply bin_eq;apply eql_slice_nil;exact gY) | (apply wo_po;apply mo_bin;exact rfl;exact rfl;apply bin_ne;apply eql_nil_nil;exact gY) | (apply wo_po;apply mo_bin;exact rfl;exact rfl;apply bin_eq;apply eql_nil_nil;exact gY) | (apply wo_po;apply mo_bin;exact rfl;exact rfl;apply bin_ne;apply eql_iface_nil;exact gY) | refine wE ?_ | (apply wo_po;apply mo_conv;exact rfl;(first | exact wrap_i64 (by omega) (by omega) | exact wrap_u64 (by omega) (by omega));exact gY) | (apply wo_po;apply mo_min;exact rfl;exact rfl;exact gY) | refine wT ?_ | refine wF ?_ | refine we_ret ?_ | refine we_skip ?_ | refine we_label ?_ | refine we_block ?_ | refine we_scope ?_ | refine we_exit ?_)
    (first | refine or1 Try.func30 Try.results30 hQ rfl ?_ | refine on1 Try.func30 Try.results30 hQ rfl ?_)
    exact ⟨rfl,fun h st=>by rw [he];exact st⟩
end
end
end Go.Proofs.Ythghlchcjeocpaa
namespace Go.PB.Mach
section
structure In where
 op:Nat
 on:Nat:=0
 a:Nat:=0
 b:Nat:=0
 c:Nat:=0
 d:Nat:=0
 n:Nat:=0
structure Cl where
 code:List In
 data:List Nat:=[]
structure Wd where
 words:List (List Nat)
 nl:Nat
structure Th where
 calls:List Cl
 call:Nat:=0
 pc:Nat:=0
 r:Nat→Nat:=fun _=>0
 ans:List (Bool × List Nat):=[]
 over:Bool:=false
def fin:In:={ op:=23 }
def Th.cl (t:Th):Cl:=t.calls.getD t.call { code:=[] }
def Th.next (t:Th):In:=t.cl.code.getD t.pc fin
def Th.put (t:Th) (i v:Nat):Th:={ t with r:=upd t.r i (v%18446744073709551616) }
def Th.tell (t:Th) (v:Nat):Th:={ t with ans:=t.ans.modify t.call fun y=>(y.1,y.2++[v]) }
structure Wd.ok (w:Wd):Prop where
 n:w.words.length<1000000
 nl:w.nl<1000000
 len:∀ l∈w.words,l.length<1000000
 lt:∀ l∈w.words,∀ v∈l,v<18446744073709551616
def own (t0:Th) (x:In):Th :=
 let t:={ t0 with pc:=t0.pc+1 }
 match x.op with
 | 6=>t.put x.a x.n
 | 7=>t.put x.a (t.r x.b)
 | 8=>t.put x.a (t.r x.b+t.r x.c+x.n)
 | 9=>t.put x.a (t.r x.b+18446744073709551616-t.r x.c)
 | 10=>t.put x.a (t.r x.b*t.r x.c)
 | 11=>t.put x.a (if t.r x.c=0 then 0 else t.r x.b/t.r x.c)
 | 12=>t.put x.a (t.r x.b &&& t.r x.c)
 | 13=>t.put x.a (t.r x.b ||| t.r x.c)
 | 14=>t.put x.a (t.r x.b*2^x.n)
 | 15=>t.put x.a (t.r x.b/2^x.n)
 | 16=>t.put x.a (max (t.r x.b) (t.r x.c))
 | 17=>t.put x.a (t.cl.data.getD ((t.r x.b+x.n)%18446744073709551616) 0)
 | 18=>{ t with pc:=x.n }
 | 19=>if t.r x.a=t.r x.b then { t with pc:=x.n } else t
 | 20=>if t.r x.a<t.r x.b then { t with pc:=x.n } else t
 | 21=>if 9223372036854775808≤t.r x.a then { t with pc:=x.n } else t
 | 22=>t.tell (t.r x.a)
 | _=>t
def told (op:Nat):Bool:=1≤op&&op≤5
def Th.begun (t:Th):Th:=if t.ans.length=t.call then { t with ans:=t.ans++[(false,[])] } else t
def Th.done (t:Th):Th:={ t with ans:=t.ans.modify t.call fun y=>(true,y.2),call:=t.call+1,pc:=0,r:=fun _=>0 }
def onF:Nat→Th→Option Th
 | 0,_=>none
 | f+1,t =>
  if t.over=true then some t
  else if t.calls.length≤t.call then some { t with over:=true }
  else if told t.begun.next.op=true then some t.begun
  else if t.begun.next.op=23 then onF f t.begun.done
  else onF f (own t.begun t.begun.next)
def Th.place (t:Th):Nat:=(t.r t.next.b+t.next.n)%18446744073709551616
def op1 (x:In) (l:List Nat) (p:Nat) (r:Nat→Nat):List Nat × (Nat→Nat) :=
 let v:=l.getD p 0
 match x.op with
 | 1=>(l,upd r x.a v)
 | 2=>(l.set p (r x.a),r)
 | 3=>(l.set p ((v+r x.c)%18446744073709551616),upd r x.a ((v+r x.c)%18446744073709551616))
 | 4=>(l.set p (r x.c),upd r x.a v)
 | _=>if v=r x.c then (l.set p (r x.d),upd r x.a 1) else (l,upd r x.a 0)
def Wd.row (w:Wd) (on:Nat):List Nat:=w.words.getD on []
def opF (f:Nat) (w:Wd) (t:Th):Option (Wd × Th) :=
 if t.place<(w.row t.next.on).length then
  let y:=op1 t.next (w.row t.next.on) t.place t.r
  (onF f { t with pc:=t.pc+1,r:=y.2 }).map fun t'=>({ w with words:=w.words.set t.next.on y.1 },t')
 else none
def Th.mark (t:Th):Nat × Nat:=(t.next.op,t.place)
structure St where
 w:Wd
 l:List Th
 tr:List (Nat × Nat × Nat):=[]
def turn (f:Nat) (s:St) (k:Nat):Option St :=
 match s.l[k]? with
 | some t=>(opF f s.w t).map fun y=>⟨y.1,s.l.set k y.2,s.tr++[(k,t.mark)]⟩
 | none=>some s
def may (s:St) (k:Nat):Bool:=s.tr.length<16384&&(match s.l[k]? with | some t=>!t.over | none=>false)
def byOrder (f:Nat):St→List (Option Nat)→Option St
 | s,[]=>some s
 | s,none::o=>byOrder f s o
 | s,some k::o=>if may s k=true then (turn f s k).bind fun s=>byOrder f s o else byOrder f s o
def round (f:Nat):Nat→Nat→St→Bool→Option (St × Bool)
 | 0,_,s,q=>some (s,q)
 | m+1,k,s,q=>if may s k=true then (turn f s k).bind fun s=>round f m (k+1) s true else round f m (k+1) s q
def rounds (f:Nat):Nat→St→Option St
 | 0,_=>none
 | g+1,s=>(round f s.l.length 0 s false).bind fun y=>if y.2=true then rounds f g y.1 else some y.1
def begin_ (f:Nat):List Th→Option (List Th)
 | []=>some []
 | t::l=>(onF f t).bind fun t=>(begin_ f l).map fun l=>t::l
def play (f g:Nat) (w:Wd) (o:List (Option Nat)) (l:List (List Cl)):Option St :=
 (begin_ f (l.map fun c=>{ calls:=c })).bind fun l=>(byOrder f ⟨w,l,[]⟩ o).bind fun s=>rounds f g s
def In.ok (x:In):Bool:=1≤x.op&&x.op≤23&&x.a<24&&x.b<24&&x.c<24&&x.d<24&&x.on<1000&&x.n<18446744073709551616&&(!(18≤x.op&&x.op≤21)||x.n<1000000)&&(!(x.op=17)||!(x.a=x.b))&&(!(x.op=14||x.op=15)||x.n<64)
def Cl.ok (c:Cl):Bool:=c.code.all In.ok&&c.data.all (fun v=>v<18446744073709551616)&&c.code.length<1000000&&c.data.length<1000000
end
end Go.PB.Mach
namespace Go.Proofs.Ythghlchcjeocpaa
open Go Go.PB
section
structure Wds where
 W:(Nat→Nat)→Mach.Wd
 un:Mach.Wd→(Nat→Nat)
 ok:(Nat→Nat)→Prop
 fu:Nat
 back:∀ f,W (un (W f))=W f
 okun:∀ f,ok f→ok (un (W f))
def mF (D:Wds) (q:Nat × Mach.Th) (f:Nat→Nat):(Nat→Nat) × (Nat × Mach.Th) :=
 match Mach.opF D.fu (D.W f) q.2 with
 | some y=>(D.un y.1,(q.1,y.2))
 | none=>(f,(q.1,{ q.2 with over:=true }))
def mkII (m:Nat × Nat):Int × Int:=(((m.1:Nat):Int),((m.2:Nat):Int))
def mPlan (D:Wds) (q:Nat × Mach.Th):Option ((Int × Int) × ((Nat→Nat)→(Nat→Nat) × (Nat × Mach.Th))) :=
 if q.2.over=true then none else some (mkII q.2.mark,mF D q)
def mG (D:Wds) (U:(Nat→Nat)→HProp) (Pv:Nat × Mach.Th→HProp):Game where
 σ:=Nat→Nat
 θ:=Nat × Mach.Th
 U:=U
 plan:=mPlan D
 ok:=D.ok
 Pv:=Pv
 Fin:=Pv
def GoodN (D:Wds):Nat→Mach.Th→Prop
 | 0,_=>True
 | n+1,t=>t.over=true∨t.over=false∧∀ f,D.ok f→∃ f' t',Mach.opF D.fu (D.W f) t=some (D.W f',t')∧D.ok f'∧GoodN D n t'
def GoodT (D:Wds) (t:Mach.Th):Prop:=∀ n,GoodN D n t
section
variable {D:Wds} {U:(Nat→Nat)→HProp} {Pv:Nat × Mach.Th→HProp}
structure Rel (p:PS (mG D U Pv)) (st:Mach.St):Prop where
 w:st.w=D.W p.s
 len:p.qs.length=st.l.length
 qs:∀ k:Nat,p.qs[k]?=(st.l[k]?).map fun t=>(k,t)
 tr:p.tr=st.tr.map fun e=>(e.1,mkII e.2)
 le:st.tr.length≤16384
 good:∀ t∈st.l,GoodT D t
 ok:D.ok p.s
structure Begins (D:Wds) (U:(Nat→Nat)→HProp) (Pv:Nat × Mach.Th→HProp) (k0:Nat) (ts:List (Thr (mG D U Pv))) (cc:List (List Mach.Cl)):Prop where
 len:ts.length=cc.length
 ini:∀ (k:Nat) t c,ts[k]?=some t→cc[k]?=some c→∃ u,Mach.onF D.fu { calls:=c }=some u∧GoodT D u∧∀ s:(mG D U Pv).σ,t.ini s=(s,((k0+k,u):Nat × Mach.Th))
end
end
end Go.Proofs.Ythghlchcjeocpaa
namespace Go.Proofs.Ythghlchcjeocpaa
open Go Go.PB
attribute [local irreducible] Mo Bin Eql Tr Wo Ap Wle
section
structure PlS where
 f:Nat→Nat
 g:Nat→Nat
 t:Mach.Th
 n:Nat
section
variable {D:Wds} {addr:Nat→Nat × Nat} {N:Nat} {K:List (Nat × Nat × Value)} {Z:HProp} {Pv:Nat × Mach.Th→HProp} {sb says turn fin wg:Nat}
end
end
section
structure GaS (G:WGm) where
 f:Nat→Nat
 c:G.ζ
 s:G.σ
 q:G.θ
 n:Nat
section
variable {G:WGm} {addr:Nat→Nat × Nat} {N:Nat} {K:List (Nat × Nat × Value)} {sb says turn fin wg:Nat}
def gaC (G:WGm) (addr:Nat→Nat × Nat) (N:Nat) (K:List (Nat × Nat × Value)) (sb says turn fin:Nat) (Pm:HProp) (f:Nat→Nat) (c:G.ζ):HProp:=all [wds addr N K f,G.Z c,seatR sb says turn fin,Pm]
def GaStep (G:WGm) (N:Nat) (Pm:HProp) (op:Int) (w:Nat) (s:GaS G) (R:GaS G→Prop):Prop :=
 ∃ F,G.plan s.q=some ((op,((w:Nat):Int)),F)∧(∀ i,i<N→s.f i=G.wf s.s i)∧s.c=G.zf s.s∧(∀ h,Pm h→G.Pv s.q h)∧∀ s' n,n<s.n→G.ok s'→R ⟨G.wf s',G.zf s',(F s').1,(F s').2,n⟩
theorem ga_step {Pm:HProp} {op:Int} {w:Nat} {s:GaS G} {R:GaS G→Prop} {L F:List HProp} (hs:GaStep G N Pm op w s R) (hh:Has L (gaC G addr N K sb says turn fin Pm s.f s.c) F) :
  Tr Try.prog tH 113 [.pointer (some ⟨sb,0,none⟩),.agg #[.int .u8 op,.int .i64 (w:Nat)]] L (tx (G.g addr N K) says turn fin wg (.busy s.s s.q s.n)) fun v L' x' =>
   ∃ s',R s'∧v=.tuple #[]∧L'=gaC G addr N K sb says turn fin Pm s'.f s'.c::F∧x'=tx (G.g addr N K) says turn fin wg (.busy s'.s s'.q s'.n):=by
 obtain ⟨FF,hp,hfg,hc,hpm,hR⟩:=hs
 refine tr_star ((G.g addr N K).U s.s::seatR sb says turn fin::Pm::F) (fun h st=>?_) ?_
 ·have s1:Star (wds addr N K s.f::G.Z s.c::seatR sb says turn fin::Pm::F) h:=star_open (M:=[_,_,_,_]) (hh.star st)
  rw [hc] at s1
  exact star_shut (M:=[_,_]) (star_map s1 (wds_congr hfg) fun _ z=>z)
 ·refine (seat_tr (g:=G.g addr N K) (mk:=(op,((w:Nat):Int))) (f:=FF) hp .here .here fun h st=>G.up _ _ ?_).post ?_
  ·exact star_map (star_drop st) hpm fun _ z=>trivial
  ·rintro v L' x' ⟨m',s',hm,hok,rfl,rfl,rfl⟩
   refine ⟨_,⟨⟨G.wf s',G.zf s',(FF s').1,(FF s').2,m'⟩,hR s' m' (by omega) hok,rfl,rfl,rfl⟩,fun h st=>?_⟩
   exact star_shut (M:=[_,_,_,_]) (star_open (M:=[_,_]) st)
def gamAcc (G:WGm) (addr:Nat→Nat × Nat) (N:Nat) (K:List (Nat × Nat × Value)) (A:Apart addr N K) (sb says turn fin wg:Nat) (Pm:HProp):Acc tH (gateV sb) where
 S:=GaS G
 C:=fun s=>gaC G addr N K sb says turn fin Pm s.f s.c
 x:=fun s=>tx (G.g addr N K) says turn fin wg (.busy s.s s.q s.n)
 step:=GaStep G N Pm
 addr:=addr
 load:=fun w s R=>w<N∧R (s.f w) s
 store:=fun w n s R=>w<N∧R { s with f:=upd s.f w n }
 cas:=fun w a n s R=>w<N∧if s.f w=a then R true { s with f:=upd s.f w n } else R false s
 add:=fun w n s R=>w<N∧R ((s.f w+n)%18446744073709551616) { s with f:=upd s.f w ((s.f w+n)%18446744073709551616) }
 swap:=fun w n s R=>w<N∧R (s.f w) { s with f:=upd s.f w n }
 gate:=.inr ⟨_,_,113,rfl,inferInstance,inferInstance,fun op w s R L F hs hh=>ga_step hs hh⟩
 load_ok:=fun w s R L F b o ha hl hh=>tr_star _ (fun h st=>star_open (hh.star st)) (tr_pure (of_has .here fun h hc=>(hc.1 w hl.1).1) fun hs =>
  (load_lone (rd_wds .here hl.1 ha)).post fun v L' x' ⟨h1,h2,h3⟩=>⟨_,⟨s.f w,s,hs,hl.2,h1,rfl,h3⟩,fun h st=>star_shut (M:=[_,_,_,_]) (by rw [h2] at st;exact st)⟩)
 store_ok:=fun w n s R L F b o ha hn hl hh=>tr_star _ (fun h st=>star_open (hh.star st))
  ((store_lone (wt_wds A .here hl.1 ha hn)).post fun v L' x' ⟨h1,h2,h3⟩=>⟨_,⟨{ s with f:=upd s.f w n },hl.2,h1,rfl,h3⟩,fun h st=>star_shut (M:=[_,_,_,_]) (by rw [h2] at st;exact st)⟩)
 cas_ok:=fun w m n s R L F b o ha hn hl hh=>tr_star _ (fun h st=>star_open (hh.star st))
  ((cas_lone (rd_wds .here hl.1 ha) (wt_wds A .here hl.1 ha hn)).post fun v L' x' ⟨h1,h2,h3⟩=>by
   obtain ⟨h4,h5⟩:=hl
   by_cases e:s.f w=m
   ·rw [if_pos e] at h5;rw [if_pos (by omega)] at h2;exact ⟨_,⟨true,_,h5,by rw [h1];simp [e],rfl,h3⟩,fun h st=>star_shut (M:=[_,_,_,_]) (by rw [h2] at st;exact st)⟩
   ·rw [if_neg e] at h5;rw [if_neg (by omega)] at h2;exact ⟨_,⟨false,_,h5,by rw [h1];simp;omega,rfl,h3⟩,fun h st=>star_shut (M:=[_,_,_,_]) (by rw [h2] at st;exact st)⟩)
 add_ok:=fun w n s R L F b o ha hn hl hh=>tr_star _ (fun h st=>star_open (hh.star st))
  ((add_lone (r:=((s.f w+n)%18446744073709551616:Nat)) (rd_wds .here hl.1 ha) (by rw [wrap_u64_mod];omega) (wt_wds A .here hl.1 ha (Nat.mod_lt _ (by decide)))).post fun v L' x' ⟨h1,h2,h3⟩=>⟨_,⟨_,{ s with f:=_ },Nat.mod_lt _ (by decide),hl.2,h1,rfl,h3⟩,fun h st=>star_shut (M:=[_,_,_,_]) (by rw [h2] at st;exact st)⟩)
theorem ga_go {A:Apart addr N K} {Pm:HProp} {op w:Nat} {o:Int} {s:GaS G} {R:GaS G→Prop} {F:G.σ→G.σ × G.θ} (ho:((op:Nat):Int)=o) (hp:G.plan s.q=some ((((op:Nat):Int),((w:Nat):Int)),F)) (hf:∀ i,i<N→s.f i=G.wf s.s i) (hc:s.c=G.zf s.s) (hpm:∀ h,Pm h→G.Pv s.q h)
  (hR:∀ s' n,n<s.n→G.ok s'→R ⟨G.wf s',G.zf s',(F s').1,(F s').2,n⟩):(gamAcc G addr N K A sb says turn fin wg Pm).step o w s R:=by
 subst ho
 exact ⟨F,hp,hf,hc,hpm,hR⟩
end
section
variable {g:Game}
theorem play_ends {I:PS g→Prop} {Φ:PS g→Nat} {ts:List (Thr g)} {s:g.σ} {o:List Int} {n:Nat} (hs:∀ p k,I p→I (takeF p k).1) (hΦ:∀ p k,I p→(takeF p k).2=true→Φ (takeF p k).1+1≤Φ p) (h0:I ⟨(startF ts s).1,(startF ts s).2,[]⟩) (hn:Φ ⟨(startF ts s).1,(startF ts s).2,[]⟩≤n) (hlt:n<16384) :
  I (playF ts s o)∧(playF ts s o).tr.length≤n∧∀ (k:Nat) q,(playF ts s o).qs[k]?=some q→g.plan q=none:=by
 have hJ:I (playF ts s o)∧(playF ts s o).tr.length+Φ (playF ts s o)≤n:=playF_inv (I:=fun p=>I p∧p.tr.length+Φ p≤n) (fun p k h=>⟨hs p k h.1,by
  have h2:=h.2
  rcases takeF_cases p k with e | ⟨m,q,mk,f,hk,hq,hp,htr,e⟩
  ·rw [e];exact h2
  ·have h3:=hΦ p k h.1 (by rw [e])
   have h4:(takeF p k).1.tr.length=p.tr.length+1:=by rw [e];simp
   omega⟩) ⟨h0,by simpa using hn⟩
 refine ⟨hJ.1,by omega,fun k q hq=>(playF_done hq).resolve_right (by omega)⟩
end
end
end Go.Proofs.Ythghlchcjeocpaa
namespace Go.Proofs.Ythghlchcjeocpaa
open Go Go.PB
attribute [local irreducible] Mo Bin Eql Tr Wo Ap Wle
attribute [local instance] Pass.of_no
section
def qyAll (pb tb me:Nat) (pa ta:List Nat) (y:Value × Value):HProp:=all [arr pb me [y.1],vec 1 y.1 (pa.map num),arr tb me [y.2],vec 1 y.2 (ta.map num)]
def qyL (pb tb me:Nat) (pa ta:List Nat):HProp:=fun h=>∃ y:Value × Value,qyAll pb tb me pa ta y h
def qyC (pb tb me:Nat) (pa ta:List Nat):HProp:=all [qyL pb tb me pa ta]
def qyG (n pb tb:Nat):WGm where
 σ:=QS
 θ:=QT
 ζ:=Unit
 wf:=QS.f
 zf:=fun _=>()
 Z:=fun _=>all []
 plan:=qPlan n
 ok:=fun _=>True
 Pv:=fun q=>qyC pb tb q.me q.pa q.ta
 up:=fun q h st=>star_open (M:=[_]) st
abbrev qHdr (b n:Nat):Value:=.slice (some ⟨b,0,none⟩) n n
section
variable {n pb tb me r b k:Nat} {h:r≠b} {sb says turn fin wg:Nat} {pa ta:List Nat} {rest:List (Option Nat)} {c:Option Nat} {v:Nat}
abbrev qyAcc (n pb tb r b:Nat) (h:r≠b) (sb says turn fin wg me:Nat) (pa ta:List Nat):Acc tH (gateV sb):=gamAcc (qyG n pb tb) (twoAddr r b) (2*n+2) [(r,2,qHdr b n)] (two_apart h (qHdr b n)) sb says turn fin wg (qyC pb tb me pa ta)
theorem qy_at (hn:n=2^k) (hk:k≤10):QueueAt (qyAcc n pb tb r b h sb says turn fin wg me pa ta) r b n k where
 hn:=hn
 hk:=hk
 hdr:=fun s h hs=>by
  obtain ⟨h1,h2,s1,hc,_⟩:=hs
  obtain ⟨h3,h4,s2,hd,_⟩:=hc
  exact ⟨rfl,.inl (s1.o1 _ _ _ (s2.o1 _ _ _ (hd.2 (r,2,.slice (some ⟨b,0,none⟩) n n) (List.mem_singleton.2 rfl))))⟩
 a0:=rfl
 a1:=rfl
 a2:=fun i _=>by show twoAddr r b (2+i)=_;rw [Nat.add_comm];rfl
structure QyS (q:QT) (s:GaS (qyG n pb tb)):Prop where
 q:s.q=q
 f:∀ i,i<2*n+2→s.f i=(show QS from s.s).f i
theorem qt_draw (hn:0<n) {Q:Option Nat→GaS (qyG n pb tb)→Prop} {s:GaS (qyG n pb tb)} (hs:QyS ⟨me,c::rest,pa,ta,.load⟩ s)
  (h0:∀ s',QyS ⟨me,rest,pa,ta,.load⟩ s'→Q none s') (h1:∀ t s',QyS ⟨me,c::rest,pa,ta,.val t⟩ s'→Q (some t) s'):DrawT (qyAcc n pb tb r b h sb says turn fin wg me pa ta) n (qw c) (qw c) s Q:=by
 intro X hX
 have hc:qw c<2*n+2:=by cases c <;> simp [qw]
 suffices H:∀ (N:Nat) (s:GaS (qyG n pb tb)),s.n<N→QyS ⟨me,c::rest,pa,ta,.load⟩ s→X s from H (s.n+1) s (Nat.lt_succ_self _) hs
 intro N
 induction N with
 | zero=>intro s hN;omega
 | succ N ih =>
  intro s hN hs
  refine hX _ ?_
  unfold DrawF
  refine ga_go (op:=1) (F:=(fun st:QS=>(st,({ me:=me,cs:=c::rest,pa:=pa,ta:=ta,st:=.seq (st.f (qw c)) }:QT)):QS→QS × QT)) rfl (by rw [hs.q];rfl) hs.f rfl (by rw [hs.q];exact fun h z=>z) fun (st:QS) m1 hm1 _=>⟨hc,?_⟩
  have hmod:st.f (qw c)%n<n:=Nat.mod_lt _ hn
  refine ga_go (op:=1) (F:=(fun st':QS=>(st',if 9223372036854775808≤qd n st' (st.f (qw c)) (qw c) then ({ me:=me,cs:=rest,pa:=pa,ta:=ta,st:=.load }:QT) else if 0<qd n st' (st.f (qw c)) (qw c) then { me:=me,cs:=c::rest,pa:=pa,ta:=ta,st:=.load } else { me:=me,cs:=c::rest,pa:=pa,ta:=ta,st:=.cas (st.f (qw c)) }):QS→QS × QT)) rfl rfl (fun i _=>rfl) rfl (fun h z=>z) fun (st':QS) m2 hm2 _=>⟨by show 2+2*(st.f (qw c)%n)<2*n+2;omega,?_⟩
  show if 9223372036854775808≤qd n st' (st.f (qw c)) (qw c) then Q none _ else if 0<qd n st' (st.f (qw c)) (qw c) then X _ else _
  by_cases g1:9223372036854775808≤qd n st' (st.f (qw c)) (qw c)
  ·rw [if_pos g1,if_pos g1]
   exact h0 _ ⟨rfl,fun i _=>rfl⟩
  ·rw [if_neg g1]
   by_cases g2:0<qd n st' (st.f (qw c)) (qw c)
   ·rw [if_pos g2,if_neg g1,if_pos g2]
    exact ih _ (by dsimp only at hm1 hm2 ⊢;omega) ⟨rfl,fun i _=>rfl⟩
   ·rw [if_neg g2,if_neg g1,if_neg g2]
    refine ga_go (op:=5) rfl rfl (fun i _=>rfl) rfl (fun h z=>z) fun (st2:QS) m3 hm3 _=>⟨hc,?_⟩
    show if st2.f (qw c)=st.f (qw c) then _ else _
    by_cases g3:st2.f (qw c)=st.f (qw c)
    ·rw [if_pos g3,if_pos g3]
     show ite (true=true) _ _
     rw [if_pos rfl]
     exact h1 _ _ ⟨rfl,fun i _=>rfl⟩
    ·rw [if_neg g3,if_neg g3]
     show ite (false=true) _ _
     rw [if_neg (by decide)]
     exact ih _ (by dsimp only at hm1 hm2 hm3 ⊢;omega) ⟨rfl,fun i _=>rfl⟩
theorem qt_put (hn:0<n) {s:GaS (qyG n pb tb)} (hs:QyS ⟨me,some v::rest,pa,ta,.load⟩ s) :
  PutT (qyAcc n pb tb r b h sb says turn fin wg me pa ta) n v s fun q s'=>QyS ⟨me,rest,if q=true then pa++[v] else pa,ta,.load⟩ s':=by
 refine qt_draw (c:=some v) hn hs (fun s' hs'=>hs') fun t s' hs'=>?_
 have hmod:t%n<n:=Nat.mod_lt _ hn
 refine ga_go (op:=2) (F:=(fun st:QS=>({ st with f:=upd st.f (3+2*(t%n)) v },({ me:=me,cs:=some v::rest,pa:=pa,ta:=ta,st:=.rel t v }:QT)):QS→QS × QT)) rfl (by rw [hs'.q];rfl) hs'.f rfl (by rw [hs'.q];exact fun h z=>z) fun (st:QS) m1 hm1 _=>⟨by show 3+2*(t%n)<2*n+2;omega,?_⟩
 refine ga_go (op:=2) (F:=(fun st:QS=>({ st with f:=upd st.f (2+2*(t%n)) ((t+1)%18446744073709551616) },({ me:=me,cs:=rest,pa:=pa++[v],ta:=ta,st:=.load }:QT)):QS→QS × QT)) rfl rfl (fun i _=>rfl) rfl (fun h z=>z) fun (st:QS) m2 hm2 _=>⟨by show 2+2*(t%n)<2*n+2;omega,?_⟩
 exact ⟨rfl,fun i _=>rfl⟩
theorem qt_take (hn:0<n) {s:GaS (qyG n pb tb)} (hs:QyS ⟨me,none::rest,pa,ta,.load⟩ s) :
  TakeT (qyAcc n pb tb r b h sb says turn fin wg me pa ta) n s fun q s'=>QyS ⟨me,rest,pa,(match q with | some v=>ta++[v] | none=>ta),.load⟩ s':=by
 refine qt_draw (c:=none) hn hs (fun s' hs'=>hs') fun t s' hs'=>?_
 have hmod:t%n<n:=Nat.mod_lt _ hn
 refine ga_go (op:=1) (F:=(fun st:QS=>(st,({ me:=me,cs:=none::rest,pa:=pa,ta:=ta,st:=.rel t (st.f (3+2*(t%n))) }:QT)):QS→QS × QT)) rfl (by rw [hs'.q];rfl) hs'.f rfl (by rw [hs'.q];exact fun h z=>z) fun (st:QS) m1 hm1 _=>⟨by show 3+2*(t%n)<2*n+2;omega,?_⟩
 refine ga_go (op:=2) (F:=(fun st':QS=>({ st' with f:=upd st'.f (2+2*(t%n)) ((t+n)%18446744073709551616) },({ me:=me,cs:=rest,pa:=pa,ta:=ta++[st.f (3+2*(t%n))],st:=.load }:QT)):QS→QS × QT)) rfl rfl (fun i _=>rfl) rfl (fun h z=>z) fun (st2:QS) m2 hm2 _=>⟨by show 2+2*(t%n)<2*n+2;omega,?_⟩
 exact ⟨rfl,fun i _=>rfl⟩
theorem qy_open {f:Nat→Nat} {cz:Unit} {R:List HProp} {hp:Hp} (st:Star (gaC (qyG n pb tb) (twoAddr r b) (2*n+2) [(r,2,qHdr b n)] sb says turn fin (qyC pb tb me pa ta) f cz::R) hp):Star (qyL pb tb me pa ta::wds (twoAddr r b) (2*n+2) [(r,2,qHdr b n)] f::seatR sb says turn fin::R) hp:=by
 have s1:Star (wds (twoAddr r b) (2*n+2) [(r,2,qHdr b n)] f::all []::seatR sb says turn fin::qyC pb tb me pa ta::R) hp:=star_open (M:=[_,_,_,_]) st
 have s2:Star (qyC pb tb me pa ta::wds (twoAddr r b) (2*n+2) [(r,2,qHdr b n)] f::seatR sb says turn fin::R) hp:=Ent.star (.take (.there (.there (.there .here))) (.take .here (.drop (.take .here .refl)))) s1
 exact star_open (M:=[_]) s2
theorem qy_shut {f:Nat→Nat} {pv tv:Value} {R:List HProp} {hp:Hp} (st:Star (arr pb me [pv]::vec 1 pv (pa.map num)::arr tb me [tv]::vec 1 tv (ta.map num)::wds (twoAddr r b) (2*n+2) [(r,2,qHdr b n)] f::seatR sb says turn fin::R) hp):Star (gaC (qyG n pb tb) (twoAddr r b) (2*n+2) [(r,2,qHdr b n)] sb says turn fin (qyC pb tb me pa ta) f ()::R) hp:=by
 have s1:Star (all [arr pb me [pv],vec 1 pv (pa.map num),arr tb me [tv],vec 1 tv (ta.map num)]::wds (twoAddr r b) (2*n+2) [(r,2,qHdr b n)] f::seatR sb says turn fin::R) hp:=star_shut (M:=[_,_,_,_]) st
 have s2:Star (qyL pb tb me pa ta::wds (twoAddr r b) (2*n+2) [(r,2,qHdr b n)] f::seatR sb says turn fin::R) hp:=star_map s1 (fun h z=>⟨(pv,tv),z⟩) fun _ z=>z
 have s3:Star (qyC pb tb me pa ta::wds (twoAddr r b) (2*n+2) [(r,2,qHdr b n)] f::seatR sb says turn fin::R) hp:=star_shut (M:=[_]) s2
 have s4:Star (all []::qyC pb tb me pa ta::wds (twoAddr r b) (2*n+2) [(r,2,qHdr b n)] f::seatR sb says turn fin::R) hp:=star_shut (M:=[]) s3
 exact star_shut (M:=[_,_,_,_]) (Ent.star (.take (.there (.there .here)) (.take .here (.take (.there .here) (.take .here .refl)))) s4)
end
def qyCs (k:Nat) (l:List (Int × Nat)):List (Option Nat):=l.mapIdx fun i y=>if y.1%3=0 then some (qVal k i) else none
theorem qyCs_at {k i:Nat} {l:List (Int × Nat)} {y:Int × Nat} (h:l[i]?=some y):(qyCs k l).drop i=(if y.1%3=0 then some (qVal k i) else none)::(qyCs k l).drop (i+1):=by
 have hlt:=(List.getElem?_eq_some_iff.1 h).1
 rw [List.drop_eq_getElem_cons (by simp [qyCs];exact hlt)]
 congr 1
 have:(qyCs k l)[i]?=some (if y.1%3=0 then some (qVal k i) else none):=by simp only [qyCs,List.getElem?_mapIdx,h,Option.map_some]
 exact (List.getElem?_eq_some_iff.1 this).2
theorem qyCs_end {k:Nat} {l:List (Int × Nat)}:(qyCs k l).drop l.length=[]:=List.drop_eq_nil_of_le (by simp [qyCs])
theorem qv_bits6 {k i:Nat} (hk:k<6) (hi:i<10):IntKind.u64.wrap (BitVec.ofInt IntKind.u64.bits ((k*4294967296:Nat):Int) ||| BitVec.ofInt IntKind.u64.bits ((i:Nat):Int)).toNat=((qVal k i:Nat):Int):=by
 have key:∀ k∈List.range 6,∀ i∈List.range 10,IntKind.u64.wrap (BitVec.ofInt IntKind.u64.bits ((k*4294967296:Nat):Int) ||| BitVec.ofInt IntKind.u64.bits ((i:Nat):Int)).toNat=((qVal k i:Nat):Int):=by decide +kernel
 exact key k (List.mem_range.2 hk) i (List.mem_range.2 hi)
structure QyRo (Ro:HProp) (d9 ib q7 p8 t9 pb tb qb qo nt qc k r:Nat) (a:Option Addr) (c:Nat) (l:List (Int × Nat)):Prop where
 h1:Rd [Ro] d9 0 (.slice (some ⟨qb,qo,none⟩) nt qc)
 h2:Rd [Ro] ib 0 (.int .i64 (k:Nat))
 h3:Rd [Ro] q7 0 (.pointer (some ⟨r,0,none⟩))
 h4:Rd [Ro] p8 0 (.slice (some ⟨pb,0,none⟩) nt nt)
 h5:Rd [Ro] t9 0 (.slice (some ⟨tb,0,none⟩) nt nt)
 h6:Rd [Ro] qb (qo+k) (.slice a l.length c)
 h7:∀ (i:Nat) y,l[i]?=some y→∃ b o,a=some ⟨b,o,none⟩∧Rd [Ro] b (o+2*i) (.int .i64 y.1)
 hk:k<nt
 hn:nt≤6
 hl:l.length≤10
 ok:∀ y∈l,-9223372036854775808≤y.1∧y.1≤9223372036854775807
abbrev qyF (d9 ib q7 p8 t9:Nat):Value:=.func (.func 31) #[] #[.pointer (some ⟨d9,0,none⟩),.pointer (some ⟨ib,0,none⟩),.pointer (some ⟨q7,0,none⟩),.pointer (some ⟨p8,0,none⟩),.pointer (some ⟨t9,0,none⟩)]
def qyM0 (pb tb k:Nat):HProp:=all [arr pb k [.slice none 0 0],arr tb k [.slice none 0 0]]
section
variable {n pb tb r b k j:Nat} {hne:r≠b}
def qyInv (n pb tb r b k sb says turn fin wg d9 ib q7 p8 t9:Nat) (l:List (Int × Nat)) (Ro:HProp) (F:List HProp):PB.Inv (Nat × List Nat × List Nat × GaS (qyG n pb tb)) TX where
 e:=fun i=>[(0,gateV sb),(1,.pointer (some ⟨d9,0,none⟩)),(2,.pointer (some ⟨ib,0,none⟩)),(3,.pointer (some ⟨q7,0,none⟩)),(4,.pointer (some ⟨p8,0,none⟩)),(5,.pointer (some ⟨t9,0,none⟩)),(7,.int .i64 (i.1:Nat))]
 L:=fun i=>gaC (qyG n pb tb) (twoAddr r b) (2*n+2) [(r,2,qHdr b n)] sb says turn fin (qyC pb tb k i.2.1 i.2.2.1) i.2.2.2.f i.2.2.2.c::Ro::F
 x:=fun i=>tx ((qyG n pb tb).g (twoAddr r b) (2*n+2) [(r,2,qHdr b n)]) says turn fin wg (.busy i.2.2.2.s i.2.2.2.q i.2.2.2.n)
 ok:=fun i=>i.1≤l.length∧i.2.1.length≤i.1∧i.2.2.1.length≤i.1∧QyS ⟨k,(qyCs k l).drop i.1,i.2.1,i.2.2.1,.load⟩ i.2.2.2
set_option maxHeartbeats 4000000 in
theorem qy_ok {d9 ib q7 p8 t9 qb qo nt qc c:Nat} {a:Option Addr} {l:List (Int × Nat)} {Ro:HProp} (hne:r≠b) (hn:n=2^j) (hj:1≤j∧j≤10) (O:QyRo Ro d9 ib q7 p8 t9 pb tb qb qo nt qc k r a c l) :
  ThrOk ((qyG n pb tb).g (twoAddr r b) (2*n+2) [(r,2,qHdr b n)]) (fun s=>(s,(⟨k,qyCs k l,[],[],.load⟩:QT))) (qyF d9 ib q7 p8 t9) (all [Ro,qyM0 pb tb k]) where
 run:=by
  have hle:n≤1024:=by rw [hn];exact pow_le hj.2
  have hpos:0<n:=by rw [hn];exact Nat.two_pow_pos j
  have hkn:=O.hk
  have hnt:=O.hn
  have hl10:=O.hl
  refine ⟨_,_,_,rfl,inferInstance,fun sb says turn fin wg (s:QS) m F hok=>?_⟩
  show Tr Try.prog tH _ [gateV sb,.pointer (some ⟨d9,0,none⟩),.pointer (some ⟨ib,0,none⟩),.pointer (some ⟨q7,0,none⟩),.pointer (some ⟨p8,0,none⟩),.pointer (some ⟨t9,0,none⟩)] _ (tx ((qyG n pb tb).g (twoAddr r b) (2*n+2) [(r,2,qHdr b n)]) says turn fin wg (.busy s (⟨k,qyCs k l,[],[],.load⟩:QT) m)) _
  refine tr_star ((qyInv n pb tb r b k sb says turn fin wg d9 ib q7 p8 t9 l Ro F).L (0,[],[],⟨s.f,(),s,(⟨k,qyCs k l,[],[],.load⟩:QT),m⟩)) (fun hp st=>?_) ?_
  ·have s1:Star (wds (twoAddr r b) (2*n+2) [(r,2,qHdr b n)] s.f::all []::seatR sb says turn fin::all [Ro,qyM0 pb tb k]::F) hp:=star_open (M:=[_,_]) st
   have s2:Star (all [Ro,qyM0 pb tb k]::wds (twoAddr r b) (2*n+2) [(r,2,qHdr b n)] s.f::seatR sb says turn fin::F) hp:=Ent.star (.take (.there (.there (.there .here))) (.take .here (.drop (.take .here .refl)))) s1
   have s3:Star (Ro::qyM0 pb tb k::wds (twoAddr r b) (2*n+2) [(r,2,qHdr b n)] s.f::seatR sb says turn fin::F) hp:=star_open (M:=[_,_]) s2
   have s4:Star (arr pb k [.slice none 0 0]::arr tb k [.slice none 0 0]::Ro::wds (twoAddr r b) (2*n+2) [(r,2,qHdr b n)] s.f::seatR sb says turn fin::F) hp:=star_open (M:=[_,_]) (star_swap s3)
   have s5:Star (vec 1 (.slice none 0 0) []::vec 1 (.slice none 0 0) []::_) hp:=vec_nil (vec_nil s4)
   exact qy_shut (pa:=[]) (ta:=[]) (pv:=.slice none 0 0) (tv:=.slice none 0 0) (Ent.star (.take (.there (.there .here)) (.take .here (.take (.there .here) (.take .here (.take (.there .here) (.take (.there .here) (.take .here .refl))))))) s5)
  refine tr_of_body Try.func31 rfl Try.ntmps31 (by simp) fun um Q _ hQ=>?_
  simp only [argE,Nat.zero_add,Nat.reduceAdd]
  repeat (first | refine we_seq ?_ | (refine wR ?_;try simp only [oS]) | refine wo_nil ?_ | refine wA ?_ | refine we_block ?_)
  refine we_loopN (qyInv n pb tb r b k sb says turn fin wg d9 ib q7 p8 t9 l Ro F) (fun i=>l.length-i.1) (0,[],[],⟨s.f,(),s,(⟨k,qyCs k l,[],[],.load⟩:QT),m⟩) ⟨Nat.zero_le _,Nat.le_refl _,Nat.le_refl _,rfl,fun i _=>rfl⟩ ⟨rfl,rfl,rfl,rfl,rfl,rfl,rfl,trivial⟩ .refl rfl ?_
  clear hok s
  rintro ⟨i,pa,ta,s⟩ ⟨hi,hpa,hta,hs⟩
  dsimp only at hi hpa hta hs
  simp only [qyInv]
  have q1:∀ {c:HProp},Rd (c::Ro::F) d9 0 (.slice (some ⟨qb,qo,none⟩) nt qc):=fun {c}=>.there (Rd.of .here O.h1)
  have q2:∀ {c:HProp},Rd (c::Ro::F) ib 0 (.int .i64 (k:Nat)):=fun {c}=>.there (Rd.of .here O.h2)
  have q3:∀ {c:HProp},Rd (c::Ro::F) q7 0 (.pointer (some ⟨r,0,none⟩)):=fun {c}=>.there (Rd.of .here O.h3)
  have q6:∀ {c':HProp},Rd (c'::Ro::F) qb (qo+k) (.slice a l.length c):=fun {c}=>.there (Rd.of .here O.h6)
  by_cases hlt:i<l.length
  ·obtain ⟨y,hy⟩:∃ y,l[i]?=some y:=⟨l[i],List.getElem?_eq_getElem hlt⟩
   obtain ⟨b3,o3,rfl,r3⟩:=O.h7 i y hy
   have hb:=O.ok y (List.mem_of_getElem? hy)
   obtain ⟨kind,v0⟩:=y
   simp only at hb r3
   have q7':∀ {c:HProp},Rd (c::Ro::F) b3 (o3+2*i+0) (.int .i64 kind):=fun {c}=>.there (Rd.of .here r3)
   rw [qyCs_at hy] at hs
   simp only at hs
   have e1:=Int.emod_nonneg kind (by decide:(3:Int)≠0)
   have e2:=Int.emod_lt_of_pos kind (by decide:(0:Int)<3)
   repeat (first | (apply wo_po;apply mo_index1;exact rfl;exact rfl;omega;exact trivial) | (apply wo_po;apply mo_indexAddr (r:=o3+2*i);exact rfl;exact rfl;omega;omega;omega;exact trivial) | (apply wo_po;apply mo_load;exact rfl;(first | exact q1 | exact q2 | exact q6 | exact q7');exact trivial) | refine wlssT ?_ | refine we_seq ?_ | (refine wR ?_;try simp only [oS]) | refine wo_nil ?_ | refine wM ?_ | refine wD ?_ | refine wE ?_ | refine wT ?_ | refine we_skip ?_ | refine we_block ?_)
   refine wo_call (.cons rfl (.cons rfl .nil)) trivial (within_tr hb (by omega)) ?_
   rintro v1 L1 x1 ⟨rfl,rfl,rfl⟩
   by_cases h3:kind%3=0
   ·rw [if_pos h3] at hs
    have w1:IntKind.u64.wrap ((k:Nat):Int)=((k:Nat):Int):=wrap_u64 (by omega) (by omega)
    have w2:IntKind.u64.wrap (((k:Nat):Int)*2^(min (32:Int).toNat IntKind.u64.bits))=((k*4294967296:Nat):Int):=by
     rw [show (2:Int)^(min (32:Int).toNat IntKind.u64.bits)=4294967296 from by decide,wrap_u64 (by omega) (by omega)];omega
    have w3:IntKind.u64.wrap ((i:Nat):Int)=((i:Nat):Int):=wrap_u64 (by omega) (by omega)
    have w4:=qv_bits6 (k:=k) (i:=i) (by omega) (by omega)
    repeat (first | (apply wo_po;apply mo_load;exact rfl;(first | exact q2 | exact q3);exact trivial) | (apply wo_po;apply mo_conv;exact rfl;(first | exact w1 | exact w3);exact gY) | (apply wo_po;apply mo_bin;exact rfl;exact rfl;apply bin_shl;omega;exact w2;exact trivial) | (apply wo_po;apply mo_bin;exact rfl;exact rfl;apply bin_or;exact w4;exact trivial) | refine weqlT ?_ | refine we_seq ?_ | (refine wR ?_;try simp only [oS]) | refine wo_nil ?_ | refine wM ?_ | refine wA ?_ | refine wT ?_)
    refine wo_call (.cons rfl (.cons rfl (.cons rfl .nil))) trivial (put_tr (A:=qyAcc n pb tb r b hne sb says turn fin wg k pa ta) (qy_at hn hj.2) (v:=qVal k i) (by unfold qVal;omega) (qt_put hpos hs) .here) ?_
    rintro v1 L1 x1 ⟨q,s',hs',rfl,rfl,rfl⟩
    cases q with
    | false =>
     repeat (first | refine we_seq ?_ | (refine wR ?_;try simp only [oS]) | refine wo_nil ?_ | refine wM ?_ | refine wA ?_ | (apply wo_po;apply mo_extract;exact rfl;exact rfl;exact gY) | refine wadd ?_ | refine wF ?_ | refine we_skip ?_)
     refine at_round (B:=tH) (I:=qyInv n pb tb r b k sb says turn fin wg d9 ib q7 p8 t9 l Ro F) (R:=fun z=>l.length-z.1<l.length-i) (i+1,pa,ta,s') (by show l.length-(i+1)<l.length-i;omega) ⟨by show i+1≤l.length;omega,by show pa.length≤i+1;omega,by show ta.length≤i+1;omega,hs'⟩ ⟨rfl,rfl,rfl,rfl,rfl,rfl,rfl,trivial⟩ .refl rfl
    | true =>
     refine wo_star (qyL pb tb k pa ta::wds (twoAddr r b) (2*n+2) [(r,2,qHdr b n)] s'.f::seatR sb says turn fin::Ro::F) (fun hp st=>qy_open st) ?_
     refine wo_ex .here fun y=>?_
     obtain ⟨pv,tv⟩:=y
     refine wo_star (arr pb k [pv]::vec 1 pv (pa.map num)::arr tb k [tv]::vec 1 tv (ta.map num)::wds (twoAddr r b) (2*n+2) [(r,2,qHdr b n)] s'.f::seatR sb says turn fin::Ro::F) (fun hp st=>star_open (M:=[_,_,_,_]) st) ?_
     refine wo_pure (of_has (.there .here) (vec_shape (by omega))) ?_
     rintro ⟨va,vn,vc,rfl,hvn,_⟩
     have hvn:vn=pa.length:=by simp at hvn;omega
     subst hvn
     let L0:List HProp:=arr pb k [.slice va pa.length vc]::vec 1 (.slice va pa.length vc) (pa.map num)::arr tb k [tv]::vec 1 tv (ta.map num)::wds (twoAddr r b) (2*n+2) [(r,2,qHdr b n)] s'.f::seatR sb says turn fin::Ro::F
     have w0:Rd L0 pb (0+k) (.slice va pa.length vc):=Rd.row (k:=0) rfl (by omega)
     have u4:Rd L0 ib 0 (.int .i64 (k:Nat)):=.there (.there (.there (.there (.there (.there (Rd.of .here O.h2))))))
     have u5:Rd L0 p8 0 (.slice (some ⟨pb,0,none⟩) nt nt):=.there (.there (.there (.there (.there (.there (Rd.of .here O.h4))))))
     repeat (first | refine we_seq ?_ | (refine wR ?_;try simp only [oS]) | refine wo_nil ?_ | refine wM ?_ | refine wA ?_ | (apply wo_po;apply mo_extract;exact rfl;exact rfl;exact gY) | refine wT ?_)
     refine we_draw (List.range' 0 11) (by kernel_rfl) ?_
     repeat (first | (apply ap_pure;exact rfl;exact rfl;exact trivial;intro L;apply mo_index1;exact rfl;exact rfl;omega) | (apply ap_read;exact rfl;exact rfl;exact trivial;apply mo_load;exact rfl;(first | exact w0 | exact u4 | exact u5)) | refine aM ?_)
     refine ap_loudR rfl rfl rfl rfl trivial (mo_buildSlice (sz:=1) (vs:=[num (qVal k i)]) rfl (.cons rfl .nil) rfl (by intro v hv;cases (List.mem_singleton.1 hv);exact rfl) (by omega)) ?_ ?_
     ·rintro v L' ⟨sb2,rfl,rfl⟩ p hp
      replace hp:=(List.mem_filter.1 hp).1
      simp only [List.mem_cons,List.not_mem_nil,or_false] at hp
      repeat (rcases hp with rfl | hp;· first | exact .inl rfl | exact .inr ⟨_,rfl,trivial,mo_load rfl (Rd.there (by first | exact w0 | exact u4 | exact u5))⟩)
     rintro v' L' ⟨sb2,rfl,rfl⟩
     refine ap_loudR rfl rfl rfl rfl trivial (mo_append (sz:=1) (new:=[num (qVal k i)]) rfl rfl rfl rfl (.there (.there .here)) rfl (.inr ⟨_,_,rfl,Rds.all .here⟩) (by intro v hv;cases (List.mem_singleton.1 hv);exact rfl) (by simp only [sliceLen];omega)) ?_ ?_
     ·rintro v L' rfl p hp
      replace hp:=(List.mem_filter.1 (List.mem_filter.1 hp).1).1
      simp only [List.mem_cons,List.not_mem_nil,or_false] at hp
      have v0:Rd (vec 1 v (pa.map num++[num (qVal k i)])::arr sb2 0 [num (qVal k i)]::arr pb k [.slice va pa.length vc]::arr tb k [tv]::vec 1 tv (ta.map num)::wds (twoAddr r b) (2*n+2) [(r,2,qHdr b n)] s'.f::seatR sb says turn fin::Ro::F) pb (0+k) (.slice va pa.length vc):=.there (.there (Rd.row (k:=0) rfl (by omega)))
      have v4:Rd (vec 1 v (pa.map num++[num (qVal k i)])::arr sb2 0 [num (qVal k i)]::arr pb k [.slice va pa.length vc]::arr tb k [tv]::vec 1 tv (ta.map num)::wds (twoAddr r b) (2*n+2) [(r,2,qHdr b n)] s'.f::seatR sb says turn fin::Ro::F) ib 0 (.int .i64 (k:Nat)):=.there (.there (.there (.there (.there (.there (.there (Rd.of .here O.h2)))))))
      have v5:Rd (vec 1 v (pa.map num++[num (qVal k i)])::arr sb2 0 [num (qVal k i)]::arr pb k [.slice va pa.length vc]::arr tb k [tv]::vec 1 tv (ta.map num)::wds (twoAddr r b) (2*n+2) [(r,2,qHdr b n)] s'.f::seatR sb says turn fin::Ro::F) p8 0 (.slice (some ⟨pb,0,none⟩) nt nt):=.there (.there (.there (.there (.there (.there (.there (Rd.of .here O.h4)))))))
      repeat (rcases hp with rfl | hp;· first | exact .inl rfl | exact .inr ⟨_,rfl,trivial,mo_load rfl (by first | exact v0 | exact v4 | exact v5)⟩)
     rintro v' L' rfl
     refine ap_know (of_has .here (vec_shape (by omega))) ?_
     rintro ⟨wa,wn,wc,rfl,_⟩
     repeat (first | (apply ap_pure;exact rfl;exact rfl;exact trivial;intro L;apply mo_index1;exact rfl;exact rfl;omega))
     refine ap_loud rfl rfl rfl rfl rfl trivial (mo_store rfl rfl rfl (Wt.row (k:=0) (vs:=[.slice va pa.length vc]) (Nat.lt_succ_self 0) (by omega) (.there (.there .here)))) ?_
     rintro v' L' ⟨rfl,rfl⟩
     refine ap_end ?_
     repeat (first | (refine wR ?_;try simp only [oS]) | refine wo_nil ?_ | refine wM ?_ | refine wA ?_ | refine wadd ?_)
     refine at_roundS (B:=tH) (I:=qyInv n pb tb r b k sb says turn fin wg d9 ib q7 p8 t9 l Ro F) (R:=fun z=>l.length-z.1<l.length-i) (i+1,pa++[qVal k i],ta,{ s' with c:=() }) (by show l.length-(i+1)<l.length-i;omega) ⟨by show i+1≤l.length;omega,(by show (pa++[qVal k i]).length≤i+1;simp;omega),(by show ta.length≤i+1;omega),hs'.q,hs'.f⟩ ⟨rfl,rfl,rfl,rfl,rfl,rfl,rfl,trivial⟩ (fun hp st=>?_) rfl
     have s3:Star (arr pb k [.slice wa wn wc]::vec 1 (.slice wa wn wc) ((pa++[qVal k i]).map num)::arr tb k [tv]::vec 1 tv (ta.map num)::wds (twoAddr r b) (2*n+2) [(r,2,qHdr b n)] s'.f::seatR sb says turn fin::Ro::F) hp:=by
      rw [List.map_append]
      exact Ent.star (.take (.there (.there .here)) (.take .here (.take (.there .here) (.take (.there .here) (.take (.there .here) (.take (.there .here) (.take (.there .here) (.drop .refl)))))))) st
     exact qy_shut s3
   ·rw [if_neg h3] at hs
    repeat (first | (apply wo_po;apply mo_load;exact rfl;(first | exact q3);exact trivial) | refine weqlF ?_ | refine we_seq ?_ | (refine wR ?_;try simp only [oS]) | refine wo_nil ?_ | refine wM ?_ | refine wF ?_)
    refine wo_call (.cons rfl (.cons rfl .nil)) trivial (take_tr (A:=qyAcc n pb tb r b hne sb says turn fin wg k pa ta) (qy_at hn hj.2) (qt_take hpos hs) .here) ?_
    rintro v1 L1 x1 ⟨q,s',hs',hq,rfl,rfl,rfl⟩
    cases q with
    | none =>
     repeat (first | refine we_seq ?_ | (refine wR ?_;try simp only [oS]) | refine wo_nil ?_ | refine wM ?_ | refine wA ?_ | (apply wo_po;apply mo_extract;exact rfl;exact rfl;exact gY) | refine wadd ?_ | refine wF ?_ | refine we_skip ?_)
     refine at_round (B:=tH) (I:=qyInv n pb tb r b k sb says turn fin wg d9 ib q7 p8 t9 l Ro F) (R:=fun z=>l.length-z.1<l.length-i) (i+1,pa,ta,s') (by show l.length-(i+1)<l.length-i;omega) ⟨by show i+1≤l.length;omega,by show pa.length≤i+1;omega,by show ta.length≤i+1;omega,hs'⟩ ⟨rfl,rfl,rfl,rfl,rfl,rfl,rfl,trivial⟩ .refl rfl
    | some v2 =>
     refine wo_star (qyL pb tb k pa ta::wds (twoAddr r b) (2*n+2) [(r,2,qHdr b n)] s'.f::seatR sb says turn fin::Ro::F) (fun hp st=>qy_open st) ?_
     refine wo_ex .here fun y=>?_
     obtain ⟨pv,tv⟩:=y
     refine wo_star (arr pb k [pv]::vec 1 pv (pa.map num)::arr tb k [tv]::vec 1 tv (ta.map num)::wds (twoAddr r b) (2*n+2) [(r,2,qHdr b n)] s'.f::seatR sb says turn fin::Ro::F) (fun hp st=>star_open (M:=[_,_,_,_]) st) ?_
     refine wo_pure (of_has (.there (.there (.there .here))) (vec_shape (by omega))) ?_
     rintro ⟨va,vn,vc,rfl,hvn,_⟩
     have hvn:vn=ta.length:=by simp at hvn;omega
     subst hvn
     let L0:List HProp:=arr pb k [pv]::vec 1 pv (pa.map num)::arr tb k [.slice va ta.length vc]::vec 1 (.slice va ta.length vc) (ta.map num)::wds (twoAddr r b) (2*n+2) [(r,2,qHdr b n)] s'.f::seatR sb says turn fin::Ro::F
     have w0:Rd L0 tb (0+k) (.slice va ta.length vc):=.there (.there (Rd.row (k:=0) rfl (by omega)))
     have u4:Rd L0 ib 0 (.int .i64 (k:Nat)):=.there (.there (.there (.there (.there (.there (Rd.of .here O.h2))))))
     have u5:Rd L0 t9 0 (.slice (some ⟨tb,0,none⟩) nt nt):=.there (.there (.there (.there (.there (.there (Rd.of .here O.h5))))))
     repeat (first | refine we_seq ?_ | (refine wR ?_;try simp only [oS]) | refine wo_nil ?_ | refine wM ?_ | refine wA ?_ | (apply wo_po;apply mo_extract;exact rfl;exact rfl;exact gY) | refine wT ?_)
     refine we_draw (List.range' 0 11) (by kernel_rfl) ?_
     repeat (first | (apply ap_pure;exact rfl;exact rfl;exact trivial;intro L;apply mo_index1;exact rfl;exact rfl;omega) | (apply ap_read;exact rfl;exact rfl;exact trivial;apply mo_load;exact rfl;(first | exact w0 | exact u4 | exact u5)) | refine aM ?_)
     refine ap_loudR rfl rfl rfl rfl trivial (mo_buildSlice (sz:=1) (vs:=[num (v2)]) rfl (.cons rfl .nil) rfl (by intro v hv;cases (List.mem_singleton.1 hv);exact rfl) (by omega)) ?_ ?_
     ·rintro v L' ⟨sb2,rfl,rfl⟩ p hp
      replace hp:=(List.mem_filter.1 hp).1
      simp only [List.mem_cons,List.not_mem_nil,or_false] at hp
      repeat (rcases hp with rfl | hp;· first | exact .inl rfl | exact .inr ⟨_,rfl,trivial,mo_load rfl (Rd.there (by first | exact w0 | exact u4 | exact u5))⟩)
     rintro v' L' ⟨sb2,rfl,rfl⟩
     refine ap_loudR rfl rfl rfl rfl trivial (mo_append (sz:=1) (new:=[num (v2)]) rfl rfl rfl rfl (.there (.there (.there (.there .here)))) rfl (.inr ⟨_,_,rfl,Rds.all .here⟩) (by intro v hv;cases (List.mem_singleton.1 hv);exact rfl) (by simp only [sliceLen];omega)) ?_ ?_
     ·rintro v L' rfl p hp
      replace hp:=(List.mem_filter.1 (List.mem_filter.1 hp).1).1
      simp only [List.mem_cons,List.not_mem_nil,or_false] at hp
      have v0:Rd (vec 1 v (ta.map num++[num v2])::arr sb2 0 [num v2]::arr pb k [pv]::vec 1 pv (pa.map num)::arr tb k [.slice va ta.length vc]::wds (twoAddr r b) (2*n+2) [(r,2,qHdr b n)] s'.f::seatR sb says turn fin::Ro::F) tb (0+k) (.slice va ta.length vc):=.there (.there (.there (.there (Rd.row (k:=0) rfl (by omega)))))
      have v4:Rd (vec 1 v (ta.map num++[num v2])::arr sb2 0 [num v2]::arr pb k [pv]::vec 1 pv (pa.map num)::arr tb k [.slice va ta.length vc]::wds (twoAddr r b) (2*n+2) [(r,2,qHdr b n)] s'.f::seatR sb says turn fin::Ro::F) ib 0 (.int .i64 (k:Nat)):=.there (.there (.there (.there (.there (.there (.there (Rd.of .here O.h2)))))))
      have v5:Rd (vec 1 v (ta.map num++[num v2])::arr sb2 0 [num v2]::arr pb k [pv]::vec 1 pv (pa.map num)::arr tb k [.slice va ta.length vc]::wds (twoAddr r b) (2*n+2) [(r,2,qHdr b n)] s'.f::seatR sb says turn fin::Ro::F) t9 0 (.slice (some ⟨tb,0,none⟩) nt nt):=.there (.there (.there (.there (.there (.there (.there (Rd.of .here O.h5)))))))
      repeat (rcases hp with rfl | hp;· first | exact .inl rfl | exact .inr ⟨_,rfl,trivial,mo_load rfl (by first | exact v0 | exact v4 | exact v5)⟩)
     rintro v' L' rfl
     refine ap_know (of_has .here (vec_shape (by omega))) ?_
     rintro ⟨wa,wn,wc,rfl,_⟩
     repeat (first | (apply ap_pure;exact rfl;exact rfl;exact trivial;intro L;apply mo_index1;exact rfl;exact rfl;omega))
     refine ap_loud rfl rfl rfl rfl rfl trivial (mo_store rfl rfl rfl (Wt.row (k:=0) (vs:=[.slice va ta.length vc]) (Nat.lt_succ_self 0) (by omega) (.there (.there (.there (.there .here)))))) ?_
     rintro v' L' ⟨rfl,rfl⟩
     refine ap_end ?_
     repeat (first | (refine wR ?_;try simp only [oS]) | refine wo_nil ?_ | refine wM ?_ | refine wA ?_ | refine wadd ?_)
     refine at_roundS (B:=tH) (I:=qyInv n pb tb r b k sb says turn fin wg d9 ib q7 p8 t9 l Ro F) (R:=fun z=>l.length-z.1<l.length-i) (i+1,pa,ta++[v2],{ s' with c:=() }) (by show l.length-(i+1)<l.length-i;omega) ⟨by show i+1≤l.length;omega,(by show pa.length≤i+1;omega),(by show (ta++[v2]).length≤i+1;simp;omega),hs'.q,hs'.f⟩ ⟨rfl,rfl,rfl,rfl,rfl,rfl,rfl,trivial⟩ (fun hp st=>?_) rfl
     have s3:Star (arr pb k [pv]::vec 1 pv (pa.map num)::arr tb k [.slice wa wn wc]::vec 1 (.slice wa wn wc) ((ta++[v2]).map num)::wds (twoAddr r b) (2*n+2) [(r,2,qHdr b n)] s'.f::seatR sb says turn fin::Ro::F) hp:=by
      rw [List.map_append]
      exact Ent.star (.take (.there (.there .here)) (.take (.there (.there .here)) (.take (.there (.there .here)) (.take .here (.take (.there .here) (.take (.there .here) (.take (.there .here) (.drop .refl)))))))) st
     exact qy_shut s3
  ·obtain rfl:i=l.length:=by omega
   repeat (first | (apply wo_po;apply mo_index1;exact rfl;exact rfl;omega;exact trivial) | (apply wo_po;apply mo_load;exact rfl;(first | exact q1 | exact q2 | exact q6);exact trivial) | refine wlssF ?_ | refine we_seq ?_ | (refine wR ?_;try simp only [oS]) | refine wo_nil ?_ | refine wM ?_ | refine wE ?_ | refine wF ?_ | refine we_exit ?_)
   (first | refine or0 Try.func31 Try.results31 hQ ?_ | refine on0 Try.func31 Try.results31 hQ ?_)
   refine ⟨s.s,s.q,s.n,rfl,?_,fun hp st=>?_⟩
   ·show qPlan n s.q=none
    rw [hs.q,qyCs_end];rfl
   ·have s1:Star (wds (twoAddr r b) (2*n+2) [(r,2,qHdr b n)] s.f::all []::seatR sb says turn fin::qyC pb tb k pa ta::Ro::F) hp:=star_open (M:=[_,_,_,_]) st
    have s2:Star (wds (twoAddr r b) (2*n+2) [(r,2,qHdr b n)] (show QS from s.s).f::all []::seatR sb says turn fin::qyC pb tb k pa ta::Ro::F) hp:=star_map s1 (wds_congr hs.f) fun _ z=>z
    have s3:Star (((qyG n pb tb).g (twoAddr r b) (2*n+2) [(r,2,qHdr b n)]).U s.s::seatR sb says turn fin::qyC pb tb k pa ta::F) hp:=star_shut (M:=[_,_]) (Ent.star (.take .here (.take .here (.take .here (.take .here (.drop .refl))))) s2)
    show Star (_::_::qyC pb tb (show QT from s.q).me (show QT from s.q).pa (show QT from s.q).ta::F) hp
    rw [hs.q]
    exact s3
end
end
end Go.Proofs.Ythghlchcjeocpaa
namespace Go.Proofs.Ythghlchcjeocpaa
open Go Go.PB
attribute [local irreducible] Mo Bin Eql Tr Wo Ap
section
def intC (l:List Int):List Value:=l.map fun k=>.int .i64 k
def orderF (m:Nat) (l:List Int):List Int:=(l.take 2000).map fun k=>k%((m:Int)+1)
section
variable {B:Hand} [Lets B] {L F:List HProp} {x:B.X}
def orderInv (x:B.X) (u:Value) (m:Nat) (l:List Int) (L:List HProp):Inv (Nat × Value) B.X where
 e:=fun i=>[(0,u),(1,.int .i64 (m:Nat)),(5,i.2),(6,.int .i64 (i.1:Nat))]
 L:=fun i=>vec 1 i.2 (intC ((l.take i.1).map fun k=>k%((m:Int)+1)))::L
 x:=fun _=>x
 ok:=fun i=>i.1≤l.length∧i.1≤2000
theorem order_tr {a:Option Addr} {c m:Nat} {l:List Int} (hr:RdsO L a l.length (intC l)) (hm:m<1000000) (hi:∀ k∈l,-9223372036854775808≤k∧k≤9223372036854775807) :
  Tr Try.prog B 33 [.slice a l.length c,.int .i64 (m:Nat)] L x fun v L' x'=>L'=vec 1 v (intC (orderF m l))::L∧x'=x:=by
 refine tr_of_body Try.func33 rfl Try.ntmps33 (by simp) fun um Q _ hQ=>?_
 simp only [argE,Nat.zero_add,Nat.reduceAdd]
 repeat (first | (fail) | refine wlssT ?_ | refine wlssF ?_ | refine wleqT ?_ | refine wleqF ?_ | refine wgtrT ?_ | refine wgtrF ?_ | refine wgeqT ?_ | refine wgeqF ?_ | refine weqlT ?_ | refine weqlF ?_ | refine wneqT ?_ | refine wneqF ?_ | refine we_seq ?_ | (refine wR ?_;try simp only [oS]) | refine wo_nil ?_ | refine wM ?_ | refine wA ?_ | (apply wo_no;exact rfl) | (apply wo_nu;exact rfl) | refine wK ?_ | refine wJ ?_ | refine wN ?_ | refine wD ?_ | (apply wo_po;apply mo_extract;exact rfl;exact rfl;exact gY) | (apply wo_po;apply mo_not;exact rfl;exact gY) | refine wL ?_ | (apply wo_po;apply mo_bin;exact rfl;exact rfl;exact bin_lss;exact gY) | (apply wo_po;apply mo_bin;exact rfl;exact rfl;exact bin_gtr;exact gY) | (apply wo_po;apply mo_bin;exact rfl;exact rfl;exact bin_leq;exact gY) | (apply wo_po;apply mo_bin;exact rfl;exact rfl;exact bin_geq;exact gY) | (apply wo_po;apply mo_bin;exact rfl;exact rfl;exact bin_eql;exact gY) | (apply wo_po;apply mo_bin;exact rfl;exact rfl;exact bin_neq;exact gY) | refine wadd ?_ | refine wsub ?_ | (apply wo_po;apply mo_bin;exact rfl;exact rfl;apply bin_ne;apply eql_ptr_nil;exact gY) | (apply wo_po;apply mo_bin;exact rfl;exact rfl;apply bin_eq;apply eql_ptr_nil;exact gY) | (apply wo_po;apply mo_bin;exact rfl;exact rfl;apply bin_ne;apply eql_slice_nil;exact gY) | (apply wo_po;apply mo_bin;exact rfl;exact rfl;apply bin_eq;apply eql_slice_nil;exact gY) | (apply wo_po;apply mo_bin;exact rfl;exact rfl;apply bin_ne;apply eql_nil_nil;exact gY) | (apply wo_po;apply mo_bin;exact rfl;exact rfl;apply bin_eq;apply eql_nil_nil;exact gY) | (apply wo_po;apply mo_bin;exact rfl;exact rfl;apply bin_ne;apply eql_iface_nil;exact gY) | refine wE ?_ | (apply wo_po;apply mo_conv;exact rfl;(first | exact wrap_i64 (by omega) (by omega) | exact wrap_u64 (by omega) (by omega));exact gY) | (apply wo_po;apply mo_min;exact rfl;exact rfl;exact gY) | refine wT ?_ | refine wF ?_ | refine we_ret ?_ | refine we_skip ?_ | refine we_label ?_ | refine we_block ?_ | refine we_scope ?_ | refine we_exit ?_)
 refine we_star (vec 1 (.slice none 0 0) (intC ((l.take 0).map fun k=>k%((m:Int)+1)))::L) (fun h st=>vec_nil st) ?_
 refine we_loopN (orderInv x (.slice a l.length c) m l L) (fun i=>l.length-i.1) (0,.slice none 0 0) ⟨Nat.zero_le _,Nat.zero_le _⟩ ⟨rfl,rfl,rfl,rfl,trivial⟩ .refl rfl ?_
 rintro ⟨i,v⟩ ⟨hil,hi2⟩
 simp only at hil hi2
 simp only [orderInv]
 refine we_pure (of_has .here (vec_shape (by omega))) ?_
 rintro ⟨va,vn,vc,rfl,hvn,_⟩
 have hvn:vn=i:=by simp [intC] at hvn;omega
 subst hvn
 by_cases hlt:vn<l.length
 ·by_cases h2:vn<2000
  ·obtain ⟨b,o,rfl,hrd⟩:=hr.rds (by omega)
   obtain ⟨k,hk⟩:∃ k,l[vn]?=some k:=⟨l[vn],List.getElem?_eq_getElem hlt⟩
   have hrk:∀ {d:HProp},Rd (d::L) b (o+vn) (.int .i64 k):=fun {d}=>.there (hrd vn _ (by simp [intC,hk]))
   repeat (first | (apply wo_po;apply mo_index1;exact rfl;exact rfl;omega;exact trivial) | (apply wo_po;apply mo_load;exact rfl;exact hrk;exact trivial) | refine wlssT ?_ | refine wlssF ?_ | refine wleqT ?_ | refine wleqF ?_ | refine wgtrT ?_ | refine wgtrF ?_ | refine wgeqT ?_ | refine wgeqF ?_ | refine weqlT ?_ | refine weqlF ?_ | refine wneqT ?_ | refine wneqF ?_ | refine we_seq ?_ | (refine wR ?_;try simp only [oS]) | refine wo_nil ?_ | refine wM ?_ | refine wA ?_ | (apply wo_no;exact rfl) | (apply wo_nu;exact rfl) | refine wK ?_ | refine wJ ?_ | refine wN ?_ | refine wD ?_ | (apply wo_po;apply mo_extract;exact rfl;exact rfl;exact gY) | (apply wo_po;apply mo_not;exact rfl;exact gY) | refine wL ?_ | (apply wo_po;apply mo_bin;exact rfl;exact rfl;exact bin_lss;exact gY) | (apply wo_po;apply mo_bin;exact rfl;exact rfl;exact bin_gtr;exact gY) | (apply wo_po;apply mo_bin;exact rfl;exact rfl;exact bin_leq;exact gY) | (apply wo_po;apply mo_bin;exact rfl;exact rfl;exact bin_geq;exact gY) | (apply wo_po;apply mo_bin;exact rfl;exact rfl;exact bin_eql;exact gY) | (apply wo_po;apply mo_bin;exact rfl;exact rfl;exact bin_neq;exact gY) | refine wadd ?_ | refine wsub ?_ | (apply wo_po;apply mo_bin;exact rfl;exact rfl;apply bin_ne;apply eql_ptr_nil;exact gY) | (apply wo_po;apply mo_bin;exact rfl;exact rfl;apply bin_eq;apply eql_ptr_nil;exact gY) | (apply wo_po;apply mo_bin;exact rfl;exact rfl;apply bin_ne;apply eql_slice_nil;exact gY) | (apply wo_po;apply mo_bin;exact rfl;exact rfl;apply bin_eq;apply eql_slice_nil;exact gY) | (apply wo_po;apply mo_bin;exact rfl;exact rfl;apply bin_ne;apply eql_nil_nil;exact gY) | (apply wo_po;apply mo_bin;exact rfl;exact rfl;apply bin_eq;apply eql_nil_nil;exact gY) | (apply wo_po;apply mo_bin;exact rfl;exact rfl;apply bin_ne;apply eql_iface_nil;exact gY) | refine wE ?_ | (apply wo_po;apply mo_conv;exact rfl;(first | exact wrap_i64 (by omega) (by omega) | exact wrap_u64 (by omega) (by omega));exact gY) | (apply wo_po;apply mo_min;exact rfl;exact rfl;exact gY) | refine wT ?_ | refine wF ?_ | refine we_ret ?_ | refine we_skip ?_ | refine we_label ?_ | refine we_block ?_ | refine we_scope ?_ | refine we_exit ?_)
   refine wo_call (.cons rfl (.cons rfl .nil)) trivial (within_tr (hi k (List.mem_of_getElem? hk)) (by omega)) ?_
   rintro v1 L1 x1 ⟨rfl,rfl,rfl⟩
   repeat (first | (apply wo_mo;apply mo_buildSlice (sz:=1) (vs:=[.int .i64 (k%((m:Int)+1))]);exact rfl;exact .cons rfl .nil;exact rfl;(intro v hv;cases (List.mem_singleton.1 hv);exact rfl);omega;exact trivial) | refine wlssT ?_ | refine wlssF ?_ | refine wleqT ?_ | refine wleqF ?_ | refine wgtrT ?_ | refine wgtrF ?_ | refine wgeqT ?_ | refine wgeqF ?_ | refine weqlT ?_ | refine weqlF ?_ | refine wneqT ?_ | refine wneqF ?_ | refine we_seq ?_ | (refine wR ?_;try simp only [oS]) | refine wo_nil ?_ | refine wM ?_ | refine wA ?_ | (apply wo_no;exact rfl) | (apply wo_nu;exact rfl) | refine wK ?_ | refine wJ ?_ | refine wN ?_ | refine wD ?_ | (apply wo_po;apply mo_extract;exact rfl;exact rfl;exact gY) | (apply wo_po;apply mo_not;exact rfl;exact gY) | refine wL ?_ | (apply wo_po;apply mo_bin;exact rfl;exact rfl;exact bin_lss;exact gY) | (apply wo_po;apply mo_bin;exact rfl;exact rfl;exact bin_gtr;exact gY) | (apply wo_po;apply mo_bin;exact rfl;exact rfl;exact bin_leq;exact gY) | (apply wo_po;apply mo_bin;exact rfl;exact rfl;exact bin_geq;exact gY) | (apply wo_po;apply mo_bin;exact rfl;exact rfl;exact bin_eql;exact gY) | (apply wo_po;apply mo_bin;exact rfl;exact rfl;exact bin_neq;exact gY) | refine wadd ?_ | refine wsub ?_ | (apply wo_po;apply mo_bin;exact rfl;exact rfl;apply bin_ne;apply eql_ptr_nil;exact gY) | (apply wo_po;apply mo_bin;exact rfl;exact rfl;apply bin_eq;apply eql_ptr_nil;exact gY) | (apply wo_po;apply mo_bin;exact rfl;exact rfl;apply bin_ne;apply eql_slice_nil;exact gY) | (apply wo_po;apply mo_bin;exact rfl;exact rfl;apply bin_eq;apply eql_slice_nil;exact gY) | (apply wo_po;apply mo_bin;exact rfl;exact rfl;apply bin_ne;apply eql_nil_nil;exact gY) | (apply wo_po;apply mo_bin;exact rfl;exact rfl;apply bin_eq;apply eql_nil_nil;exact gY) | (apply wo_po;apply mo_bin;exact rfl;exact rfl;apply bin_ne;apply eql_iface_nil;exact gY) | refine wE ?_ | (apply wo_po;apply mo_conv;exact rfl;(first | exact wrap_i64 (by omega) (by omega) | exact wrap_u64 (by omega) (by omega));exact gY) | (apply wo_po;apply mo_min;exact rfl;exact rfl;exact gY) | refine wT ?_ | refine wF ?_ | refine we_ret ?_ | refine we_skip ?_ | refine we_label ?_ | refine we_block ?_ | refine we_scope ?_ | refine we_exit ?_)
   rintro v' L' ⟨nb,rfl,rfl⟩
   repeat (first | (apply wo_mo;apply mo_append (sz:=1) (new:=[.int .i64 (k%((m:Int)+1))]);exact rfl;exact rfl;exact rfl;exact rfl;exact (.there .here);exact rfl;exact .inr ⟨_,_,rfl,Rds.all .here⟩;(intro v hv;cases (List.mem_singleton.1 hv);exact rfl);(simp only [sliceLen];omega);exact trivial) | refine wlssT ?_ | refine wlssF ?_ | refine wleqT ?_ | refine wleqF ?_ | refine wgtrT ?_ | refine wgtrF ?_ | refine wgeqT ?_ | refine wgeqF ?_ | refine weqlT ?_ | refine weqlF ?_ | refine wneqT ?_ | refine wneqF ?_ | refine we_seq ?_ | (refine wR ?_;try simp only [oS]) | refine wo_nil ?_ | refine wM ?_ | refine wA ?_ | (apply wo_no;exact rfl) | (apply wo_nu;exact rfl) | refine wK ?_ | refine wJ ?_ | refine wN ?_ | refine wD ?_ | (apply wo_po;apply mo_extract;exact rfl;exact rfl;exact gY) | (apply wo_po;apply mo_not;exact rfl;exact gY) | refine wL ?_ | (apply wo_po;apply mo_bin;exact rfl;exact rfl;exact bin_lss;exact gY) | (apply wo_po;apply mo_bin;exact rfl;exact rfl;exact bin_gtr;exact gY) | (apply wo_po;apply mo_bin;exact rfl;exact rfl;exact bin_leq;exact gY) | (apply wo_po;apply mo_bin;exact rfl;exact rfl;exact bin_geq;exact gY) | (apply wo_po;apply mo_bin;exact rfl;exact rfl;exact bin_eql;exact gY) | (apply wo_po;apply mo_bin;exact rfl;exact rfl;exact bin_neq;exact gY) | refine wadd ?_ | refine wsub ?_ | (apply wo_po;apply mo_bin;exact rfl;exact rfl;apply bin_ne;apply eql_ptr_nil;exact gY) | (apply wo_po;apply mo_bin;exact rfl;exact rfl;apply bin_eq;apply eql_ptr_nil;exact gY) | (apply wo_po;apply mo_bin;exact rfl;exact rfl;apply bin_ne;apply eql_slice_nil;exact gY) | (apply wo_po;apply mo_bin;exact rfl;exact rfl;apply bin_eq;apply eql_slice_nil;exact gY) | (apply wo_po;apply mo_bin;exact rfl;exact rfl;apply bin_ne;apply eql_nil_nil;exact gY) | (apply wo_po;apply mo_bin;exact rfl;exact rfl;apply bin_eq;apply eql_nil_nil;exact gY) | (apply wo_po;apply mo_bin;exact rfl;exact rfl;apply bin_ne;apply eql_iface_nil;exact gY) | refine wE ?_ | (apply wo_po;apply mo_conv;exact rfl;(first | exact wrap_i64 (by omega) (by omega) | exact wrap_u64 (by omega) (by omega));exact gY) | (apply wo_po;apply mo_min;exact rfl;exact rfl;exact gY) | refine wT ?_ | refine wF ?_ | refine we_ret ?_ | refine we_skip ?_ | refine we_label ?_ | refine we_block ?_ | refine we_scope ?_ | refine we_exit ?_)
   rintro v' L' rfl
   repeat (first | (fail) | refine wlssT ?_ | refine wlssF ?_ | refine wleqT ?_ | refine wleqF ?_ | refine wgtrT ?_ | refine wgtrF ?_ | refine wgeqT ?_ | refine wgeqF ?_ | refine weqlT ?_ | refine weqlF ?_ | refine wneqT ?_ | refine wneqF ?_ | refine we_seq ?_ | (refine wR ?_;try simp only [oS]) | refine wo_nil ?_ | refine wM ?_ | refine wA ?_ | (apply wo_no;exact rfl) | (apply wo_nu;exact rfl) | refine wK ?_ | refine wJ ?_ | refine wN ?_ | refine wD ?_ | (apply wo_po;apply mo_extract;exact rfl;exact rfl;exact gY) | (apply wo_po;apply mo_not;exact rfl;exact gY) | refine wL ?_ | (apply wo_po;apply mo_bin;exact rfl;exact rfl;exact bin_lss;exact gY) | (apply wo_po;apply mo_bin;exact rfl;exact rfl;exact bin_gtr;exact gY) | (apply wo_po;apply mo_bin;exact rfl;exact rfl;exact bin_leq;exact gY) | (apply wo_po;apply mo_bin;exact rfl;exact rfl;exact bin_geq;exact gY) | (apply wo_po;apply mo_bin;exact rfl;exact rfl;exact bin_eql;exact gY) | (apply wo_po;apply mo_bin;exact rfl;exact rfl;exact bin_neq;exact gY) | refine wadd ?_ | refine wsub ?_ | (apply wo_po;apply mo_bin;exact rfl;exact rfl;apply bin_ne;apply eql_ptr_nil;exact gY) | (apply wo_po;apply mo_bin;exact rfl;exact rfl;apply bin_eq;apply eql_ptr_nil;exact gY) | (apply wo_po;apply mo_bin;exact rfl;exact rfl;apply bin_ne;apply eql_slice_nil;exact gY) | (apply wo_po;apply mo_bin;exact rfl;exact rfl;apply bin_eq;apply eql_slice_nil;exact gY) | (apply wo_po;apply mo_bin;exact rfl;exact rfl;apply bin_ne;apply eql_nil_nil;exact gY) | (apply wo_po;apply mo_bin;exact rfl;exact rfl;apply bin_eq;apply eql_nil_nil;exact gY) | (apply wo_po;apply mo_bin;exact rfl;exact rfl;apply bin_ne;apply eql_iface_nil;exact gY) | refine wE ?_ | (apply wo_po;apply mo_conv;exact rfl;(first | exact wrap_i64 (by omega) (by omega) | exact wrap_u64 (by omega) (by omega));exact gY) | (apply wo_po;apply mo_min;exact rfl;exact rfl;exact gY) | refine wT ?_ | refine wF ?_ | refine we_ret ?_ | refine we_skip ?_ | refine we_label ?_ | refine we_block ?_ | refine we_scope ?_ | refine we_exit ?_)
   refine at_round (I:=orderInv x1 (.slice (some ⟨b,o,none⟩) l.length c) m l L) (R:=fun j=>l.length-j.1<l.length-vn) (vn+1,v') (by show l.length-(vn+1)<l.length-vn;omega) ⟨by omega,by omega⟩ ?_ ?_ rfl
   exact ⟨rfl,rfl,rfl,rfl,trivial⟩
   show Ent _ (vec 1 v' (intC ((l.take (vn+1)).map fun k=>k%((m:Int)+1)))::_)
   rw [show intC ((l.take (vn+1)).map fun k=>k%((m:Int)+1))=intC ((l.take vn).map fun k=>k%((m:Int)+1))++[.int .i64 (k%((m:Int)+1))] by rw [List.take_add_one,hk];simp [intC]]
   exact (.take .here (.drop .refl))
  ·obtain rfl:vn=2000:=by omega
   repeat (first | (fail) | refine wlssT ?_ | refine wlssF ?_ | refine wleqT ?_ | refine wleqF ?_ | refine wgtrT ?_ | refine wgtrF ?_ | refine wgeqT ?_ | refine wgeqF ?_ | refine weqlT ?_ | refine weqlF ?_ | refine wneqT ?_ | refine wneqF ?_ | refine we_seq ?_ | (refine wR ?_;try simp only [oS]) | refine wo_nil ?_ | refine wM ?_ | refine wA ?_ | (apply wo_no;exact rfl) | (apply wo_nu;exact rfl) | refine wK ?_ | refine wJ ?_ | refine wN ?_ | refine wD ?_ | (apply wo_po;apply mo_extract;exact rfl;exact rfl;exact gY) | (apply wo_po;apply mo_not;exact rfl;exact gY) | refine wL ?_ | (apply wo_po;apply mo_bin;exact rfl;exact rfl;exact bin_lss;exact gY) | (apply wo_po;apply mo_bin;exact rfl;exact rfl;exact bin_gtr;exact gY) | (apply wo_po;apply mo_bin;exact rfl;exact rfl;exact bin_leq;exact gY) | (apply wo_po;apply mo_bin;exact rfl;exact rfl;exact bin_geq;exact gY) | (apply wo_po;apply mo_bin;exact rfl;exact rfl;exact bin_eql;exact gY) | (apply wo_po;apply mo_bin;exact rfl;exact rfl;exact bin_neq;exact gY) | refine wadd ?_ | refine wsub ?_ | (apply wo_po;apply mo_bin;exact rfl;exact rfl;apply bin_ne;apply eql_ptr_nil;exact gY) | (apply wo_po;apply mo_bin;exact rfl;exact rfl;apply bin_eq;apply eql_ptr_nil;exact gY) | (apply wo_po;apply mo_bin;exact rfl;exact rfl;apply bin_ne;apply eql_slice_nil;exact gY) | (apply wo_po;apply mo_bin;exact rfl;exact rfl;apply bin_eq;apply eql_slice_nil;exact gY) | (apply wo_po;apply mo_bin;exact rfl;exact rfl;apply bin_ne;apply eql_nil_nil;exact gY) | (apply wo_po;apply mo_bin;exact rfl;exact rfl;apply bin_eq;apply eql_nil_nil;exact gY) | (apply wo_po;apply mo_bin;exact rfl;exact rfl;apply bin_ne;apply eql_iface_nil;exact gY) | refine wE ?_ | (apply wo_po;apply mo_conv;exact rfl;(first | exact wrap_i64 (by omega) (by omega) | exact wrap_u64 (by omega) (by omega));exact gY) | (apply wo_po;apply mo_min;exact rfl;exact rfl;exact gY) | refine wT ?_ | refine wF ?_ | refine we_ret ?_ | refine we_skip ?_ | refine we_label ?_ | refine we_block ?_ | refine we_scope ?_ | refine we_exit ?_)
   (first | refine or1 Try.func33 Try.results33 hQ rfl ?_ | refine on1 Try.func33 Try.results33 hQ rfl ?_)
   exact ⟨rfl,rfl⟩
 ·obtain rfl:vn=l.length:=by omega
  repeat (first | (fail) | refine wlssT ?_ | refine wlssF ?_ | refine wleqT ?_ | refine wleqF ?_ | refine wgtrT ?_ | refine wgtrF ?_ | refine wgeqT ?_ | refine wgeqF ?_ | refine weqlT ?_ | refine weqlF ?_ | refine wneqT ?_ | refine wneqF ?_ | refine we_seq ?_ | (refine wR ?_;try simp only [oS]) | refine wo_nil ?_ | refine wM ?_ | refine wA ?_ | (apply wo_no;exact rfl) | (apply wo_nu;exact rfl) | refine wK ?_ | refine wJ ?_ | refine wN ?_ | refine wD ?_ | (apply wo_po;apply mo_extract;exact rfl;exact rfl;exact gY) | (apply wo_po;apply mo_not;exact rfl;exact gY) | refine wL ?_ | (apply wo_po;apply mo_bin;exact rfl;exact rfl;exact bin_lss;exact gY) | (apply wo_po;apply mo_bin;exact rfl;exact rfl;exact bin_gtr;exact gY) | (apply wo_po;apply mo_bin;exact rfl;exact rfl;exact bin_leq;exact gY) | (apply wo_po;apply mo_bin;exact rfl;exact rfl;exact bin_geq;exact gY) | (apply wo_po;apply mo_bin;exact rfl;exact rfl;exact bin_eql;exact gY) | (apply wo_po;apply mo_bin;exact rfl;exact rfl;exact bin_neq;exact gY) | refine wadd ?_ | refine wsub ?_ | (apply wo_po;apply mo_bin;exact rfl;exact rfl;apply bin_ne;apply eql_ptr_nil;exact gY) | (apply wo_po;apply mo_bin;exact rfl;exact rfl;apply bin_eq;apply eql_ptr_nil;exact gY) | (apply wo_po;apply mo_bin;exact rfl;exact rfl;apply bin_ne;apply eql_slice_nil;exact gY) | (apply wo_po;apply mo_bin;exact rfl;exact rfl;apply bin_eq;apply eql_slice_nil;exact gY) | (apply wo_po;apply mo_bin;exact rfl;exact rfl;apply bin_ne;apply eql_nil_nil;exact gY) | (apply wo_po;apply mo_bin;exact rfl;exact rfl;apply bin_eq;apply eql_nil_nil;exact gY) | (apply wo_po;apply mo_bin;exact rfl;exact rfl;apply bin_ne;apply eql_iface_nil;exact gY) | refine wE ?_ | (apply wo_po;apply mo_conv;exact rfl;(first | exact wrap_i64 (by omega) (by omega) | exact wrap_u64 (by omega) (by omega));exact gY) | (apply wo_po;apply mo_min;exact rfl;exact rfl;exact gY) | refine wT ?_ | refine wF ?_ | refine we_ret ?_ | refine we_skip ?_ | refine we_label ?_ | refine we_block ?_ | refine we_scope ?_ | refine we_exit ?_)
  (first | refine or1 Try.func33 Try.results33 hQ rfl ?_ | refine on1 Try.func33 Try.results33 hQ rfl ?_)
  refine ⟨?_,rfl⟩
  unfold orderF
  rw [List.take_of_length_le (by omega),List.take_of_length_le (by omega)]
end
end
end Go.Proofs.Ythghlchcjeocpaa
namespace Go.Proofs.Ythghlchcjeocpaa
open Go Go.PB
attribute [local irreducible] Mo Bin Eql Tr Wo Ap Wle
attribute [local instance] Pass.of_no
section
def qyT (RoS:HProp) (pb tb i ib:Nat):HProp:=all [all [RoS,arr ib 0 [.int .i64 (i:Nat)]],qyM0 pb tb i]
theorem dealY {RoS:HProp} (hd:Dup RoS) {pb tb:Nat} {ts:List Nat} {L:List HProp} {h:Hp} (s:Star (RoS::all (boxesQ ts)::arr pb 0 (List.replicate ts.length (.slice none 0 0))::arr tb 0 (List.replicate ts.length (.slice none 0 0))::L) h):Star (all (ts.mapIdx (qyT RoS pb tb))::RoS::L) h:=by
 have s1:=dup_many hd s ts.length
 have s2:Star (all (List.replicate ts.length RoS)::all (boxesQ ts)::arr pb 0 (List.replicate ts.length (.slice none 0 0))::arr tb 0 (List.replicate ts.length (.slice none 0 0))::RoS::L) h:=Ent.star (.take .here (.take (.there .here) (.take (.there .here) (.take (.there .here) (.take .here .refl))))) s1
 have s3:=star_zip (by simp [boxesQ]) s2
 have s4:=row_cellsQ ts.length 0 (star_swap s3)
 have s4':Star (arr tb 0 (List.replicate ts.length (.slice none 0 0))::_) h:=Ent.star (.take (.there (.there .here)) (.take .here (.take .here .refl))) s4
 have s5:=row_cellsQ ts.length 0 s4'
 have s6:=star_zip (by simp) (star_swap s5)
 have s7:=star_zip (by simp [boxesQ]) (star_swap s6)
 have e:List.zipWith (fun a b=>all [a,b]) (List.zipWith (fun a b=>all [a,b]) (List.replicate ts.length RoS) (boxesQ ts)) (List.zipWith (fun a b=>all [a,b]) ((List.range' 0 ts.length).map fun i=>arr pb i [.slice none 0 0]) ((List.range' 0 ts.length).map fun i=>arr tb i [.slice none 0 0]))=ts.mapIdx (qyT RoS pb tb):=by
  apply List.ext_getElem?
  intro i
  by_cases hi:i<ts.length
  ·simp [boxesQ,qyT,qyM0,hi,List.getElem?_zipWith,List.getElem?_range']
  ·have h1:(ts.mapIdx (qyT RoS pb tb))[i]?=none:=List.getElem?_eq_none_iff.2 (by simp;omega)
   rw [h1]
   apply List.getElem?_eq_none_iff.2
   simp [boxesQ];omega
 rw [e] at s7
 exact s7
def rowQ (rs:List RW) (i:Nat):List (Int × Nat):=match rs[i]? with | some y=>y.2.2 | none=>[]
abbrev qyS (d9 q7 p8 t9 pb tb r qb qo qc:Nat) (rs:List RW) (sp:List Value) (L:List HProp):List HProp:=[fro qb qo (rs.map rv++sp),fro t9 0 [.slice (some ⟨tb,0,none⟩) rs.length rs.length],fro p8 0 [.slice (some ⟨pb,0,none⟩) rs.length rs.length],fro d9 0 [.slice (some ⟨qb,qo,none⟩) rs.length qc],fro q7 0 [.pointer (some ⟨r,0,none⟩)],all L]
def qyTs (n pb tb r b d9 q7 p8 t9:Nat) (RoS:HProp) (rs:List RW) (ts:List Nat):List (Thr ((qyG n pb tb).g (twoAddr r b) (2*n+2) [(r,2,qHdr b n)])):=ts.mapIdx fun i ib=>{ fv:=qyF d9 ib q7 p8 t9,ini:=fun s=>(s,(show ((qyG n pb tb).g (twoAddr r b) (2*n+2) [(r,2,qHdr b n)]).θ from (⟨i,qyCs i (rowQ rs i),[],[],.load⟩:QT))),M:=qyT RoS pb tb i ib }
def qyQs (rs:List RW) (ts:List Nat):List QT:=ts.mapIdx fun i _=>(⟨i,qyCs i (rowQ rs i),[],[],.load⟩:QT)
def qyO (rs:List RW) (j:Nat):List Nat:=(qyCs j (rowQ rs j)).filterMap id
def callQ (rs:List RW):Nat:=sumN (rs.map fun y=>y.2.2.length)
theorem few_atQ {L:List HProp} {a:Option Addr} {rs:List RW} (h:ThsAt L a rs):∀ (i:Nat) y,(fewR rs)[i]?=some y→DoAt L y.1 y.2.2∧y.2.2.length≤10:=by
 intro i y hy
 unfold fewR at hy
 split at hy
 ·have:y=(none,0,[]):=by
   have:=List.mem_of_getElem? hy
   simpa using this
  subst this
  exact ⟨⟨fun z hz=>by simp at hz,fun j z hz=>by simp at hz⟩,by simp⟩
 ·rw [List.getElem?_map,Option.map_eq_some_iff] at hy
  obtain ⟨z,hz,rfl⟩:=hy
  rw [List.getElem?_take] at hz
  split at hz
  ·obtain ⟨b,o,e,h1,h2,h3⟩:=h i z hz
   refine ⟨⟨fun w hw=>h2.rng w (List.mem_of_mem_take hw),fun j w hw=>?_⟩,by simp only [cutR,List.length_take];omega⟩
   simp only [cutR] at hw ⊢
   rw [List.getElem?_take] at hw
   split at hw
   ·exact h2.at_ j w hw
   ·cases hw
  ·cases hz
section
variable {n pb tb r b d9 q7 p8 t9 qb qo qc j:Nat} {rs:List RW} {sp:List Value} {L:List HProp} {ts:List Nat} {RoS:HProp}
theorem qyTs_ok (hne:r≠b) (hn:n=2^j) (hj:1≤j∧j≤10) (hrow:∀ (i:Nat) y,rs[i]?=some y→DoAt L y.1 y.2.2∧y.2.2.length≤10) (hts:ts.length=rs.length) (h6:rs.length≤6):∀ t∈qyTs n pb tb r b d9 q7 p8 t9 (all (qyS d9 q7 p8 t9 pb tb r qb qo qc rs sp L)) rs ts,ThrOk ((qyG n pb tb).g (twoAddr r b) (2*n+2) [(r,2,qHdr b n)]) t.ini t.fv t.M:=by
 intro t ht
 obtain ⟨i,hi⟩:=List.mem_iff_getElem?.1 ht
 simp only [qyTs,List.getElem?_mapIdx,Option.map_eq_some_iff] at hi
 obtain ⟨y,hy,rfl⟩:=hi
 have hil:=(List.getElem?_eq_some_iff.1 hy).1
 obtain ⟨z,hz⟩:∃ z,rs[i]?=some z:=⟨rs[i]'(by omega),List.getElem?_eq_getElem (by omega)⟩
 obtain ⟨hdo,h12⟩:=hrow i z hz
 have er:rowQ rs i=z.2.2:=by unfold rowQ;rw [hz]
 have lift:∀ {b1 o v},Rd (qyS d9 q7 p8 t9 pb tb r qb qo qc rs sp L) b1 o v→Rd [all [all (qyS d9 q7 p8 t9 pb tb r qb qo qc rs sp L),arr y 0 [.int .i64 (i:Nat)]]] b1 o v:=fun h=>rd_allQ (rd_allQ h)
 have O:QyRo (all [all (qyS d9 q7 p8 t9 pb tb r qb qo qc rs sp L),arr y 0 [.int .i64 (i:Nat)]]) d9 y q7 p8 t9 pb tb qb qo rs.length qc i r z.1 z.2.1 z.2.2 :=
  {
   h1:=lift (.there (.there (.there (Rd.fro (k:=0) rfl rfl))))
   h2:=rd_allQ (.there (.row0 rfl))
   h3:=lift (.there (.there (.there (.there (Rd.fro (k:=0) rfl rfl)))))
   h4:=lift (.there (.there (Rd.fro (k:=0) rfl rfl)))
   h5:=lift (.there (Rd.fro (k:=0) rfl rfl))
   h6:=lift (Rd.fro (k:=i) (by rw [List.getElem?_append_left (by rw [List.length_map];omega),List.getElem?_map,hz];rfl) rfl)
   h7:=fun q w hw=>by
    obtain ⟨b',o',e,r1,_⟩:=hdo.at_ q w hw
    exact ⟨b',o',e,lift (.there (.there (.there (.there (.there (rd_allQ r1))))))⟩
   hk:=by omega
   hn:=h6
   hl:=h12
   ok:=fun y hy=>(hdo.rng y hy).1 }
 show ThrOk ((qyG n pb tb).g (twoAddr r b) (2*n+2) [(r,2,qHdr b n)]) (fun s=>(s,(⟨i,qyCs i (rowQ rs i),[],[],.load⟩:QT))) (qyF d9 y q7 p8 t9) (qyT _ pb tb i y)
 rw [er]
 exact qy_ok hne hn hj O
theorem qyTs_M:(qyTs n pb tb r b d9 q7 p8 t9 RoS rs ts).map Thr.M=ts.mapIdx (qyT RoS pb tb):=by
 apply List.ext_getElem?
 intro k
 simp only [qyTs,List.getElem?_map,List.getElem?_mapIdx]
 cases ts[k]? <;> rfl
theorem qyTs_fv:(qyTs n pb tb r b d9 q7 p8 t9 RoS rs ts).map Thr.fv=ts.map fun ib=>qyF d9 ib q7 p8 t9:=by
 apply List.ext_getElem?
 intro k
 simp only [qyTs,List.getElem?_map,List.getElem?_mapIdx]
 cases ts[k]? <;> rfl
theorem qyTs_ini:∀ t∈qyTs n pb tb r b d9 q7 p8 t9 RoS rs ts,∀ s,(t.ini s).1=s:=fun t ht s=>by
 obtain ⟨i,hi⟩:=List.mem_iff_getElem?.1 ht
 simp only [qyTs,List.getElem?_mapIdx,Option.map_eq_some_iff] at hi
 obtain ⟨y,hy,rfl⟩:=hi
 rfl
theorem startF_qsQ {g:Game}:∀ {ts:List (Thr g)} {s:g.σ},(∀ t∈ts,∀ s,(t.ini s).1=s)→startF ts s=(s,ts.map fun t=>(t.ini s).2)
 | [],s,_=>rfl
 | t::ts,s,h=>by
  have h1:=h t (by simp) s
  have h2:=startF_qsQ (ts:=ts) (s:=s) fun u hu=>h u (by simp [hu])
  show ((startF ts (t.ini s).1).1,(t.ini s).2::(startF ts (t.ini s).1).2)=_
  rw [h1,h2];rfl
theorem qyTs_start {s:QS}:startF (qyTs n pb tb r b d9 q7 p8 t9 RoS rs ts) (show ((qyG n pb tb).g (twoAddr r b) (2*n+2) [(r,2,qHdr b n)]).σ from s)=(s,qyQs rs ts):=by
 rw [startF_qsQ qyTs_ini]
 congr 1
 apply List.ext_getElem?
 intro k
 show ((qyTs n pb tb r b d9 q7 p8 t9 RoS rs ts).map fun t=>(t.ini s).2)[k]?=(qyQs rs ts)[k]?
 rw [List.getElem?_map]
 unfold qyTs qyQs
 rw [List.getElem?_mapIdx,List.getElem?_mapIdx]
 cases ts[k]? <;> rfl
theorem qyCs_sub {k:Nat}:∀ (l:List (Int × Nat)) (off:Nat),((l.mapIdx fun i y=>if y.1%3=0 then some (qVal k (off+i)) else none).filterMap id).Sublist ((List.range' off l.length).map (qVal k))
 | [],off=>by simp
 | y::l,off=>by
  have ih:=qyCs_sub (k:=k) l (off+1)
  rw [List.mapIdx_cons,List.length_cons,List.range'_succ,List.map_cons]
  have e:(l.mapIdx fun i y=>if y.1%3=0 then some (qVal k (off+(i+1))) else none)=l.mapIdx fun i y=>if y.1%3=0 then some (qVal k (off+1+i)) else none:=by
   congr 1
   funext i y
   rw [show off+(i+1)=off+1+i by omega]
  rw [e]
  by_cases h:y.1%3=0
  ·rw [if_pos h]
   simp only [List.filterMap_cons,id,Nat.add_zero]
   exact ih.cons_cons _
  ·rw [if_neg h]
   simp only [List.filterMap_cons,id]
   exact ih.cons _
theorem qyO_ok (h10:∀ i,(rowQ rs i).length≤10) (k:Nat):(qyO rs k).Nodup∧(∀ v∈qyO rs k,v/4294967296=k∧v<k*4294967296+10)∧(rs.length≤k→qyO rs k=[]):=by
 have hs:(qyO rs k).Sublist ((List.range' 0 (rowQ rs k).length).map (qVal k)):=by
  have:=qyCs_sub (k:=k) (rowQ rs k) 0
  simp only [Nat.zero_add] at this
  exact this
 refine ⟨?_,fun v hv=>?_,fun hk=>?_⟩
 ·refine List.Nodup.sublist hs (List.Pairwise.map _ (fun a b hab=>?_) (List.nodup_range' (s:=0) (n:=(rowQ rs k).length)))
  unfold qVal;omega
 ·obtain ⟨i,hi,rfl⟩:=List.mem_map.1 (hs.subset hv)
  have:=List.mem_range'_1.1 hi
  have:=h10 k
  unfold qVal;omega
 ·unfold qyO rowQ
  rw [List.getElem?_eq_none hk];rfl
theorem qy_begin {f:Nat→Nat} (hn:2≤n) (h10:∀ i,(rowQ rs i).length≤10) (hts:ts.length=rs.length) (h6:rs.length≤6) (hf0:f 0=0) (hf1:f 1=0) (hf:∀ i,i<n→f (2+2*i)=i) :
  (QI n 60 ⟨f,[],[]⟩ (qyQs rs ts)∧QE rs.length (qyO rs) (fun _=>True) ⟨f,[],[]⟩ (qyQs rs ts))∧sumN ((qyQs rs ts).map (qtPsi (sumN ((qyQs rs ts).map qAct)) ⟨f,[],[]⟩))≤callQ rs*(3*callQ rs+2)∧callQ rs≤60:=by
 have hat:∀ (j:Nat) (q:QT),(qyQs rs ts)[j]?=some q→q=⟨j,qyCs j (rowQ rs j),[],[],.load⟩:=fun j q h=>by
  simp only [qyQs,List.getElem?_mapIdx,Option.map_eq_some_iff] at h
  obtain ⟨y,_,rfl⟩:=h
  rfl
 have hlen:(qyQs rs ts).length=rs.length:=by simp [qyQs,hts]
 have hC:sumN ((qyQs rs ts).map fun q=>q.cs.length)=callQ rs:=by
  unfold callQ
  congr 1
  apply List.ext_getElem?
  intro k
  simp only [qyQs,List.getElem?_map,List.getElem?_mapIdx]
  by_cases hk:k<rs.length
  ·rw [List.getElem?_eq_getElem (by omega:k<ts.length),List.getElem?_eq_getElem hk]
   simp [qyCs,rowQ,List.getElem?_eq_getElem hk]
  ·rw [List.getElem?_eq_none (by omega),List.getElem?_eq_none (by omega)];rfl
 refine ⟨q_begin hn hf0 hf1 hf hlen (fun j q h=>?_) ?_,?_,?_⟩
 ·rw [hat j q h]
  exact ⟨rfl,rfl,rfl,rfl,List.Sublist.refl _,fun _=>trivial⟩
 ·have h1:∀ a∈(qyQs rs ts).map qrem,a≤10:=by
   intro a ha
   obtain ⟨q,hq,rfl⟩:=List.mem_map.1 ha
   obtain ⟨j,hj⟩:=List.mem_iff_getElem?.1 hq
   rw [hat j q hj]
   have:=h10 j
   unfold qrem;simp [QSt.holds,qyCs];omega
  have h2:=sum_le h1
  rw [List.length_map,hlen] at h2
  omega
 ·rw [← hC]
  exact qt_begin fun q hq=>by
   obtain ⟨j,hj⟩:=List.mem_iff_getElem?.1 hq
   rw [hat j q hj]
 ·rw [← hC]
  have h1:∀ a∈(qyQs rs ts).map (fun q=>q.cs.length),a≤10:=by
   intro a ha
   obtain ⟨q,hq,rfl⟩:=List.mem_map.1 ha
   obtain ⟨j,hj⟩:=List.mem_iff_getElem?.1 hq
   rw [hat j q hj]
   have:=h10 j
   simp [qyCs];omega
  have h2:=sum_le h1
  rw [List.length_map,hlen] at h2
  omega
def qyPI (rs:List RW) (M:Nat) (p:PS ((qyG n pb tb).g (twoAddr r b) (2*n+2) [(r,2,qHdr b n)])):Prop:=(QI n 60 p.s p.qs∧QE rs.length (qyO rs) (fun _=>True) p.s p.qs)∧sumN ((show List QT from p.qs).map qAct)≤M
theorem qy_plays {f:Nat→Nat} (hn:2≤n) (hn2:n≤1024) (h10:∀ i,(rowQ rs i).length≤10) (hts:ts.length=rs.length) (h6:rs.length≤6) (hf0:f 0=0) (hf1:f 1=0) (hf:∀ i,i<n→f (2+2*i)=i) (o:List Int) :
  ∃ M,(∀ (p:PS ((qyG n pb tb).g (twoAddr r b) (2*n+2) [(r,2,qHdr b n)])) k,qyPI rs M p→qyPI rs M (takeF p k).1) ∧
  qyPI (n:=n) (pb:=pb) (tb:=tb) (r:=r) (b:=b) rs M ⟨(startF (qyTs n pb tb r b d9 q7 p8 t9 RoS rs ts) (show ((qyG n pb tb).g (twoAddr r b) (2*n+2) [(r,2,qHdr b n)]).σ from (⟨f,[],[]⟩:QS))).1,(startF (qyTs n pb tb r b d9 q7 p8 t9 RoS rs ts) (show ((qyG n pb tb).g (twoAddr r b) (2*n+2) [(r,2,qHdr b n)]).σ from (⟨f,[],[]⟩:QS))).2,[]⟩ ∧
  qyPI rs M (playF (qyTs n pb tb r b d9 q7 p8 t9 RoS rs ts) (show ((qyG n pb tb).g (twoAddr r b) (2*n+2) [(r,2,qHdr b n)]).σ from (⟨f,[],[]⟩:QS)) o) ∧
  (playF (qyTs n pb tb r b d9 q7 p8 t9 RoS rs ts) (show ((qyG n pb tb).g (twoAddr r b) (2*n+2) [(r,2,qHdr b n)]).σ from (⟨f,[],[]⟩:QS)) o).tr.length≤callQ rs*(3*callQ rs+2)∧callQ rs≤60 ∧
  (∀ q∈(show List QT from (playF (qyTs n pb tb r b d9 q7 p8 t9 RoS rs ts) (show ((qyG n pb tb).g (twoAddr r b) (2*n+2) [(r,2,qHdr b n)]).σ from (⟨f,[],[]⟩:QS)) o).qs),q.cs=[]) ∧
  cutN ((qyG n pb tb).g (twoAddr r b) (2*n+2) [(r,2,qHdr b n)]) (playF (qyTs n pb tb r b d9 q7 p8 t9 RoS rs ts) (show ((qyG n pb tb).g (twoAddr r b) (2*n+2) [(r,2,qHdr b n)]).σ from (⟨f,[],[]⟩:QS)) o).qs (qyTs n pb tb r b d9 q7 p8 t9 RoS rs ts).length=[]:=by
 obtain ⟨i0,f0,hC⟩:=qy_begin (rs:=rs) (ts:=ts) (f:=f) hn h10 hts h6 hf0 hf1 hf
 obtain ⟨M,hM⟩:∃ M,sumN ((qyQs rs ts).map qAct)=M:=⟨_,rfl⟩
 rw [hM] at f0
 have hs:∀ (p:PS ((qyG n pb tb).g (twoAddr r b) (2*n+2) [(r,2,qHdr b n)])) k,qyPI rs M p→qyPI rs M (takeF p k).1∧((takeF p k).2=true→sumN ((show List QT from (takeF p k).1.qs).map (qtPsi M (show QS from (takeF p k).1.s)))+1≤sumN ((show List QT from p.qs).map (qtPsi M (show QS from p.s)))):=fun p k h=>by
  rcases takeF_cases p k with e | ⟨m,q,mk,F,_,hq,hp,_,e⟩
  ·rw [e];exact ⟨h,fun h=>by cases h⟩
  ·rw [e]
   obtain ⟨⟨a1,a2⟩,a3⟩:=h
   obtain ⟨b1,b2⟩:=qt_step a1 a3 hn hn2 (by omega) hq hp
   exact ⟨⟨⟨(q_step a1 hn hn2 (by omega) hq hp).1,qe_step a2 a1 hq hp⟩,b1⟩,fun _=>b2⟩
 have hI0:qyPI (n:=n) (pb:=pb) (tb:=tb) (r:=r) (b:=b) rs M ⟨(startF (qyTs n pb tb r b d9 q7 p8 t9 RoS rs ts) (show ((qyG n pb tb).g (twoAddr r b) (2*n+2) [(r,2,qHdr b n)]).σ from (⟨f,[],[]⟩:QS))).1,(startF (qyTs n pb tb r b d9 q7 p8 t9 RoS rs ts) (show ((qyG n pb tb).g (twoAddr r b) (2*n+2) [(r,2,qHdr b n)]).σ from (⟨f,[],[]⟩:QS))).2,[]⟩:=by
  rw [qyTs_start];exact ⟨i0,Nat.le_of_eq hM⟩
 have hlt:callQ rs*(3*callQ rs+2)<16384:=by
  have:=Nat.mul_le_mul hC (show 3*callQ rs+2≤182 by omega)
  omega
 obtain ⟨hI,htr,hdone⟩:=play_ends (I:=qyPI rs M) (Φ:=fun p=>sumN ((show List QT from p.qs).map (qtPsi M (show QS from p.s)))) (ts:=qyTs n pb tb r b d9 q7 p8 t9 RoS rs ts) (s:=(show ((qyG n pb tb).g (twoAddr r b) (2*n+2) [(r,2,qHdr b n)]).σ from (⟨f,[],[]⟩:QS))) (o:=o) (n:=callQ rs*(3*callQ rs+2)) (fun p k h=>(hs p k h).1) (fun p k h=>(hs p k h).2) hI0 (by rw [qyTs_start];exact f0) hlt
 refine ⟨M,fun p k h=>(hs p k h).1,hI0,hI,htr,hC,fun q hq=>?_,cutN_nil hdone⟩
 obtain ⟨k,hk⟩:=List.mem_iff_getElem?.1 hq
 exact plan_none (n:=n) (hdone k q hk)
variable {Bd:Nat} {s:QS} {qs:List QT}
def qyLC (pb tb:Nat) (s:QS) (k:Nat) (y:Value × Value):HProp:=all [qyAll pb tb k (putBy s k) (takenBy s k) y]
theorem qy_left (hI:QI n Bd s qs) (hd:∀ q∈qs,q.cs=[]) {L:List HProp} {h:Hp} (st:Star (all (qs.map fun q=>qyC pb tb q.me q.pa q.ta)::L) h) :
  ∃ ys:List (Value × Value),(ys.length=qs.length∧∀ (k:Nat) y,ys[k]?=some y→ShpQ y.1 (putBy s k).length∧ShpQ y.2 (takenBy s k).length)∧Star (all (ys.mapIdx (qyLC pb tb s))::L) h:=by
 have:=alls_ex (M:=qs.map fun q=>qyC pb tb q.me q.pa q.ta) (C:=qyLC pb tb s) (Q:=fun k y=>ShpQ y.1 (putBy s k).length∧ShpQ y.2 (takenBy s k).length) (fun k c hk h hc=>by
  rw [List.getElem?_map] at hk
  obtain ⟨q,hq,rfl⟩:=Option.map_eq_some_iff.1 hk
  obtain ⟨h1,h2,sp,⟨y,hz⟩,_⟩:=hc
  have hme:=(hI.thr k q hq).1
  have hcs:=hd q (List.mem_iff_getElem?.2 ⟨k,hq⟩)
  have e1:=hI.pas k q hq
  have e2:=hI.tas k q hq
  have n1:pendP q=[]:=by unfold pendP;rw [hcs]
  have n2:pendT s q=[]:=by unfold pendT;rw [hcs]
  rw [n1,List.append_nil] at e1
  rw [n2,List.append_nil] at e2
  rw [hme,← e1,← e2] at hz
  refine ⟨y,?_,⟨h1,h2,sp,hz,trivial⟩⟩
  obtain ⟨_,_,_,_,g3⟩:=hz
  obtain ⟨_,_,_,g6,g7⟩:=g3
  obtain ⟨_,_,_,_,g8⟩:=g7
  obtain ⟨_,_,_,g9,_⟩:=g8
  have t1:=shpQ_vec g6
  have t2:=shpQ_vec g9
  rw [List.length_map] at t1 t2
  exact ⟨t1,t2⟩) st
 obtain ⟨ys,⟨h1,h2⟩,h3⟩:=this
 exact ⟨ys,⟨by rw [h1,List.length_map],h2⟩,h3⟩
variable {ys:List (Value × Value)} {F:List HProp}
theorem qy_item {k:Nat} {y:Value × Value} {b1 o1:Nat} {v:Value} (hk:ys[k]?=some y) (h:Rd [arr pb k [y.1],vec 1 y.1 ((putBy s k).map num),arr tb k [y.2],vec 1 y.2 ((takenBy s k).map num)] b1 o1 v):Rd (all (ys.mapIdx (qyLC pb tb s))::F) b1 o1 v :=
 rd_item (k:=k) (c:=qyLC pb tb s k y) (by rw [List.getElem?_mapIdx,hk];rfl) (rd_allQ (rd_allQ h))
theorem qy_row {m:Nat} (hlen:ys.length=m) (hS:∀ (k:Nat) y,ys[k]?=some y→ShpQ y.1 (putBy s k).length∧ShpQ y.2 (takenBy s k).length) :
  (RdsO (all (ys.mapIdx (qyLC pb tb s))::F) (some ⟨pb,0,none⟩) m (ys.map (·.1))∧HdrOk (all (ys.mapIdx (qyLC pb tb s))::F) (ys.map (·.1)) (qPs s m)) ∧
  RdsO (all (ys.mapIdx (qyLC pb tb s))::F) (some ⟨tb,0,none⟩) m (ys.map (·.2))∧HdrOk (all (ys.mapIdx (qyLC pb tb s))::F) (ys.map (·.2)) (qTs s 0 m):=by
 refine ⟨⟨⟨by simp [hlen],.inr ⟨pb,0,rfl,fun i v hi=>?_⟩⟩,⟨by simp [qPs,hlen],fun i l hi=>?_⟩⟩,⟨by simp [hlen],.inr ⟨tb,0,rfl,fun i v hi=>?_⟩⟩,⟨by simp [qTs,hlen],fun i l hi=>?_⟩⟩
 ·rw [List.getElem?_map] at hi
  obtain ⟨y,hy,rfl⟩:=Option.map_eq_some_iff.1 hi
  rw [Nat.zero_add]
  exact qy_item hy (Rd.row (k:=0) rfl rfl)
 ·unfold qPs at hi
  rw [List.getElem?_map] at hi
  obtain ⟨i',h1,rfl⟩:=Option.map_eq_some_iff.1 hi
  have hlt:i<m:=by have:=(List.getElem?_eq_some_iff.1 h1).1;simpa using this
  obtain rfl:i=i':=by rw [List.getElem?_range hlt] at h1;exact Option.some.inj h1
  obtain ⟨y,hy⟩:∃ y,ys[i]?=some y:=⟨ys[i],List.getElem?_eq_getElem (by omega)⟩
  obtain ⟨⟨a,c,h3,h4,h5⟩,_⟩:=hS i y hy
  refine ⟨a,c,by rw [List.getElem?_map,hy,← h3];rfl,⟨by simp,?_⟩⟩
  cases a with
  | none=>exact .inl (h4 rfl)
  | some w =>
   obtain ⟨b1,o1,sp1⟩:=w
   cases h5 _ rfl
   refine .inr ⟨b1,o1,rfl,fun t v ht=>qy_item hy (.there ?_)⟩
   rw [h3]
   exact rd_vec .here ht
 ·rw [List.getElem?_map] at hi
  obtain ⟨y,hy,rfl⟩:=Option.map_eq_some_iff.1 hi
  rw [Nat.zero_add]
  exact qy_item hy (.there (.there (Rd.row (k:=0) rfl rfl)))
 ·unfold qTs at hi
  rw [List.getElem?_map] at hi
  obtain ⟨i',h1,rfl⟩:=Option.map_eq_some_iff.1 hi
  have hlt:i<m:=by have:=(List.getElem?_eq_some_iff.1 h1).1;simpa using this
  obtain rfl:i=i':=by rw [List.getElem?_range hlt] at h1;exact Option.some.inj h1
  rw [Nat.zero_add]
  obtain ⟨y,hy⟩:∃ y,ys[i]?=some y:=⟨ys[i],List.getElem?_eq_getElem (by omega)⟩
  obtain ⟨_,a,c,h3,h4,h5⟩:=hS i y hy
  refine ⟨a,c,by rw [List.getElem?_map,hy,← h3];rfl,⟨by simp,?_⟩⟩
  cases a with
  | none=>exact .inl (h4 rfl)
  | some w =>
   obtain ⟨b1,o1,sp1⟩:=w
   cases h5 _ rfl
   refine .inr ⟨b1,o1,rfl,fun t v ht=>qy_item hy (.there (.there (.there ?_)))⟩
   rw [h3]
   exact rd_vec .here ht
end
end
section
theorem seqs_0 {n:Nat}:seqs n 0=0:=rfl
theorem seqs_1 {n:Nat}:seqs n 1=0:=rfl
theorem seqs_i {n i:Nat} (hi:i<n):seqs n (2+2*i)=i:=by unfold seqs;rw [if_pos (by omega)];omega
section
variable {pn tn xb yb qb pB tB:Nat}
end
theorem hdr_there {L:List HProp} {c:HProp} {vs:List Value} {ls:List (List Nat)} (h:HdrOk L vs ls):HdrOk (c::L) vs ls :=
 ⟨h.1,fun i l hi=>let ⟨a,c',h1,h2⟩:=h.2 i l hi;⟨a,c',h1,h2.there⟩⟩
end
section
theorem rd_upQ {L:List HProp}:∀ (M:List HProp) {b o:Nat} {v:Value},Rd L b o v→Rd (M++L) b o v
 | [],b,o,v,h=>h
 | c::M,b,o,v,h=>.there (rd_upQ M h)
theorem rdso_upQ {L:List HProp} (M:List HProp) {a:Option Addr} {n:Nat} {vs:List Value} (h:RdsO L a n vs):RdsO (M++L) a n vs :=
 ⟨h.1,h.2.imp id fun ⟨b,o,e,r⟩=>⟨b,o,e,fun i v hi=>rd_upQ M (r i v hi)⟩⟩
theorem ths_upQ {L:List HProp} (M:List HProp) {a:Option Addr} {rs:List RW} (h:ThsAt L a rs):ThsAt (M++L) a rs:=fun i y hy=>by
 obtain ⟨b,o,e,h1,h2,h3⟩:=h i y hy
 exact ⟨b,o,e,rd_upQ M h1,⟨h2.rng,fun i y hy=>by obtain ⟨b,o,e,h4,h5⟩:=h2.at_ i y hy;exact ⟨b,o,e,rd_upQ M h4,rd_upQ M h5⟩⟩,h3⟩
theorem vec_rowQ {b o n c:Nat} {cs:List Value}:∀ h,vec 1 (.slice (some ⟨b,o,none⟩) n c) cs h→∃ sp,arr b o (cs++sp) h:=fun h z=>by
 rcases z with ⟨e,_⟩ | ⟨b',o',n',c',sp,e,h1,h2,h3,h4⟩
 ·cases e
 ·cases e;exact ⟨sp,h4⟩
theorem callQ_take {rs:List RW} {i:Nat} {y:RW} (h:rs[i]?=some y):callQ (rs.take (i+1))=callQ (rs.take i)+y.2.2.length:=by
 unfold callQ
 rw [List.take_add_one,h,Option.toList_some,List.map_append]
 generalize (rs.take i).map (fun y:RW=>y.2.2.length)=m
 induction m with
 | nil=>simp [sumN]
 | cons a m ih=>simp only [sumN,List.cons_append,List.foldr_cons,List.map_cons,List.map_nil,List.nil_append] at ih ⊢;omega
theorem callQ_le {rs:List RW}:∀ {i:Nat},callQ (rs.take i)≤callQ rs:=by
 induction rs with
 | nil=>intro i;simp
 | cons a l ih =>
  intro i
  cases i with
  | zero=>simp [callQ,sumN]
  | succ i =>
   have:=ih (i:=i)
   unfold callQ at this ⊢
   simp only [List.take_succ_cons,List.map_cons,sumN,List.foldr_cons] at this ⊢;omega
theorem rdso_vecQ {L F:List HProp} {a:Option Addr} {n c:Nat} {cs:List Value} (hh:Has L (vec 1 (.slice a n c) cs) F) (hn:cs.length=n*1) (hz:a=none→n=0) (hy:∀ y,a=some y→y=⟨y.block,y.off,none⟩):RdsO L a n cs:=rdsoQ hh (by omega) hz hy
def qyOut (d9 q7 p8 t9:Nat) (ov:Value) (rs:List RW) (L5:List HProp):PB.Inv (Nat × Nat × Value × List Nat) MX where
 e:=fun i=>[(2,ov),(7,.pointer (some ⟨q7,0,none⟩)),(9,.pointer (some ⟨d9,0,none⟩)),(10,.pointer (some ⟨p8,0,none⟩)),(11,.pointer (some ⟨t9,0,none⟩)),(12,.int .i64 (callQ (rs.take i.1):Nat)),(13,i.2.2.1),(14,.pointer (some ⟨i.2.1,0,none⟩))]
 L:=fun i=>arr i.2.1 0 [.int .i64 (i.1:Nat)]::vec 1 i.2.2.1 (i.2.2.2.map fun ib=>qyF d9 ib q7 p8 t9)::all (boxesQ i.2.2.2)::L5
 x:=fun _=>.idle
 ok:=fun i=>i.1≤rs.length∧i.2.2.2.length=i.1
def qyCnt (d9 q7 p8 t9 ib:Nat) (ov tv:Value) (C l:Nat) (R:List HProp):PB.Inv Nat MX where
 e:=fun j=>[(2,ov),(7,.pointer (some ⟨q7,0,none⟩)),(9,.pointer (some ⟨d9,0,none⟩)),(10,.pointer (some ⟨p8,0,none⟩)),(11,.pointer (some ⟨t9,0,none⟩)),(12,.int .i64 ((C+j:Nat):Int)),(13,tv),(14,.pointer (some ⟨ib,0,none⟩)),(15,.int .i64 (j:Nat))]
 L:=fun _=>R
 x:=fun _=>.idle
 ok:=fun j=>j≤l
set_option maxHeartbeats 8000000 in
theorem qTurns_tr {L:List HProp} {sl:Int} {ta oa:Option Addr} {tc oc:Nat} {rs0:List RW} {order:List Int} (hL:Dup (all L)) (h0:-9223372036854775808≤sl∧sl≤9223372036854775807) (hr0:ThsAt L ta rs0) (hro:RdsO L oa order.length (intC order)) (hoi:∀ k∈order,-9223372036854775808≤k∧k≤9223372036854775807) :
  Tr Try.prog mT 6 [.int .i64 sl,.slice ta rs0.length tc,.slice oa order.length oc] L .idle fun v L' x'=>v=.bool true∧x'=.idle:=by
 refine tr_of_body Try.func6 rfl Try.ntmps6 (by simp) fun um Q _ hQ=>?_
 simp only [argE,Nat.zero_add,Nat.reduceAdd]
 repeat (first | refine we_seq ?_ | (refine wR ?_;try simp only [oS]) | refine wo_nil ?_ | refine wA ?_)
 refine wo_call .nil trivial works_tr ?_
 rintro v1 L1 x1 ⟨rfl,hL1,rfl⟩
 rw [hL1]
 clear hL1
 repeat (first | refine we_seq ?_ | (refine wR ?_;try simp only [oS]) | refine wo_nil ?_ | refine wM ?_ | (apply wo_po;apply mo_not;exact rfl;exact gY) | refine wF ?_ | refine we_skip ?_)
 refine wo_call (.cons rfl .nil) trivial (width_tr h0) ?_
 rintro v1 L1 x1 ⟨j,hj1,hj3,rfl,hL1,rfl⟩
 rw [hL1]
 clear hL1
 skip
 refine wo_call (.cons rfl .nil) trivial (new_tr (n:=2^j) rfl hj1 (by omega)) ?_
 rintro v1 L1 x1 ⟨r,b,rfl,hne,rfl,rfl⟩
 repeat (first | (apply wo_mo;apply mo_alloc;exact trivial) | refine wM ?_ | (apply wo_po;apply mo_extract;exact rfl;exact rfl;exact gY))
 rintro v' L' ⟨q7,rfl,rfl⟩
 repeat (first | refine wS ?_ | refine wneqF ?_ | refine we_seq ?_ | (refine wR ?_;try simp only [oS]) | refine wo_nil ?_ | refine wM ?_ | refine wA ?_ | refine wF ?_ | refine we_skip ?_)
 refine wo_call (.cons rfl .nil) trivial (few_tr (ths_upQ [_,_] hr0)) ?_
 rintro qv L2 x1 ⟨rfl,rfl⟩
 have hrs:0<(fewR rs0).length∧(fewR rs0).length≤6:=by
  unfold fewR
  split
  ·simp
  ·rename_i h0
   have:=List.length_pos_iff.2 h0
   simp only [List.length_map,List.length_take];omega
 have hrow:=few_atQ hr0
 generalize hrsd:fewR rs0=rs at hrs hrow
 refine wo_pure (of_has .here (vec_shape (by omega))) ?_
 rintro ⟨qa,qn,qc,rfl,hqn,_,hqz,hqy⟩
 have hqn:qn=rs.length:=by simp at hqn;omega
 subst hqn
 cases qa with
 | none=>have:=hqz rfl;omega
 | some ad =>
 obtain ⟨qb,qo,sp⟩:=ad
 have:=hqy _ rfl
 simp only [Addr.mk.injEq,true_and] at this
 subst this
 repeat (first | (apply wo_mo;apply mo_alloc;exact trivial))
 rintro v' L' ⟨d9,rfl,rfl⟩
 repeat (first | refine wS ?_ | (apply wo_mo;apply mo_make (n:=rs.length);exact rfl;exact rfl;exact rfl;omega;omega;exact trivial) | refine we_seq ?_ | (refine wR ?_;try simp only [oS]) | refine wo_nil ?_ | refine wL ?_ | refine wE ?_)
 rintro v' L' ⟨pb,rfl,rfl⟩
 repeat (first | (apply wo_mo;apply mo_alloc;exact trivial))
 rintro v' L' ⟨p8,rfl,rfl⟩
 repeat (first | refine wS ?_ | (apply wo_mo;apply mo_make (n:=rs.length);exact rfl;exact rfl;exact rfl;omega;omega;exact trivial) | refine we_seq ?_ | (refine wR ?_;try simp only [oS]) | refine wo_nil ?_ | refine wL ?_ | refine wE ?_)
 rintro v' L' ⟨tb,rfl,rfl⟩
 repeat (first | (apply wo_mo;apply mo_alloc;exact trivial))
 rintro v' L' ⟨t9,rfl,rfl⟩
 repeat (first | refine wS ?_ | (apply wo_mo;apply mo_alloc;exact trivial) | refine we_seq ?_ | (refine wR ?_;try simp only [oS]) | refine wo_nil ?_ | refine wA ?_)
 rintro v' L' ⟨ib,rfl,rfl⟩
 refine wo_frz (b:=q7) (o:=0) (.there (.there (.there (.there (.there (.there (.there .here))))))) ?_
 refine wo_frz (b:=d9) (o:=0) (.there (.there (.there (.there (.there (.there .here)))))) ?_
 refine wo_frz (b:=p8) (o:=0) (.there (.there (.there (.there (.there .here))))) ?_
 refine wo_frz (b:=t9) (o:=0) (.there (.there (.there (.there .here)))) ?_
 refine wo_star ((fun h=>∃ sp,arr qb qo (rs.map rv++sp) h)::_) (fun h st=>star_map (Ent.star (.take (.there (.there (.there (.there (.there (.there (.there .here))))))) .refl) st) vec_rowQ fun _ z=>z) ?_
 refine wo_ex .here fun sp=>?_
 refine wo_frz (b:=qb) (o:=qo) .here ?_
 obtain ⟨n,hn⟩:∃ n,n=2^j:=⟨_,rfl⟩
 rw [← hn]
 have hn2:2≤n:=by rw [hn];have:=Nat.pow_le_pow_right (n:=2) (by omega) hj1;omega
 have hle:n≤1024:=by rw [hn];exact pow_le (by omega)
 refine wo_ent _ (.take (.there (.there (.there (.there (.there .here))))) .refl) ?_
 repeat (first | refine wS ?_ | refine wo_nil ?_ | refine we_block ?_)
 let L5:List HProp:=fro qb qo (rs.map rv++sp)::fro t9 0 [.slice (some ⟨tb,0,none⟩) rs.length rs.length]::fro p8 0 [.slice (some ⟨pb,0,none⟩) rs.length rs.length]::fro d9 0 [.slice (some ⟨qb,qo,none⟩) rs.length qc]::fro q7 0 [.pointer (some ⟨r,0,none⟩)]::arr tb 0 (List.replicate rs.length (.slice none 0 0))::arr pb 0 (List.replicate rs.length (.slice none 0 0))::wds (twoAddr r b) (2*n+2) [(r,2,.slice (some ⟨b,0,none⟩) n n)] (seqs n)::L
 refine we_star ((qyOut d9 q7 p8 t9 (.slice oa order.length oc) rs L5).L (0,ib,.slice none 0 0,[])) (fun h st=>?_) ?_
 ·have s1:Star (arr ib 0 [.int .i64 (0:Nat)]::fro qb qo (rs.map rv++sp)::fro t9 0 [.slice (some ⟨tb,0,none⟩) rs.length rs.length]::fro p8 0 [.slice (some ⟨pb,0,none⟩) rs.length rs.length]::fro d9 0 [.slice (some ⟨qb,qo,none⟩) rs.length qc]::fro q7 0 [.pointer (some ⟨r,0,none⟩)]::arr tb 0 (zeros rs.length [.slice none 0 0])::arr pb 0 (zeros rs.length [.slice none 0 0])::_) h:=st
  rw [zeros_rep] at s1
  have s3:Star (all []::vec 1 (.slice none 0 0) []::_) h:=star_shut (M:=[]) (vec_nil s1)
  exact Ent.star (.take (.there (.there .here)) (.take (.there .here) (.take .here .refl))) s3
 refine we_loopN (qyOut d9 q7 p8 t9 (.slice oa order.length oc) rs L5) (fun i=>rs.length-i.1) (0,ib,.slice none 0 0,[]) ⟨Nat.zero_le _,rfl⟩ ⟨rfl,rfl,rfl,rfl,rfl,rfl,rfl,rfl,trivial⟩ .refl rfl ?_
 rintro ⟨i,ib,tv,ts⟩ ⟨hi,hts⟩
 dsimp only at hi hts
 simp only [qyOut]
 refine we_pure (of_has (.there .here) (vec_shape (by omega))) ?_
 rintro ⟨tva,tvn,tvc,rfl,htvn,_,htz,hty⟩
 have htvn:tvn=i:=by simp at htvn;omega
 subst htvn
 have hC60:callQ rs≤60:=by
  have:∀ a∈rs.map (fun y:RW=>y.2.2.length),a≤10:=fun a ha=>by
   obtain ⟨y,hy,rfl⟩:=List.mem_map.1 ha
   obtain ⟨k,hk⟩:=List.mem_iff_getElem?.1 hy
   exact (hrow k y hk).2
  have:=sum_le this
  rw [List.length_map] at this
  unfold callQ
  omega
 have rd9:∀ {c0 c1 c2:HProp},Rd (c0::c1::c2::L5) d9 0 (.slice (some ⟨qb,qo,none⟩) rs.length qc):=.there (.there (.there (.there (.there (.there (Rd.fro (k:=0) rfl rfl))))))
 have hCi:=callQ_le (rs:=rs) (i:=tvn)
 obtain ⟨ci,hci⟩:∃ c,callQ (rs.take tvn)=c:=⟨_,rfl⟩
 rw [hci] at hCi ⊢
 by_cases hlt:tvn<rs.length
 ·obtain ⟨y,hy⟩:∃ y,rs[tvn]?=some y:=⟨rs[tvn],List.getElem?_eq_getElem hlt⟩
  have h10:=(hrow tvn y hy).2
  have e1:=callQ_take hy
  rw [hci] at e1
  have rqb:∀ {c0 c1 c2:HProp},Rd (c0::c1::c2::L5) qb (qo+tvn) (.slice y.1 y.2.2.length y.2.1):=.there (.there (.there (Rd.fro (k:=tvn) (by rw [List.getElem?_append_left (by rw [List.length_map];omega),List.getElem?_map,hy];rfl) rfl)))
  repeat (first | (apply wo_po;apply mo_load;exact rfl;exact rd9;exact trivial) | refine wlssT ?_ | refine we_seq ?_ | (refine wR ?_;try simp only [oS]) | refine wo_nil ?_ | refine wA ?_ | refine wL ?_ | refine wE ?_ | refine wT ?_ | refine we_skip ?_ | refine we_block ?_)
  obtain ⟨R,hR⟩:∃ R:List HProp,R=arr ib 0 [.int .i64 (tvn:Nat)]::vec 1 (.slice tva tvn tvc) (ts.map fun ib=>qyF d9 ib q7 p8 t9)::all (boxesQ ts)::L5:=⟨_,rfl⟩
  rw [← hR]
  have rR1:Rd R d9 0 (.slice (some ⟨qb,qo,none⟩) rs.length qc):=by rw [hR];exact rd9
  have rR2:Rd R ib 0 (.int .i64 (tvn:Nat)):=by rw [hR];exact .row0 rfl
  have rR3:Rd R qb (qo+tvn) (.slice y.1 y.2.2.length y.2.1):=by rw [hR];exact rqb
  refine we_loopN (qyCnt d9 q7 p8 t9 ib (.slice oa order.length oc) (.slice tva tvn tvc) ci y.2.2.length R) (fun j=>y.2.2.length-j) 0 (Nat.zero_le _) ⟨rfl,rfl,rfl,rfl,rfl,rfl,rfl,rfl,rfl,trivial⟩ .refl rfl ?_
  intro m hm
  replace hm:m≤y.2.2.length:=hm
  simp only [qyCnt]
  by_cases hml:m<y.2.2.length
  ·have hadd:IntKind.i64.wrap (((ci+m:Nat):Int)+1)=((ci+(m+1):Nat):Int):=(wrap_i64 (by omega) (by omega)).trans (by omega)
   repeat (first | (apply wo_po;apply mo_index1;exact rfl;exact rfl;omega;exact trivial) | (apply wo_po;apply mo_load;exact rfl;(first | exact rR1 | exact rR2 | exact rR3);exact trivial) | (apply wo_po;apply mo_bin;exact rfl;exact rfl;apply bin_add;exact hadd;exact trivial) | refine wlssT ?_ | refine we_seq ?_ | (refine wR ?_;try simp only [oS]) | refine wo_nil ?_ | refine wM ?_ | refine wA ?_ | refine wadd ?_ | refine wE ?_ | refine wT ?_ | refine we_skip ?_ | refine we_block ?_)
   refine at_round (B:=mT) (I:=qyCnt d9 q7 p8 t9 ib (.slice oa order.length oc) (.slice tva tvn tvc) ci y.2.2.length R) (R:=fun j=>y.2.2.length-j<y.2.2.length-m) (m+1) (by show y.2.2.length-(m+1)<y.2.2.length-m;omega) (by show m+1≤y.2.2.length;omega) ⟨rfl,rfl,rfl,rfl,rfl,rfl,rfl,rfl,rfl,trivial⟩ .refl rfl
  obtain rfl:m=y.2.2.length:=by omega
  repeat (first | (apply wo_po;apply mo_index1;exact rfl;exact rfl;omega;exact trivial) | (apply wo_po;apply mo_load;exact rfl;(first | exact rR1 | exact rR2 | exact rR3);exact trivial) | (apply wo_po;apply mo_makeFunc (first:=[]) (cap:=[_,_,_,_,_]) (vf:=[]);exact .nil;exact .cons rfl (.cons rfl (.cons rfl (.cons rfl (.cons rfl .nil))));exact trivial) | refine wlssF ?_ | refine we_seq ?_ | (refine wR ?_;try simp only [oS]) | refine wo_nil ?_ | refine wM ?_ | refine wE ?_ | refine wF ?_ | refine we_exit ?_)
  rw [hR]
  repeat (first | (apply wo_mo;apply mo_buildSlice (sz:=1) (vs:=[qyF d9 ib q7 p8 t9]);exact rfl;exact .cons rfl .nil;exact rfl;(intro v hv;cases (List.mem_singleton.1 hv);exact rfl);omega;exact trivial))
  rintro v' L' ⟨nb2,rfl,rfl⟩
  repeat (first | (apply wo_mo;apply mo_append (sz:=1) (new:=[qyF d9 ib q7 p8 t9]);exact rfl;exact rfl;exact rfl;exact rfl;exact (.there (.there .here));exact rfl;exact .inr ⟨_,_,rfl,Rds.all .here⟩;(intro v hv;cases (List.mem_singleton.1 hv);exact rfl);(simp only [sliceLen];omega);exact trivial))
  rintro tv' L' rfl
  repeat (first | (apply wo_mo;apply mo_alloc;exact trivial) | refine we_seq ?_ | (refine wR ?_;try simp only [oS]) | refine wo_nil ?_ | refine wA ?_ | refine wL ?_)
  rintro v' L' ⟨ib2,rfl,rfl⟩
  repeat (first | refine wS ?_ | (refine wR ?_;try simp only [oS]) | refine wo_nil ?_ | refine wL ?_ | refine wadd ?_)
  refine at_roundS (B:=mT) (I:=qyOut d9 q7 p8 t9 (.slice oa order.length oc) rs L5) (R:=fun q=>rs.length-q.1<rs.length-tvn) (tvn+1,ib2,tv',ts++[ib]) (by show rs.length-(tvn+1)<rs.length-tvn;omega) ⟨by show tvn+1≤rs.length;omega,by simp [hts]⟩ ?_ (fun hp st=>?_) rfl
  ·refine ⟨rfl,rfl,rfl,rfl,rfl,?_,rfl,rfl,trivial⟩
   show _=some (Value.int .i64 ((callQ (rs.take (tvn+1)):Nat):Int))
   rw [e1];rfl
  ·have s1:Star (arr ib 0 [.int .i64 (tvn:Nat)]::all (boxesQ ts)::_) hp:=Ent.star (.take (.there (.there (.there .here))) (.take (.there (.there (.there .here))) .refl)) st
   have s2:=star_push s1
   have e1:(ts++[ib]).map (fun ib=>qyF d9 ib q7 p8 t9)=ts.map (fun ib=>qyF d9 ib q7 p8 t9)++[qyF d9 ib q7 p8 t9]:=by rw [List.map_append];rfl
   show Star (_::vec 1 tv' ((ts++[ib]).map fun ib=>qyF d9 ib q7 p8 t9)::all (boxesQ (ts++[ib]))::_) hp
   rw [e1,boxesQ_snoc,hts]
   exact Ent.star (.take (.there .here) (.take (.there .here) (.take .here (.drop .refl)))) s2
 obtain rfl:tvn=rs.length:=by omega
 rw [List.take_length] at hci
 subst hci
 repeat (first | (apply wo_po;apply mo_load;exact rfl;exact rd9;exact trivial) | refine wlssF ?_ | refine we_seq ?_ | (refine wR ?_;try simp only [oS]) | refine wo_nil ?_ | refine wM ?_ | refine wL ?_ | refine wE ?_ | refine wF ?_ | refine we_exit ?_)
 refine wo_call (.cons rfl (.cons rfl .nil)) trivial (order_tr (m:=rs.length) (rdso_upQ [_,_,_,_,_,_,_,_,_,_,_] hro) (by omega) hoi) ?_
 rintro odv L1 x1 ⟨rfl,rfl⟩
 refine wo_pure (of_has .here (vec_shape (by omega))) ?_
 rintro ⟨oda,odn,odc,rfl,hodn,_,hodz,hody⟩
 have hol:(orderF rs.length order).length≤4096:=by simp only [orderF,List.length_map,List.length_take];omega
 obtain rfl:odn=(orderF rs.length order).length:=by simp [intC] at hodn;omega
 let RoS:HProp:=all (qyS d9 q7 p8 t9 pb tb r qb qo qc rs sp L)
 have hRoS:Dup RoS:=dup_all (by
  intro c hc
  simp only [qyS,List.mem_cons,List.not_mem_nil,or_false] at hc
  rcases hc with rfl | rfl | rfl | rfl | rfl | rfl
  all_goals first | exact dup_fro | exact hL)
 have h10:∀ i,(rowQ rs i).length≤10:=fun i=>by
  unfold rowQ
  cases h:rs[i]? with
  | none=>simp
  | some y=>exact (hrow i y h).2
 obtain ⟨M,hIs,hI0,hI,htr,_,hover,hcut⟩:=qy_plays (pb:=pb) (tb:=tb) (r:=r) (b:=b) (d9:=d9) (q7:=q7) (p8:=p8) (t9:=t9) (RoS:=RoS) (f:=seqs n) hn2 hle h10 hts hrs.2 seqs_0 seqs_1 (fun i hi=>seqs_i hi) (orderF rs.length order)
 have hlen:(qyTs n pb tb r b d9 q7 p8 t9 RoS rs ts).length=rs.length:=by rw [← hts];simp [qyTs]
 refine wo_star (all [wds (twoAddr r b) (2*n+2) [(r,2,qHdr b n)] (seqs n),all []]::all ((qyTs n pb tb r b d9 q7 p8 t9 RoS rs ts).map Thr.M)::RoS::vec 1 (.slice oda (orderF rs.length order).length odc) (intC (orderF rs.length order))::vec 1 (.slice tva rs.length tvc) (ts.map fun ib=>qyF d9 ib q7 p8 t9)::[]) (fun h st=>?_) ?_
 ·have s1:=star_tail (M:=[_,_,_,_,_,_,_,_,_,_,_,_]) st
  have s2:Star (RoS::_) h:=star_shut (M:=[_,_,_,_,_,_]) (Ent.star (.take (.there (.there (.there (.there (.there .here))))) (.take (.there (.there (.there (.there (.there .here))))) (.take (.there (.there (.there (.there (.there .here))))) (.take (.there (.there (.there (.there (.there .here))))) (.take (.there (.there (.there (.there (.there .here))))) (.take .here .refl)))))) s1)
  rw [← hts] at s2
  have s4:=dealY hRoS (Ent.star (.take .here (.take (.there (.there (.there .here))) (.take (.there (.there (.there (.there .here)))) (.take (.there (.there (.there .here))) .refl)))) s2)
  rw [hts] at s4
  rw [qyTs_M]
  have s5:Star (all []::_) h:=star_shut (M:=[]) s4
  exact star_shut (M:=[_,_]) (Ent.star (.take (.there (.there (.there (.there (.there (.there .here)))))) (.take .here (.take .here (.take .here (.take .here (.drop (.take .here .refl))))))) s5)
 repeat (first | refine wM ?_)
 refine wo_call (.cons rfl (.cons rfl .nil)) trivial (plays_tr (g:=(qyG n pb tb).g (twoAddr r b) (2*n+2) [(r,2,qHdr b n)]) (ts:=qyTs n pb tb r b d9 q7 p8 t9 RoS rs ts) (s0:=(⟨seqs n,[],[]⟩:QS)) (order:=orderF rs.length order) (qyPI rs M) (fun j hj=>trivial) hI0 hIs (fun p h _=>trivial) (fun _ _ z=>z) (qyTs_ok hne hn ⟨hj1,by omega⟩ hrow hts hrs.2) (by omega) (by omega) (by omega)
   (by rw [qyTs_fv];exact rdso_vecQ (.there (.there .here)) (by simp [hts]) htz hty) (rdso_vecQ (.there .here) (by simp [intC]) hodz hody)) ?_
 rintro v1 L1 x1 ⟨tv2,cv2,rfl,rfl,rfl⟩
 rw [hcut]
 generalize playF (qyTs n pb tb r b d9 q7 p8 t9 RoS rs ts) (show ((qyG n pb tb).g (twoAddr r b) (2*n+2) [(r,2,qHdr b n)]).σ from (⟨seqs n,[],[]⟩:QS)) (orderF rs.length order)=p at hI htr hover hcut ⊢
 obtain ⟨S,hS⟩:∃ S:QS,S=(show QS from p.s):=⟨_,rfl⟩
 obtain ⟨qs,hqs⟩:∃ qs:List QT,qs=(show List QT from p.qs):=⟨_,rfl⟩
 have hI1:QI n 60 S qs:=by rw [hS,hqs];exact hI.1.1
 have hE1:QE rs.length (qyO rs) (fun _=>True) S qs:=by rw [hS,hqs];exact hI.1.2
 have hdn:∀ q∈qs,q.cs=[]:=by rw [hqs];exact hover
 have hql:qs.length=rs.length:=hE1.len
 refine wo_pure (of_has (.there .here) (vec_shape (by omega))) ?_
 rintro ⟨a2,n2,c2,rfl,hn2',_,_⟩
 obtain rfl:n2=0:=by simp [cutC] at hn2';omega
 refine wo_pure (of_has .here (vec_shape (by omega))) ?_
 rintro ⟨a1,n1,c1,rfl,hn1,_⟩
 have hn1':n1=p.tr.length:=by rw [trCP_len] at hn1;omega
 refine wo_star ((fun h=>∃ ys:List (Value × Value),(ys.length=qs.length∧∀ (k:Nat) y,ys[k]?=some y→ShpQ y.1 (putBy S k).length∧ShpQ y.2 (takenBy S k).length)∧all (ys.mapIdx (qyLC pb tb S)) h)::(queueAcc (B:=mT) MX.idle r b n hne).C S.f::RoS::[]) (fun h st=>?_) ?_
 ·have s1:Star (wds (twoAddr r b) (2*n+2) [(r,2,qHdr b n)] (show QS from p.s).f::all []::all (qs.map fun q=>qyC pb tb q.me q.pa q.ta)::RoS::[]) h:=by
   rw [hqs]
   exact star_open (M:=[_,_]) (Ent.star (.take (.there (.there .here)) (.take (.there (.there .here)) (.take (.there (.there .here)) (.drop (.drop (.drop (.drop .refl))))))) st)
  have s2:Star (all (qs.map fun q=>qyC pb tb q.me q.pa q.ta)::(queueAcc (B:=mT) MX.idle r b n hne).C S.f::RoS::[]) h:=by
   rw [hS]
   exact Ent.star (.take (.there (.there .here)) (.take .here (.take (.there .here) (.drop .refl)))) s1
  obtain ⟨ys,h1,g1,g2,sp,hc,hr⟩:=qy_left hI1 hdn s2
  exact ⟨g1,g2,sp,⟨ys,h1,hc⟩,hr⟩
 refine wo_ex .here fun ys=>?_
 refine wo_and .here fun hys=>?_
 have hrw:RowAt n S.f (qLeft S):=hI1.row hn2 hle (by omega) hdn
 have up:∀ {M:List HProp} {b1 o:Nat} {v:Value},Rd (qyS d9 q7 p8 t9 pb tb r qb qo qc rs sp L) b1 o v→Rd (RoS::M) b1 o v:=fun hr=>rd_allQ hr
 have rq7:∀ {M:List HProp},Rd (RoS::M) q7 0 (.pointer (some ⟨r,0,none⟩)):=up (.there (.there (.there (.there (Rd.fro (k:=0) rfl rfl)))))
 have rp8:∀ {M:List HProp},Rd (RoS::M) p8 0 (.slice (some ⟨pb,0,none⟩) rs.length rs.length):=up (.there (.there (Rd.fro (k:=0) rfl rfl)))
 have rt9:∀ {M:List HProp},Rd (RoS::M) t9 0 (.slice (some ⟨tb,0,none⟩) rs.length rs.length):=up (.there (Rd.fro (k:=0) rfl rfl))
 repeat (first | (apply wo_mo;apply mo_alloc;exact trivial) | refine wM ?_ | (apply wo_po;apply mo_extract;exact rfl;exact rfl;exact gY))
 rintro v' L' ⟨pb3,rfl,rfl⟩
 repeat (first | (apply wo_pm;apply mo_storeA (c:=0) (k:=0) (a:=0) (vs:=[.slice none 0 0,.slice none 0 0]);exact rfl;exact rfl;exact rfl;(intro w hw;simp [Value.cells] at hw;rcases hw with rfl | rfl <;> rfl);exact rfl;exact Nat.le_refl 2;exact .here;exact trivial) | (apply wo_po;apply mo_load;exact rfl;exact .there (.there (.there rq7));exact trivial) | refine we_seq ?_ | (refine wR ?_;try simp only [oS]) | refine wo_nil ?_ | refine wA ?_)
 refine wo_call (.cons rfl (.cons rfl .nil)) trivial (drain_lone hne hn hj1 (by omega) hrw (.there (.there .here))) ?_
 rintro v1 L1 x1 ⟨f2,lv,rfl,R2,rfl,rfl⟩
 refine wo_pure (of_has (.there .here) (vec_shape (by omega))) ?_
 rintro ⟨la,ln,lc,rfl,hln,_,hlz,hly⟩
 have hln:ln=(qLeft S).length:=by simp at hln;omega
 subst hln
 obtain ⟨C,hC⟩:∃ C,callQ rs=C:=⟨_,rfl⟩
 rw [hC] at htr hC60 ⊢
 obtain ⟨m,hm⟩:∃ m,C*(3*C+4)=m:=⟨_,rfl⟩
 have hm1:p.tr.length≤m:=Nat.le_trans htr (by rw [← hm];exact Nat.mul_le_mul_left _ (by omega))
 have hm2:m≤60*184:=by rw [← hm];exact Nat.mul_le_mul hC60 (by omega)
 have w1:IntKind.i64.wrap (3*(C:Int))=((3*C:Nat):Int):=(wrap_i64 (by omega) (by omega)).trans (by omega)
 have w2:IntKind.i64.wrap (((3*C:Nat):Int)+4)=((3*C+4:Nat):Int):=(wrap_i64 (by omega) (by omega)).trans (by omega)
 have w3:IntKind.i64.wrap ((C:Int)*((3*C+4:Nat):Int))=((m:Nat):Int):=by
  rw [← Int.natCast_mul,hm];exact wrap_i64 (by omega) (by omega)
 obtain ⟨k1,k2,k3,k4,k5⟩:=q_kept (pn:=rs.length) (off:=0) (tn:=rs.length) (key:=fun v=>v/4294967296) hI1 hE1 hdn (fun j=>⟨(qyO_ok h10 j).1,fun v hv=>((qyO_ok h10 j).2.1 v hv).1,(qyO_ok h10 j).2.2⟩) (fun j hj _=>⟨Nat.zero_le _,by omega⟩)
 obtain ⟨⟨g1,g2⟩,g3,g4⟩:=qy_row (pb:=pb) (tb:=tb) (s:=S) (ys:=ys) (m:=rs.length) (F:=RoS::[]) (by rw [hys.1,hql]) hys.2
 repeat (first | (apply wo_po;apply mo_load;exact rfl;(first | exact .there (.there (.there (.there rp8))) | exact .there (.there (.there (.there rt9))));exact rfl) | (apply wo_po;apply mo_bin;exact rfl;exact rfl;apply bin_mul;(first | exact w1 | exact w3);exact rfl) | (apply wo_po;apply mo_bin;exact rfl;exact rfl;apply bin_add;exact w2;exact rfl) | refine wleqT ?_ | refine weqlT ?_ | refine we_seq ?_ | (refine wR ?_;try simp only [oS]) | refine wo_nil ?_ | refine wM ?_ | refine wA ?_ | refine wK ?_ | refine wD ?_ | (apply wo_po;apply mo_extract;exact rfl;exact rfl;exact gY) | refine wL ?_ | refine wE ?_)
 refine wo_call (.cons rfl (.cons rfl (.cons rfl .nil))) rfl (kept_tr g1.there.there.there (hdr_there (hdr_there (hdr_there g2))) g3.there.there.there (hdr_there (hdr_there (hdr_there g4))) (rdsoQ (.there .here) (by simp) hlz hly)
  (by simp [qPs];omega) (by simp [qTs];omega) (by have:=Nat.mul_le_mul_right 60 hrs.2;omega) (fun v hv=>?_) k2 (fun l hl=>by have:=k4 l hl;omega) k1) ?_
 ·obtain ⟨j',hj'⟩:=k3 v hv
  have:=((qyO_ok h10 j').2.1 v hj').2
  by_cases hjj:rs.length≤j'
  ·rw [(qyO_ok h10 j').2.2 hjj] at hj';simp at hj'
  ·omega
 rintro v1 L1 x1 ⟨rfl,rfl⟩
 repeat (first | refine wo_nil ?_ | refine wA ?_ | refine wK ?_ | refine we_ret ?_)
 (first | refine or1 Try.func6 Try.results6 hQ rfl ?_ | refine on1 Try.func6 Try.results6 hQ rfl ?_)
 exact ⟨rfl,rfl⟩
end
end Go.Proofs.Ythghlchcjeocpaa
namespace Go.PB
open Go
section
theorem form_in {c:OpenClaim} (h1:c.start=.entering) (h2:c.stops=[]) {C:Checked} {os:Os} {f:FuncId} {L:List FuncId} {Pre:World→Array Value→Prop} {Post:Stop.Interp→World→Array Value→Value→World→Prop} :
  c.form C os f L Pre Post↔∀ F:Stop.Interp,ReturnsInOpen c.assume none C os f .any c.okInput Pre (Post F) (c.atReturn C.prog) (c.always C.prog L):=by
 unfold OpenClaim.form
 rw [h1,h2]
theorem upto_of {p:Pinned} {s:ChangeSpec} {k:(H:Type)→List (DataW H)→Bool} {c:OpenClaim} (hstart:c.start=.entering) (hstops:c.stops=[]) (hlaid:c.laid=[]) (hout:c.outside=[]) (hnb:c.noBlocks=false) (h:c.holds p (OpenSpec.ofChange s))
  (hfit:∀ f fn,p.checked.prog.funcNamed c.func=some f→p.checked.prog.funcs[f]?=some fn→∀ os:Os,os.Started→∀ (H:Type) (enc:TypeId × Value→H),
   ∃ (w:World) (tape:Tape) (i:Input),w.os=os∧(w.forCall tape i).Shaped p.checked.prog∧i.vars=[]∧Input.okWide p.checked.prog (w.forCall tape i) .any w.heap.size f i ∧
    ({ OpenSpec.ofChange s with cond:=some k }:OpenSpec).pre6 enc p.checked.prog fn c.domain c.apart (w.forCall tape i).memory i.args∧c.assume.holds p.checked.prog (lone (Frame.enter p.checked.prog f i.args .normal) [] (w.forCall tape i))) :
  ({ c with narrowed:=true }:OpenClaim).holds p { OpenSpec.ofChange s with cond:=some k }:=by
 obtain ⟨a1,a2,a3,a4,a5,a6,a7,a8,f,fn,g1,g2,r,b1,b2,b3,b4,b5,kn,c1,c2,c3,c4,c5,c6,m,l,q,n1,v1,e1,L,hL,all⟩:=h
 refine ⟨a1,a2,a3,a4,a5,a6,a7,a8,f,fn,g1,g2,r,b1,b2,b3,b4,b5,kn,c1,c2,c3,c4,c5,c6,m,l,q,by simp,v1,e1,L,hL,fun os x y H enc inj=>?_⟩
 have A:=all os x y H enc inj
 have st:os.Started:=by
  have x':c.world os:=x
  unfold OpenClaim.world at x'
  rw [hout,hstart] at x'
  exact x'
 have fit:=hfit f fn g1 g2 os st H enc
 refine (form_in (c:={ c with narrowed:=true }) hstart hstops).2 fun F=>?_
 have B:=(form_in hstart hstops).1 A F
 rw [OpenClaim.pre_of_none' hlaid] at B
 rw [OpenClaim.pre_of_none' (c:={ c with narrowed:=true }) hlaid]
 obtain ⟨h0,h1,h2,_,h4⟩:=B
 refine ⟨h0,h1,h2,?_,fun w tape i ⟨d1,d2,d3,d4,d5,d6,d7⟩=>h4 w tape i ⟨d1,d2,d3,d4,?_,d6,d7⟩⟩
 ·obtain ⟨w,tape,i,f1,f2,f3,f4,f5,f6⟩:=fit
  refine ⟨w,tape,i,f1,f2,f3,?_,f5,f6,trivial⟩
  show c.okInput _ _ _ _ _ _
  unfold OpenClaim.okInput
  rw [hnb]
  exact f4
 ·obtain ⟨e2,e3⟩:=d5
  obtain ⟨ds,gs,before,z1,z2,z3⟩:=(OpenSpec.pre_some (k:=k) rfl _ _ _ _).1 e2
  exact ⟨⟨ds,gs,before,z1,z2⟩,e3⟩
end
end Go.PB
namespace Go.PB
open Go.Conc Go.Conc.Lib Go.ConcR.Gen
open Go.ConcR (KK stA smA rd wr mk DC0)
def WgAt (ty:TypeId) (wg:Nat) (w:World) (st sm:Int):Prop:=∃ f:Nat × Nat,w.heap[wg]?=some (.cells #[.int .u64 st,.int .u32 sm] ty f)∧w.frozen? ⟨wg,0,none⟩=false∧w.frozen? ⟨wg,1,none⟩=false
section
variable {ty:TypeId} {wg:Nat} {w w':World} {st sm:Int}
theorem WgAt.cellSt (h:WgAt ty wg w st sm):w.cell? (stA wg)=some (.int .u64 st):=by obtain ⟨f,h,_⟩:=h;simp [World.cell?,stA,h]
theorem WgAt.cellSm (h:WgAt ty wg w st sm):w.cell? (smA wg)=some (.int .u32 sm):=by obtain ⟨f,h,_⟩:=h;simp [World.cell?,smA,h]
theorem WgAt.thaw (h:WgAt ty wg w st sm) (n:Nat) (hn:n<2:=by decide):w.frozen? ⟨wg,n,none⟩=false:=by
 obtain ⟨f,_,h0,h1⟩:=h
 rcases n with _ | _ | n
 ·exact h0
 ·exact h1
 ·omega
theorem WgAt.unique {st' sm':Int} (h:WgAt ty wg w st sm) (h':WgAt ty wg w st' sm'):st=st'∧sm=sm':=by
 obtain ⟨f,h,_⟩:=h
 obtain ⟨f',h',_⟩:=h'
 rw [h] at h'
 simp at h'
 exact ⟨h'.1.1,h'.1.2⟩
theorem WgAt.setSt (h:WgAt ty wg w st sm) (v:Int):WgAt ty wg (w.setCell (stA wg) (.int .u64 v)) v sm:=by
 obtain ⟨f,h,h0,h1⟩:=h
 refine ⟨f,?_,by rw [frozen_setCell];exact h0,by rw [frozen_setCell];exact h1⟩
 simp [World.setCell,stA,Array.getElem?_modify,h]
theorem WgAt.setSm (h:WgAt ty wg w st sm) (v:Int):WgAt ty wg (w.setCell (smA wg) (.int .u32 v)) st v:=by
 obtain ⟨f,h,h0,h1⟩:=h
 refine ⟨f,?_,by rw [frozen_setCell];exact h0,by rw [frozen_setCell];exact h1⟩
 simp [World.setCell,smA,Array.getElem?_modify,h]
theorem WgAt.of_heap (h:WgAt ty wg w st sm) (e:w'.heap[wg]?=w.heap[wg]?):WgAt ty wg w' st sm:=by
 obtain ⟨f,h,h0,h1⟩:=h
 have hf:∀ o,w'.frozen? ⟨wg,o,none⟩=w.frozen? ⟨wg,o,none⟩:=fun o=>by unfold World.frozen?;rw [e]
 exact ⟨f,e.trans h,(hf 0).trans h0,(hf 1).trans h1⟩
def WgLive (ty:TypeId) (Wg:Nat) (w:World):Prop:=∃ st sm,WgAt ty Wg w st sm
end
def RL (ty:TypeId) (Wg:Nat) (w w₁:World):Prop:=WgLive ty Wg w→WgLive ty Wg w₁
theorem live_cell {ty:TypeId} {Wg:Nat} {w:World} (h:WgLive ty Wg w):∃ v,w.cell? ⟨Wg,0,none⟩=some v:=let ⟨_,_,x⟩:=h;⟨_,WgAt.cellSt x⟩
section
variable (P:Program) (ty:TypeId) (Wg:Nat)
def Zg (Stop:Goroutine→World→Prop) (m:Nat) (g:Goroutine) (w:World):Prop:=Goes P false (RL ty Wg) DC0 Stop m g w
def Z4 (g:Goroutine) (w:World):Prop :=
 g.status=.running∧mayWake P g=true∧(WgAt ty Wg w 0 0→∃ g' q,stepG P false g w=.go g' (w.setCell (smA Wg) (.int .u32 1)) (semEvents (smA Wg))∧QuitsD P q 1 g')
def Z3 (g:Goroutine) (w:World):Prop :=
 g.status=.running∧(WgAt ty Wg w 1 0→∃ g' m,stepG P false g w=.go g' (w.setCell (stA Wg) (.int .u64 0)) #[wr (stA Wg)]∧Zg P ty Wg (Z4 P ty Wg) m g' (w.setCell (stA Wg) (.int .u64 0)))
def Z2 (g:Goroutine) (w:World):Prop :=
 g.status=.running∧(WgAt ty Wg w 1 0→∃ g' m,stepG P false g w=.go g' w #[rd (stA Wg)]∧Zg P ty Wg (Z3 P ty Wg) m g' w)
def Z1 (g:Goroutine) (w:World):Prop :=
 g.status=.running∧∀ v wt:Nat,wt≤1→v<2147483647→WgAt ty Wg w ((v+1)*KK+wt) 0 →
  ∃ g',stepG P false g w=.go g' (w.setCell (stA Wg) (.int .u64 (v*KK+wt))) #[rd (stA Wg),wr (stA Wg)] ∧
   ((v=0∧wt=1)→∃ m,Zg P ty Wg (Z2 P ty Wg) m g' (w.setCell (stA Wg) (.int .u64 (v*KK+wt))))∧(¬ (v=0∧wt=1)→∃ q,QuitsD P q 1 g')
def ZK (g:Goroutine) (w:World):Prop :=
 g.status=.running∧∃ g' m,stepG P false g w=.go g' w #[mk .disable]∧Zg P ty Wg (Z1 P ty Wg) m g' w
def ZR (g:Goroutine) (w:World):Prop :=
 g.status=.running∧∃ g' m,stepG P false g w=.go g' w #[mk (.releaseMerge (stA Wg))]∧Zg P ty Wg (ZK P ty Wg) m g' w
end
end Go.PB
namespace Go.PB
open Go.Conc Go.Conc.Lib Go.ConcR.Gen
open Go.ConcR (KK stA smA rd wr mk DC0)
theorem quits_more {P:Program}:∀ {n d:Nat} {g:Goroutine},QuitsD P n d g→QuitsD P (n+1) d g
 | 0,_,_,h=>.inl h
 | _+1,_,_,h=>h.imp id fun ⟨hs,g',es,hm,hst,hq⟩=>⟨hs,g',es,hm,hst,quits_more hq⟩
theorem quits_mono {P:Program} {n n' d:Nat} {g:Goroutine} (h:QuitsD P n d g) (hn:n≤n'):QuitsD P n' d g:=by
 induction hn with
 | refl=>exact h
 | step _ ih=>exact quits_more ih
set_option maxRecDepth 100000 in
set_option maxHeartbeats 8000000 in
theorem add_goes [Go.ConcR.Payload] {P:Program} {L:WgLink} (H:WgLib P L) {Wg:Nat} {b₀:Frame} {a₀:Act} {ops₀:Array Oper} {i₀:Nat} {rest₀:List Nat} {k₀:List Item} {cs:List Frame} {qt:Nat}
  (hT:QuitsD P qt 0 (G (b₀.at (a₀.put ((ops₀[i₀]?).bind (·.dst)) (.tuple #[])) (.inRegion ops₀ rest₀::k₀)) cs)) (w:World) (hK:WgLive L.tWg Wg w) :
  Zg P L.tWg Wg (ZR P L.tWg Wg) 20 (G ((Go.Conc.base L.add).at ⟨#[.pointer (some ⟨Wg,0,none⟩),.int .i64 (-1)]++Array.replicate 115 undef,[]⟩ [.code (body_add L)]) (b₀.at a₀ (.inRegion ops₀ (i₀::rest₀)::k₀)::cs)) w:=by
 lib_facts
 simp only [body_add,addFn,Option.getD_some,Array.replicate_succ,Array.replicate_zero]
 unfold Zg
 have key:∀ {w w₁:World},WgLive L.tWg Wg w→RL L.tWg Wg w w₁→WgLive L.tWg Wg w₁:=fun h r=>r h
 walk_nrm
 repeat (first | u_c stepG_seq key hK | u_c stepG_region_end key hK | u_c stepG_skip key hK | u_reg key hK | u_skip key hK | u_op key hK | u_cond true key hK | u_cond false key hK | u_c stepG_ret' key hK | u_c stepG_block key hK | u_c stepG_loop key hK | u_c stepG_end key hK | u_defer key hK | u_leave1 H.f_uAdd key hK | u_leave1 H.f_uLoad key hK | u_leave0 H.f_uStore key hK | u_call H.f_uAdd (nm_uAdd L) uAddFn key hK | u_call H.f_uLoad (nm_uLoad L) uLoadFn key hK | u_call H.f_uStore (nm_uStore L) uStoreFn key hK | u_bub key hK)
 u_conv H.underlying_tWgP H.room_tWg (live_cell hK).choose_spec key hK
 refine Goes.stop (fun w₁ h₁=>?_)
 replace hK:=key hK h₁
 clear h₁
 refine ⟨rfl,_,30,stepG_markAt .releaseMerge (by simp) rfl rfl (by k_ne) rfl H.f_relMerge (x_relMerge_n L) (x_relMerge_b L) (x_relMerge_x L) (x_relMerge_f L) (by simp [Act.eval,stA]),?_⟩
 unfold Zg
 walk_nrm
 repeat (first | u_c stepG_seq key hK | u_c stepG_region_end key hK | u_c stepG_skip key hK | u_reg key hK | u_skip key hK | u_op key hK | u_cond true key hK | u_cond false key hK | u_c stepG_ret' key hK | u_c stepG_block key hK | u_c stepG_loop key hK | u_c stepG_end key hK | u_defer key hK | u_leave1 H.f_uAdd key hK | u_leave1 H.f_uLoad key hK | u_leave0 H.f_uStore key hK | u_call H.f_uAdd (nm_uAdd L) uAddFn key hK | u_call H.f_uLoad (nm_uLoad L) uLoadFn key hK | u_call H.f_uStore (nm_uStore L) uStoreFn key hK | u_bub key hK)
 refine Goes.stop (fun w₁ h₁=>?_)
 replace hK:=key hK h₁
 clear h₁
 refine ⟨rfl,_,80,stepG_mark0 .disable (by simp) rfl rfl (by k_ne) rfl H.f_disable (x_disable_n L) (x_disable_b L) (x_disable_x L) (x_disable_f L),?_⟩
 unfold Zg
 walk_nrm
 repeat (first | u_c stepG_seq key hK | u_c stepG_region_end key hK | u_c stepG_skip key hK | u_reg key hK | u_skip key hK | u_op key hK | u_cond true key hK | u_cond false key hK | u_c stepG_ret' key hK | u_c stepG_block key hK | u_c stepG_loop key hK | u_c stepG_end key hK | u_defer key hK | u_leave1 H.f_uAdd key hK | u_leave1 H.f_uLoad key hK | u_leave0 H.f_uStore key hK | u_call H.f_uAdd (nm_uAdd L) uAddFn key hK | u_call H.f_uLoad (nm_uLoad L) uLoadFn key hK | u_call H.f_uStore (nm_uStore L) uStoreFn key hK | u_bub key hK)
 refine Goes.stop (fun w₁ h₁=>?_)
 clear h₁ hK
 refine ⟨rfl,fun v wt hwt hv hw=>?_⟩
 have e0:IntKind.u64.wrap (KK+18446744069414584320)=0:=by decide
 have e1:IntKind.u64.wrap (KK+1+18446744069414584320)=1:=by decide
 rcases Nat.eq_zero_or_pos v with rfl | hvp <;> (obtain rfl | rfl:wt=0∨wt=1:=by omega)
 ·-- nobody is left,nobody waits
  replace hw:WgAt L.tWg Wg w₁ KK 0:=by simpa using hw
  have z:((0:Nat):Int)*KK+((0:Nat):Int)=0:=by simp
  rw [z]
  refine ⟨_,(stepG_add_atomic rfl rfl (by k_ne) rfl H.f_addU64 (x_addU64_n L) (x_addU64_b L) (x_addU64_x L) .u64 (x_addU64_f L) rfl rfl (WgAt.cellSt hw) (WgAt.thaw hw 0)).trans (by rw [e0];rfl),fun hl=>absurd hl.2 (by decide),fun _=>⟨qt+200,?_⟩⟩
  clear hw
  walk_nrm
  q_val (.int .u64 0)
  q_c stepG_region_end
  q_c stepG_ret'
  q_leave1 H.f_uAdd
  q_val (.int .u64 0)
  q_c stepG_region_end
  q_c stepG_seq
  q_c stepG_seq
  q_reg
  q_val (.int .u64 0)
  q_val (.int .u64 0)
  q_val (.bool false)
  q_val (.bool false)
  q_skip
  q_skip
  q_val (.bool false)
  q_c stepG_region_end
  q_cond false
  q_c stepG_skip
  q_c stepG_seq
  q_reg
  q_val (.int .u64 0)
  q_val (.int .u64 0)
  q_val (.int .i32 0)
  q_val (.int .i32 0)
  q_c stepG_region_end
  q_c stepG_seq
  q_reg
  q_val (.int .u64 0)
  q_val (.int .u64 0)
  q_val (.int .u32 0)
  q_val (.int .u32 0)
  q_c stepG_region_end
  q_c stepG_seq
  q_c stepG_seq
  q_reg
  q_val (.bool true)
  q_val (.int .i64 (-1))
  q_val (.bool false)
  q_val (.bool false)
  q_val (.bool false)
  q_skip
  q_skip
  q_skip
  q_skip
  q_val (.bool false)
  q_c stepG_region_end
  q_cond false
  q_c stepG_skip
  q_c stepG_seq
  q_c stepG_seq
  q_reg
  q_val (.int .i32 0)
  q_val (.bool false)
  q_c stepG_region_end
  q_cond false
  q_c stepG_skip
  q_c stepG_seq
  q_c stepG_seq
  q_reg
  q_val (.int .u32 0)
  q_val (.bool false)
  q_val (.bool false)
  q_skip
  q_skip
  q_val (.bool false)
  q_val (.bool false)
  q_skip
  q_skip
  q_skip
  q_skip
  q_val (.bool false)
  q_c stepG_region_end
  q_cond false
  q_c stepG_skip
  q_c stepG_seq
  q_c stepG_seq
  q_reg
  q_val (.int .i32 0)
  q_val (.bool false)
  q_val (.bool false)
  q_val (.int .u32 0)
  q_val (.bool true)
  q_val (.bool true)
  q_c stepG_region_end
  q_cond true
  q_c stepG_ret'
  q_enable
  q_leave0 H.f_add
  exact quits_mono hT (by omega)
 ·-- nobody is left,the starter waits: the last one
  replace hw:WgAt L.tWg Wg w₁ (KK+1) 0:=by simpa using hw
  have z:((0:Nat):Int)*KK+((1:Nat):Int)=1:=by simp
  rw [z]
  refine ⟨_,(stepG_add_atomic rfl rfl (by k_ne) rfl H.f_addU64 (x_addU64_n L) (x_addU64_b L) (x_addU64_x L) .u64 (x_addU64_f L) rfl rfl (WgAt.cellSt hw) (WgAt.thaw hw 0)).trans (by rw [e1];rfl),fun _=>⟨150,?_⟩,fun hl=>absurd ⟨rfl,rfl⟩ hl⟩
  have hK:WgLive L.tWg Wg (w₁.setCell (stA Wg) (.int .u64 1)):=⟨_,_,WgAt.setSt hw 1⟩
  clear hw
  unfold Zg
  walk_nrm
  u_op key hK
  u_c stepG_region_end key hK
  u_c stepG_ret' key hK
  u_leave1 H.f_uAdd key hK
  u_op key hK
  u_c stepG_region_end key hK
  u_c stepG_seq key hK
  u_c stepG_seq key hK
  u_reg key hK
  u_op key hK
  u_op key hK
  u_op key hK
  u_op key hK
  u_skip key hK
  u_skip key hK
  u_op key hK
  u_c stepG_region_end key hK
  u_cond false key hK
  u_c stepG_skip key hK
  u_c stepG_seq key hK
  u_reg key hK
  u_op key hK
  u_op key hK
  u_op key hK
  u_op key hK
  u_c stepG_region_end key hK
  u_c stepG_seq key hK
  u_reg key hK
  u_op key hK
  u_op key hK
  u_op key hK
  u_op key hK
  u_c stepG_region_end key hK
  u_c stepG_seq key hK
  u_c stepG_seq key hK
  u_reg key hK
  u_op key hK
  u_op key hK
  u_op key hK
  u_op key hK
  u_op key hK
  u_skip key hK
  u_skip key hK
  u_skip key hK
  u_skip key hK
  u_op key hK
  u_c stepG_region_end key hK
  u_cond false key hK
  u_c stepG_skip key hK
  u_c stepG_seq key hK
  u_c stepG_seq key hK
  u_reg key hK
  u_op key hK
  u_op key hK
  u_c stepG_region_end key hK
  u_cond false key hK
  u_c stepG_skip key hK
  u_c stepG_seq key hK
  u_c stepG_seq key hK
  u_reg key hK
  u_op key hK
  u_op key hK
  u_op key hK
  u_op key hK
  u_op key hK
  u_op key hK
  u_op key hK
  u_skip key hK
  u_skip key hK
  u_skip key hK
  u_skip key hK
  u_op key hK
  u_c stepG_region_end key hK
  u_cond false key hK
  u_c stepG_skip key hK
  u_c stepG_seq key hK
  u_c stepG_seq key hK
  u_reg key hK
  u_op key hK
  u_op key hK
  u_op key hK
  u_op key hK
  u_op key hK
  u_op key hK
  u_c stepG_region_end key hK
  u_cond false key hK
  u_c stepG_skip key hK
  u_c stepG_seq key hK
  u_c stepG_seq key hK
  u_reg key hK
  u_op key hK
  u_op key hK
  u_op key hK
  u_call H.f_uLoad (nm_uLoad L) uLoadFn key hK
  u_c stepG_seq key hK
  u_reg key hK
  u_op key hK
  u_c stepG_region_end key hK
  u_c stepG_seq key hK
  u_reg key hK
  u_op key hK
  u_op key hK
  u_op key hK
  refine Goes.stop (fun w₂ h₂=>?_)
  clear h₂ hK
  refine ⟨rfl,fun hw=>⟨_,60,stepG_load_atomic rfl rfl (by k_ne) rfl H.f_loadU64 (x_loadU64_n L) (x_loadU64_b L) (x_loadU64_x L) .u64 (x_loadU64_f L) rfl (WgAt.cellSt hw),?_⟩⟩
  have hK:WgLive L.tWg Wg w₂:=⟨_,_,hw⟩
  clear hw
  unfold Zg
  walk_nrm
  u_op key hK
  u_c stepG_region_end key hK
  u_c stepG_ret' key hK
  u_leave1 H.f_uLoad key hK
  u_op key hK
  u_op key hK
  u_c stepG_region_end key hK
  u_cond false key hK
  u_c stepG_skip key hK
  u_c stepG_seq key hK
  u_reg key hK
  u_op key hK
  u_op key hK
  u_op key hK
  u_call H.f_uStore (nm_uStore L) uStoreFn key hK
  u_reg key hK
  u_op key hK
  u_op key hK
  u_op key hK
  u_op key hK
  refine Goes.stop (fun w₃ h₃=>?_)
  clear h₃ hK
  refine ⟨rfl,fun hw=>⟨_,60,stepG_store_atomic rfl rfl (by k_ne) rfl H.f_storeU64 (x_storeU64_n L) (x_storeU64_b L) (x_storeU64_x L) (x_storeU64_f L) rfl rfl (WgAt.cellSt hw) (WgAt.thaw hw 0),?_⟩⟩
  have hK:WgLive L.tWg Wg (w₃.setCell (stA Wg) (.int .u64 0)):=⟨_,_,WgAt.setSt hw 0⟩
  clear hw
  unfold Zg
  walk_nrm
  u_c stepG_region_end key hK
  u_c stepG_end key hK
  u_leave0 H.f_uStore key hK
  u_c stepG_region_end key hK
  u_c stepG_seq key hK
  u_c stepG_seq key hK
  u_reg key hK
  u_op key hK
  u_c stepG_region_end key hK
  u_cond false key hK
  u_c stepG_skip key hK
  u_c stepG_block key hK
  u_c stepG_loop key hK
  u_c stepG_seq key hK
  u_c stepG_seq key hK
  u_reg key hK
  u_op key hK
  u_op key hK
  u_c stepG_region_end key hK
  u_cond true key hK
  u_c stepG_skip key hK
  u_c stepG_seq key hK
  u_c stepG_block key hK
  u_reg key hK
  u_op key hK
  u_op key hK
  u_op key hK
  refine Goes.stop (fun w₄ h₄=>?_)
  clear h₄ hK
  refine ⟨rfl,mayWake_entry rfl rfl H.f_semrelease (x_semrelease_b L),fun hw=>⟨_,qt+40,(stepG_semrelease rfl rfl (by k_ne) rfl H.f_semrelease (x_semrelease_n L) (x_semrelease_b L) (x_semrelease_x L) (x_semrelease_f L) (by simp [Act.eval,smA]) (WgAt.cellSm hw) (WgAt.thaw hw 1)).trans (by rfl),?_⟩⟩
  clear hw
  walk_nrm
  q_c stepG_region_end
  q_c stepG_inBlock
  q_reg
  q_val (.int .u32 1)
  q_val (.int .u32 0)
  q_val (.int .u32 0)
  q_c stepG_region_end
  q_c stepG_inLoop
  q_c stepG_seq
  q_c stepG_seq
  q_reg
  q_val (.int .u32 0)
  q_val (.bool false)
  q_c stepG_region_end
  q_cond false
  q_exit
  q_c stepG_end
  q_enable
  q_leave0 H.f_add
  exact quits_mono hT (by omega)
 ·-- some are left,nobody waits
  replace hw:WgAt L.tWg Wg w₁ (((v:Nat)+1)*KK+0) 0:=by simpa using hw
  have z:((v:Nat):Int)*KK+((0:Nat):Int)=(v:Int)*KK+0:=by simp
  rw [z]
  have eS:IntKind.u64.wrap (((v:Nat)+1)*KK+0+18446744069414584320)=(v:Int)*KK+0:=by rw [IntKind.wrap_u64];simp only [KK];omega
  obtain ⟨S,hS⟩:∃ S:Int,S=(v:Int)*KK+0:=⟨_,rfl⟩
  rw [← hS] at eS ⊢
  have a1:S/4294967296=(v:Int):=by rw [hS];simp only [KK];omega
  have a2:0≤S∧S<9223372036854775808:=by rw [hS];simp only [KK];omega
  have b1:bits .and .u64 S 2147483648=0:=by rw [hS];have:=Go.ConcN.st_flag v 0 (by omega) (by omega);simpa [KK] using this
  have b2:bits .and .u64 S 2147483647=0:=by rw [hS];have:=Go.ConcN.st_waiters v 0 (by omega) (by omega);simpa [KK] using this
  clear hS z
  refine ⟨_,(stepG_add_atomic rfl rfl (by k_ne) rfl H.f_addU64 (x_addU64_n L) (x_addU64_b L) (x_addU64_x L) .u64 (x_addU64_f L) rfl rfl (WgAt.cellSt hw) (WgAt.thaw hw 0)).trans (by rw [eS];rfl),fun hl=>absurd hl.1 (by omega),fun _=>⟨qt+150,?_⟩⟩
  clear hw
  walk_nrm
  q_vn (.int .u64 S)
  q_c stepG_region_end
  q_c stepG_ret'
  q_leave1 H.f_uAdd
  q_vn (.int .u64 S)
  q_c stepG_region_end
  q_c stepG_seq
  q_c stepG_seq
  q_reg
  q_vn (.int .u64 S)
  q_vn (.int .u64 0)
  q_vn (.bool false)
  q_vn (.bool false)
  q_skip
  q_skip
  q_vn (.bool false)
  q_c stepG_region_end
  q_cond false
  q_c stepG_skip
  q_c stepG_seq
  q_reg
  q_vn (.int .u64 S)
  q_vn (.int .u64 (v:Int))
  q_vn (.int .i32 (v:Int))
  q_vn (.int .i32 (v:Int))
  q_c stepG_region_end
  q_c stepG_seq
  q_reg
  q_vn (.int .u64 S)
  q_vn (.int .u64 0)
  q_vn (.int .u32 0)
  q_vn (.int .u32 0)
  q_c stepG_region_end
  q_c stepG_seq
  q_c stepG_seq
  q_reg
  q_vn (.bool true)
  q_vn (.int .i64 (-1))
  q_vn (.bool false)
  q_vn (.bool false)
  q_vn (.bool false)
  q_skip
  q_skip
  q_skip
  q_skip
  q_vn (.bool false)
  q_c stepG_region_end
  q_cond false
  q_c stepG_skip
  q_c stepG_seq
  q_c stepG_seq
  q_reg
  q_vn (.int .i32 (v:Int))
  q_vn (.bool false)
  q_c stepG_region_end
  q_cond false
  q_c stepG_skip
  q_c stepG_seq
  q_c stepG_seq
  q_reg
  q_vn (.int .u32 0)
  q_vn (.bool false)
  q_vn (.bool false)
  q_skip
  q_skip
  q_vn (.bool false)
  q_vn (.bool false)
  q_skip
  q_skip
  q_skip
  q_skip
  q_vn (.bool false)
  q_c stepG_region_end
  q_cond false
  q_c stepG_skip
  q_c stepG_seq
  q_c stepG_seq
  q_reg
  q_vn (.int .i32 (v:Int))
  q_vn (.bool true)
  q_vn (.bool true)
  q_skip
  q_skip
  q_vn (.bool true)
  q_c stepG_region_end
  q_cond true
  q_c stepG_ret'
  q_enable
  q_leave0 H.f_add
  exact quits_mono hT (by omega)
 ·-- some are left,the starter waits
  replace hw:WgAt L.tWg Wg w₁ (((v:Nat)+1)*KK+1) 0:=by simpa using hw
  have z:((v:Nat):Int)*KK+((1:Nat):Int)=(v:Int)*KK+1:=by simp
  rw [z]
  have eS:IntKind.u64.wrap (((v:Nat)+1)*KK+1+18446744069414584320)=(v:Int)*KK+1:=by rw [IntKind.wrap_u64];simp only [KK];omega
  obtain ⟨S,hS⟩:∃ S:Int,S=(v:Int)*KK+1:=⟨_,rfl⟩
  rw [← hS] at eS ⊢
  have a1:S/4294967296=(v:Int):=by rw [hS];simp only [KK];omega
  have a2:0≤S∧S<9223372036854775808:=by rw [hS];simp only [KK];omega
  have b1:bits .and .u64 S 2147483648=0:=by rw [hS];have:=Go.ConcN.st_flag v 1 (by omega) (by omega);simpa [KK] using this
  have b2:bits .and .u64 S 2147483647=1:=by rw [hS];have:=Go.ConcN.st_waiters v 1 (by omega) (by omega);simpa [KK] using this
  clear hS z
  refine ⟨_,(stepG_add_atomic rfl rfl (by k_ne) rfl H.f_addU64 (x_addU64_n L) (x_addU64_b L) (x_addU64_x L) .u64 (x_addU64_f L) rfl rfl (WgAt.cellSt hw) (WgAt.thaw hw 0)).trans (by rw [eS];rfl),fun hl=>absurd hl.1 (by omega),fun _=>⟨qt+150,?_⟩⟩
  clear hw
  walk_nrm
  q_vn (.int .u64 S)
  q_c stepG_region_end
  q_c stepG_ret'
  q_leave1 H.f_uAdd
  q_vn (.int .u64 S)
  q_c stepG_region_end
  q_c stepG_seq
  q_c stepG_seq
  q_reg
  q_vn (.int .u64 S)
  q_vn (.int .u64 0)
  q_vn (.bool false)
  q_vn (.bool false)
  q_skip
  q_skip
  q_vn (.bool false)
  q_c stepG_region_end
  q_cond false
  q_c stepG_skip
  q_c stepG_seq
  q_reg
  q_vn (.int .u64 S)
  q_vn (.int .u64 (v:Int))
  q_vn (.int .i32 (v:Int))
  q_vn (.int .i32 (v:Int))
  q_c stepG_region_end
  q_c stepG_seq
  q_reg
  q_vn (.int .u64 S)
  q_vn (.int .u64 1)
  q_vn (.int .u32 1)
  q_vn (.int .u32 1)
  q_c stepG_region_end
  q_c stepG_seq
  q_c stepG_seq
  q_reg
  q_vn (.bool true)
  q_vn (.int .i64 (-1))
  q_vn (.bool false)
  q_vn (.bool false)
  q_vn (.bool false)
  q_skip
  q_skip
  q_skip
  q_skip
  q_vn (.bool false)
  q_c stepG_region_end
  q_cond false
  q_c stepG_skip
  q_c stepG_seq
  q_c stepG_seq
  q_reg
  q_vn (.int .i32 (v:Int))
  q_vn (.bool false)
  q_c stepG_region_end
  q_cond false
  q_c stepG_skip
  q_c stepG_seq
  q_c stepG_seq
  q_reg
  q_vn (.int .u32 1)
  q_vn (.bool true)
  q_vn (.bool true)
  q_vn (.int .i64 (-1))
  q_vn (.bool false)
  q_vn (.bool false)
  q_vn (.bool false)
  q_skip
  q_skip
  q_skip
  q_skip
  q_vn (.bool false)
  q_c stepG_region_end
  q_cond false
  q_c stepG_skip
  q_c stepG_seq
  q_c stepG_seq
  q_reg
  q_vn (.int .i32 (v:Int))
  q_vn (.bool true)
  q_vn (.bool true)
  q_skip
  q_skip
  q_vn (.bool true)
  q_c stepG_region_end
  q_cond true
  q_c stepG_ret'
  q_enable
  q_leave0 H.f_add
  exact quits_mono hT (by omega)
end Go.PB
namespace Go.PB
open Go.Conc Go.Conc.Lib Go.ConcR.Gen
open Go.ConcR (KK stA smA rd wr mk DC0)
set_option maxRecDepth 100000 in
theorem add_goes2 [Go.ConcR.Payload] {P:Program} {L:WgLink} (H:WgLib P L) {Wg:Nat} {b₀:Frame} {a₀:Act} {ops₀:Array Oper} {i₀:Nat} {rest₀:List Nat} {k₀:List Item} {cs:List Frame} {qt:Nat}
  (hT:QuitsD P qt 0 (G (b₀.at (a₀.put ((ops₀[i₀]?).bind (·.dst)) (.tuple #[])) (.inRegion ops₀ rest₀::k₀)) cs)) (w:World) (hK:WgLive L.tWg Wg w) :
  Zg P L.tWg Wg (ZR P L.tWg Wg) 20 (G ((Go.Conc.base L.add).at ⟨#[.pointer (some ⟨Wg,0,none⟩),.int .i64 (-1),undef,undef,undef,undef,undef,undef,undef,undef,undef,undef,undef,undef,undef,undef,undef,undef,undef,undef,undef,undef,undef,undef,undef,undef,undef,undef,undef,undef,undef,undef,undef,undef,undef,undef,undef,undef,undef,undef,undef,undef,undef,undef,undef,undef,undef,undef,undef,undef,undef,undef,undef,undef,undef,undef,undef,undef,undef,undef,undef,undef,undef,undef,undef,undef,undef,undef,undef,undef,undef,undef,undef,undef,undef,undef,undef,undef,undef,undef,undef,undef,undef,undef,undef,undef,undef,undef,undef,undef,undef,undef,undef,undef,undef,undef,undef,undef,undef,undef,undef,undef,undef,undef,undef,undef,undef,undef,undef,undef,undef,undef,undef,undef,undef,undef,undef],[]⟩ [.code (body_add L)]) (b₀.at a₀ (.inRegion ops₀ (i₀::rest₀)::k₀)::cs)) w:=by
 have e:(#[.pointer (some ⟨Wg,0,none⟩),.int .i64 (-1),undef,undef,undef,undef,undef,undef,undef,undef,undef,undef,undef,undef,undef,undef,undef,undef,undef,undef,undef,undef,undef,undef,undef,undef,undef,undef,undef,undef,undef,undef,undef,undef,undef,undef,undef,undef,undef,undef,undef,undef,undef,undef,undef,undef,undef,undef,undef,undef,undef,undef,undef,undef,undef,undef,undef,undef,undef,undef,undef,undef,undef,undef,undef,undef,undef,undef,undef,undef,undef,undef,undef,undef,undef,undef,undef,undef,undef,undef,undef,undef,undef,undef,undef,undef,undef,undef,undef,undef,undef,undef,undef,undef,undef,undef,undef,undef,undef,undef,undef,undef,undef,undef,undef,undef,undef,undef,undef,undef,undef,undef,undef,undef,undef,undef,undef]:Array Value)=#[.pointer (some ⟨Wg,0,none⟩),.int .i64 (-1)]++Array.replicate 115 undef:=by kernel_rfl
 rw [e]
 exact add_goes H hT w hK
set_option maxHeartbeats 8000000 in
set_option maxRecDepth 100000 in
theorem done_goes [Go.ConcR.Payload] {P:Program} {L:WgLink} (H:WgLib P L) {Wg:Nat} {c:Frame} {cs:List Frame} {qt:Nat} (hcm:c.mode=.returning) (hT:QuitsD P qt 0 (G c cs)) (w:World) (hK:WgLive L.tWg Wg w) :
  Zg P L.tWg Wg (ZR P L.tWg Wg) 23 (G ((baseD L.done).at ⟨#[.pointer (some ⟨Wg,0,none⟩),undef,undef,undef],[]⟩ [.code (body_done L)]) (c::cs)) w:=by
 lib_facts
 have hA:=@add_goes2 _ P L H Wg
 unfold Zg at hA ⊢
 have key:∀ {w w₁:World},WgLive L.tWg Wg w→RL L.tWg Wg w w₁→WgLive L.tWg Wg w₁:=fun h r=>r h
 simp only [body_done,body_add,doneFn,addFn,Option.getD_some] at hA ⊢
 u_reg key hK
 u_op key hK
 u_in key hK
 refine goes_call rfl rfl (by k_ne) rfl H.f_add (nm_add L) rfl ⟨by u_nil,?_⟩
 walk_nrmf addFn
 refine hA (qt:=qt+3) ?_ _ hK
 q_c stepG_region_end
 q_c stepG_end
 exact QuitsD.leaveD rfl rfl H.f_done rfl hcm hT
theorem done_enter {P:Program} {L:WgLink} (H:WgLib P L) {v:Value}:Frame.enter P L.done #[v] .deferred=(baseD L.done).at ⟨#[v,undef,undef,undef],[]⟩ [.code (body_done L)]:=by
 simp [Frame.enter,H.f_done,body_done,doneFn]
 rfl
end Go.PB
