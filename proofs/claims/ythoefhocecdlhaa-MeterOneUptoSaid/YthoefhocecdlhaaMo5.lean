/-
  Part 5 of 6.
-/
import Derived.Test.YthoefhocecdlhaaMo4
import Derived.Test.YthoefhocecdlhaaMo2
import Derived.Conc.Holds
import Derived.JoinedCond
import Derived.Test.YthoefhocecdlhaaMo3
import Derived.Conc.WgGenN2
set_option linter.unusedVariables false
set_option linter.unusedSimpArgs false
namespace Go.Proofs.Ythoefhocecdlhaa
open Go Go.PB
attribute [local irreducible] Mo Bin Eql Tr Wo Ap
section
def intC (l:List Int):List Value:=l.map fun k=>.int .i64 k
def orderF (m:Nat) (l:List Int):List Int:=(l.take 2000).map fun k=>k%((m:Int)+1)
section
variable {B:Hand} [Lets B] {L F:List HProp} {x:B.X}
def orderInv (x:B.X) (u:Value) (m:Nat) (l:List Int) (L:List HProp):Inv (Nat × Value) B.X where
 e:=fun i=>[(0,u),(1,.int .i64 (m:Nat)),(5,i.2),(6,.int .i64 (i.1:Nat))]
 L:=fun i=>vec 1 i.2 (intC ((l.take i.1).map fun k=>k%((m:Int)+1)))::L
 x:=fun _=>x
 ok:=fun i=>i.1≤l.length∧i.1≤2000
theorem order_tr {a:Option Addr} {c m:Nat} {l:List Int} (hr:RdsO L a l.length (intC l)) (hm:m<1000000) (hi:∀ k∈l,-9223372036854775808≤k∧k≤9223372036854775807) :
  Tr Try.prog B 30 [.slice a l.length c,.int .i64 (m:Nat)] L x fun v L' x'=>L'=vec 1 v (intC (orderF m l))::L∧x'=x:=by
 refine tr_of_body Try.func30 rfl Try.ntmps30 (by simp) fun um Q _ hQ=>?_
 simp only [argE,Nat.zero_add,Nat.reduceAdd]
 repeat (first | refine we_seq ?_ | (refine wR ?_;try simp only [oS]) | refine wo_nil ?_ | refine wA ?_ | refine we_block ?_)
 refine we_star (vec 1 (.slice none 0 0) (intC ((l.take 0).map fun k=>k%((m:Int)+1)))::L) (fun h st=>vec_nil st) ?_
 refine we_loopN (orderInv x (.slice a l.length c) m l L) (fun i=>l.length-i.1) (0,.slice none 0 0) ⟨Nat.zero_le _,Nat.zero_le _⟩ ⟨rfl,rfl,rfl,rfl,trivial⟩ .refl rfl ?_
 rintro ⟨i,v⟩ ⟨hil,hi2⟩
 simp only at hil hi2
 simp only [orderInv]
 refine we_pure (of_has .here (vec_shape (by omega))) ?_
 rintro ⟨va,vn,vc,rfl,hvn,_⟩
 have hvn:vn=i:=by simp [intC] at hvn;omega
 subst hvn
 by_cases hlt:vn<l.length
 ·by_cases h2:vn<2000
  ·obtain ⟨b,o,rfl,hrd⟩:=hr.rds (by omega)
   obtain ⟨k,hk⟩:∃ k,l[vn]?=some k:=⟨l[vn],List.getElem?_eq_getElem hlt⟩
   have hrk:∀ {d:HProp},Rd (d::L) b (o+vn) (.int .i64 k):=fun {d}=>.there (hrd vn _ (by simp [intC,hk]))
   repeat (first | (apply wo_po;apply mo_index1;exact rfl;exact rfl;omega;exact trivial) | (apply wo_po;apply mo_load;exact rfl;exact hrk;exact trivial) | refine wlssT ?_ | refine we_seq ?_ | (refine wR ?_;try simp only [oS]) | refine wo_nil ?_ | refine wM ?_ | refine wK ?_ | refine wadd ?_ | refine wE ?_ | refine wT ?_ | refine we_skip ?_ | refine we_block ?_)
   refine wo_call (.cons rfl (.cons rfl .nil)) trivial (within_tr (hi k (List.mem_of_getElem? hk)) (by omega)) ?_
   rintro v1 L1 x1 ⟨rfl,rfl,rfl⟩
   repeat (first | (apply wo_mo;apply mo_buildSlice (sz:=1) (vs:=[.int .i64 (k%((m:Int)+1))]);exact rfl;exact .cons rfl .nil;exact rfl;(intro v hv;cases (List.mem_singleton.1 hv);exact rfl);omega;exact trivial))
   rintro v' L' ⟨nb,rfl,rfl⟩
   repeat (first | (apply wo_mo;apply mo_append (sz:=1) (new:=[.int .i64 (k%((m:Int)+1))]);exact rfl;exact rfl;exact rfl;exact rfl;exact (.there .here);exact rfl;exact .inr ⟨_,_,rfl,Rds.all .here⟩;(intro v hv;cases (List.mem_singleton.1 hv);exact rfl);(simp only [sliceLen];omega);exact trivial))
   rintro v' L' rfl
   repeat (first | (refine wR ?_;try simp only [oS]) | refine wo_nil ?_ | refine wM ?_ | refine wA ?_ | refine wadd ?_)
   refine at_round (I:=orderInv x1 (.slice (some ⟨b,o,none⟩) l.length c) m l L) (R:=fun j=>l.length-j.1<l.length-vn) (vn+1,v') (by show l.length-(vn+1)<l.length-vn;omega) ⟨by omega,by omega⟩ ?_ ?_ rfl
   exact ⟨rfl,rfl,rfl,rfl,trivial⟩
   show Ent _ (vec 1 v' (intC ((l.take (vn+1)).map fun k=>k%((m:Int)+1)))::_)
   rw [show intC ((l.take (vn+1)).map fun k=>k%((m:Int)+1))=intC ((l.take vn).map fun k=>k%((m:Int)+1))++[.int .i64 (k%((m:Int)+1))] by rw [List.take_add_one,hk];simp [intC]]
   exact (.take .here (.drop .refl))
  ·obtain rfl:vn=2000:=by omega
   repeat (first | refine wlssT ?_ | refine wlssF ?_ | refine we_seq ?_ | (refine wR ?_;try simp only [oS]) | refine wo_nil ?_ | refine wM ?_ | refine wA ?_ | refine wK ?_ | refine wE ?_ | refine wF ?_ | refine we_ret ?_ | refine we_exit ?_)
   (first | refine or1 Try.func30 Try.results30 hQ rfl ?_ | refine on1 Try.func30 Try.results30 hQ rfl ?_)
   exact ⟨rfl,rfl⟩
 ·obtain rfl:vn=l.length:=by omega
  repeat (first | refine wlssF ?_ | refine we_seq ?_ | (refine wR ?_;try simp only [oS]) | refine wo_nil ?_ | refine wM ?_ | refine wA ?_ | (apply wo_no;exact rfl) | refine wJ ?_ | refine wE ?_ | refine wF ?_ | refine we_ret ?_ | refine we_exit ?_)
  (first | refine or1 Try.func30 Try.results30 hQ rfl ?_ | refine on1 Try.func30 Try.results30 hQ rfl ?_)
  refine ⟨?_,rfl⟩
  unfold orderF
  rw [List.take_of_length_le (by omega),List.take_of_length_le (by omega)]
end
end
end Go.Proofs.Ythoefhocecdlhaa
namespace Go.Proofs.Ythoefhocecdlhaa
open Go Go.PB
attribute [local irreducible] Mo Bin Eql Tr Wo Ap Wle
section
theorem startF_keep {g:Game}:∀ {ts:List (Thr g)} {s:g.σ},(∀ t∈ts,∀ s,(t.ini s).1=s)→(startF ts s).1=s
 | [],s,_=>rfl
 | t::ts,s,h=>by
  show (startF ts (t.ini s).1).1=s
  rw [h t (by simp) s]
  exact startF_keep fun u hu=>h u (by simp [hu])
section
variable {D:Wds} {U:(Nat→Nat)→HProp} {Pv:Nat × Mach.Th→HProp} {F:List HProp}
end
end
section
theorem vec_row {b o n c:Nat} {cs:List Value}:∀ h,vec 1 (.slice (some ⟨b,o,none⟩) n c) cs h→∃ sp,arr b o (cs++sp) h:=fun h z=>by
 rcases z with ⟨e,_⟩ | ⟨b',o',n',c',sp,e,h1,h2,h3,h4⟩
 ·cases e
 ·cases e;exact ⟨sp,h4⟩
end
section
section
variable {B:Hand} [Lets B] {x:B.X} {L F:List HProp}
theorem ok1103:BOk 1 10 3:=⟨by decide,by decide,by decide,by decide,by decide,by decide⟩
theorem works_tr:Tr Try.prog B 14 [] L x fun v L' x'=>v=.bool true∧L'=L∧x'=x:=by
 refine Tr.post (R:=fun v L' x'=>v=.bool true∧x'=x∧∀ h,Star L' h→Star L h) ?_ (by rintro v L' x' ⟨h0,rfl,hs⟩;exact ⟨L,⟨h0,rfl,rfl⟩,hs⟩)
 refine tr_of_body Try.func14 rfl Try.ntmps14 (by simp) fun um Q _ hQ=>?_
 simp only [argE,Nat.zero_add,Nat.reduceAdd]
 repeat (first | (apply wo_po;apply mo_build (pv:=[(0,_),(1,_),(2,_)]);exact rfl;exact .cons rfl (.cons rfl (.cons rfl .nil));exact rfl;exact trivial) | refine we_seq ?_ | (refine wR ?_;try simp only [oS]) | refine wo_nil ?_ | refine wA ?_)
 refine wo_call (.cons rfl .nil) trivial (mnew_tr (num:=1) (den:=10) (burst:=3) ok1103) ?_
 rintro v' L' x' ⟨r,rfl,rfl,rfl⟩
 refine wo_star (mC r 1 10 3 (fun _=>0)::L) (fun h st=>m_wds st) ?_
 repeat (first | refine wneqF ?_ | refine we_seq ?_ | (refine wR ?_;try simp only [oS]) | refine wo_nil ?_ | refine wM ?_ | refine wA ?_ | (apply wo_po;apply mo_extract;exact rfl;exact rfl;exact gY) | refine wF ?_ | refine we_skip ?_)
 refine wo_call (.cons rfl (.cons rfl (.cons rfl (.cons rfl .nil)))) trivial (mtake_lone (num:=1) (den:=10) (burst:=3) (now:=0) (n:=2) ok1103 (by omega) (by omega) (u:=0) (k:=some 20) rfl (by decide) .here) ?_
 rintro v' L' x' ⟨s1,rfl,hs1,rfl,rfl⟩
 replace hs1:s1 0=20:=hs1
 repeat (first | refine we_seq ?_ | (refine wR ?_;try simp only [oS]) | refine wo_nil ?_ | refine wM ?_ | refine wA ?_ | (apply wo_po;apply mo_extract;exact rfl;exact rfl;exact gY))
 refine wo_call (.cons rfl (.cons rfl (.cons rfl (.cons rfl .nil)))) trivial (mtake_lone (num:=1) (den:=10) (burst:=3) (now:=0) (n:=2) ok1103 (by omega) (by omega) (u:=20) (k:=none) hs1 (by decide) .here) ?_
 rintro v' L' x' ⟨s2,rfl,hs2,rfl,rfl⟩
 replace hs2:s2 0=20:=hs2
 repeat (first | refine we_seq ?_ | (refine wR ?_;try simp only [oS]) | refine wo_nil ?_ | refine wM ?_ | refine wA ?_ | (apply wo_po;apply mo_extract;exact rfl;exact rfl;exact gY))
 refine wo_call (.cons rfl (.cons rfl (.cons rfl (.cons rfl .nil)))) trivial (mtake_lone (num:=1) (den:=10) (burst:=3) (now:=0) (n:=1) ok1103 (by omega) (by omega) (u:=20) (k:=some 30) hs2 (by decide) .here) ?_
 rintro v' L' x' ⟨s3,rfl,hs3,rfl,rfl⟩
 replace hs3:s3 0=30:=hs3
 repeat (first | refine weqlT ?_ | refine we_seq ?_ | (refine wR ?_;try simp only [oS]) | refine wo_nil ?_ | refine wM ?_ | refine wA ?_ | refine wK ?_ | (apply wo_po;apply mo_extract;exact rfl;exact rfl;exact gY) | (apply wo_po;apply mo_not;exact rfl;exact gY) | refine we_ret ?_)
 (first | refine or1 Try.func14 Try.results14 hQ rfl ?_ | refine on1 Try.func14 Try.results14 hQ rfl ?_)
 exact ⟨rfl,rfl,fun h st=>star_drop st⟩
end
end
end Go.Proofs.Ythoefhocecdlhaa
namespace Go.Proofs.Ythoefhocecdlhaa
open Go Go.PB
attribute [local irreducible] Mo Bin Eql Tr Wo Ap Wle
attribute [local instance] Pass.of_no
section
theorem rd_lift {L:List HProp}:∀ (M:List HProp) {b o:Nat} {v:Value},Rd L b o v→Rd (M++L) b o v
 | [],b,o,v,h=>h
 | c::M,b,o,v,h=>.there (rd_lift M h)
theorem ths_lift {L:List HProp} (M:List HProp) {a:Option Addr} {rs:List RW} (h:ThsAt L a rs):ThsAt (M++L) a rs:=fun i y hy=>by
 obtain ⟨b,o,e,h1,h2,h3⟩:=h i y hy
 refine ⟨b,o,e,rd_lift M h1,⟨h2.rng,fun j z hz=>?_⟩,h3⟩
 obtain ⟨b',o',e',r1,r2,r3⟩:=h2.at_ j z hz
 exact ⟨b',o',e',rd_lift M r1,rd_lift M r2,rd_lift M r3⟩
theorem few_at {L:List HProp} {a:Option Addr} {rs:List RW} (h:ThsAt L a rs):∀ (i:Nat) y,(fewR rs)[i]?=some y→DoAt L y.1 y.2.2∧y.2.2.length≤12:=by
 intro i y hy
 unfold fewR at hy
 split at hy
 ·have:y=(none,0,[]):=by
   have:=List.mem_of_getElem? hy
   simpa using this
  subst this
  exact ⟨⟨fun z hz=>by simp at hz,fun j z hz=>by simp at hz⟩,by simp⟩
 ·rw [List.getElem?_map,Option.map_eq_some_iff] at hy
  obtain ⟨z,hz,rfl⟩:=hy
  rw [List.getElem?_take] at hz
  split at hz
  ·obtain ⟨b,o,_,_,hd,_⟩:=h i z hz
   refine ⟨⟨fun w hw=>hd.rng w (List.mem_of_mem_take hw),fun j w hw=>?_⟩,by simp only [cutR,List.length_take];omega⟩
   simp only [cutR,List.getElem?_take] at hw
   split at hw
   ·exact hd.at_ j w hw
   ·cases hw
  ·cases hz
theorem rdso_lift {L:List HProp} (M:List HProp) {a:Option Addr} {n:Nat} {vs:List Value} (h:RdsO L a n vs):RdsO (M++L) a n vs :=
 ⟨h.1,h.2.imp id fun ⟨b,o,e,r⟩=>⟨b,o,e,fun i v hi=>rd_lift M (r i v hi)⟩⟩
section
variable {B:Hand} [Lets B] {L:List HProp} {x:B.X}
theorem fit_tr {na nb nc num den burst:Nat} (h1:na<18446744073709551616) (h2:nb<18446744073709551616) (h3:nc<18446744073709551616) (e1:num=1+na%65536) (e2:den=1+nb%65536) (e3:burst=1+nc%1048576) :
  Tr Try.prog B 24 [.agg #[.int .u64 (na:Nat),.int .u64 (nb:Nat),.int .u64 (nc:Nat)]] L x fun v L' x'=>v=.agg #[.int .u64 (num:Nat),.int .u64 (den:Nat),.int .u64 (burst:Nat)]∧L'=L∧x'=x:=by
 refine Tr.post (R:=fun v L' x'=>v=.agg #[.int .u64 (num:Nat),.int .u64 (den:Nat),.int .u64 (burst:Nat)]∧x'=x∧∀ h,Star L' h→Star L h) ?_ (by rintro v L' x' ⟨h0,rfl,hs⟩;exact ⟨L,⟨h0,rfl,rfl⟩,hs⟩)
 refine tr_of_body Try.func24 rfl Try.ntmps24 (by simp) fun um Q _ hQ=>?_
 simp only [argE,Nat.zero_add,Nat.reduceAdd]
 repeat (first | (apply wo_mo;apply mo_box;exact rfl;exact trivial) | refine we_seq ?_ | (refine wR ?_;try simp only [oS]))
 rintro v' L' ⟨bx,rfl,rfl⟩
 refine wo_ent (arr bx 0 [.int .u64 (na:Nat),.int .u64 (nb:Nat),.int .u64 (nc:Nat)]::L) .refl ?_
 repeat (first | (apply wo_mo;apply mo_alloc;exact trivial))
 rintro v' L' ⟨ab,rfl,rfl⟩
 have q0:∀ {c:HProp},Rd (c::arr bx 0 [.int .u64 (na:Nat),.int .u64 (nb:Nat),.int .u64 (nc:Nat)]::L) bx 0 (.int .u64 (na:Nat)):=.there (.row (k:=0) rfl rfl)
 have q1:∀ {c:HProp},Rd (c::arr bx 0 [.int .u64 (na:Nat),.int .u64 (nb:Nat),.int .u64 (nc:Nat)]::L) bx (0+1) (.int .u64 (nb:Nat)):=.there (.row (k:=1) rfl rfl)
 have q2:∀ {c:HProp},Rd (c::arr bx 0 [.int .u64 (na:Nat),.int .u64 (nb:Nat),.int .u64 (nc:Nat)]::L) bx (0+2) (.int .u64 (nc:Nat)):=.there (.row (k:=2) rfl rfl)
 have d1:((na:Int)).tmod 65536=((na%65536:Nat):Int):=by rw [Int.tmod_eq_emod_of_nonneg (by omega)];omega
 have d2:((nb:Int)).tmod 65536=((nb%65536:Nat):Int):=by rw [Int.tmod_eq_emod_of_nonneg (by omega)];omega
 have d3:((nc:Int)).tmod 1048576=((nc%1048576:Nat):Int):=by rw [Int.tmod_eq_emod_of_nonneg (by omega)];omega
 have a1:IntKind.u64.wrap ((1:Int)+((na%65536:Nat):Int))=((num:Nat):Int):=(wrap_u64 (by omega) (by omega)).trans (by omega)
 have a2:IntKind.u64.wrap ((1:Int)+((nb%65536:Nat):Int))=((den:Nat):Int):=(wrap_u64 (by omega) (by omega)).trans (by omega)
 have a3:IntKind.u64.wrap ((1:Int)+((nc%1048576:Nat):Int))=((burst:Nat):Int):=(wrap_u64 (by omega) (by omega)).trans (by omega)
 repeat (first | (apply wo_po;apply mo_load;exact rfl;(first | exact q0 | exact q1 | exact q2);exact trivial) | (apply wo_po;apply mo_bin;exact rfl;exact rfl;apply bin_rem;omega;(first | exact d1 | exact d2 | exact d3);exact trivial) | (apply wo_po;apply mo_bin;exact rfl;exact rfl;apply bin_add;(first | exact a1 | exact a2 | exact a3);exact trivial) | (apply wo_po;apply mo_build (pv:=[(0,_),(1,_),(2,_)]);exact rfl;exact .cons rfl (.cons rfl (.cons rfl .nil));exact rfl;exact trivial) | (apply wo_pm;apply mo_storeA (b:=ab) (c:=0) (k:=0) (a:=0) (vs:=[.int .u64 0,.int .u64 0,.int .u64 0]);exact rfl;exact rfl;exact rfl;(intro w hw;simp [Value.cells] at hw;rcases hw with rfl | rfl | rfl <;> rfl);exact rfl;exact Nat.le_refl 3;exact .here;exact trivial) | refine we_seq ?_ | (refine wR ?_;try simp only [oS]) | refine wo_nil ?_ | refine wD ?_ | refine we_ret ?_)
 refine at_leaveM (rs:=[.cell 2 25]) Try.func24 Try.results24 hQ (.inl rfl) (.cons (.cell (vs:=[.int .u64 (num:Nat),.int .u64 (den:Nat),.int .u64 (burst:Nat)]) rfl rfl (Rds.all .here)) .nil) ?_
 exact ⟨rfl,rfl,fun h st=>star_drop (star_drop st)⟩
end
end
section
def boxesN (ts:List Nat):List HProp:=ts.mapIdx fun i b=>arr b 0 [.int .i64 (i:Nat)]
theorem boxesN_snoc {ts:List Nat} {t:Nat}:boxesN (ts++[t])=boxesN ts++[arr t 0 [.int .i64 (ts.length:Nat)]]:=by
 unfold boxesN
 rw [List.mapIdx_append]
 simp
def mthM (RoS:HProp) (i b:Nat):HProp:=all [RoS,arr b 0 [.int .i64 (i:Nat)]]
theorem dealN {RoS:HProp} (hd:Dup RoS) {ts:List Nat} {L:List HProp} {h:Hp} (s:Star (RoS::all (boxesN ts)::L) h):Star (all (ts.mapIdx (mthM RoS))::RoS::L) h:=by
 have s1:=dup_many hd s ts.length
 have s2:Star (all (List.replicate ts.length RoS)::all (boxesN ts)::RoS::L) h:=Ent.star (.take .here (.take (.there .here) (.take .here .refl))) s1
 have s3:=star_zip (by simp [boxesN]) s2
 have e:List.zipWith (fun a b=>all [a,b]) (List.replicate ts.length RoS) (boxesN ts)=ts.mapIdx (mthM RoS):=by
  apply List.ext_getElem?
  intro i
  by_cases hi:i<ts.length
  ·simp [boxesN,mthM,hi,List.getElem?_zipWith]
  ·have h1:(ts.mapIdx (mthM RoS))[i]?=none:=List.getElem?_eq_none_iff.2 (by simp;omega)
   rw [h1]
   apply List.getElem?_eq_none_iff.2
   simp [boxesN];omega
 rw [e] at s3
 exact s3
abbrev mroS (qb qo qc p8 mb r:Nat) (rs:List RW) (sp:List Value) (L:List HProp):HProp:=all [fro qb qo (rs.map rv++sp),fro p8 0 [.slice (some ⟨qb,qo,none⟩) rs.length qc],fro mb 0 [.pointer (some ⟨r,0,none⟩)],all L]
def rowI (rs:List RW) (i:Nat):List (Int × Nat × Nat):=match rs[i]? with | some y=>y.2.2 | none=>[]
def mthrs (lb num den burst r p8 mb:Nat) (RoS:HProp) (rs:List RW) (ts:List Nat):List (Thr ((moW lb num den burst).g (mAddr r) 1 (mK r num den burst))):=ts.mapIdx fun i b=>{ fv:=moF p8 b mb lb,ini:=fun s=>(s,(show ((moW lb num den burst).g (mAddr r) 1 (mK r num den burst)).θ from ((moL (rowI rs i),none):MoQ))),M:=mthM RoS i b }
theorem startF_qs {g:Game}:∀ {ts:List (Thr g)} {s:g.σ},(∀ t∈ts,∀ s,(t.ini s).1=s)→startF ts s=(s,ts.map fun t=>(t.ini s).2)
 | [],s,_=>rfl
 | t::ts,s,h=>by
  have h1:=h t (by simp) s
  have h2:=startF_qs (ts:=ts) (s:=s) fun u hu=>h u (by simp [hu])
  show ((startF ts (t.ini s).1).1,(t.ini s).2::(startF ts (t.ini s).1).2)=_
  rw [h1,h2];rfl
section
variable {lb num den burst r p8 mb qb qo qc:Nat} {rs:List RW} {sp:List Value} {L:List HProp} {ts:List Nat}
theorem mthrs_ok (B:BOk num den burst) (hrow:∀ (i:Nat) y,rs[i]?=some y→DoAt L y.1 y.2.2∧y.2.2.length≤12) (hts:ts.length=rs.length):∀ t∈mthrs lb num den burst r p8 mb (mroS qb qo qc p8 mb r rs sp L) rs ts,ThrOk ((moW lb num den burst).g (mAddr r) 1 (mK r num den burst)) t.ini t.fv t.M:=by
 intro t ht
 obtain ⟨i,hi⟩:=List.mem_iff_getElem?.1 ht
 simp only [mthrs,List.getElem?_mapIdx,Option.map_eq_some_iff] at hi
 obtain ⟨y,hy,rfl⟩:=hi
 have hil:=(List.getElem?_eq_some_iff.1 hy).1
 obtain ⟨z,hz⟩:∃ z,rs[i]?=some z:=⟨rs[i]'(by omega),List.getElem?_eq_getElem (by omega)⟩
 obtain ⟨hdo,h12⟩:=hrow i z hz
 have er:rowI rs i=z.2.2:=by unfold rowI;rw [hz]
 have lift:∀ {b1 o v},Rd [fro qb qo (rs.map rv++sp),fro p8 0 [.slice (some ⟨qb,qo,none⟩) rs.length qc],fro mb 0 [.pointer (some ⟨r,0,none⟩)],all L] b1 o v→Rd [mthM (mroS qb qo qc p8 mb r rs sp L) i y] b1 o v:=fun h=>rd_all (rd_all h)
 have O:MoRo (mthM (mroS qb qo qc p8 mb r rs sp L) i y) p8 y mb qb qo rs.length qc i r z.1 z.2.1 z.2.2 :=
  {
   h1:=lift (.there (Rd.fro (k:=0) rfl rfl))
   h2:=lift (Rd.fro (k:=i) (by rw [List.getElem?_append_left (by rw [List.length_map];omega),List.getElem?_map,hz];rfl) rfl)
   h3:=fun q w hw=>by
    obtain ⟨b',o',e,r1,r2,r3⟩:=hdo.at_ q w hw
    refine ⟨b',o',e,fun m v hm=>?_⟩
    match m,hm with
    | 0,hm=>cases hm;exact lift (.there (.there (.there (rd_all r1))))
    | 1,hm=>cases hm;exact lift (.there (.there (.there (rd_all r2))))
    | 2,hm=>cases hm;exact lift (.there (.there (.there (rd_all r3))))
   h4:=rd_all (.there (.row0 rfl))
   h5:=lift (.there (.there (Rd.fro (k:=0) rfl rfl)))
   hk:=by omega
   hl:=h12
   ok:=fun y hy=>(hdo.rng y hy).2 }
 show ThrOk ((moW lb num den burst).g (mAddr r) 1 (mK r num den burst)) (fun s=>(s,((moL (rowI rs i),none):MoQ))) (moF p8 y mb lb) (mthM _ i y)
 rw [er]
 exact mo_ok B O
theorem mthrs_M {RoS:HProp}:(mthrs lb num den burst r p8 mb RoS rs ts).map Thr.M=ts.mapIdx (mthM RoS):=by
 apply List.ext_getElem?
 intro k
 simp only [mthrs,List.getElem?_map,List.getElem?_mapIdx]
 cases ts[k]? <;> rfl
theorem mthrs_fv {RoS:HProp}:(mthrs lb num den burst r p8 mb RoS rs ts).map Thr.fv=ts.map fun b=>moF p8 b mb lb:=by
 apply List.ext_getElem?
 intro k
 simp only [mthrs,List.getElem?_map,List.getElem?_mapIdx]
 cases ts[k]? <;> rfl
theorem mthrs_ini {RoS:HProp}:∀ t∈mthrs lb num den burst r p8 mb RoS rs ts,∀ s,(t.ini s).1=s:=fun t ht s=>by
 obtain ⟨i,hi⟩:=List.mem_iff_getElem?.1 ht
 simp only [mthrs,List.getElem?_mapIdx,Option.map_eq_some_iff] at hi
 obtain ⟨y,hy,rfl⟩:=hi
 rfl
theorem sumN_le {l:List Nat} {c:Nat} (h:∀ a∈l,a≤c):sumN l≤c*l.length:=by
 induction l with
 | nil=>simp [sumN]
 | cons a l ih =>
  have h1:=ih fun b hb=>h b (by simp [hb])
  have h2:=h a (by simp)
  simp only [sumN,List.foldr_cons,List.length_cons,Nat.mul_add] at h1 ⊢;omega
def moQs (rs:List RW) (ts:List Nat):List MoQ:=ts.mapIdx fun i _=>((moL (rowI rs i),none):MoQ)
theorem mthrs_start {RoS:HProp} {s:Nat × List MoE}:startF (mthrs lb num den burst r p8 mb RoS rs ts) (show ((moW lb num den burst).g (mAddr r) 1 (mK r num den burst)).σ from s)=(s,moQs rs ts):=by
 rw [startF_qs mthrs_ini]
 congr 1
 apply List.ext_getElem?
 intro k
 show ((mthrs lb num den burst r p8 mb RoS rs ts).map fun t=>(t.ini s).2)[k]?=(moQs rs ts)[k]?
 rw [List.getElem?_map]
 unfold mthrs moQs
 rw [List.getElem?_mapIdx,List.getElem?_mapIdx]
 cases ts[k]? <;> rfl
theorem rowI_le (hrow:∀ (i:Nat) y,rs[i]?=some y→DoAt L y.1 y.2.2∧y.2.2.length≤12) (i:Nat):(moL (rowI rs i)).length≤12∧∀ y∈moL (rowI rs i),moP y:=by
 unfold rowI
 cases h:rs[i]? with
 | none=>exact ⟨by simp [moL],fun y hy=>by simp [moL] at hy⟩
 | some y =>
  obtain ⟨h1,h2⟩:=hrow i y h
  refine ⟨by simpa [moL] using h2,fun z hz=>?_⟩
  obtain ⟨w,hw,rfl⟩:=List.mem_map.1 hz
  exact ⟨by show w.2.1%1099511627776≤_;omega,(h1.rng w hw).2.2⟩
theorem mo_I0 (hrow:∀ (i:Nat) y,rs[i]?=some y→DoAt L y.1 y.2.2∧y.2.2.length≤12) (h6:ts.length≤6):MoI num den burst (0,[]) (moQs rs ts)∧sumN ((moQs rs ts).map (moφ 0))≤1008:=by
 have hlen:(moQs rs ts).length=ts.length:=by simp [moQs]
 have hmem:∀ (k:Nat) q,(moQs rs ts)[k]?=some q→∃ i,q=((moL (rowI rs i),none):MoQ):=fun k q hq=>by
  simp only [moQs,List.getElem?_mapIdx,Option.map_eq_some_iff] at hq
  obtain ⟨y,_,rfl⟩:=hq
  exact ⟨k,rfl⟩
 refine ⟨⟨rfl,?_,by omega,fun k q hq y rest o' h h'=>?_,fun e he=>by simp at he,fun k q hq y hy=>?_⟩,?_⟩
 ·have:=sumN_le (c:=12) (l:=(moQs rs ts).map fun q=>q.1.length) (fun a ha=>by
   obtain ⟨q,hq,rfl⟩:=List.mem_map.1 ha
   obtain ⟨k,hk⟩:=List.mem_iff_getElem?.1 hq
   obtain ⟨i,rfl⟩:=hmem k q hk
   exact (rowI_le hrow i).1)
  rw [List.length_map] at this
  simp only [List.length_nil];omega
 ·obtain ⟨i,rfl⟩:=hmem k q hq
  cases h'
 ·obtain ⟨i,rfl⟩:=hmem k q hq
  exact (rowI_le hrow i).2 y hy
 ·have:=sumN_le (c:=168) (l:=(moQs rs ts).map (moφ 0)) (fun a ha=>by
   obtain ⟨q,hq,rfl⟩:=List.mem_map.1 ha
   obtain ⟨k,hk⟩:=List.mem_iff_getElem?.1 hq
   obtain ⟨i,rfl⟩:=hmem k q hk
   have:=(rowI_le hrow i).1
   simp only [moφ];omega)
  rw [List.length_map] at this
  omega
def moPI (p:PS ((moW lb num den burst).g (mAddr r) 1 (mK r num den burst))):Prop:=MoI num den burst p.s p.qs
theorem mo_plays {RoS:HProp} (hrow:∀ (i:Nat) y,rs[i]?=some y→DoAt L y.1 y.2.2∧y.2.2.length≤12) (h6:ts.length≤6) (o:List Int) :
  (∀ (p:PS ((moW lb num den burst).g (mAddr r) 1 (mK r num den burst))) k,moPI p→moPI (takeF p k).1)∧moPI (lb:=lb) (r:=r) (num:=num) (den:=den) (burst:=burst) ⟨(startF (mthrs lb num den burst r p8 mb RoS rs ts) (show ((moW lb num den burst).g (mAddr r) 1 (mK r num den burst)).σ from ((0,[]):Nat × List MoE))).1,(startF (mthrs lb num den burst r p8 mb RoS rs ts) (show ((moW lb num den burst).g (mAddr r) 1 (mK r num den burst)).σ from ((0,[]):Nat × List MoE))).2,[]⟩ ∧
  moPI (playF (mthrs lb num den burst r p8 mb RoS rs ts) (show ((moW lb num den burst).g (mAddr r) 1 (mK r num den burst)).σ from ((0,[]):Nat × List MoE)) o)∧cutN ((moW lb num den burst).g (mAddr r) 1 (mK r num den burst)) (playF (mthrs lb num den burst r p8 mb RoS rs ts) (show ((moW lb num den burst).g (mAddr r) 1 (mK r num den burst)).σ from ((0,[]):Nat × List MoE)) o).qs (mthrs lb num den burst r p8 mb RoS rs ts).length=[]:=by
 have hs:∀ (p:PS ((moW lb num den burst).g (mAddr r) 1 (mK r num den burst))) k,moPI p→moPI (takeF p k).1∧((takeF p k).2=true→sumN ((show List MoQ from (takeF p k).1.qs).map (moφ (show Nat × List MoE from (takeF p k).1.s).1))+1≤sumN ((show List MoQ from p.qs).map (moφ (show Nat × List MoE from p.s).1))):=fun p k h=>by
  rcases takeF_cases p k with e | ⟨m,q,mk,f,_,hq,hp,_,e⟩
  ·rw [e];exact ⟨h,fun h=>by cases h⟩
  ·rw [e]
   obtain ⟨a,b⟩:=mo_step h hq hp
   exact ⟨a,fun _=>b⟩
 obtain ⟨i0,f0⟩:=mo_I0 (num:=num) (den:=den) (burst:=burst) hrow h6
 have hI0:moPI (lb:=lb) (r:=r) (num:=num) (den:=den) (burst:=burst) ⟨(startF (mthrs lb num den burst r p8 mb RoS rs ts) (show ((moW lb num den burst).g (mAddr r) 1 (mK r num den burst)).σ from ((0,[]):Nat × List MoE))).1,(startF (mthrs lb num den burst r p8 mb RoS rs ts) (show ((moW lb num den burst).g (mAddr r) 1 (mK r num den burst)).σ from ((0,[]):Nat × List MoE))).2,[]⟩:=by
  rw [mthrs_start];exact i0
 obtain ⟨hI,htr,hdone⟩:=play_ends (I:=moPI) (Φ:=fun p=>sumN ((show List MoQ from p.qs).map (moφ (show Nat × List MoE from p.s).1))) (ts:=mthrs lb num den burst r p8 mb RoS rs ts) (s:=(show ((moW lb num den burst).g (mAddr r) 1 (mK r num den burst)).σ from ((0,[]):Nat × List MoE))) (o:=o) (n:=1008) (fun p k h=>(hs p k h).1) (fun p k h=>(hs p k h).2) hI0 (by rw [mthrs_start];exact f0) (by omega)
 exact ⟨fun p k h=>(hs p k h).1,hI0,hI,cutN_nil hdone⟩
end
end
section
def mOut (mb p8 lb r r2 num den burst:Nat) (qv ov:Value) (rs:List RW) (L:List HProp):PB.Inv (Nat × Nat × Value × List Nat) MX where
 e:=fun i=>[(2,ov),(8,.pointer (some ⟨mb,0,none⟩)),(10,.pointer (some ⟨r2,0,none⟩)),(12,.pointer (some ⟨p8,0,none⟩)),(13,.pointer (some ⟨lb,0,none⟩)),(14,i.2.2.1),(15,.pointer (some ⟨i.2.1,0,none⟩))]
 L:=fun i=>arr i.2.1 0 [.int .i64 (i.1:Nat)]::vec 1 i.2.2.1 (i.2.2.2.map fun b=>moF p8 b mb lb)::all (boxesN i.2.2.2)::arr lb 0 [.slice none 0 0]::arr p8 0 [qv]::vec 1 qv (rs.map rv)::mC r2 num den burst (fun _=>0)::arr mb 0 [.pointer (some ⟨r,0,none⟩)]::mC r num den burst (fun _=>0)::L
 x:=fun _=>.idle
 ok:=fun i=>i.1≤rs.length∧i.2.2.2.length=i.1
def mLast (mb lb r r2 num den burst pb3 o:Nat) (lv tv cv:Value) (l:List MoE) (RoS:HProp):PB.Inv (Nat × (Nat→Nat)) MX where
 e:=fun j=>[(8,.pointer (some ⟨mb,0,none⟩)),(9,.int .i64 0),(10,.pointer (some ⟨r2,0,none⟩)),(13,.pointer (some ⟨lb,0,none⟩)),(16,.pointer (some ⟨pb3,0,none⟩)),(17,.int .i64 (j.1:Nat))]
 L:=fun j=>[mC r2 num den burst j.2,arr lb 0 [lv],vec 4 lv (l.map moC).flatten,mC r num den burst (fun _=>o),RoS,arr pb3 0 [tv,cv]]
 x:=fun _=>.idle
 ok:=fun j=>j.1≤l.length∧MoR num den burst (j.2 0) (l.drop j.1) o
set_option maxHeartbeats 4000000 in
theorem mone_tr {L:List HProp} {na nb nc:Nat} {ta oa:Option Addr} {tc oc:Nat} {rs0:List RW} {order:List Int} (hL:Dup (all L)) (h1:na<18446744073709551616) (h2:nb<18446744073709551616) (h3:nc<18446744073709551616) (hr0:ThsAt L ta rs0) (hro:RdsO L oa order.length (intC order)) (hoi:∀ k∈order,-9223372036854775808≤k∧k≤9223372036854775807) :
  Tr Try.prog mT 7 [.agg #[.int .u64 (na:Nat),.int .u64 (nb:Nat),.int .u64 (nc:Nat)],.slice ta rs0.length tc,.slice oa order.length oc] L .idle fun v L' x'=>v=.bool true∧x'=.idle:=by
 refine tr_of_body Try.func7 rfl Try.ntmps7 (by simp) fun um Q _ hQ=>?_
 simp only [argE,Nat.zero_add,Nat.reduceAdd]
 obtain ⟨num,hnum⟩:∃ num,num=1+na%65536:=⟨_,rfl⟩
 obtain ⟨den,hden⟩:∃ den,den=1+nb%65536:=⟨_,rfl⟩
 obtain ⟨burst,hburst⟩:∃ burst,burst=1+nc%1048576:=⟨_,rfl⟩
 have B:BOk num den burst:=⟨by omega,by omega,by omega,by omega,by omega,by omega⟩
 repeat (first | (apply wo_mo;apply mo_box;exact rfl;exact trivial) | refine we_seq ?_ | (refine wR ?_;try simp only [oS]))
 rintro v' L' ⟨bx,rfl,rfl⟩
 refine wo_ent (arr bx 0 [.int .u64 (na:Nat),.int .u64 (nb:Nat),.int .u64 (nc:Nat)]::L) .refl ?_
 repeat (first | (apply wo_po;apply mo_loadA (vs:=[.int .u64 (na:Nat),.int .u64 (nb:Nat),.int .u64 (nc:Nat)]);exact rfl;exact rfl;exact Rds.all .here;exact trivial) | refine we_seq ?_ | (refine wR ?_;try simp only [oS]) | refine wo_nil ?_ | refine wA ?_)
 refine wo_call (.cons rfl .nil) trivial (fit_tr (num:=num) (den:=den) (burst:=burst) h1 h2 h3 hnum hden hburst) ?_
 rintro v1 L1 x1 ⟨rfl,rfl,rfl⟩
 repeat (first | (apply wo_mo;apply mo_alloc;exact trivial))
 rintro v' L' ⟨bb,rfl,rfl⟩
 repeat (first | (apply wo_pm;apply mo_storeA (b:=bb) (c:=0) (k:=0) (a:=0) (vs:=[.int .u64 0,.int .u64 0,.int .u64 0]);exact rfl;exact rfl;exact rfl;(intro w hw;simp [Value.cells] at hw;rcases hw with rfl | rfl | rfl <;> rfl);exact rfl;exact Nat.le_refl 3;exact .here;exact trivial) | (apply wo_po;apply mo_loadA (vs:=[.int .u64 (num:Nat),.int .u64 (den:Nat),.int .u64 (burst:Nat)]);exact rfl;exact rfl;exact Rds.all .here;exact trivial) | refine we_seq ?_ | (refine wR ?_;try simp only [oS]) | refine wo_nil ?_)
 refine wo_call (.cons rfl .nil) trivial (mnew_tr B) ?_
 rintro v' L' x' ⟨r,rfl,rfl,rfl⟩
 refine wo_star (mC r num den burst (fun _=>0)::_) (fun h st=>m_wds st) ?_
 repeat (first | (apply wo_mo;apply mo_alloc;exact trivial) | refine wM ?_ | (apply wo_po;apply mo_extract;exact rfl;exact rfl;exact gY))
 rintro v' L' ⟨mb,rfl,rfl⟩
 repeat (first | refine wS ?_ | (apply wo_po;apply mo_loadA (vs:=[.int .u64 (num:Nat),.int .u64 (den:Nat),.int .u64 (burst:Nat)]);exact rfl;exact rfl;exact Rds.all (.there (.there .here));exact trivial) | refine we_seq ?_ | (refine wR ?_;try simp only [oS]) | refine wo_nil ?_ | refine wA ?_)
 refine wo_call (.cons rfl .nil) trivial (mnew_tr B) ?_
 rintro v' L' x' ⟨r2,rfl,rfl,rfl⟩
 refine wo_star (mC r2 num den burst (fun _=>0)::_) (fun h st=>m_wds st) ?_
 repeat (first | refine wneqF ?_ | refine we_seq ?_ | (refine wR ?_;try simp only [oS]) | refine wo_nil ?_ | refine wM ?_ | refine wA ?_ | refine wJ ?_ | (apply wo_po;apply mo_extract;exact rfl;exact rfl;exact gY))
 refine wo_call .nil rfl works_tr ?_
 rintro v1 L1 x1 ⟨rfl,rfl,rfl⟩
 repeat (first | refine we_seq ?_ | (refine wR ?_;try simp only [oS]) | refine wo_nil ?_ | refine wM ?_ | refine wJ ?_ | (apply wo_po;apply mo_not;exact rfl;exact gY) | refine wF ?_ | refine we_skip ?_)
 refine wo_call (.cons rfl .nil) trivial (few_tr (ths_lift [_,_,_,_,_] hr0)) ?_
 rintro qv L2 x1 ⟨rfl,rfl⟩
 have hrs:0<(fewR rs0).length∧(fewR rs0).length≤6:=by
  unfold fewR
  split
  ·simp
  ·rename_i h0
   have:=List.length_pos_iff.2 h0
   simp only [List.length_map,List.length_take];omega
 have hrow:=few_at hr0
 generalize hrsd:fewR rs0=rs at hrs hrow
 refine wo_pure (of_has .here (vec_shape (by omega))) ?_
 rintro ⟨qa,qn,qc,rfl,hqn,_,hqz,hqy⟩
 have hqn:qn=rs.length:=by simp at hqn;omega
 subst hqn
 cases qa with
 | none=>have:=hqz rfl;omega
 | some ad =>
 obtain ⟨qb,qo,sp⟩:=ad
 have:=hqy _ rfl
 simp only [Addr.mk.injEq,true_and] at this
 subst this
 repeat (first | (apply wo_mo;apply mo_alloc;exact trivial))
 rintro v' L' ⟨p8,rfl,rfl⟩
 repeat (first | refine wS ?_ | (apply wo_mo;apply mo_alloc;exact trivial) | refine we_seq ?_ | (refine wR ?_;try simp only [oS]) | refine wo_nil ?_)
 rintro v' L' ⟨lb,rfl,rfl⟩
 repeat (first | (apply wo_mo;apply mo_alloc;exact trivial) | refine we_seq ?_ | (refine wR ?_;try simp only [oS]) | refine wo_nil ?_ | refine wA ?_)
 rintro v' L' ⟨ib,rfl,rfl⟩
 repeat (first | refine wS ?_ | refine wo_nil ?_ | refine we_block ?_)
 refine we_star ((mOut mb p8 lb r r2 num den burst (.slice (some ⟨qb,qo,none⟩) rs.length qc) (.slice oa order.length oc) rs L).L (0,ib,.slice none 0 0,[])) (fun h st=>?_) ?_
 ·have s3:Star (all []::vec 1 (.slice none 0 0) []::_) h:=star_shut (M:=[]) (vec_nil st)
  exact Ent.star (.take (.there (.there .here)) (.take (.there .here) (.take .here (.take .here (.take .here (.take .here (.take .here (.take .here (.take .here (.drop (.drop .refl))))))))))) s3
 refine we_loopN (mOut mb p8 lb r r2 num den burst (.slice (some ⟨qb,qo,none⟩) rs.length qc) (.slice oa order.length oc) rs L) (fun i=>rs.length-i.1) (0,ib,.slice none 0 0,[]) ⟨Nat.zero_le _,rfl⟩ ⟨rfl,rfl,rfl,rfl,rfl,rfl,rfl,trivial⟩ .refl rfl ?_
 rintro ⟨i,ib,tv,ts⟩ ⟨hi,hts⟩
 dsimp only at hi hts
 simp only [mOut]
 refine we_pure (of_has (.there .here) (vec_shape (by omega))) ?_
 rintro ⟨tva,tvn,tvc,rfl,htvn,_,htz,hty⟩
 have htvn:tvn=i:=by simp at htvn;omega
 subst htvn
 by_cases hlt:tvn<rs.length
 ·repeat (first | (apply wo_po;apply mo_makeFunc (first:=[]) (cap:=[_,_,_,_]) (vf:=[]);exact .nil;exact .cons rfl (.cons rfl (.cons rfl (.cons rfl .nil)));exact trivial) | (apply wo_mo;apply mo_buildSlice (sz:=1) (vs:=[moF p8 ib mb lb]);exact rfl;exact .cons rfl .nil;exact rfl;(intro v hv;cases (List.mem_singleton.1 hv);exact rfl);omega;exact trivial) | refine wlssT ?_ | refine we_seq ?_ | (refine wR ?_;try simp only [oS]) | refine wo_nil ?_ | refine wM ?_ | refine wL ?_ | refine wE ?_ | refine wT ?_ | refine we_skip ?_ | refine we_block ?_)
  rintro v' L' ⟨nb2,rfl,rfl⟩
  repeat (first | (apply wo_mo;apply mo_append (sz:=1) (new:=[moF p8 ib mb lb]);exact rfl;exact rfl;exact rfl;exact rfl;exact (.there (.there .here));exact rfl;exact .inr ⟨_,_,rfl,Rds.all .here⟩;(intro v hv;cases (List.mem_singleton.1 hv);exact rfl);(simp only [sliceLen];omega);exact trivial))
  rintro tv' L' rfl
  repeat (first | (apply wo_mo;apply mo_alloc;exact trivial) | refine we_seq ?_ | (refine wR ?_;try simp only [oS]) | refine wo_nil ?_ | refine wA ?_ | refine wL ?_)
  rintro v' L' ⟨ib2,rfl,rfl⟩
  repeat (first | refine wS ?_ | (refine wR ?_;try simp only [oS]) | refine wo_nil ?_ | refine wL ?_ | refine wadd ?_)
  refine at_roundS (B:=mT) (I:=mOut mb p8 lb r r2 num den burst (.slice (some ⟨qb,qo,none⟩) rs.length qc) (.slice oa order.length oc) rs L) (R:=fun q=>rs.length-q.1<rs.length-tvn) (tvn+1,ib2,tv',ts++[ib]) (by show rs.length-(tvn+1)<rs.length-tvn;omega) ⟨by show tvn+1≤rs.length;omega,by simp [hts]⟩ ?_ (fun hp st=>?_) rfl
  ·exact ⟨rfl,rfl,rfl,rfl,rfl,rfl,rfl,trivial⟩
  ·have s1:=star_open (Ent.star (.take (.there (.there (.there (.there .here)))) (.take (.there (.there (.there .here))) (.take .here (.take .here (.drop .refl))))) st)
   have s2:Star (all (boxesN (ts++[ib]))::_) hp:=star_shut (by
    rw [boxesN_snoc,List.append_assoc,hts]
    exact s1)
   have e1:(ts++[ib]).map (fun b=>moF p8 b mb lb)=ts.map (fun b=>moF p8 b mb lb)++[moF p8 ib mb lb]:=by rw [List.map_append];rfl
   show Star (_::vec 1 tv' ((ts++[ib]).map fun b=>moF p8 b mb lb)::_) hp
   rw [e1]
   exact Ent.star (.take (.there .here) (.take (.there .here) (.take .here .refl))) s2
 obtain rfl:tvn=rs.length:=by omega
 repeat (first | refine wlssF ?_ | refine we_seq ?_ | (refine wR ?_;try simp only [oS]) | refine wo_nil ?_ | refine wM ?_ | refine wL ?_ | refine wE ?_ | refine wF ?_ | refine we_exit ?_)
 refine wo_call (.cons rfl (.cons rfl .nil)) trivial (order_tr (m:=rs.length) (rdso_lift [_,_,_,_,_,_,_,_,_] hro) (by omega) hoi) ?_
 rintro odv L1 x1 ⟨rfl,rfl⟩
 refine wo_pure (of_has .here (vec_shape (by omega))) ?_
 rintro ⟨oda,odn,odc,rfl,hodn,_,hodz,hody⟩
 have hol:(orderF rs.length order).length≤4096:=by simp only [orderF,List.length_map,List.length_take];omega
 obtain rfl:odn=(orderF rs.length order).length:=by simp [intC] at hodn;omega
 repeat (first | refine wM ?_)
 refine wo_frz (b:=mb) (o:=0) (.there (.there (.there (.there (.there (.there (.there (.there .here)))))))) ?_
 refine wo_frz (b:=p8) (o:=0) (.there (.there (.there (.there (.there (.there .here)))))) ?_
 refine wo_star ((fun h=>∃ sp,arr qb qo (rs.map rv++sp) h)::_) (fun h st=>star_map (Ent.star (.take (.there (.there (.there (.there (.there (.there (.there .here))))))) .refl) st) vec_row fun _ z=>z) ?_
 refine wo_ex .here fun sp=>?_
 refine wo_frz (b:=qb) (o:=qo) .here ?_
 let RoS:HProp:=mroS qb qo qc p8 mb r rs sp L
 have hRoS:Dup RoS:=dup_all (by
  intro c hc
  simp only [List.mem_cons,List.not_mem_nil,or_false] at hc
  rcases hc with rfl | rfl | rfl | rfl
  ·exact dup_fro
  ·exact dup_fro
  ·exact dup_fro
  ·exact hL)
 obtain ⟨hIs,hI0,hI,hcut⟩:=mo_plays (lb:=lb) (num:=num) (den:=den) (burst:=burst) (r:=r) (p8:=p8) (mb:=mb) (ts:=ts) (RoS:=RoS) hrow (by omega) (orderF rs.length order)
 have hlen:(mthrs lb num den burst r p8 mb RoS rs ts).length=rs.length:=by rw [← hts];simp [mthrs]
 refine wo_star (all [wds (mAddr r) 1 (mK r num den burst) (fun _=>0),moZ lb []]::all ((mthrs lb num den burst r p8 mb RoS rs ts).map Thr.M)::RoS::vec 1 (.slice oda (orderF rs.length order).length odc) (intC (orderF rs.length order))::vec 1 (.slice tva rs.length tvc) (ts.map fun b=>moF p8 b mb lb)::mC r2 num den burst (fun _=>0)::[]) (fun h st=>?_) ?_
 ·have s1:=star_tail (M:=[_,_,_,_,_,_,_,_,_,_]) st
  have s2:Star (RoS::_) h:=star_shut (M:=[_,_,_,_]) (Ent.star (.take (.there .here) (.take (.there .here) (.take (.there .here) (.take .here .refl)))) s1)
  have s4:=dealN hRoS (Ent.star (.take .here (.take (.there (.there (.there .here))) (.take .here (.drop (.take .here (.take .here (.take .here (.take .here .refl)))))))) s2)
  rw [mthrs_M]
  have s5:Star (vec 4 (.slice none 0 0) []::arr lb 0 [.slice none 0 0]::_) h:=vec_nil (Ent.star (.take (.there (.there (.there (.there .here)))) .refl) s4)
  have s6:=star_shut (M:=[_,_]) (star_swap s5)
  have s7:Star (moZ lb []::_) h:=star_map s6 (fun h z=>⟨.slice none 0 0,z⟩) fun _ z=>z
  exact star_shut (M:=[_,_]) (Ent.star (.take (.there (.there (.there (.there (.there (.there .here)))))) (.take .here (.take .here (.take .here (.take .here (.take .here (.take .here .refl))))))) s7)
 skip
 refine wo_call (.cons rfl (.cons rfl .nil)) trivial (plays_tr (g:=(moW lb num den burst).g (mAddr r) 1 (mK r num den burst)) (ts:=mthrs lb num den burst r p8 mb RoS rs ts) (s0:=((0,[]):Nat × List MoE)) (order:=orderF rs.length order) moPI (fun j hj=>by
   have e:(startF ((mthrs lb num den burst r p8 mb RoS rs ts).take j) (show ((moW lb num den burst).g (mAddr r) 1 (mK r num den burst)).σ from ((0,[]):Nat × List MoE))).1=((0,[]):Nat × List MoE):=startF_keep fun t ht=>mthrs_ini t (List.mem_of_mem_take ht)
   rw [e];show (0:Nat)≤100;omega) hI0 hIs (fun p h _=>Nat.le_trans (Nat.le_trans (Nat.le_add_right _ _) h.cnt) (by decide)) (fun _ _ z=>z) (mthrs_ok B hrow hts) (by omega) (by omega) (by omega)
   (by rw [mthrs_fv];exact rdso_vec (.there (.there .here)) (by simp [hts]) htz hty) (rdso_vec (.there .here) (by simp [intC]) hodz hody)) ?_
 rintro v1 L1 x1 ⟨tv2,cv2,rfl,rfl,rfl⟩
 rw [hcut]
 generalize playF (mthrs lb num den burst r p8 mb RoS rs ts) (show ((moW lb num den burst).g (mAddr r) 1 (mK r num den burst)).σ from ((0,[]):Nat × List MoE)) (orderF rs.length order)=p at hI hcut ⊢
 obtain ⟨o,ho⟩:∃ o,(show Nat × List MoE from p.s).1=o:=⟨_,rfl⟩
 obtain ⟨l,hl⟩:∃ l,(show Nat × List MoE from p.s).2=l:=⟨_,rfl⟩
 have hrun:MoR num den burst 0 l o:=by rw [← ho,← hl];exact hI.run
 have hl72:l.length≤72:=by rw [← hl];exact Nat.le_trans (Nat.le_add_right _ _) hI.cnt
 have hbl:∀ e∈l,moP (e.1,e.2.1):=by rw [← hl];exact hI.bl
 refine wo_pure (of_has (.there .here) (vec_shape (by omega))) ?_
 rintro ⟨a2,n2,c2,rfl,hn2,_,_⟩
 obtain rfl:n2=0:=by simp [cutC] at hn2;omega
 refine wo_pure (of_has .here (vec_shape (by omega))) ?_
 rintro ⟨a1,n1,c1,rfl,_⟩
 refine wo_star ((fun h=>∃ sv:Value,all [arr lb 0 [sv],vec 4 sv (l.map moC).flatten] h)::mC r2 num den burst (fun _=>0)::mC r num den burst (fun _=>o)::RoS::[]) (fun h s3=>?_) ?_
 ·have s4:Star (wds (mAddr r) 1 (mK r num den burst) (fun _=>(show Nat × List MoE from p.s).1)::moZ lb (show Nat × List MoE from p.s).2::_) h:=star_open (M:=[_,_]) (Ent.star (.take (.there (.there .here)) .refl) s3)
  rw [ho,hl] at s4
  exact Ent.star (.take (.there .here) (.take (.there (.there (.there (.there (.there (.there (.there .here))))))) (.take .here (.take (.there (.there (.there .here))) (.drop (.drop (.drop (.drop (.drop .refl))))))))) s4
 refine wo_ex (c:=fun (sv:Value) h=>all [arr lb 0 [sv],vec 4 sv (l.map moC).flatten] h) .here fun lv=>?_
 refine wo_star (arr lb 0 [lv]::vec 4 lv (l.map moC).flatten::mC r2 num den burst (fun _=>0)::mC r num den burst (fun _=>o)::RoS::[]) (fun h s3=>star_open (M:=[_,_]) s3) ?_
 refine wo_pure (of_has (.there .here) (vec_shape (by omega))) ?_
 rintro ⟨la,ln,lc,rfl,hln,_,hlz,hly⟩
 have hln':ln=l.length:=by rw [flat_len (k:=4) (fun _=>rfl)] at hln;omega
 subst hln'
 repeat (first | (apply wo_mo;apply mo_alloc;exact trivial) | refine wM ?_ | (apply wo_po;apply mo_extract;exact rfl;exact rfl;exact gY))
 rintro v' L' ⟨pb3,rfl,rfl⟩
 repeat (first | (apply wo_pm;apply mo_storeA (c:=0) (k:=0) (a:=0) (vs:=[.slice none 0 0,.slice none 0 0]);exact rfl;exact rfl;exact rfl;(intro w hw;simp [Value.cells] at hw;rcases hw with rfl | rfl <;> rfl);exact rfl;exact Nat.le_refl 2;exact .here;exact trivial) | refine we_seq ?_ | (refine wR ?_;try simp only [oS]) | refine wo_nil ?_ | refine wA ?_ | refine we_block ?_)
 refine we_star ((mLast mb lb r r2 num den burst pb3 o (.slice la l.length lc) (.slice a1 n1 c1) (.slice a2 0 c2) l RoS).L (0,fun _=>0)) (fun h s3=>?_) ?_
 ·exact Ent.star (.take (.there (.there (.there .here))) (.take (.there .here) (.take (.there .here) (.take (.there .here) (.take (.there .here) (.take .here .refl)))))) s3
 refine we_loopN (mLast mb lb r r2 num den burst pb3 o (.slice la l.length lc) (.slice a1 n1 c1) (.slice a2 0 c2) l RoS) (fun j=>l.length-j.1) (0,fun _=>0) ⟨Nat.zero_le _,hrun⟩ ⟨rfl,rfl,rfl,rfl,rfl,rfl,trivial⟩ .refl rfl ?_
 rintro ⟨j,s2⟩ ⟨hj,hm⟩
 dsimp only at hj hm
 simp only [mLast]
 by_cases hlt:j<l.length
 ·obtain ⟨e,he⟩:∃ e,l[j]?=some e:=⟨l[j],List.getElem?_eq_getElem hlt⟩
  obtain ⟨hp1,hp2⟩:=hbl e (List.mem_of_getElem? he)
  have hdr:l.drop j=e::l.drop (j+1):=by
   rw [List.drop_eq_getElem_cons hlt,(List.getElem?_eq_some_iff.1 he).2]
  rw [hdr] at hm
  obtain ⟨hm1,hm2⟩:=hm
  obtain ⟨now,n,is⟩:=e
  simp only at hp1 hp2 hm1 hm2
  cases la with
  | none=>have:=hlz rfl;omega
  | some ad =>
  obtain ⟨lk,lo,sp2⟩:=ad
  cases hly _ rfl
  have key:∀ (q:Nat) v,(moC (now,n,is))[q]?=some v→q<4→Rd [mC r2 num den burst s2,arr lb 0 [.slice (some ⟨lk,lo,none⟩) l.length lc],vec 4 (.slice (some ⟨lk,lo,none⟩) l.length lc) (l.map moC).flatten,mC r num den burst (fun _=>o),RoS,arr pb3 0 [.slice a1 n1 c1,.slice a2 0 c2]] lk (lo+4*j+q) v:=fun q v hq hq4=>by
   have:=rd_vec (i:=4*j+q) (v:=v) (L:=[mC r2 num den burst s2,arr lb 0 [.slice (some ⟨lk,lo,none⟩) l.length lc],vec 4 (.slice (some ⟨lk,lo,none⟩) l.length lc) (l.map moC).flatten,mC r num den burst (fun _=>o),RoS,arr pb3 0 [.slice a1 n1 c1,.slice a2 0 c2]]) (.there (.there .here)) (by rw [flat_get (k:=4) (fun _=>rfl) l j q _ he hq4];exact hq)
   rwa [← Nat.add_assoc] at this
  have k1:=key 1 _ rfl (by omega)
  have k2:=key 2 _ rfl (by omega)
  obtain ⟨q,hq⟩:∃ q,(takeN num den burst (s2 0) now n).isSome=q:=⟨_,rfl⟩
  obtain rfl:is=q:=hm1.trans hq
  have k3:=key 3 _ rfl (by omega)
  repeat (first | refine wlssT ?_ | refine we_seq ?_ | (refine wR ?_;try simp only [oS]) | refine wo_nil ?_ | refine wM ?_ | refine wL ?_ | refine wE ?_ | refine wT ?_ | refine we_skip ?_ | refine we_block ?_)
  refine we_draw (List.range' 0 19) (by kernel_rfl) ?_
  repeat (first | (apply ap_pure;exact rfl;exact rfl;exact trivial;intro L;apply mo_indexAddr (r:=lo+4*j);exact rfl;exact rfl;omega;omega;omega) | (apply ap_read;exact rfl;exact rfl;exact trivial;apply mo_load;exact rfl;(first | exact k1 | exact k2)) | refine aM ?_ | refine aD ?_ | refine aL ?_)
  refine ap_callv rfl rfl rfl rfl trivial rfl rfl (.cons rfl (.cons rfl (.cons rfl (.cons rfl .nil)))) (mtake_lone B hp1 hp2 rfl rfl .here) ?_
  rintro v1 L1 x1 ⟨s3,rfl,hs3,rfl,rfl⟩
  rw [hq]
  have k3':Rd [mC r2 num den burst s3,arr lb 0 [.slice (some ⟨lk,lo,none⟩) l.length lc],vec 4 (.slice (some ⟨lk,lo,none⟩) l.length lc) (l.map moC).flatten,mC r num den burst (fun _=>o),RoS,arr pb3 0 [.slice a1 n1 c1,.slice a2 0 c2]] lk (lo+4*j+3) (.bool is):=by
   have:=rd_vec (i:=4*j+3) (v:=.bool is) (L:=[mC r2 num den burst s3,arr lb 0 [.slice (some ⟨lk,lo,none⟩) l.length lc],vec 4 (.slice (some ⟨lk,lo,none⟩) l.length lc) (l.map moC).flatten,mC r num den burst (fun _=>o),RoS,arr pb3 0 [.slice a1 n1 c1,.slice a2 0 c2]]) (.there (.there .here)) (by rw [flat_get (k:=4) (fun _=>rfl) l j 3 _ he (by omega)];rfl)
   rwa [← Nat.add_assoc] at this
  repeat (first | refine aM ?_ | refine aA ?_ | (apply ap_pure;exact rfl;exact rfl;exact gY;intro L;apply mo_extract;exact rfl;exact rfl) | refine ap_end ?_)
  have hnext:MoR num den burst (s3 0) (l.drop (j+1)) o:=by rw [hs3];exact hm2
  cases is
  all_goals
   repeat (first | (apply wo_po;apply mo_indexAddr (r:=lo+4*j);exact rfl;exact rfl;omega;omega;omega;exact gY) | (apply wo_po;apply mo_load;exact rfl;exact k3';exact gY) | (apply wo_po;apply mo_bin;exact rfl;exact rfl;apply bin_ne;apply eql_bool;exact gY) | refine wneqF ?_ | refine we_seq ?_ | (refine wR ?_;try simp only [oS]) | refine wo_nil ?_ | refine wM ?_ | refine wA ?_ | refine wJ ?_ | refine wD ?_ | refine wL ?_ | refine wadd ?_ | refine wF ?_ | refine we_skip ?_)
   refine at_round (B:=mT) (I:=mLast mb lb r r2 num den burst pb3 o (.slice (some ⟨lk,lo,none⟩) l.length lc) (.slice a1 n1 c1) (.slice a2 0 c2) l RoS) (R:=fun q=>l.length-q.1<l.length-j) (j+1,s3) (by show l.length-(j+1)<l.length-j;omega) ⟨by show j+1≤l.length;omega,hnext⟩ ?_ .refl rfl
   exact ⟨rfl,rfl,rfl,rfl,rfl,rfl,trivial⟩
 obtain rfl:j=l.length:=by omega
 rw [List.drop_length] at hm
 replace hm:s2 0=o:=hm
 repeat (first | (apply wo_po;apply mo_load;exact rfl;exact rd_lift [_,_,_,_] (rd_all (rd_lift [_,_] (Rd.fro (k:=0) rfl rfl)));exact trivial) | refine wlssF ?_ | refine we_seq ?_ | (refine wR ?_;try simp only [oS]) | refine wo_nil ?_ | refine wM ?_ | refine wL ?_ | refine wE ?_ | refine wF ?_ | refine we_exit ?_)
 refine wo_call (.cons rfl (.cons rfl .nil)) trivial (mstate_lone (u:=o) B rfl (.there (.there (.there .here)))) ?_
 rintro v1 L1 x1 ⟨rfl,rfl,rfl⟩
 repeat (first | refine we_seq ?_ | (refine wR ?_;try simp only [oS]) | refine wo_nil ?_ | refine wM ?_ | refine wA ?_ | (apply wo_po;apply mo_extract;exact rfl;exact rfl;exact gY))
 refine wo_call (.cons rfl (.cons rfl .nil)) trivial (mstate_lone (u:=o) B hm (.there .here)) ?_
 rintro v1 L1 x1 ⟨rfl,rfl,rfl⟩
 repeat (first | refine weqlT ?_ | refine we_seq ?_ | (refine wR ?_;try simp only [oS]) | refine wo_nil ?_ | refine wM ?_ | refine wA ?_ | refine wK ?_ | refine wD ?_ | (apply wo_po;apply mo_extract;exact rfl;exact rfl;exact gY) | refine wL ?_ | refine wE ?_ | refine we_ret ?_)
 (first | refine or1 Try.func7 Try.results7 hQ rfl ?_ | refine on1 Try.func7 Try.results7 hQ rfl ?_)
 exact ⟨rfl,rfl⟩
end
end Go.Proofs.Ythoefhocecdlhaa
namespace Go.PB
open Go
section
theorem form_in {c:OpenClaim} (h1:c.start=.entering) (h2:c.stops=[]) {C:Checked} {os:Os} {f:FuncId} {L:List FuncId} {Pre:World→Array Value→Prop} {Post:Stop.Interp→World→Array Value→Value→World→Prop} :
  c.form C os f L Pre Post↔∀ F:Stop.Interp,ReturnsInOpen c.assume none C os f .any c.okInput Pre (Post F) (c.atReturn C.prog) (c.always C.prog L):=by
 unfold OpenClaim.form
 rw [h1,h2]
theorem upto_of {p:Pinned} {s:ChangeSpec} {k:(H:Type)→List (DataW H)→Bool} {c:OpenClaim} (hstart:c.start=.entering) (hstops:c.stops=[]) (hlaid:c.laid=[]) (hout:c.outside=[]) (hnb:c.noBlocks=false) (h:c.holds p (OpenSpec.ofChange s))
  (hfit:∀ f fn,p.checked.prog.funcNamed c.func=some f→p.checked.prog.funcs[f]?=some fn→∀ os:Os,os.Started→∀ (H:Type) (enc:TypeId × Value→H),
   ∃ (w:World) (tape:Tape) (i:Input),w.os=os∧(w.forCall tape i).Shaped p.checked.prog∧i.vars=[]∧Input.okWide p.checked.prog (w.forCall tape i) .any w.heap.size f i ∧
    ({ OpenSpec.ofChange s with cond:=some k }:OpenSpec).pre6 enc p.checked.prog fn c.domain c.apart (w.forCall tape i).memory i.args∧c.assume.holds p.checked.prog (lone (Frame.enter p.checked.prog f i.args .normal) [] (w.forCall tape i))) :
  ({ c with narrowed:=true }:OpenClaim).holds p { OpenSpec.ofChange s with cond:=some k }:=by
 obtain ⟨a1,a2,a3,a4,a5,a6,a7,a8,f,fn,g1,g2,r,b1,b2,b3,b4,b5,kn,c1,c2,c3,c4,c5,c6,m,l,q,n1,v1,e1,L,hL,all⟩:=h
 refine ⟨a1,a2,a3,a4,a5,a6,a7,a8,f,fn,g1,g2,r,b1,b2,b3,b4,b5,kn,c1,c2,c3,c4,c5,c6,m,l,q,by simp,v1,e1,L,hL,fun os x y H enc inj=>?_⟩
 have A:=all os x y H enc inj
 have st:os.Started:=by
  have x':c.world os:=x
  unfold OpenClaim.world at x'
  rw [hout,hstart] at x'
  exact x'
 have fit:=hfit f fn g1 g2 os st H enc
 refine (form_in (c:={ c with narrowed:=true }) hstart hstops).2 fun F=>?_
 have B:=(form_in hstart hstops).1 A F
 rw [OpenClaim.pre_of_none' hlaid] at B
 rw [OpenClaim.pre_of_none' (c:={ c with narrowed:=true }) hlaid]
 obtain ⟨h0,h1,h2,_,h4⟩:=B
 refine ⟨h0,h1,h2,?_,fun w tape i ⟨d1,d2,d3,d4,d5,d6,d7⟩=>h4 w tape i ⟨d1,d2,d3,d4,?_,d6,d7⟩⟩
 ·obtain ⟨w,tape,i,f1,f2,f3,f4,f5,f6⟩:=fit
  refine ⟨w,tape,i,f1,f2,f3,?_,f5,f6,trivial⟩
  show c.okInput _ _ _ _ _ _
  unfold OpenClaim.okInput
  rw [hnb]
  exact f4
 ·obtain ⟨e2,e3⟩:=d5
  obtain ⟨ds,gs,before,z1,z2,z3⟩:=(OpenSpec.pre_some (k:=k) rfl _ _ _ _).1 e2
  exact ⟨⟨ds,gs,before,z1,z2⟩,e3⟩
end
end Go.PB
namespace Go.PB
open Go.Conc Go.Conc.Lib Go.ConcR.Gen
open Go.ConcR (KK stA smA rd wr mk DC0)
def WgAt (ty:TypeId) (wg:Nat) (w:World) (st sm:Int):Prop:=∃ f:Nat × Nat,w.heap[wg]?=some (.cells #[.int .u64 st,.int .u32 sm] ty f)∧w.frozen? ⟨wg,0,none⟩=false∧w.frozen? ⟨wg,1,none⟩=false
section
variable {ty:TypeId} {wg:Nat} {w w':World} {st sm:Int}
theorem WgAt.cellSt (h:WgAt ty wg w st sm):w.cell? (stA wg)=some (.int .u64 st):=by obtain ⟨f,h,_⟩:=h;simp [World.cell?,stA,h]
theorem WgAt.cellSm (h:WgAt ty wg w st sm):w.cell? (smA wg)=some (.int .u32 sm):=by obtain ⟨f,h,_⟩:=h;simp [World.cell?,smA,h]
theorem WgAt.thaw (h:WgAt ty wg w st sm) (n:Nat) (hn:n<2:=by decide):w.frozen? ⟨wg,n,none⟩=false:=by
 obtain ⟨f,_,h0,h1⟩:=h
 rcases n with _ | _ | n
 ·exact h0
 ·exact h1
 ·omega
theorem WgAt.unique {st' sm':Int} (h:WgAt ty wg w st sm) (h':WgAt ty wg w st' sm'):st=st'∧sm=sm':=by
 obtain ⟨f,h,_⟩:=h
 obtain ⟨f',h',_⟩:=h'
 rw [h] at h'
 simp at h'
 exact ⟨h'.1.1,h'.1.2⟩
theorem WgAt.setSt (h:WgAt ty wg w st sm) (v:Int):WgAt ty wg (w.setCell (stA wg) (.int .u64 v)) v sm:=by
 obtain ⟨f,h,h0,h1⟩:=h
 refine ⟨f,?_,by rw [frozen_setCell];exact h0,by rw [frozen_setCell];exact h1⟩
 simp [World.setCell,stA,Array.getElem?_modify,h]
theorem WgAt.setSm (h:WgAt ty wg w st sm) (v:Int):WgAt ty wg (w.setCell (smA wg) (.int .u32 v)) st v:=by
 obtain ⟨f,h,h0,h1⟩:=h
 refine ⟨f,?_,by rw [frozen_setCell];exact h0,by rw [frozen_setCell];exact h1⟩
 simp [World.setCell,smA,Array.getElem?_modify,h]
theorem WgAt.of_heap (h:WgAt ty wg w st sm) (e:w'.heap[wg]?=w.heap[wg]?):WgAt ty wg w' st sm:=by
 obtain ⟨f,h,h0,h1⟩:=h
 have hf:∀ o,w'.frozen? ⟨wg,o,none⟩=w.frozen? ⟨wg,o,none⟩:=fun o=>by unfold World.frozen?;rw [e]
 exact ⟨f,e.trans h,(hf 0).trans h0,(hf 1).trans h1⟩
def WgLive (ty:TypeId) (Wg:Nat) (w:World):Prop:=∃ st sm,WgAt ty Wg w st sm
end
def RL (ty:TypeId) (Wg:Nat) (w w₁:World):Prop:=WgLive ty Wg w→WgLive ty Wg w₁
theorem live_cell {ty:TypeId} {Wg:Nat} {w:World} (h:WgLive ty Wg w):∃ v,w.cell? ⟨Wg,0,none⟩=some v:=let ⟨_,_,x⟩:=h;⟨_,WgAt.cellSt x⟩
section
variable (P:Program) (ty:TypeId) (Wg:Nat)
def Zg (Stop:Goroutine→World→Prop) (m:Nat) (g:Goroutine) (w:World):Prop:=Goes P false (RL ty Wg) DC0 Stop m g w
def Z4 (g:Goroutine) (w:World):Prop :=
 g.status=.running∧mayWake P g=true∧(WgAt ty Wg w 0 0→∃ g' q,stepG P false g w=.go g' (w.setCell (smA Wg) (.int .u32 1)) (semEvents (smA Wg))∧QuitsD P q 1 g')
def Z3 (g:Goroutine) (w:World):Prop :=
 g.status=.running∧(WgAt ty Wg w 1 0→∃ g' m,stepG P false g w=.go g' (w.setCell (stA Wg) (.int .u64 0)) #[wr (stA Wg)]∧Zg P ty Wg (Z4 P ty Wg) m g' (w.setCell (stA Wg) (.int .u64 0)))
def Z2 (g:Goroutine) (w:World):Prop :=
 g.status=.running∧(WgAt ty Wg w 1 0→∃ g' m,stepG P false g w=.go g' w #[rd (stA Wg)]∧Zg P ty Wg (Z3 P ty Wg) m g' w)
def Z1 (g:Goroutine) (w:World):Prop :=
 g.status=.running∧∀ v wt:Nat,wt≤1→v<2147483647→WgAt ty Wg w ((v+1)*KK+wt) 0 →
  ∃ g',stepG P false g w=.go g' (w.setCell (stA Wg) (.int .u64 (v*KK+wt))) #[rd (stA Wg),wr (stA Wg)] ∧
   ((v=0∧wt=1)→∃ m,Zg P ty Wg (Z2 P ty Wg) m g' (w.setCell (stA Wg) (.int .u64 (v*KK+wt))))∧(¬ (v=0∧wt=1)→∃ q,QuitsD P q 1 g')
def ZK (g:Goroutine) (w:World):Prop :=
 g.status=.running∧∃ g' m,stepG P false g w=.go g' w #[mk .disable]∧Zg P ty Wg (Z1 P ty Wg) m g' w
def ZR (g:Goroutine) (w:World):Prop :=
 g.status=.running∧∃ g' m,stepG P false g w=.go g' w #[mk (.releaseMerge (stA Wg))]∧Zg P ty Wg (ZK P ty Wg) m g' w
end
end Go.PB
namespace Go.PB
open Go.Conc Go.Conc.Lib Go.ConcR.Gen
open Go.ConcR (KK stA smA rd wr mk DC0)
theorem quits_more {P:Program}:∀ {n d:Nat} {g:Goroutine},QuitsD P n d g→QuitsD P (n+1) d g
 | 0,_,_,h=>.inl h
 | _+1,_,_,h=>h.imp id fun ⟨hs,g',es,hm,hst,hq⟩=>⟨hs,g',es,hm,hst,quits_more hq⟩
theorem quits_mono {P:Program} {n n' d:Nat} {g:Goroutine} (h:QuitsD P n d g) (hn:n≤n'):QuitsD P n' d g:=by
 induction hn with
 | refl=>exact h
 | step _ ih=>exact quits_more ih
set_option maxRecDepth 100000 in
set_option maxHeartbeats 8000000 in
theorem add_goes [Go.ConcR.Payload] {P:Program} {L:WgLink} (H:WgLib P L) {Wg:Nat} {b₀:Frame} {a₀:Act} {ops₀:Array Oper} {i₀:Nat} {rest₀:List Nat} {k₀:List Item} {cs:List Frame} {qt:Nat}
  (hT:QuitsD P qt 0 (G (b₀.at (a₀.put ((ops₀[i₀]?).bind (·.dst)) (.tuple #[])) (.inRegion ops₀ rest₀::k₀)) cs)) (w:World) (hK:WgLive L.tWg Wg w) :
  Zg P L.tWg Wg (ZR P L.tWg Wg) 20 (G ((Go.Conc.base L.add).at ⟨#[.pointer (some ⟨Wg,0,none⟩),.int .i64 (-1)]++Array.replicate 115 undef,[]⟩ [.code (body_add L)]) (b₀.at a₀ (.inRegion ops₀ (i₀::rest₀)::k₀)::cs)) w:=by
 lib_facts
 simp only [body_add,addFn,Option.getD_some,Array.replicate_succ,Array.replicate_zero]
 unfold Zg
 have key:∀ {w w₁:World},WgLive L.tWg Wg w→RL L.tWg Wg w w₁→WgLive L.tWg Wg w₁:=fun h r=>r h
 walk_nrm
 repeat (first | u_c stepG_seq key hK | u_c stepG_region_end key hK | u_c stepG_skip key hK | u_reg key hK | u_skip key hK | u_op key hK | u_cond true key hK | u_cond false key hK | u_c stepG_ret' key hK | u_c stepG_block key hK | u_c stepG_loop key hK | u_c stepG_end key hK | u_defer key hK | u_leave1 H.f_uAdd key hK | u_leave1 H.f_uLoad key hK | u_leave0 H.f_uStore key hK | u_call H.f_uAdd (nm_uAdd L) uAddFn key hK | u_call H.f_uLoad (nm_uLoad L) uLoadFn key hK | u_call H.f_uStore (nm_uStore L) uStoreFn key hK | u_bub key hK)
 u_conv H.underlying_tWgP H.room_tWg (live_cell hK).choose_spec key hK
 refine Goes.stop (fun w₁ h₁=>?_)
 replace hK:=key hK h₁
 clear h₁
 refine ⟨rfl,_,30,stepG_markAt .releaseMerge (by simp) rfl rfl (by k_ne) rfl H.f_relMerge (x_relMerge_n L) (x_relMerge_b L) (x_relMerge_x L) (x_relMerge_f L) (by simp [Act.eval,stA]),?_⟩
 unfold Zg
 walk_nrm
 repeat (first | u_c stepG_seq key hK | u_c stepG_region_end key hK | u_c stepG_skip key hK | u_reg key hK | u_skip key hK | u_op key hK | u_cond true key hK | u_cond false key hK | u_c stepG_ret' key hK | u_c stepG_block key hK | u_c stepG_loop key hK | u_c stepG_end key hK | u_defer key hK | u_leave1 H.f_uAdd key hK | u_leave1 H.f_uLoad key hK | u_leave0 H.f_uStore key hK | u_call H.f_uAdd (nm_uAdd L) uAddFn key hK | u_call H.f_uLoad (nm_uLoad L) uLoadFn key hK | u_call H.f_uStore (nm_uStore L) uStoreFn key hK | u_bub key hK)
 refine Goes.stop (fun w₁ h₁=>?_)
 replace hK:=key hK h₁
 clear h₁
 refine ⟨rfl,_,80,stepG_mark0 .disable (by simp) rfl rfl (by k_ne) rfl H.f_disable (x_disable_n L) (x_disable_b L) (x_disable_x L) (x_disable_f L),?_⟩
 unfold Zg
 walk_nrm
 repeat (first | u_c stepG_seq key hK | u_c stepG_region_end key hK | u_c stepG_skip key hK | u_reg key hK | u_skip key hK | u_op key hK | u_cond true key hK | u_cond false key hK | u_c stepG_ret' key hK | u_c stepG_block key hK | u_c stepG_loop key hK | u_c stepG_end key hK | u_defer key hK | u_leave1 H.f_uAdd key hK | u_leave1 H.f_uLoad key hK | u_leave0 H.f_uStore key hK | u_call H.f_uAdd (nm_uAdd L) uAddFn key hK | u_call H.f_uLoad (nm_uLoad L) uLoadFn key hK | u_call H.f_uStore (nm_uStore L) uStoreFn key hK | u_bub key hK)
 refine Goes.stop (fun w₁ h₁=>?_)
 clear h₁ hK
 refine ⟨rfl,fun v wt hwt hv hw=>?_⟩
 have e0:IntKind.u64.wrap (KK+18446744069414584320)=0:=by decide
 have e1:IntKind.u64.wrap (KK+1+18446744069414584320)=1:=by decide
 rcases Nat.eq_zero_or_pos v with rfl | hvp <;> (obtain rfl | rfl:wt=0∨wt=1:=by omega)
 ·-- nobody is left,nobody waits
  replace hw:WgAt L.tWg Wg w₁ KK 0:=by simpa using hw
  have z:((0:Nat):Int)*KK+((0:Nat):Int)=0:=by simp
  rw [z]
  refine ⟨_,(stepG_add_atomic rfl rfl (by k_ne) rfl H.f_addU64 (x_addU64_n L) (x_addU64_b L) (x_addU64_x L) .u64 (x_addU64_f L) rfl rfl (WgAt.cellSt hw) (WgAt.thaw hw 0)).trans (by rw [e0];rfl),fun hl=>absurd hl.2 (by decide),fun _=>⟨qt+200,?_⟩⟩
  clear hw
  walk_nrm
  q_val (.int .u64 0)
  q_c stepG_region_end
  q_c stepG_ret'
  q_leave1 H.f_uAdd
  q_val (.int .u64 0)
  q_c stepG_region_end
  q_c stepG_seq
  q_c stepG_seq
  q_reg
  q_val (.int .u64 0)
  q_val (.int .u64 0)
  q_val (.bool false)
  q_val (.bool false)
  q_skip
  q_skip
  q_val (.bool false)
  q_c stepG_region_end
  q_cond false
  q_c stepG_skip
  q_c stepG_seq
  q_reg
  q_val (.int .u64 0)
  q_val (.int .u64 0)
  q_val (.int .i32 0)
  q_val (.int .i32 0)
  q_c stepG_region_end
  q_c stepG_seq
  q_reg
  q_val (.int .u64 0)
  q_val (.int .u64 0)
  q_val (.int .u32 0)
  q_val (.int .u32 0)
  q_c stepG_region_end
  q_c stepG_seq
  q_c stepG_seq
  q_reg
  q_val (.bool true)
  q_val (.int .i64 (-1))
  q_val (.bool false)
  q_val (.bool false)
  q_val (.bool false)
  q_skip
  q_skip
  q_skip
  q_skip
  q_val (.bool false)
  q_c stepG_region_end
  q_cond false
  q_c stepG_skip
  q_c stepG_seq
  q_c stepG_seq
  q_reg
  q_val (.int .i32 0)
  q_val (.bool false)
  q_c stepG_region_end
  q_cond false
  q_c stepG_skip
  q_c stepG_seq
  q_c stepG_seq
  q_reg
  q_val (.int .u32 0)
  q_val (.bool false)
  q_val (.bool false)
  q_skip
  q_skip
  q_val (.bool false)
  q_val (.bool false)
  q_skip
  q_skip
  q_skip
  q_skip
  q_val (.bool false)
  q_c stepG_region_end
  q_cond false
  q_c stepG_skip
  q_c stepG_seq
  q_c stepG_seq
  q_reg
  q_val (.int .i32 0)
  q_val (.bool false)
  q_val (.bool false)
  q_val (.int .u32 0)
  q_val (.bool true)
  q_val (.bool true)
  q_c stepG_region_end
  q_cond true
  q_c stepG_ret'
  q_enable
  q_leave0 H.f_add
  exact quits_mono hT (by omega)
 ·-- nobody is left,the starter waits: the last one
  replace hw:WgAt L.tWg Wg w₁ (KK+1) 0:=by simpa using hw
  have z:((0:Nat):Int)*KK+((1:Nat):Int)=1:=by simp
  rw [z]
  refine ⟨_,(stepG_add_atomic rfl rfl (by k_ne) rfl H.f_addU64 (x_addU64_n L) (x_addU64_b L) (x_addU64_x L) .u64 (x_addU64_f L) rfl rfl (WgAt.cellSt hw) (WgAt.thaw hw 0)).trans (by rw [e1];rfl),fun _=>⟨150,?_⟩,fun hl=>absurd ⟨rfl,rfl⟩ hl⟩
  have hK:WgLive L.tWg Wg (w₁.setCell (stA Wg) (.int .u64 1)):=⟨_,_,WgAt.setSt hw 1⟩
  clear hw
  unfold Zg
  walk_nrm
  u_op key hK
  u_c stepG_region_end key hK
  u_c stepG_ret' key hK
  u_leave1 H.f_uAdd key hK
  u_op key hK
  u_c stepG_region_end key hK
  u_c stepG_seq key hK
  u_c stepG_seq key hK
  u_reg key hK
  u_op key hK
  u_op key hK
  u_op key hK
  u_op key hK
  u_skip key hK
  u_skip key hK
  u_op key hK
  u_c stepG_region_end key hK
  u_cond false key hK
  u_c stepG_skip key hK
  u_c stepG_seq key hK
  u_reg key hK
  u_op key hK
  u_op key hK
  u_op key hK
  u_op key hK
  u_c stepG_region_end key hK
  u_c stepG_seq key hK
  u_reg key hK
  u_op key hK
  u_op key hK
  u_op key hK
  u_op key hK
  u_c stepG_region_end key hK
  u_c stepG_seq key hK
  u_c stepG_seq key hK
  u_reg key hK
  u_op key hK
  u_op key hK
  u_op key hK
  u_op key hK
  u_op key hK
  u_skip key hK
  u_skip key hK
  u_skip key hK
  u_skip key hK
  u_op key hK
  u_c stepG_region_end key hK
  u_cond false key hK
  u_c stepG_skip key hK
  u_c stepG_seq key hK
  u_c stepG_seq key hK
  u_reg key hK
  u_op key hK
  u_op key hK
  u_c stepG_region_end key hK
  u_cond false key hK
  u_c stepG_skip key hK
  u_c stepG_seq key hK
  u_c stepG_seq key hK
  u_reg key hK
  u_op key hK
  u_op key hK
  u_op key hK
  u_op key hK
  u_op key hK
  u_op key hK
  u_op key hK
  u_skip key hK
  u_skip key hK
  u_skip key hK
  u_skip key hK
  u_op key hK
  u_c stepG_region_end key hK
  u_cond false key hK
  u_c stepG_skip key hK
  u_c stepG_seq key hK
  u_c stepG_seq key hK
  u_reg key hK
  u_op key hK
  u_op key hK
  u_op key hK
  u_op key hK
  u_op key hK
  u_op key hK
  u_c stepG_region_end key hK
  u_cond false key hK
  u_c stepG_skip key hK
  u_c stepG_seq key hK
  u_c stepG_seq key hK
  u_reg key hK
  u_op key hK
  u_op key hK
  u_op key hK
  u_call H.f_uLoad (nm_uLoad L) uLoadFn key hK
  u_c stepG_seq key hK
  u_reg key hK
  u_op key hK
  u_c stepG_region_end key hK
  u_c stepG_seq key hK
  u_reg key hK
  u_op key hK
  u_op key hK
  u_op key hK
  refine Goes.stop (fun w₂ h₂=>?_)
  clear h₂ hK
  refine ⟨rfl,fun hw=>⟨_,60,stepG_load_atomic rfl rfl (by k_ne) rfl H.f_loadU64 (x_loadU64_n L) (x_loadU64_b L) (x_loadU64_x L) .u64 (x_loadU64_f L) rfl (WgAt.cellSt hw),?_⟩⟩
  have hK:WgLive L.tWg Wg w₂:=⟨_,_,hw⟩
  clear hw
  unfold Zg
  walk_nrm
  u_op key hK
  u_c stepG_region_end key hK
  u_c stepG_ret' key hK
  u_leave1 H.f_uLoad key hK
  u_op key hK
  u_op key hK
  u_c stepG_region_end key hK
  u_cond false key hK
  u_c stepG_skip key hK
  u_c stepG_seq key hK
  u_reg key hK
  u_op key hK
  u_op key hK
  u_op key hK
  u_call H.f_uStore (nm_uStore L) uStoreFn key hK
  u_reg key hK
  u_op key hK
  u_op key hK
  u_op key hK
  u_op key hK
  refine Goes.stop (fun w₃ h₃=>?_)
  clear h₃ hK
  refine ⟨rfl,fun hw=>⟨_,60,stepG_store_atomic rfl rfl (by k_ne) rfl H.f_storeU64 (x_storeU64_n L) (x_storeU64_b L) (x_storeU64_x L) (x_storeU64_f L) rfl rfl (WgAt.cellSt hw) (WgAt.thaw hw 0),?_⟩⟩
  have hK:WgLive L.tWg Wg (w₃.setCell (stA Wg) (.int .u64 0)):=⟨_,_,WgAt.setSt hw 0⟩
  clear hw
  unfold Zg
  walk_nrm
  u_c stepG_region_end key hK
  u_c stepG_end key hK
  u_leave0 H.f_uStore key hK
  u_c stepG_region_end key hK
  u_c stepG_seq key hK
  u_c stepG_seq key hK
  u_reg key hK
  u_op key hK
  u_c stepG_region_end key hK
  u_cond false key hK
  u_c stepG_skip key hK
  u_c stepG_block key hK
  u_c stepG_loop key hK
  u_c stepG_seq key hK
  u_c stepG_seq key hK
  u_reg key hK
  u_op key hK
  u_op key hK
  u_c stepG_region_end key hK
  u_cond true key hK
  u_c stepG_skip key hK
  u_c stepG_seq key hK
  u_c stepG_block key hK
  u_reg key hK
  u_op key hK
  u_op key hK
  u_op key hK
  refine Goes.stop (fun w₄ h₄=>?_)
  clear h₄ hK
  refine ⟨rfl,mayWake_entry rfl rfl H.f_semrelease (x_semrelease_b L),fun hw=>⟨_,qt+40,(stepG_semrelease rfl rfl (by k_ne) rfl H.f_semrelease (x_semrelease_n L) (x_semrelease_b L) (x_semrelease_x L) (x_semrelease_f L) (by simp [Act.eval,smA]) (WgAt.cellSm hw) (WgAt.thaw hw 1)).trans (by rfl),?_⟩⟩
  clear hw
  walk_nrm
  q_c stepG_region_end
  q_c stepG_inBlock
  q_reg
  q_val (.int .u32 1)
  q_val (.int .u32 0)
  q_val (.int .u32 0)
  q_c stepG_region_end
  q_c stepG_inLoop
  q_c stepG_seq
  q_c stepG_seq
  q_reg
  q_val (.int .u32 0)
  q_val (.bool false)
  q_c stepG_region_end
  q_cond false
  q_exit
  q_c stepG_end
  q_enable
  q_leave0 H.f_add
  exact quits_mono hT (by omega)
 ·-- some are left,nobody waits
  replace hw:WgAt L.tWg Wg w₁ (((v:Nat)+1)*KK+0) 0:=by simpa using hw
  have z:((v:Nat):Int)*KK+((0:Nat):Int)=(v:Int)*KK+0:=by simp
  rw [z]
  have eS:IntKind.u64.wrap (((v:Nat)+1)*KK+0+18446744069414584320)=(v:Int)*KK+0:=by rw [IntKind.wrap_u64];simp only [KK];omega
  obtain ⟨S,hS⟩:∃ S:Int,S=(v:Int)*KK+0:=⟨_,rfl⟩
  rw [← hS] at eS ⊢
  have a1:S/4294967296=(v:Int):=by rw [hS];simp only [KK];omega
  have a2:0≤S∧S<9223372036854775808:=by rw [hS];simp only [KK];omega
  have b1:bits .and .u64 S 2147483648=0:=by rw [hS];have:=Go.ConcN.st_flag v 0 (by omega) (by omega);simpa [KK] using this
  have b2:bits .and .u64 S 2147483647=0:=by rw [hS];have:=Go.ConcN.st_waiters v 0 (by omega) (by omega);simpa [KK] using this
  clear hS z
  refine ⟨_,(stepG_add_atomic rfl rfl (by k_ne) rfl H.f_addU64 (x_addU64_n L) (x_addU64_b L) (x_addU64_x L) .u64 (x_addU64_f L) rfl rfl (WgAt.cellSt hw) (WgAt.thaw hw 0)).trans (by rw [eS];rfl),fun hl=>absurd hl.1 (by omega),fun _=>⟨qt+150,?_⟩⟩
  clear hw
  walk_nrm
  q_vn (.int .u64 S)
  q_c stepG_region_end
  q_c stepG_ret'
  q_leave1 H.f_uAdd
  q_vn (.int .u64 S)
  q_c stepG_region_end
  q_c stepG_seq
  q_c stepG_seq
  q_reg
  q_vn (.int .u64 S)
  q_vn (.int .u64 0)
  q_vn (.bool false)
  q_vn (.bool false)
  q_skip
  q_skip
  q_vn (.bool false)
  q_c stepG_region_end
  q_cond false
  q_c stepG_skip
  q_c stepG_seq
  q_reg
  q_vn (.int .u64 S)
  q_vn (.int .u64 (v:Int))
  q_vn (.int .i32 (v:Int))
  q_vn (.int .i32 (v:Int))
  q_c stepG_region_end
  q_c stepG_seq
  q_reg
  q_vn (.int .u64 S)
  q_vn (.int .u64 0)
  q_vn (.int .u32 0)
  q_vn (.int .u32 0)
  q_c stepG_region_end
  q_c stepG_seq
  q_c stepG_seq
  q_reg
  q_vn (.bool true)
  q_vn (.int .i64 (-1))
  q_vn (.bool false)
  q_vn (.bool false)
  q_vn (.bool false)
  q_skip
  q_skip
  q_skip
  q_skip
  q_vn (.bool false)
  q_c stepG_region_end
  q_cond false
  q_c stepG_skip
  q_c stepG_seq
  q_c stepG_seq
  q_reg
  q_vn (.int .i32 (v:Int))
  q_vn (.bool false)
  q_c stepG_region_end
  q_cond false
  q_c stepG_skip
  q_c stepG_seq
  q_c stepG_seq
  q_reg
  q_vn (.int .u32 0)
  q_vn (.bool false)
  q_vn (.bool false)
  q_skip
  q_skip
  q_vn (.bool false)
  q_vn (.bool false)
  q_skip
  q_skip
  q_skip
  q_skip
  q_vn (.bool false)
  q_c stepG_region_end
  q_cond false
  q_c stepG_skip
  q_c stepG_seq
  q_c stepG_seq
  q_reg
  q_vn (.int .i32 (v:Int))
  q_vn (.bool true)
  q_vn (.bool true)
  q_skip
  q_skip
  q_vn (.bool true)
  q_c stepG_region_end
  q_cond true
  q_c stepG_ret'
  q_enable
  q_leave0 H.f_add
  exact quits_mono hT (by omega)
 ·-- some are left,the starter waits
  replace hw:WgAt L.tWg Wg w₁ (((v:Nat)+1)*KK+1) 0:=by simpa using hw
  have z:((v:Nat):Int)*KK+((1:Nat):Int)=(v:Int)*KK+1:=by simp
  rw [z]
  have eS:IntKind.u64.wrap (((v:Nat)+1)*KK+1+18446744069414584320)=(v:Int)*KK+1:=by rw [IntKind.wrap_u64];simp only [KK];omega
  obtain ⟨S,hS⟩:∃ S:Int,S=(v:Int)*KK+1:=⟨_,rfl⟩
  rw [← hS] at eS ⊢
  have a1:S/4294967296=(v:Int):=by rw [hS];simp only [KK];omega
  have a2:0≤S∧S<9223372036854775808:=by rw [hS];simp only [KK];omega
  have b1:bits .and .u64 S 2147483648=0:=by rw [hS];have:=Go.ConcN.st_flag v 1 (by omega) (by omega);simpa [KK] using this
  have b2:bits .and .u64 S 2147483647=1:=by rw [hS];have:=Go.ConcN.st_waiters v 1 (by omega) (by omega);simpa [KK] using this
  clear hS z
  refine ⟨_,(stepG_add_atomic rfl rfl (by k_ne) rfl H.f_addU64 (x_addU64_n L) (x_addU64_b L) (x_addU64_x L) .u64 (x_addU64_f L) rfl rfl (WgAt.cellSt hw) (WgAt.thaw hw 0)).trans (by rw [eS];rfl),fun hl=>absurd hl.1 (by omega),fun _=>⟨qt+150,?_⟩⟩
  clear hw
  walk_nrm
  q_vn (.int .u64 S)
  q_c stepG_region_end
  q_c stepG_ret'
  q_leave1 H.f_uAdd
  q_vn (.int .u64 S)
  q_c stepG_region_end
  q_c stepG_seq
  q_c stepG_seq
  q_reg
  q_vn (.int .u64 S)
  q_vn (.int .u64 0)
  q_vn (.bool false)
  q_vn (.bool false)
  q_skip
  q_skip
  q_vn (.bool false)
  q_c stepG_region_end
  q_cond false
  q_c stepG_skip
  q_c stepG_seq
  q_reg
  q_vn (.int .u64 S)
  q_vn (.int .u64 (v:Int))
  q_vn (.int .i32 (v:Int))
  q_vn (.int .i32 (v:Int))
  q_c stepG_region_end
  q_c stepG_seq
  q_reg
  q_vn (.int .u64 S)
  q_vn (.int .u64 1)
  q_vn (.int .u32 1)
  q_vn (.int .u32 1)
  q_c stepG_region_end
  q_c stepG_seq
  q_c stepG_seq
  q_reg
  q_vn (.bool true)
  q_vn (.int .i64 (-1))
  q_vn (.bool false)
  q_vn (.bool false)
  q_vn (.bool false)
  q_skip
  q_skip
  q_skip
  q_skip
  q_vn (.bool false)
  q_c stepG_region_end
  q_cond false
  q_c stepG_skip
  q_c stepG_seq
  q_c stepG_seq
  q_reg
  q_vn (.int .i32 (v:Int))
  q_vn (.bool false)
  q_c stepG_region_end
  q_cond false
  q_c stepG_skip
  q_c stepG_seq
  q_c stepG_seq
  q_reg
  q_vn (.int .u32 1)
  q_vn (.bool true)
  q_vn (.bool true)
  q_vn (.int .i64 (-1))
  q_vn (.bool false)
  q_vn (.bool false)
  q_vn (.bool false)
  q_skip
  q_skip
  q_skip
  q_skip
  q_vn (.bool false)
  q_c stepG_region_end
  q_cond false
  q_c stepG_skip
  q_c stepG_seq
  q_c stepG_seq
  q_reg
  q_vn (.int .i32 (v:Int))
  q_vn (.bool true)
  q_vn (.bool true)
  q_skip
  q_skip
  q_vn (.bool true)
  q_c stepG_region_end
  q_cond true
  q_c stepG_ret'
  q_enable
  q_leave0 H.f_add
  exact quits_mono hT (by omega)
end Go.PB
namespace Go.PB
open Go.Conc Go.Conc.Lib Go.ConcR.Gen
open Go.ConcR (KK stA smA rd wr mk DC0)
set_option maxRecDepth 100000 in
theorem add_goes2 [Go.ConcR.Payload] {P:Program} {L:WgLink} (H:WgLib P L) {Wg:Nat} {b₀:Frame} {a₀:Act} {ops₀:Array Oper} {i₀:Nat} {rest₀:List Nat} {k₀:List Item} {cs:List Frame} {qt:Nat}
  (hT:QuitsD P qt 0 (G (b₀.at (a₀.put ((ops₀[i₀]?).bind (·.dst)) (.tuple #[])) (.inRegion ops₀ rest₀::k₀)) cs)) (w:World) (hK:WgLive L.tWg Wg w) :
  Zg P L.tWg Wg (ZR P L.tWg Wg) 20 (G ((Go.Conc.base L.add).at ⟨#[.pointer (some ⟨Wg,0,none⟩),.int .i64 (-1),undef,undef,undef,undef,undef,undef,undef,undef,undef,undef,undef,undef,undef,undef,undef,undef,undef,undef,undef,undef,undef,undef,undef,undef,undef,undef,undef,undef,undef,undef,undef,undef,undef,undef,undef,undef,undef,undef,undef,undef,undef,undef,undef,undef,undef,undef,undef,undef,undef,undef,undef,undef,undef,undef,undef,undef,undef,undef,undef,undef,undef,undef,undef,undef,undef,undef,undef,undef,undef,undef,undef,undef,undef,undef,undef,undef,undef,undef,undef,undef,undef,undef,undef,undef,undef,undef,undef,undef,undef,undef,undef,undef,undef,undef,undef,undef,undef,undef,undef,undef,undef,undef,undef,undef,undef,undef,undef,undef,undef,undef,undef,undef,undef,undef,undef],[]⟩ [.code (body_add L)]) (b₀.at a₀ (.inRegion ops₀ (i₀::rest₀)::k₀)::cs)) w:=by
 have e:(#[.pointer (some ⟨Wg,0,none⟩),.int .i64 (-1),undef,undef,undef,undef,undef,undef,undef,undef,undef,undef,undef,undef,undef,undef,undef,undef,undef,undef,undef,undef,undef,undef,undef,undef,undef,undef,undef,undef,undef,undef,undef,undef,undef,undef,undef,undef,undef,undef,undef,undef,undef,undef,undef,undef,undef,undef,undef,undef,undef,undef,undef,undef,undef,undef,undef,undef,undef,undef,undef,undef,undef,undef,undef,undef,undef,undef,undef,undef,undef,undef,undef,undef,undef,undef,undef,undef,undef,undef,undef,undef,undef,undef,undef,undef,undef,undef,undef,undef,undef,undef,undef,undef,undef,undef,undef,undef,undef,undef,undef,undef,undef,undef,undef,undef,undef,undef,undef,undef,undef,undef,undef,undef,undef,undef,undef]:Array Value)=#[.pointer (some ⟨Wg,0,none⟩),.int .i64 (-1)]++Array.replicate 115 undef:=by kernel_rfl
 rw [e]
 exact add_goes H hT w hK
set_option maxHeartbeats 8000000 in
set_option maxRecDepth 100000 in
theorem done_goes [Go.ConcR.Payload] {P:Program} {L:WgLink} (H:WgLib P L) {Wg:Nat} {c:Frame} {cs:List Frame} {qt:Nat} (hcm:c.mode=.returning) (hT:QuitsD P qt 0 (G c cs)) (w:World) (hK:WgLive L.tWg Wg w) :
  Zg P L.tWg Wg (ZR P L.tWg Wg) 23 (G ((baseD L.done).at ⟨#[.pointer (some ⟨Wg,0,none⟩),undef,undef,undef],[]⟩ [.code (body_done L)]) (c::cs)) w:=by
 lib_facts
 have hA:=@add_goes2 _ P L H Wg
 unfold Zg at hA ⊢
 have key:∀ {w w₁:World},WgLive L.tWg Wg w→RL L.tWg Wg w w₁→WgLive L.tWg Wg w₁:=fun h r=>r h
 simp only [body_done,body_add,doneFn,addFn,Option.getD_some] at hA ⊢
 u_reg key hK
 u_op key hK
 u_in key hK
 refine goes_call rfl rfl (by k_ne) rfl H.f_add (nm_add L) rfl ⟨by u_nil,?_⟩
 walk_nrmf addFn
 refine hA (qt:=qt+3) ?_ _ hK
 q_c stepG_region_end
 q_c stepG_end
 exact QuitsD.leaveD rfl rfl H.f_done rfl hcm hT
theorem done_enter {P:Program} {L:WgLink} (H:WgLib P L) {v:Value}:Frame.enter P L.done #[v] .deferred=(baseD L.done).at ⟨#[v,undef,undef,undef],[]⟩ [.code (body_done L)]:=by
 simp [Frame.enter,H.f_done,body_done,doneFn]
 rfl
end Go.PB
namespace Go.PB
open Go.Conc Go.Conc.Lib
open Go.ConcR (KK stA smA rd wr mk DC0)
section
variable {P:Program} {main:Bool} {fr:Frame} {cs:List Frame} {o:Oper} {w w':World}
theorem atOp_step (a:AtOp fr o):∃ ops i l k,fr=mkFr ⟨fr.fn,fr.kind⟩ fr.tmps fr.defers (.inRegion ops (i::l)::k)∧ops[i]?=some o∧Region.wanted o (yielded ops fr.tmps)=true∧fr.eval=evT fr.tmps:=by
 obtain ⟨hm,hr,ops,i,l,k,htd,ho,hw⟩:=a
 refine ⟨ops,i,l,k,?_,ho,hw,?_⟩
 ·cases fr;simp only at hm hr htd;subst hm;subst hr;subst htd;rfl
 ·funext q;cases q <;> rfl
theorem step_value {v:Value} {es:Array Event} (a:AtOp fr o) (ne:fr.kind≠.early) (hr:(execOp fr.eval o).runT P w #[]=(.ok (.value v) w',es)) :
  stepG P main (G fr cs) w=.go (G (fr.finish v) cs) w' (seen P fr.fn es):=by
 obtain ⟨ops,i,l,k,e,ho,hw,he⟩:=atOp_step a
 have hs:=stepG_op (P:=P) (main:=main) (b:=⟨fr.fn,fr.kind⟩) (t:=fr.tmps) (d:=fr.defers) (l:=l) (k:=k) (cs:=cs) (w:=w) ho hw
 rw [← e] at hs
 rw [hs]
 rw [he] at hr
 have hk:(fr.kind == .early)=false:=by cases hx:fr.kind <;> first | rfl | exact absurd hx ne
 have hk':((mkFr ⟨fr.fn,fr.kind⟩ fr.tmps fr.defers (.inRegion ops (i::l)::k)).kind == .early)=false:=hk
 simp only [stepG.apply,if_true,hr,hk,GStep.after,Bool.false_eq_true,if_false,Array.append_empty]
 rfl
theorem step_comm {cases:Array CommCase} {bl:Bool} {sh:CommShape} (a:AtOp fr o) (hr:(execOp fr.eval o).runT P w #[]=(.ok (.comm cases bl sh) w,#[])) :
  stepG P main (G fr cs) w=.comm (G fr cs) cases bl sh w #[]:=by
 obtain ⟨ops,i,l,k,e,ho,hw,he⟩:=atOp_step a
 have hs:=stepG_op (P:=P) (main:=main) (b:=⟨fr.fn,fr.kind⟩) (t:=fr.tmps) (d:=fr.defers) (l:=l) (k:=k) (cs:=cs) (w:=w) ho hw
 rw [← e] at hs
 rw [hs]
 rw [he] at hr
 simp only [stepG.apply,if_true,hr,GStep.after,ite_self]
 rfl
theorem step_spawn {d:Deferred} {f:Fn} {cap:Array Value} (hd:d.target=.fn f cap) (a:AtOp fr o) (hr:(execOp fr.eval o).runT P w #[]=(.ok (.spawn d) w,#[])) :
  stepG P main (G fr cs) w=.spawn (G (fr.finish undef) cs) (G (goFr P d) []) w #[]:=by
 obtain ⟨ops,i,l,k,e,ho,hw,he⟩:=atOp_step a
 have hs:=stepG_op (P:=P) (main:=main) (b:=⟨fr.fn,fr.kind⟩) (t:=fr.tmps) (d:=fr.defers) (l:=l) (k:=k) (cs:=cs) (w:=w) ho hw
 rw [← e] at hs
 rw [hs]
 rw [he] at hr
 simp only [stepG.apply,if_true,hr,GStep.after,ite_self,hd,Bool.and_false,Bool.false_and,Bool.false_eq_true,if_false]
 rfl
theorem step_block {es:Array Event} (a:AtOp fr o) (hr:(execOp fr.eval o).runT P w #[]=(.halt .blocked w',es)) :
  stepG P main (G fr cs) w=.go { G fr cs with status:=.blocked } w' #[]:=by
 obtain ⟨ops,i,l,k,e,ho,hw,he⟩:=atOp_step a
 have hs:=stepG_op (P:=P) (main:=main) (b:=⟨fr.fn,fr.kind⟩) (t:=fr.tmps) (d:=fr.defers) (l:=l) (k:=k) (cs:=cs) (w:=w) ho hw
 rw [← e] at hs
 rw [hs]
 rw [he] at hr
 simp only [stepG.apply,if_true,hr,GStep.after,ite_self]
 rfl
end
structure Runs (g:Goroutine) (fr:Frame) (cs:List Frame):Prop where
 frame:g.frame=fr
 callers:g.callers=cs
 status:g.status=.running
 dying:g.dying=none
structure Parks (g:Goroutine) (fr:Frame) (cs:List Frame) (cases:Array CommCase) (sh:CommShape):Prop where
 frame:g.frame=fr
 callers:g.callers=cs
 status:g.status=.blocked
 dying:g.dying=none
 offers:g.offers=some (cases,sh)
structure Sleeps (g:Goroutine) (fr:Frame) (cs:List Frame):Prop where
 frame:g.frame=fr
 callers:g.callers=cs
 status:g.status=.blocked
 dying:g.dying=none
 offers:g.offers=none
theorem Runs.step {P:Program} {main:Bool} {g:Goroutine} {fr:Frame} {cs:List Frame} (r:Runs g fr cs) (w:World):stepG P main g w=stepG P main (G fr cs) w :=
 stepG_same r.frame r.callers r.dying w
theorem runs_G {fr:Frame} {cs:List Frame}:Runs (G fr cs) fr cs:=⟨rfl,rfl,rfl,rfl⟩
theorem Parks.eq {g:Goroutine} {fr:Frame} {cs:List Frame} {cases:Array CommCase} {sh:CommShape} (p:Parks g fr cs cases sh):g=parked (G fr cs) cases sh:=by
 obtain ⟨h1,h2,h3,h4,h5⟩:=p
 cases g;simp only at h1 h2 h3 h4 h5;subst h1;subst h2;subst h3;subst h4;subst h5;rfl
section
variable (P:Program) (cv:Value) (L:WgLink) (Em:Frame→List Frame→Hp→MX→Prop)
abbrev TN:=Node P (tHand cv) false (tEnd P L.done)
abbrev MN:=Node P (mHand P cv L.done L.tWg) true Em
inductive Slot:Type 1
 | act (n:TN P cv L)
 | out (k m:Nat)
variable {P cv L}
def SBel:Slot P cv L→Slot P cv L→Prop
 | .act n,.act n'=>Relation.TransGen Below n n'
 | .out _ _,.act _=>True
 | .act _,.out _ _=>False
 | .out k m,.out k' m'=>k<k'∨(k=k'∧m<m')
theorem sbel_wf:WellFounded (SBel (P:=P) (cv:=cv) (L:=L)):=by
 have ho:∀ k m,Acc (SBel (P:=P) (cv:=cv) (L:=L)) (.out k m):=by
  intro k
  induction k using Nat.strongRecOn with
  | _ k ihk =>
   intro m
   induction m using Nat.strongRecOn with
   | _ m ihm =>
    refine ⟨_,fun s hs=>?_⟩
    cases s with
    | act n=>exact hs.elim
    | out k' m' =>
     rcases hs with h | ⟨rfl,h⟩
     ·exact ihk k' h m'
     ·exact ihm m' h
 refine ⟨fun s=>?_⟩
 cases s with
 | out k m=>exact ho k m
 | act n =>
  induction n using (WellFounded.transGen (below_wf (P:=P) (B:=tHand cv) (main:=false) (E:=tEnd P L.done))).induction with
  | _ n ih =>
   refine ⟨_,fun s hs=>?_⟩
   cases s with
   | act n'=>exact ih n' hs
   | out k m=>exact ho k m
def ZS (P:Program) (ty:TypeId) (Wg:Nat):Nat→Goroutine→World→Prop
 | 6=>ZR P ty Wg
 | 5=>ZK P ty Wg
 | 4=>Z1 P ty Wg
 | 3=>Z2 P ty Wg
 | 2=>Z3 P ty Wg
 | 1=>Z4 P ty Wg
 | _=>fun _ _=>False
theorem zs_running {P:Program} {ty:TypeId} {Wg k:Nat} {g:Goroutine} {w:World} (h:ZS P ty Wg k g w):g.status=.running:=by
 unfold ZS at h
 split at h <;> first | exact h.1 | exact h.elim
theorem zg_running {P:Program} {ty:TypeId} {Wg k m:Nat} {g:Goroutine} {w:World} (h:Zg P ty Wg (ZS P ty Wg k) m g w):g.status=.running:=by
 unfold Zg at h
 cases m with
 | zero=>exact zs_running (h w fun x=>x)
 | succ m=>exact h.elim (fun h=>zs_running (h w fun x=>x)) (fun h=>h.1)
theorem zg_step {P:Program} {ty:TypeId} {Wg k m:Nat} {g:Goroutine} {w:World} (h:Zg P ty Wg (ZS P ty Wg k) m g w) :
  ZS P ty Wg k g w∨∃ m' g',m=m'+1∧stepG P false g w=.go g' w #[]∧Zg P ty Wg (ZS P ty Wg k) m' g' w:=by
 unfold Zg at h
 cases m with
 | zero=>exact .inl (h w fun x=>x)
 | succ m =>
  rcases h with h | ⟨_,h⟩
  ·exact .inl (h w fun x=>x)
  ·right
   have:=h w fun x=>x
   revert this
   cases e:stepG P false g w <;> simp only [GStep.goes,false_imp_iff]
   rintro ⟨⟨rfl,rfl⟩,q⟩
   exact ⟨m,_,rfl,rfl,q⟩
theorem zg_rely {P:Program} {ty:TypeId} {Wg m:Nat} {S:Goroutine→World→Prop} {g:Goroutine} {w w':World} (h:Zg P ty Wg S m g w) (r:RL ty Wg w w'):Zg P ty Wg S m g w' :=
 Goes.rely (fun _ _ _ a b x=>b (a x)) h r
structure Mem (w:World) (t:Trace) (hp:Nat→Hp):Prop where
 fits:∀ i,Fits (hp i) w
 sep:∀ i j,i≠j→Sep (hp i) (hp j)
 nr:∀ said,¬ Race said t
 low:Low t w.heap.size
 norel:∀ op∈t,∀ a,op.act≠.mark (.release a)
def put (hp:Nat→Hp) (a:Nat) (h:Hp):Nat→Hp:=fun i=>if i=a then h else hp i
theorem put_self {hp:Nat→Hp} {a:Nat} {h:Hp}:put hp a h a=h:=by simp [put]
theorem put_ne {hp:Nat→Hp} {a i:Nat} {h:Hp} (hi:i≠a):put hp a h i=hp i:=by simp [put,hi]
structure Own (a:Nat) (h:Hp) (w w':World) (h':Hp) (u:Trace):Prop where
 guar:Guar h w w' h'
 g:∀ op∈u,op.g=a
 mine:∀ op∈u,∀ b,op.act.touch?=some b→Mine h w w'.heap.size b
 plain:∀ op∈u,Plain op
theorem Mem.own {w w':World} {t u:Trace} {hp:Nat→Hp} {a:Nat} {h':Hp} (m:Mem w t hp) (o:Own a (hp a) w w' h' u) (k:Kn t (Knows t a) (hp a)):Mem w' (t++u) (put hp a h') where
 fits:=fun i=>by
  by_cases hi:i=a
  ·subst hi;rw [put_self];exact o.guar.fits
  ·rw [put_ne hi];exact fits_other o.guar (m.sep a i fun e=>hi e.symm) (m.fits a) (m.fits i)
 sep:=fun i j hij=>by
  by_cases hi:i=a
  ·subst hi;rw [put_self,put_ne fun e=>hij e.symm];exact sep_other o.guar (m.sep _ _ hij) (m.fits j)
  ·by_cases hj:j=a
   ·subst hj;rw [put_self,put_ne hi];exact (sep_other o.guar (m.sep _ _ fun e=>hij e.symm) (m.fits i)).symm
   ·rw [put_ne hi,put_ne hj];exact m.sep _ _ hij
 nr:=fun said=>(kn_step (m.nr said) k m.low o.guar o.g o.mine).1
 low:=(kn_step (m.nr false) k m.low o.guar o.g o.mine).2.2
 norel:=fun op ho b=>by
  rcases Array.mem_append.1 ho with ho | ho
  ·exact m.norel op ho b
  ·intro e;rcases o.plain op ho _ e with h | ⟨f,h⟩ <;> cases h
theorem Mem.mute {w w':World} {t u:Trace} {hp:Nat→Hp} (m:Mem w t hp) (hf:∀ i,Fits (hp i) w') (hs:w.heap.size≤w'.heap.size) (hm:∀ op∈u,op.act.touch?=none) (hr:∀ op∈u,∀ a,op.act≠.mark (.release a)):Mem w' (t++u) hp :=
 ⟨hf,m.sep,fun said=>race_mute (m.nr said) hm,(low_mute m.low hm).mono hs,fun op ho b=>(Array.mem_append.1 ho).elim (fun ho=>m.norel op ho b) (fun ho=>hr op ho b)⟩
theorem counts_old {t u:Trace} {j:Nat} (hj:j<t.size):(t++u).counts j↔t.counts j:=by
 unfold Trace.counts
 rw [act?_old hj]
 have:(t++u).heard j↔t.heard j:=by
  unfold Trace.heard Trace.g?
  simp only [getElem?_append_old hj,deaf_old (Nat.le_of_lt hj)]
 rw [this]
theorem g?_lt {t:Trace} {j i:Nat} (h:t.g? j=some i):j<t.size:=by
 unfold Trace.g? at h
 obtain ⟨op,ho,_⟩:=Option.map_eq_some_iff.1 h
 exact lt_size_of_getElem? ho
theorem g?_app {t u:Trace} {j:Nat} (h:j<t.size):(t++u).g? j=t.g? j:=by unfold Trace.g?;rw [getElem?_append_old h]
theorem g?_new {t u:Trace} {i j:Nat} (hu:∀ op∈u,op.g≠i) (h:(t++u).g? j=some i):j<t.size∧t.g? j=some i:=by
 unfold Trace.g? at h
 obtain ⟨op,ho,hg⟩:=Option.map_eq_some_iff.1 h
 rcases getElem?_append_cases ho with ⟨h1,h2⟩ | ⟨_,h2⟩
 ·exact ⟨h1,by simp [Trace.g?,h2,hg]⟩
 ·exact absurd hg (hu op h2)
def AllK (t:Trace) (i:Nat) (K:Nat→Prop):Prop:=∀ j,t.g? j=some i→t.counts j→K j
theorem AllK.app {t u:Trace} {i:Nat} {K K':Nat→Prop} (h:AllK t i K) (hK:∀ j,K j→K' j) (hu:∀ op∈u,op.g≠i):AllK (t++u) i K':=fun j hj hc=>by
 obtain ⟨h1,h2⟩:=g?_new hu hj
 exact hK _ (h j h2 ((counts_old h1).1 hc))
structure Rel (t:Trace) (wg i p:Nat):Prop where
 act:t.act? p=some (.mark (.releaseMerge ⟨wg,0,none⟩))
 g:t.g? p=some i
 heard:t.heard p
theorem Rel.app {t:Trace} {wg i p:Nat} (r:Rel t wg i p) (u:Trace):Rel (t++u) wg i p:=by
 have hp:=g?_lt r.g
 refine ⟨by rw [act?_old hp];exact r.act,by rw [g?_app hp];exact r.g,?_⟩
 obtain ⟨g,h1,h2⟩:=r.heard
 exact ⟨g,by rw [g?_app hp];exact h1,by rw [deaf_old (Nat.le_of_lt hp)];exact h2⟩
def SlotKn (t:Trace) (wg i:Nat) (h:Hp):Slot P cv L→Prop
 | .act n=>Kn t (Knows t i) h∧n.h=h∧Deaf t i=0
 | .out k m=>(k=6∧Kn t (Knows t i) h∧Deaf t i=0) ∨
   (k≤5∧(∃ p,Rel t wg i p∧Kn t (fun j=>Before t j p) h∧AllK t i fun j=>Before t j p)∧(k=5→Deaf t i=0)∧(1≤k→k≤4→Deaf t i=1))
theorem SlotKn.app {t u:Trace} {wg i:Nat} {h:Hp} {s:Slot P cv L} (k:SlotKn t wg i h s) (hu:∀ op∈u,op.g≠i) (hk:∀ {K K':Nat→Prop},Kn t K h→(∀ j,K j→K' j)→Kn (t++u) K' h):SlotKn (t++u) wg i h s:=by
 cases s with
 | act n=>exact ⟨hk k.1 fun j h=>h.app u,k.2.1,by rw [Deaf_others hu];exact k.2.2⟩
 | out c m =>
  rcases k with ⟨h1,h2,h3⟩ | ⟨h1,⟨p,h2,h3,h4⟩,h5,h6⟩
  ·exact .inl ⟨h1,hk h2 fun j h=>h.app u,by rw [Deaf_others hu];exact h3⟩
  ·exact .inr ⟨h1,⟨p,h2.app u,hk h3 fun j h=>h.app u,h4.app (fun j h=>h.app u) hu⟩,by rw [Deaf_others hu];exact h5,by rw [Deaf_others hu];exact h6⟩
structure Old (t:Trace) (i:Nat) (h:Hp) (s:Slot P cv L):Prop where
 out:∃ m,s=.out 0 m
 empty:h=Hp.empty
 all:AllK t i (Knows t 0)
theorem Old.app {t u:Trace} {i:Nat} {h:Hp} {s:Slot P cv L} (o:Old t i h s) (hu:∀ op∈u,op.g≠i):Old (t++u) i h s:=⟨o.out,o.empty,o.all.app (fun j h=>h.app u) hu⟩
end
end Go.PB
namespace Go.PB
open Go.Conc Go.Conc.Lib
open Go.ConcR (KK stA smA rd wr mk DC0)
def Seat.ch {σ θ:Type} (c:Seat σ θ):Nat→Nat
 | 0=>c.says
 | 1=>c.turn
 | _=>c.fin
def NewG (W0:World):MX→Prop
 | .idle=>True
 | .game X=>W0.heap.size≤X.wg∧∀ (j:Nat) (c:Seat X.g.σ X.g.θ) (a:Nat),X.seats[j]?=some c→W0.heap.size≤c.ch a
structure Side (w w':World):Prop where
 os:w'.os=w.os
 tape:w'.tape=w.tape
 output:w'.output=w.output
 frz:∀ a,w'.frozen? a=w.frozen? a
theorem Side.refl {w:World}:Side w w:=⟨rfl,rfl,rfl,fun _=>rfl⟩
theorem side_setCell {w:World} {a:Addr} {v:Value}:Side w (w.setCell a v):=⟨rfl,rfl,rfl,fun a'=>frozen_setCell ..⟩
structure Aft (W0 w:World) (hp:Nat→Hp) (x:MX):Prop where
 after:After W0 w
 own:∀ i b o v,(hp i).own b o=some v→W0.heap.size≤b
 obj:∀ i b v,(hp i).obj b=some v→W0.heap.size≤b
 game:NewG W0 x
section
variable {W0 w w':World} {hp:Nat→Hp} {x x':MX} {t u:Trace} {a:Nat} {h':Hp}
theorem Aft.le (A:Aft W0 w hp x):W0.heap.size≤w.heap.size:=A.after.1.size
theorem Aft.own_step (A:Aft W0 w hp x) (o:Own a (hp a) w w' h' u):Aft W0 w' (put hp a h') x where
 after:=⟨⟨o.guar.os.trans A.after.1.os,o.guar.tape.trans A.after.1.tape,o.guar.output.trans A.after.1.output,Nat.le_trans A.after.1.size o.guar.size,fun i hi=>by
  rw [o.guar.block i (Nat.lt_of_lt_of_le hi A.le) (fun o=>none_of fun v e=>by have:=A.own _ _ _ _ e;omega) (none_of fun v e=>by have:=A.obj _ _ _ e;omega)]
  exact A.after.1.block i hi⟩,fun a=>(o.guar.frz a).trans (A.after.2 a)⟩
 own:=fun i b k v e=>by
  by_cases hi:i=a
  ·subst hi
   rw [put_self] at e
   refine Nat.le_of_not_lt fun hlt=>?_
   have hlt':=Nat.lt_of_lt_of_le hlt A.le
   cases eh:(hp i).own b k with
   | none=>rw [o.guar.newo _ _ hlt' eh] at e;cases e
   | some v'=>have:=A.own _ _ _ _ eh;omega
  ·rw [put_ne hi] at e;exact A.own _ _ _ _ e
 obj:=fun i b v e=>by
  by_cases hi:i=a
  ·subst hi
   rw [put_self] at e
   refine Nat.le_of_not_lt fun hlt=>?_
   have hlt':=Nat.lt_of_lt_of_le hlt A.le
   cases eh:(hp i).obj b with
   | none=>rw [o.guar.newb _ hlt' eh] at e;cases e
   | some v'=>have:=A.obj _ _ _ eh;omega
  ·rw [put_ne hi] at e;exact A.obj _ _ _ e
 game:=A.game
theorem Aft.at_block (A:Aft W0 w hp x) {c:Nat} (hc:W0.heap.size≤c) (s:Side w w') (hw:∀ b,b≠c→w'.heap[b]?=w.heap[b]?) (hs:w'.heap.size=w.heap.size) (hx:NewG W0 x'):Aft W0 w' hp x' where
 after:=⟨⟨s.os.trans A.after.1.os,s.tape.trans A.after.1.tape,s.output.trans A.after.1.output,by rw [hs];exact A.after.1.size,fun i hi=>by rw [hw i (by omega)];exact A.after.1.block i hi⟩,fun a=>(s.frz a).trans (A.after.2 a)⟩
 own:=A.own
 obj:=A.obj
 game:=hx
theorem Aft.parts' (A:Aft W0 w hp x) {hp':Nat→Hp} (h1:∀ i b o v,(hp' i).own b o=some v→∃ k,(hp k).own b o=some v) (h2:∀ i b v,(hp' i).obj b=some v→∃ k,(hp k).obj b=some v) (hx:NewG W0 x'):Aft W0 w hp' x' where
 after:=A.after
 own:=fun i b o v e=>by obtain ⟨k,e⟩:=h1 _ _ _ _ e;exact A.own _ _ _ _ e
 obj:=fun i b v e=>by obtain ⟨k,e⟩:=h2 _ _ _ e;exact A.obj _ _ _ e
 game:=hx
theorem side_chan {ch:Nat} {o:Obj} {c n m:Nat} {bf:Array Value} {cl tm:Bool} (e:w.heap[ch]?=some (.chan c bf cl n m tm)) (ho:isCells o=false) (hos:w'.os=w.os) (ht:w'.tape=w.tape) (hou:w'.output=w.output) (hw:w'.heap=w.heap.setIfInBounds ch o):Side w w' where
 os:=hos
 tape:=ht
 output:=hou
 frz:=fun a=>by
  unfold World.frozen?
  rw [hw]
  by_cases h:ch=a.block
  ·subst h
   rw [Array.getElem?_setIfInBounds_self_of_lt (Array.getElem?_eq_some_iff.1 e).1,e]
   cases o <;> simp [isCells] at ho ⊢
  ·rw [Array.getElem?_setIfInBounds_ne h]
end
end Go.PB
namespace Go.PB
open Go.Conc Go.Conc.Lib
open Go.ConcR (KK stA smA rd wr mk DC0)
variable {W0:World} {P:Program} {cv:Value} {L:WgLink} {Em:Frame→List Frame→Hp→MX→Prop}
def SeatSt.isShut {σ θ:Type}:SeatSt σ θ→Bool
 | .shut _=>true
 | _=>false
def SeatSt.isRun {σ θ:Type}:SeatSt σ θ→Bool
 | .run _ _=>true
 | _=>false
inductive PhOk {g:Game} (left:Nat):SeatSt g.σ g.θ→Ph g.σ g.θ→Prop
 | run {s q n} (h:left≤n):PhOk left (.run s q) (.busy s q n)
 | said {q n} (h:left≤n) (hp:(g.plan q).isSome=true):PhOk left (.said q) (.said q n)
 | over {q} (hp:g.plan q=none):PhOk left (.said q) (.over q)
 | shutS {q n} (hp:(g.plan q).isSome=true):PhOk left (.shut q) (.said q n)
 | shutO {q}:PhOk left (.shut q) (.over q)
 | shutC {q}:PhOk left (.shut q) (.cut q)
def SlotG (w:World) (wg d:Nat) (g:Goroutine):Slot P cv L→Prop
 | .act n=>Runs g n.fr n.cs∨∃ cases sh,Parks g n.fr n.cs cases sh∧∃ fr cs h x o bl O at_ rr a k,n=⟨fr,cs,h,x,.comm o cases bl sh O at_ rr a k⟩
 | .out 0 m=>QuitsD P m d g
 | .out (k+1) m=>Zg P L.tWg wg (ZS P L.tWg wg (k+1)) m g w
def SeatAt (X:GX) (c:Seat X.g.σ X.g.θ) (h:Hp):Slot P cv L→Prop
 | .act n=>∃ ph,n.x=⟨X.g,c.says,c.turn,c.fin,X.wg,ph⟩∧PhOk X.left c.st ph
 | .out k m=>k≤6∧∃ q,((c.st=.said q∧X.g.plan q=none)∨c.st=.shut q)∧Star [X.g.Fin q] h
def Slot.stage:Slot P cv L→Nat
 | .act _=>7
 | .out k _=>k
inductive WgPh (L:WgLink) (X:GX) (st:List Nat) (w:World):Prop
 | quiet (v wt:Nat) (at_:WgAt L.tWg X.wg w (v*KK+wt) 0) (hv:v+X.seats.length=(st.filter fun k=>decide (4≤k)).length+X.ad) (late:∀ k∈st,k=0∨4≤k)
   (hw:wt=match X.wt with | .parked=>1 | _=>0) (park:X.wt=.parked→0<v)
   (b:match X.wt with | .wait b=>v≤b | .seen v0=>v≤v0 | .woken=>v=0 | .zero=>v=0 | _=>True)
 | late (p:X.wt=.parked) (i k:Nat) (hi:st[i]?=some k) (hk:k=3∨k=2) (at_:WgAt L.tWg X.wg w 1 0) (oth:∀ j k,st[j]?=some k→j≠i→k=0)
 | late1 (p:X.wt=.parked) (i:Nat) (hi:st[i]?=some 1) (at_:WgAt L.tWg X.wg w 0 0) (oth:∀ j k,st[j]?=some k→j≠i→k=0)
 | free (p:X.wt=.parked) (at_:WgAt L.tWg X.wg w 0 1) (oth:∀ k∈st,k=0)
abbrev St (X:GX):=Seat X.g.σ X.g.θ
structure GameAt (X:GX) (gs:Array Goroutine) (w:World) (t:Trace) (sl:List (Slot P cv L)) (hp:Nat→Hp) (nb:Nat):Prop where
 len:sl.length=nb+X.seats.length
 old:∀ (i:Nat) (s:Slot P cv L),i<nb→sl[i]?=some s→Old t (i+1) (hp (i+1)) s
 seat:∀ (j:Nat) (c:St X),X.seats[j]?=some c→∃ s,sl[nb+j]?=some s∧SeatAt X c (hp (nb+j+1)) s
 know:∀ (j:Nat) (s:Slot P cv L),sl[nb+j]?=some s→SlotKn t X.wg (nb+j+1) (hp (nb+j+1)) s
 chan:∀ (j:Nat) (c:St X),X.seats[j]?=some c→∀ a,a<3→∃ n,w.heap[c.ch a]?=some (Obj.chan 0 #[] (decide (a=2)&&c.st.isShut) n n false)
 dist:∀ (j j':Nat) (c c':St X) (a a':Nat),X.seats[j]?=some c→X.seats[j']?=some c'→a<3→a'<3→c.ch a=c'.ch a'→j=j'∧a=a'
 noch:∀ (i j:Nat) (c:St X) (a:Nat),X.seats[j]?=some c→a<3→(hp i).obj (c.ch a)=none
 nowg:∀ i o,(hp i).own X.wg o=none∧(hp i).ro X.wg o=none
 wg:WgPh L X (sl.map Slot.stage) w
 wgt:∀ (i:Nat) (a:Touch) (o:Nat),o<2→touchAt t i=some a→a.loc=.cell ⟨X.wg,o,none⟩ →
  (a.kind≠.plain∧(a.kind=.said→t.g? i=some 0))∨(Knows t 0 i∧∀ (j:Nat) (c:St X),X.seats[j]?=some c→Knows t (nb+j+1) i)
 deaf:Deaf t 0=if X.deaf then 1 else 0
 tok0:X.tok=none→∃ (j:Nat) (c:St X),X.seats[j]?=some c∧c.st.isRun=true∧∀ (j':Nat) (c':St X),X.seats[j']?=some c'→j'≠j→c'.st.isRun=false
 tok1:X.tok.isSome=true→∀ (j:Nat) (c:St X),X.seats[j]?=some c→c.st.isRun=false
 adp:X.wt=.play→X.ad=X.seats.length∨(X.ad=X.seats.length+1∧X.tok.isSome=true)
 ads:X.wt≠.play→X.ad=X.seats.length∧∀ (j:Nat) (c:St X),X.seats[j]?=some c→c.st.isShut=true
 adl:X.ad≤1000
 live:∀ (j:Nat) (c:St X) (g:Goroutine),X.seats[j]?=some c→gs[nb+j+1]?=some g→c.st.isShut=true→g.status≠.blocked
 park:∀ (g0:Goroutine) (cases:Array CommCase) (sh:CommShape),gs[0]?=some g0→g0.status=.blocked→g0.offers=some (cases,sh)→∃ (j:Nat) (c:St X),X.seats[j]?=some c∧X.wt=.play ∧
   ((∃ z,cases=#[rcase c.says z])∨(∃ v z,cases=#[scase c.turn v z]))∧∀ (g:Goroutine),gs[nb+j+1]?=some g→g.status≠.blocked
 sleep:∀ (g0:Goroutine),gs[0]?=some g0→g0.status=.blocked→g0.offers=none→X.wt=.parked∧¬ WgAt L.tWg X.wg w 0 1
 cht:∀ (j:Nat) (c:St X) (a i:Nat) (b:Touch),X.seats[j]?=some c→a<3→touchAt t i=some b→b.loc=.obj (c.ch a)→Knows t 0 i
structure IdleAt (t:Trace) (sl:List (Slot P cv L)) (hp:Nat→Hp) (gs:Array Goroutine):Prop where
 old:∀ (i:Nat) (s:Slot P cv L),sl[i]?=some s→Old t (i+1) (hp (i+1)) s
 deaf:Deaf t 0=0
 runs:∀ (g0:Goroutine),gs[0]?=some g0→g0.status≠.blocked
def MainG (g:Goroutine) (n:MN P cv L Em):Prop :=
 Runs g n.fr n.cs∨(∃ cases sh,Parks g n.fr n.cs cases sh∧∃ fr cs h x o bl O at_ rr a k,n=⟨fr,cs,h,x,.comm o cases bl sh O at_ rr a k⟩) ∨
  (Sleeps g n.fr n.cs∧∃ fr cs h x o O at_ ne a k,n=⟨fr,cs,h,x,.act o O at_ ne a k⟩)
structure Cfg (W0:World) (gs:Array Goroutine) (w:World) (t:Trace) (M:MN P cv L Em) (sl:List (Slot P cv L)) (hp:Nat→Hp):Prop where
 size:gs.size=sl.length+1
 main:∃ g,gs[0]?=some g∧MainG g M
 thr:∀ i s,sl[i]?=some s→∃ g,gs[i+1]?=some g∧SlotG w (match M.x with | .game X=>X.wg | .idle=>0) (Deaf t (i+1)) g s
 mem:Mem w t hp
 aft:Aft W0 w hp M.x
 hp0:hp 0=M.h
 hpn:∀ i,sl.length<i→hp i=Hp.empty
 tg:∀ (i:Nat) (op:MemOp),t[i]?=some op→op.g≤sl.length
 kn0:Kn t (Knows t 0) (hp 0)
 game:match M.x with
  | .idle=>IdleAt t sl hp gs
  | .game X=>∃ nb,GameAt X gs w t sl hp nb
end Go.PB
namespace Go.PB
open Go.Conc Go.Conc.Lib
open Go.ConcR (KK stA smA rd wr mk DC0)
variable {W0:World} {P:Program} {cv:Value} {L:WgLink} {Em:Frame→List Frame→Hp→MX→Prop}
theorem woken_cases (g g':Goroutine) (w':World) (o:Goroutine):woken P g g' w' o=o∨(woken P g g' w' o={ o with status:=.running }∧(o.status=.blocked∨o.status=.waiting)):=by
 unfold woken
 split
 ·unfold Goroutine.again
  split
  ·rename_i h1 h2
   simp only
   split
   ·exact .inr ⟨rfl,.inl h1⟩
   ·exact .inl rfl
  ·rename_i h1 h2;exact .inr ⟨rfl,.inl h1⟩
  ·rename_i h1;exact .inr ⟨rfl,.inr h1⟩
  ·exact .inl rfl
 ·exact .inl rfl
theorem woken_blocked {g g':Goroutine} {w':World} {o:Goroutine} (h:(woken P g g' w' o).status=.blocked):woken P g g' w' o=o:=by
 rcases woken_cases (P:=P) g g' w' o with e | ⟨e,_⟩
 ·exact e
 ·rw [e] at h;cases h
theorem woken_run {g g':Goroutine} {w':World} {o:Goroutine} (h:o.status=.running):woken P g g' w' o=o:=by
 rcases woken_cases (P:=P) g g' w' o with e | ⟨e,h' | h'⟩
 ·exact e
 ·rw [h] at h';cases h'
 ·rw [h] at h';cases h'
theorem woken_fin {g g':Goroutine} {w':World} {o:Goroutine} (h:o.status=.running∨o.status=.finished):woken P g g' w' o=o:=by
 rcases woken_cases (P:=P) g g' w' o with e | ⟨e,h' | h'⟩
 ·exact e
 ·rcases h with h | h <;> (rw [h] at h';cases h')
 ·rcases h with h | h <;> (rw [h] at h';cases h')
theorem SlotG.woken {w w':World} {wg d:Nat} {g g' o:Goroutine} {s:Slot P cv L} (h:SlotG w wg d o s) (r:RL L.tWg wg w w'):SlotG w' wg d (woken P g g' w' o) s:=by
 cases s with
 | act n =>
  rcases h with h | ⟨cases,sh,h,hx⟩
  ·exact .inl (by rw [woken_run h.status];exact h)
  ·rcases woken_cases (P:=P) g g' w' o with e | ⟨e,_⟩
   ·exact .inr ⟨cases,sh,by rw [e];exact h,hx⟩
   ·exact .inl (by rw [e];exact ⟨h.frame,h.callers,rfl,h.dying⟩)
 | out k m =>
  cases k with
  | zero=>show QuitsD P m d _;rw [woken_fin (QuitsD.status h)];exact h
  | succ k=>show Zg P L.tWg wg _ m _ w';rw [woken_run (zg_running h)];exact zg_rely h r
theorem MainG.woken {w':World} {g g' o:Goroutine} {n:MN P cv L Em} (h:MainG o n):MainG (woken P g g' w' o) n:=by
 rcases woken_cases (P:=P) g g' w' o with e | ⟨e,hb⟩
 ·rw [e];exact h
 ·rw [e]
  rcases h with h | ⟨_,_,h,_⟩ | ⟨h,_⟩
  ·exact .inl ⟨h.frame,h.callers,rfl,h.dying⟩
  ·exact .inl ⟨h.frame,h.callers,rfl,h.dying⟩
  ·exact .inl ⟨h.frame,h.callers,rfl,h.dying⟩
structure Gs (P:Program) (a:Nat) (gs gs':Array Goroutine) (g':Goroutine):Prop where
 size:gs'.size=gs.size
 self:gs'[a]?=some g'
 other:∀ (i:Nat) (g:Goroutine),i≠a→gs[i]?=some g→∃ x x' w,gs'[i]?=some (woken P x x' w g)
 back:∀ (i:Nat) (g:Goroutine),i≠a→gs'[i]?=some g→g.status=.blocked→gs[i]?=some g
theorem gs_go {a:Nat} {gs:Array Goroutine} {g g':Goroutine} {w':World} (h:gs[a]?=some g):Gs P a gs ((gs.map (woken P g g' w')).setIfInBounds a g') g':=by
 have hlt:=(Array.getElem?_eq_some_iff.1 h).1
 refine ⟨by simp,by simp [hlt],fun i o hi ho=>⟨g,g',w',?_⟩,fun i o hi ho hb=>?_⟩
 ·rw [Array.getElem?_setIfInBounds_ne fun e=>hi e.symm,Array.getElem?_map,ho];rfl
 ·rw [Array.getElem?_setIfInBounds_ne fun e=>hi e.symm,Array.getElem?_map] at ho
  obtain ⟨o',h1,h2⟩:=Option.map_eq_some_iff.1 ho
  subst h2
  rw [woken_blocked hb];exact h1
theorem own_chan {w w':World} {h h':Hp} {b:Nat} {ob:Obj} (g:Guar h w w' h') (f:Fits h w) (hn:h.obj b=none) (hc:isCells ob=false) (e:w.heap[b]?=some ob):w'.heap[b]?=some ob:=by
 rw [g.block b (Array.getElem?_eq_some_iff.1 e).1 (fun o=>none_of fun v hv=>?_) hn]
 ·exact e
 ·have h1:=f.own _ _ _ hv
  unfold World.cell? at h1
  simp only [e] at h1
  cases ob <;> simp [isCells] at h1 hc
theorem own_wg {w w':World} {h h':Hp} {ty:TypeId} {wg:Nat} {st sm:Int} (g:Guar h w w' h') (f:Fits h w) (hn:∀ o,h.own wg o=none∧h.ro wg o=none) (e:WgAt ty wg w st sm):WgAt ty wg w' st sm:=by
 refine e.of_heap ?_
 obtain ⟨fz,e,_⟩:=e
 rw [g.block wg (Array.getElem?_eq_some_iff.1 e).1 (fun o=>(hn o).1) (none_of fun v hv=>?_)]
 ·have h1:=f.obj _ _ hv
  rw [e] at h1;cases h1
  have:=f.objn _ _ hv
  simp [isCells] at this
theorem WgPh.at {X:GX} {st:List Nat} {w w':World} (p:WgPh L X st w) (h:∀ a b,WgAt L.tWg X.wg w a b→WgAt L.tWg X.wg w' a b):WgPh L X st w':=by
 cases p with
 | quiet v wt a hv late hw park b=>exact .quiet v wt (h _ _ a) hv late hw park b
 | late p i k hi hk a oth=>exact .late p i k hi hk (h _ _ a) oth
 | late1 p i hi a oth=>exact .late1 p i hi (h _ _ a) oth
 | free p a oth=>exact .free p (h _ _ a) oth
theorem WgPh.ex {X:GX} {st:List Nat} {w:World} (p:WgPh L X st w):∃ a b,WgAt L.tWg X.wg w a b:=by
 cases p with
 | quiet v wt a=>exact ⟨_,_,a⟩
 | late p i k hi hk a=>exact ⟨_,_,a⟩
 | late1 p i hi a=>exact ⟨_,_,a⟩
 | free p a=>exact ⟨_,_,a⟩
theorem wgAt_lt {ty:TypeId} {wg:Nat} {w:World} {a b:Int} (h:WgAt ty wg w a b):wg<w.heap.size:=by obtain ⟨_,h,_⟩:=h;exact (Array.getElem?_eq_some_iff.1 h).1
structure Sl (a:Nat) (sl sl':List (Slot P cv L)) (h':Hp):Prop where
 len:sl'.length=sl.length
 other:∀ j,j+1≠a→sl'[j]?=sl[j]?
 self:∀ j,j+1=a→∃ n n':TN P cv L,sl[j]?=some (.act n)∧sl'[j]?=some (.act n')∧n'.x=n.x∧n'.h=h'
theorem Sl.stages {a:Nat} {sl sl':List (Slot P cv L)} {h':Hp} (s:Sl a sl sl' h'):sl'.map Slot.stage=sl.map Slot.stage:=by
 apply List.ext_getElem?
 intro j
 simp only [List.getElem?_map]
 by_cases hj:j+1=a
 ·obtain ⟨n,n',h1,h2,_⟩:=s.self j hj
  rw [h1,h2];rfl
 ·rw [s.other j hj]
theorem GameAt.own {X:GX} {gs gs':Array Goroutine} {w w':World} {t u:Trace} {sl sl':List (Slot P cv L)} {hp:Nat→Hp} {nb a:Nat} {h':Hp} {g':Goroutine}
  (G:GameAt X gs w t sl hp nb) (m:Mem w t hp) (o:Own a (hp a) w w' h' u) (k:Kn t (Knows t a) (hp a)) (q:Gs P a gs gs' g') (s:Sl a sl sl' h') (hr:g'.status≠.blocked):GameAt X gs' w' (t++u) sl' (put hp a h') nb:=by
 have hwg:=G.wg.ex
 obtain ⟨wa,wb,hwa⟩:=hwg
 have hnew:∀ i a' o',touchAt (t++u) i=some a'→a'.loc=.cell ⟨X.wg,o',none⟩→touchAt t i=some a':=fun i a' o' ha hl=>by
  rcases touch_split ha with ha | ⟨op,ho,_,hb⟩
  ·exact ha
  ·exfalso
   rcases o.mine op ho a' hb with ⟨bl,o2,h1,_,h3⟩ | ⟨r,h1,_⟩
   ·rw [h1] at hl;cases hl
    have:=G.nowg a o'
    rcases h3 with h3 | h3 | ⟨_,h3⟩
    ·have:=wgAt_lt hwa;omega
    ·rw [this.1] at h3;cases h3
    ·rw [this.2] at h3;cases h3
   ·rw [h1] at hl;cases hl
 have hna:∀ i,i≠a→∀ op∈u,op.g≠i:=fun i hi op ho e=>hi (by rw [← e,o.g op ho])
 refine ⟨by rw [s.len];exact G.len,fun i c hi hc=>?_,fun j c hc=>?_,fun j c hc=>?_,fun j c hc b hb=>?_,G.dist,fun i j c b hc hb=>?_,fun i b=>?_,?_,fun i b o' ho2 hb hl=>?_,?_,G.tok0,G.tok1,G.adp,G.ads,G.adl,fun j c g hc hg hs hb=>?_,fun g0 cases sh hg hb ho=>?_,fun g0 hg hb ho=>?_,fun j c b i x hc hb hx hl=>?_⟩
 ·by_cases ha:i+1=a
  ·obtain ⟨n,n',h1,_⟩:=s.self i ha
   obtain ⟨m',e⟩:=(G.old i _ hi h1).out
   cases e
  ·rw [s.other i ha] at hc
   rw [put_ne ha]
   exact (G.old i c hi hc).app (hna _ ha)
 ·obtain ⟨sx,h1,h2⟩:=G.seat j c hc
  by_cases ha:nb+j+1=a
  ·obtain ⟨n,n',h3,h4,h5,h6⟩:=s.self _ ha
   rw [h1] at h3;cases h3
   exact ⟨_,h4,by
    obtain ⟨ph,e1,e2⟩:=h2
    exact ⟨ph,h5.trans e1,e2⟩⟩
  ·exact ⟨sx,by rw [s.other _ ha];exact h1,by rw [put_ne ha];exact h2⟩
 ·by_cases ha:nb+j+1=a
  ·obtain ⟨n,n',h3,h4,h5,h6⟩:=s.self _ ha
   rw [h4] at hc;cases hc
   have hk:=G.know j _ h3
   subst ha
   rw [put_self]
   exact ⟨(kn_step (m.nr false) k m.low o.guar o.g o.mine).2.1,h6,by rw [Deaf_plain o.plain];exact hk.2.2⟩
  ·rw [s.other _ ha] at hc
   rw [put_ne ha]
   exact (G.know j c hc).app (hna _ ha) fun kk hK=>kn_other kk (fun j hj=>hK j hj) (m.sep a _ fun e=>ha e.symm) (m.fits _) o.mine
 ·obtain ⟨n,e⟩:=G.chan j c hc b hb
  exact ⟨n,own_chan o.guar (m.fits a) (G.noch a j c b hc hb) rfl e⟩
 ·by_cases ha:i=a
  ·subst ha
   obtain ⟨n,e⟩:=G.chan j c hc b hb
   rw [put_self]
   exact o.guar.newb _ (Array.getElem?_eq_some_iff.1 e).1 (G.noch i j c b hc hb)
  ·rw [put_ne ha];exact G.noch i j c b hc hb
 ·by_cases ha:i=a
  ·subst ha
   rw [put_self]
   exact ⟨o.guar.newo _ _ (wgAt_lt hwa) (G.nowg i b).1,o.guar.newr _ _ (wgAt_lt hwa) (G.nowg i b).1 (G.nowg i b).2⟩
  ·rw [put_ne ha];exact G.nowg i b
 ·rw [s.stages]
  exact G.wg.at fun x y hxy=>own_wg o.guar (m.fits a) (G.nowg a) hxy
 ·have hb':=hnew i b o' hb hl
  rcases G.wgt i b o' ho2 hb' hl with this | ⟨k0,k1⟩
  ·refine .inl ⟨this.1,fun hs=>?_⟩
   have h1:=this.2 hs
   rw [g?_app (g?_lt h1)];exact h1
  ·exact .inr ⟨k0.app u,fun j c hj=>(k1 j c hj).app u⟩
 ·rw [Deaf_plain o.plain];exact G.deaf
 ·by_cases ha:nb+j+1=a
  ·subst ha;rw [q.self] at hg;cases hg;exact hr hb
  ·exact G.live j c g hc (q.back _ _ ha hg hb) hs hb
 ·by_cases ha:0=a
  ·subst ha;rw [q.self] at hg;cases hg;exact absurd hb hr
  ·obtain ⟨j,c,h1,h2,h3,h4⟩:=G.park g0 cases sh (q.back _ _ ha hg hb) hb ho
   refine ⟨j,c,h1,h2,h3,fun g hg2 hb2=>?_⟩
   by_cases ha2:nb+j+1=a
   ·subst ha2;rw [q.self] at hg2;cases hg2;exact hr hb2
   ·exact h4 g (q.back _ _ ha2 hg2 hb2) hb2
 ·by_cases ha:0=a
  ·subst ha;rw [q.self] at hg;cases hg;exact absurd hb hr
  ·have:=G.sleep g0 (q.back _ _ ha hg hb) hb ho
   refine ⟨this.1,fun hx=>this.2 ?_⟩
   have hz:=own_wg o.guar (m.fits a) (G.nowg a) hwa
   have:=WgAt.unique hz hx
   rw [this.1,this.2] at hwa;exact hwa
 ·rcases touch_split hx with hx | ⟨op,ho,_,h2⟩
  ·exact (G.cht j c b i x hc hb hx hl).app u
  ·exfalso
   obtain ⟨n,e⟩:=G.chan j c hc b hb
   rcases o.mine op ho x h2 with ⟨bl,o2,h1,_⟩ | ⟨r,h1,_,h3⟩
   ·rw [h1] at hl;cases hl
   ·rw [h1] at hl;cases hl
    rcases h3 with h3 | h3
    ·have:=(Array.getElem?_eq_some_iff.1 e).1;omega
    ·rw [G.noch a j c b hc hb] at h3;cases h3
end Go.PB
namespace Go.PB
open Go.Conc Go.Conc.Lib
open Go.ConcR (KK stA smA rd wr mk DC0)
variable {W0:World} {P:Program} {cv:Value} {L:WgLink} {Em:Frame→List Frame→Hp→MX→Prop}
theorem own_of_events {a:Nat} {h h':Hp} {w w':World} {fn:FuncId} {pos:String} {es:Array Event} (g:Guar h w w' h') (he:∀ e∈es,EvOk Still h w w'.heap.size e):Own a h w w' h' (MemOp.ofEvents a fn pos es) where
 guar:=g
 g:=fun op ho=>by obtain ⟨e,_,rfl⟩:=ofEvents_mem ho;rfl
 mine:=fun op ho b hb=>by obtain ⟨e,h1,rfl⟩:=ofEvents_mem ho;exact (mine_of_event (fun _ x=>x) (he e h1)).2 b hb
 plain:=fun op ho m hm=>by obtain ⟨e,h1,rfl⟩:=ofEvents_mem ho;exact (mine_of_event (fun _ x=>x) (he e h1)).1 m hm
theorem slot_woken {w w' w2:World} {wg d d':Nat} {g g' o:Goroutine} {s:Slot P cv L} (hd:d'=d) (r:RL L.tWg wg w w') (hs:SlotG w wg d o s):SlotG w' wg d' (woken P g g' w2 o) s:=by
 subst hd
 cases s with
 | act n =>
  rcases hs with h | ⟨cases,sh,h,hx⟩
  ·exact .inl (by rw [woken_run h.status];exact h)
  ·rcases woken_cases (P:=P) g g' w2 o with e | ⟨e,_⟩
   ·exact .inr ⟨cases,sh,by rw [e];exact h,hx⟩
   ·exact .inl (by rw [e];exact ⟨h.frame,h.callers,rfl,h.dying⟩)
 | out k m =>
  cases k with
  | zero=>show QuitsD P m d' _;rw [woken_fin (QuitsD.status hs)];exact hs
  | succ k=>show Zg P L.tWg wg _ m _ w';rw [woken_run (zg_running hs)];exact zg_rely hs r
theorem old_woken {w w' w2:World} {wg d d':Nat} {g g' o:Goroutine} {t:Trace} {i:Nat} {h:Hp} {s:Slot P cv L} (ol:Old t i h s) (hd:d'=d) (hs:SlotG w wg d o s):SlotG w' wg d' (woken P g g' w2 o) s:=by
 obtain ⟨m,rfl⟩:=ol.out
 subst hd
 show QuitsD P m d' _
 rw [woken_fin (QuitsD.status hs)];exact hs
theorem Cfg.own {gs gs':Array Goroutine} {w w':World} {t u:Trace} {M M':MN P cv L Em} {sl sl':List (Slot P cv L)} {hp:Nat→Hp} {a:Nat} {h':Hp} {fr':Frame} {cs':List Frame}
  (c:Cfg W0 gs w t M sl hp) (ha:a≤sl.length) (o:Own a (hp a) w w' h' u) (kn:Kn t (Knows t a) (hp a)) (q:Gs P a gs gs' (G fr' cs')) (s:Sl a sl sl' h') (hx:M'.x=M.x) (hh:M'.h=put hp a h' 0)
  (hm:a≠0→M'=M) (hm0:a=0→M'.fr=fr'∧M'.cs=cs') (hs:∀ j n',j+1=a→sl'[j]?=some (.act n')→n'.fr=fr'∧n'.cs=cs'):Cfg W0 gs' w' (t++u) M' sl' (put hp a h') where
 size:=by rw [q.size,s.len];exact c.size
 main:=by
  by_cases h0:a=0
  ·subst h0
   obtain ⟨e1,e2⟩:=hm0 rfl
   exact ⟨_,q.self,.inl (by rw [e1,e2];exact runs_G)⟩
  ·rw [hm h0]
   obtain ⟨g,h1,h2⟩:=c.main
   obtain ⟨x,x',w2,h3⟩:=q.other 0 g (fun e=>h0 e.symm) h1
   exact ⟨_,h3,h2.woken⟩
 thr:=fun i sx hi=>by
  by_cases hia:i+1=a
  ·obtain ⟨n,n',h1,h2,h3,h4⟩:=s.self i hia
   rw [h2] at hi;cases hi
   obtain ⟨e1,e2⟩:=hs i n' hia h2
   exact ⟨_,by rw [hia];exact q.self,.inl (by rw [e1,e2];exact runs_G)⟩
  ·rw [s.other i hia] at hi
   obtain ⟨g,h1,h2⟩:=c.thr i sx hi
   obtain ⟨x,x',w2,h3⟩:=q.other (i+1) g hia h1
   refine ⟨_,h3,?_⟩
   have hd:Deaf (t++u) (i+1)=Deaf t (i+1):=Deaf_others fun op ho e=>hia (by rw [← e,o.g op ho])
   have hgame:=c.game
   rw [hx]
   cases hM:M.x with
   | idle=>rw [hM] at hgame h2;exact old_woken (hgame.old i sx hi) hd h2
   | game X =>
    rw [hM] at hgame h2
    obtain ⟨nb,hG⟩:=hgame
    obtain ⟨p1,p2,hp'⟩:=hG.wg.ex
    exact slot_woken hd (fun _=>⟨_,_,own_wg o.guar (c.mem.fits a) (hG.nowg a) hp'⟩) h2
 mem:=c.mem.own o kn
 aft:=by rw [hx];exact c.aft.own_step o
 hp0:=hh.symm
 hpn:=fun i hi=>by
  rw [s.len] at hi
  rw [put_ne (by omega)];exact c.hpn i hi
 tg:=fun i op hi=>by
  rw [s.len]
  rcases getElem?_append_cases hi with ⟨_,h⟩ | ⟨_,h⟩
  ·exact c.tg i op h
  ·rw [o.g op h];exact ha
 kn0:=by
  by_cases h0:a=0
  ·subst h0;rw [put_self];exact (kn_step (c.mem.nr false) kn c.mem.low o.guar o.g o.mine).2.1
  ·rw [put_ne fun e=>h0 e.symm]
   exact kn_other c.kn0 (fun j hj=>hj.app u) (c.mem.sep a 0 h0) (c.mem.fits 0) o.mine
 game:=by
  have hgame:=c.game
  rw [hx]
  cases hM:M.x with
  | idle =>
   rw [hM] at hgame
   refine ⟨fun i sx hi=>?_,by rw [Deaf_plain o.plain];exact hgame.deaf,fun g0 hg hb=>?_⟩
   ·by_cases hia:i+1=a
    ·obtain ⟨n,n',h1,h2,h3,h4⟩:=s.self i hia
     obtain ⟨m',e⟩:=(hgame.old i _ h1).out
     cases e
    ·rw [s.other i hia] at hi
     rw [put_ne hia]
     exact (hgame.old i sx hi).app fun op ho e=>hia (by rw [← e,o.g op ho])
   ·by_cases h0:0=a
    ·subst h0;rw [q.self] at hg;cases hg;cases hb
    ·exact hgame.runs g0 (q.back _ _ h0 hg hb) hb
  | game X =>
   rw [hM] at hgame
   obtain ⟨nb,hG⟩:=hgame
   exact ⟨nb,hG.own c.mem o kn q s (by intro e;cases e)⟩
theorem cfg_priv0 {gs:Array Goroutine} {w:World} {t:Trace} {fr:Frame} {cs:List Frame} {h:Hp} {x:MX} {r:Run P (mHand P cv L.done L.tWg) true Em fr cs h x} {sl:List (Slot P cv L)} {hp:Nat→Hp} {g:Goroutine} {sc:Option (Nat × Nat)}
  (c:Cfg W0 gs w t (⟨fr,cs,h,x,r⟩:MN P cv L Em) sl hp) (hg:gs[0]?=some g) (hr:Runs g fr cs) (nx:Nx P Still true fr cs h w) (r':Run P (mHand P cv L.done L.tWg) true Em nx.fr' nx.cs' nx.h' x) :
  ∃ gs' ops,runT P (crowd gs w sc) 0=(.next (crowd gs' nx.w' sc),ops)∧Cfg W0 gs' nx.w' (t++ops) (⟨nx.fr',nx.cs',nx.h',x,r'⟩:MN P cv L Em) sl (put hp 0 nx.h'):=by
 have hst:stepG P ((0:Nat) == 0) g w=.go (G nx.fr' nx.cs') nx.w' nx.es:=by rw [hr.step];exact nx.step
 have h0:hp 0=h:=c.hp0
 refine ⟨_,_,runT_crowd_go hg hst,?_⟩
 refine Cfg.own c (Nat.zero_le _) (by rw [h0];exact own_of_events nx.guar nx.evs) c.kn0 (gs_go hg) ⟨rfl,fun j _=>rfl,fun j hj=>by omega⟩ rfl (by rw [put_self]) (fun e=>absurd rfl e) (fun _=>⟨rfl,rfl⟩) (fun j n' hj=>by omega)
theorem cfg_priv1 {gs:Array Goroutine} {w:World} {t:Trace} {M:MN P cv L Em} {sl:List (Slot P cv L)} {hp:Nat→Hp} {g:Goroutine} {sc:Option (Nat × Nat)} {i:Nat} {fr:Frame} {cs:List Frame} {h:Hp} {x:TX} {r:Run P (tHand cv) false (tEnd P L.done) fr cs h x}
  (c:Cfg W0 gs w t M sl hp) (hi:sl[i]?=some (.act ⟨fr,cs,h,x,r⟩)) (hg:gs[i+1]?=some g) (hr:Runs g fr cs) (nx:Nx P Still false fr cs h w) (r':Run P (tHand cv) false (tEnd P L.done) nx.fr' nx.cs' nx.h' x) :
  ∃ gs' ops,runT P (crowd gs w sc) (i+1)=(.next (crowd gs' nx.w' sc),ops)∧Cfg W0 gs' nx.w' (t++ops) M (sl.set i (.act ⟨nx.fr',nx.cs',nx.h',x,r'⟩)) (put hp (i+1) nx.h'):=by
 have hlt:i<sl.length:=(List.getElem?_eq_some_iff.1 hi).1
 have hst:stepG P (i+1 == 0) g w=.go (G nx.fr' nx.cs') nx.w' nx.es:=by rw [hr.step];exact nx.step
 have hkn:Kn t (Knows t (i+1)) (hp (i+1))∧h=hp (i+1):=by
  have hgame:=c.game
  cases hM:M.x with
  | idle=>rw [hM] at hgame;obtain ⟨m',e⟩:=(hgame.old i _ hi).out;cases e
  | game X =>
   rw [hM] at hgame
   obtain ⟨nb,hG⟩:=hgame
   by_cases hin:i<nb
   ·obtain ⟨m',e⟩:=(hG.old i _ hin hi).out;cases e
   ·have:=hG.know (i-nb) _ (by rw [Nat.add_sub_cancel' (by omega)];exact hi)
    rw [Nat.add_sub_cancel' (by omega)] at this
    exact ⟨this.1,this.2.1⟩
 obtain ⟨hkn,he⟩:=hkn
 refine ⟨_,_,runT_crowd_go hg hst,?_⟩
 refine Cfg.own c (by omega) (by rw [← he];exact own_of_events nx.guar nx.evs) hkn (gs_go hg) ⟨by simp,fun j hj=>by rw [List.getElem?_set_ne (by omega)],fun j hj=>?_⟩ rfl (by rw [put_ne (by omega)];exact c.hp0.symm) (fun _=>rfl) (fun e=>by omega) (fun j n' hj hn=>?_)
 ·obtain rfl:j=i:=by omega
  exact ⟨_,⟨nx.fr',nx.cs',nx.h',x,r'⟩,hi,by simp [hlt],rfl,rfl⟩
 ·obtain rfl:j=i:=by omega
  simp [hlt] at hn
  subst hn
  exact ⟨rfl,rfl⟩
end Go.PB
namespace Go.PB
open Go.Conc Go.Conc.Lib
open Go.ConcR (KK stA smA rd wr mk DC0)
variable {W0:World} {P:Program} {cv:Value} {L:WgLink} {Em:Frame→List Frame→Hp→MX→Prop}
theorem fits_wg {h:Hp} {w w':World} {ty:TypeId} {wg:Nat} {a b a' b':Int} (f:Fits h w) (hn:∀ o,h.own wg o=none∧h.ro wg o=none) (e:WgAt ty wg w a b) (e':WgAt ty wg w' a' b') (hw:∀ c,c≠wg→w'.heap[c]?=w.heap[c]?):Fits h w':=by
 obtain ⟨fz,e,_⟩:=e
 obtain ⟨fz',e',_⟩:=e'
 have hc:∀ c o,c≠wg→w'.cell? ⟨c,o,none⟩=w.cell? ⟨c,o,none⟩:=fun c o hne=>by unfold World.cell?;rw [hw c hne]
 have hfz:∀ c o,c≠wg→w'.frozen? ⟨c,o,none⟩=w.frozen? ⟨c,o,none⟩:=fun c o hne=>by unfold World.frozen?;rw [hw c hne]
 have no:∀ c o v,h.own c o=some v→c≠wg:=fun c o v hv he=>by subst he;rw [(hn o).1] at hv;cases hv
 have nr:∀ c o v,h.ro c o=some v→c≠wg:=fun c o v hv he=>by subst he;rw [(hn o).2] at hv;cases hv
 refine ⟨fun c o v hv=>by rw [hc _ _ (no _ _ _ hv)];exact f.own _ _ _ hv,fun c o v hv=>by rw [hfz _ _ (no _ _ _ hv)];exact f.thaw _ _ _ hv,fun c o v hv=>by rw [hc _ _ (nr _ _ _ hv)];exact f.ro _ _ _ hv,f.disj,fun c ob hv=>?_,f.objn,fun c y hv=>?_⟩
 ·by_cases hcw:c=wg
  ·subst hcw
   have h1:=f.obj _ _ hv
   rw [e] at h1;cases h1
   have:=f.objn _ _ hv
   simp [isCells] at this
  ·rw [hw c hcw];exact f.obj _ _ hv
 ·by_cases hcw:c=wg
  ·subst hcw
   have h1:=f.shp _ _ hv
   unfold World.shape? at h1 ⊢
   rw [e] at h1;rw [e']
   simpa using h1
  ·unfold World.shape?;rw [hw c hcw];exact f.shp _ _ hv
structure Shy (wg a:Nat) (u:Trace):Prop where
 g:∀ op∈u,op.g=a
 touch:∀ op∈u,∀ b,op.act.touch?=some b→(∃ o,o<2∧b.loc=.cell ⟨wg,o,none⟩)∧b.kind=.atomic
 norel:∀ op∈u,∀ a,op.act≠.mark (.release a)
theorem shy_race {said:Bool} {t u:Trace} {wg a:Nat} (nr:¬ Race said t) (s:Shy wg a u) (h:∀ i b o,o<2→touchAt t i=some b→b.loc=.cell ⟨wg,o,none⟩→(b.kind≠.plain∧(b.kind=.said→t.g? i=some 0))∨Knows t a i):¬ Race said (t++u) :=
 noRace_append nr s.g fun i b hb op ho b' hb' hc=>by
  obtain ⟨⟨o,ho2,h1⟩,h2⟩:=s.touch op ho b' hb'
  obtain ⟨hl,_,_,h3⟩:=hc
  rw [h1] at hl
  rcases h i b o ho2 hb hl with this | hk
  rotate_left
  ·exact hk
  rcases h3 with h3 | h3 | ⟨_,_,h3⟩
  ·exact absurd h3 this.1
  ·rw [h2] at h3;cases h3
  ·rw [h2] at h3;cases h3
theorem shy_kn {t u:Trace} {K K':Nat→Prop} {h:Hp} {wg a:Nat} (kn:Kn t K h) (hK:∀ j,K j→K' j) (s:Shy wg a u) (hn:∀ o,h.own wg o=none∧h.ro wg o=none):Kn (t++u) K' h where
 own:=fun b o v e i b' hb hl=>by
  rcases touch_split hb with hb | ⟨op,ho,_,h2⟩
  ·exact hK _ (kn.own _ _ _ e _ _ hb hl)
  ·obtain ⟨⟨o',_,h1⟩,_⟩:=s.touch op ho b' h2
   rw [h1] at hl;cases hl;rw [(hn o).1] at e;cases e
 ro:=fun b o v e i b' hb hl hw=>by
  rcases touch_split hb with hb | ⟨op,ho,_,h2⟩
  ·exact hK _ (kn.ro _ _ _ e _ _ hb hl hw)
  ·obtain ⟨⟨o',_,h1⟩,_⟩:=s.touch op ho b' h2
   rw [h1] at hl;cases hl;rw [(hn o).2] at e;cases e
 obj:=fun b v e i b' hb hl=>by
  rcases touch_split hb with hb | ⟨op,ho,_,h2⟩
  ·exact hK _ (kn.obj _ _ e _ _ hb hl)
  ·obtain ⟨⟨o',_,h1⟩,_⟩:=s.touch op ho b' h2
   rw [h1] at hl;cases hl
theorem Mem.shy {w w':World} {t u:Trace} {hp:Nat→Hp} {wg a:Nat} {ty:TypeId} {p q p' q':Int} (m:Mem w t hp) (s:Shy wg a u) (hn:∀ i o,(hp i).own wg o=none∧(hp i).ro wg o=none)
  (h:∀ i b o,o<2→touchAt t i=some b→b.loc=.cell ⟨wg,o,none⟩→(b.kind≠.plain∧(b.kind=.said→t.g? i=some 0))∨Knows t a i) (e:WgAt ty wg w p q) (e':WgAt ty wg w' p' q') (hw:∀ c,c≠wg→w'.heap[c]?=w.heap[c]?) (hs:w'.heap.size=w.heap.size):Mem w' (t++u) hp where
 fits:=fun i=>fits_wg (m.fits i) (hn i) e e' hw
 sep:=m.sep
 nr:=fun said=>shy_race (m.nr said) s h
 low:=fun i b hb=>by
  rw [hs]
  rcases touch_split hb with hb | ⟨op,ho,_,h2⟩
  ·exact m.low i b hb
  ·obtain ⟨⟨o',_,h1⟩,_⟩:=s.touch op ho b h2
   exact ⟨fun d hd=>(by rw [h1] at hd;cases hd;exact wgAt_lt e),fun r hr=>by rw [h1] at hr;cases hr⟩
 norel:=fun op ho b=>(Array.mem_append.1 ho).elim (fun ho=>m.norel op ho b) (fun ho=>s.norel op ho b)
theorem Cfg.slot {gs gs':Array Goroutine} {w w':World} {t u:Trace} {M:MN P cv L Em} {sl:List (Slot P cv L)} {hp:Nat→Hp} {X:GX} {nb j:Nat} {s s':Slot P cv L} {g':Goroutine}
  (c:Cfg W0 gs w t M sl hp) (hX:M.x=.game X) (hG:GameAt X gs w t sl hp nb) (hs:sl[nb+j]?=some s) (q:Gs P (nb+j+1) gs gs' g') (hr:g'.status≠.blocked)
  (hsd:Side w w') (hw:∀ b,b≠X.wg→w'.heap[b]?=w.heap[b]?) (hsz:w'.heap.size=w.heap.size) (ph:WgPh L X ((sl.map Slot.stage).set (nb+j) s'.stage) w') (sh:Shy X.wg (nb+j+1) u)
  (sg:SlotG w' X.wg (Deaf (t++u) (nb+j+1)) g' s') (sk:SlotKn (t++u) X.wg (nb+j+1) (hp (nb+j+1)) s') (sa:∀ c:St X,X.seats[j]?=some c→SeatAt X c (hp (nb+j+1)) s')
  (hsl:∀ g0,gs'[0]?=some g0→g0.status=.blocked→g0.offers=none→¬ WgAt L.tWg X.wg w' 0 1):Cfg W0 gs' w' (t++u) M (sl.set (nb+j) s') hp:=by
 have hlt:nb+j<sl.length:=(List.getElem?_eq_some_iff.1 hs).1
 obtain ⟨p1,p2,e1⟩:=hG.wg.ex
 obtain ⟨p3,p4,e2⟩:=ph.ex
 have hwg0:W0.heap.size≤X.wg:=by have:=c.aft.game;rw [hX] at this;exact this.1
 have hng:∀ i,i≠nb+j+1→∀ op∈u,op.g≠i:=fun i hi op ho e=>hi (by rw [← e,sh.g op ho])
 have hrl:RL L.tWg X.wg w w':=fun _=>⟨_,_,e2⟩
 obtain ⟨cs,hcs⟩:∃ cs:St X,X.seats[j]?=some cs:=by
  have:=hG.len
  exact ⟨X.seats[j]'(by omega),List.getElem?_eq_getElem _⟩
 have hmem:=c.mem.shy sh hG.nowg (fun i b o ho2 hb hl=>(hG.wgt i b o ho2 hb hl).imp id fun k=>k.2 j cs hcs) e1 e2 hw hsz
 refine ⟨by rw [q.size,List.length_set];exact c.size,?_,fun i sx hi=>?_,hmem,c.aft.at_block hwg0 hsd hw hsz c.aft.game,c.hp0,fun i hi=>c.hpn i (by simpa using hi),fun i op hi=>?_,?_,?_⟩
 ·obtain ⟨g,h1,h2⟩:=c.main
  obtain ⟨x,x',w2,h3⟩:=q.other 0 g (by omega) h1
  exact ⟨_,h3,h2.woken⟩
 ·rw [hX]
  by_cases hij:i=nb+j
  ·subst hij
   simp [hlt] at hi
   subst hi
   exact ⟨_,q.self,sg⟩
  ·rw [List.getElem?_set_ne fun e=>hij e.symm] at hi
   obtain ⟨g,h1,h2⟩:=c.thr i sx hi
   rw [hX] at h2
   obtain ⟨x,x',w2,h3⟩:=q.other (i+1) g (by omega) h1
   exact ⟨_,h3,slot_woken (Deaf_others (hng _ (by omega))) hrl h2⟩
 ·simp only [List.length_set]
  rcases getElem?_append_cases hi with ⟨_,h⟩ | ⟨_,h⟩
  ·exact c.tg i op h
  ·rw [sh.g op h];omega
 ·exact shy_kn c.kn0 (fun j h=>h.app u) sh (hG.nowg 0)
 ·rw [hX]
  refine ⟨nb,⟨by rw [List.length_set];exact hG.len,fun i sx hi hc=>?_,fun k cx hc=>?_,fun k sx hc=>?_,fun k cx hc b hb=>?_,hG.dist,hG.noch,hG.nowg,by simpa only [List.map_set] using ph,fun i b o ho2 hb hl=>?_,?_,hG.tok0,hG.tok1,hG.adp,hG.ads,hG.adl,fun k cx g hc hg hsx hb=>?_,fun g0 cases shp hg hb ho=>?_,fun g0 hg hb ho=>⟨?_,hsl g0 hg hb ho⟩,fun k cx b i x hc hb hx hl=>?_⟩⟩
  ·rw [List.getElem?_set_ne (by omega)] at hc
   exact (hG.old i sx hi hc).app (hng _ (by omega))
  ·obtain ⟨sx,h1,h2⟩:=hG.seat k cx hc
   by_cases hkj:k=j
   ·subst hkj;exact ⟨s',by simp [hlt],sa cx hc⟩
   ·exact ⟨sx,by rw [List.getElem?_set_ne (by omega)];exact h1,h2⟩
  ·by_cases hkj:k=j
   ·subst hkj
    simp [hlt] at hc
    subst hc;exact sk
   ·rw [List.getElem?_set_ne (by omega)] at hc
    exact (hG.know k sx hc).app (hng _ (by omega)) fun kk hK=>shy_kn kk hK sh (hG.nowg _)
  ·obtain ⟨n,e⟩:=hG.chan k cx hc b hb
   refine ⟨n,?_⟩
   rw [hw _ fun he=>?_]
   ·exact e
   ·obtain ⟨_,e1,_⟩:=e1;rw [he] at e;rw [e1] at e;cases e
  ·rcases touch_split hb with hb | ⟨op,ho,hi,h2⟩
   ·rcases hG.wgt i b o ho2 hb hl with this | ⟨k0,k1⟩
    ·refine .inl ⟨this.1,fun hsd=>?_⟩
     have h1:=this.2 hsd
     rw [g?_app (g?_lt h1)];exact h1
    ·exact .inr ⟨k0.app u,fun j c hj=>(k1 j c hj).app u⟩
   ·have:=(sh.touch op ho b h2).2
    rw [this];exact .inl ⟨by simp,fun h=>by cases h⟩
  ·rw [Deaf_others (hng 0 (by omega))];exact hG.deaf
  ·by_cases hkj:k=j
   ·subst hkj;rw [q.self] at hg;cases hg;exact hr hb
   ·exact hG.live k cx g hc (q.back _ _ (by omega) hg hb) hsx hb
  ·obtain ⟨k,cx,h1,h2,h3,h4⟩:=hG.park g0 cases shp (q.back _ _ (by omega) hg hb) hb ho
   refine ⟨k,cx,h1,h2,h3,fun g hg2 hb2=>?_⟩
   by_cases hkj:k=j
   ·subst hkj;rw [q.self] at hg2;cases hg2;exact hr hb2
   ·exact h4 g (q.back _ _ (by omega) hg2 hb2) hb2
  ·exact (hG.sleep g0 (q.back _ _ (by omega) hg hb) hb ho).1
  ·rcases touch_split hx with hx | ⟨op,ho,_,h2⟩
   ·exact (hG.cht k cx b i x hc hb hx hl).app u
   ·obtain ⟨⟨o',_,h1⟩,_⟩:=sh.touch op ho x h2
    rw [h1] at hl;cases hl
end Go.PB
namespace Go.PB
open Go.Conc Go.Conc.Lib
open Go.ConcR (KK stA smA rd wr mk DC0)
theorem count_set {p:Nat→Bool}:∀ {l:List Nat} {i a:Nat} (b:Nat),l[i]?=some a→((l.set i b).filter p).length+(if p a then 1 else 0)=(l.filter p).length+(if p b then 1 else 0)
 | x::l,0,a,b,h=>by
  simp at h;subst h
  simp only [List.set_cons_zero,List.filter_cons]
  cases p b <;> cases p x <;> simp
 | x::l,i+1,a,b,h=>by
  have ih:=count_set (p:=p) (l:=l) (i:=i) b (by simpa using h)
  simp only [List.set_cons_succ,List.filter_cons]
  cases p x <;> simp <;> omega
 | [],i,a,b,h=>by simp at h
theorem count_pos {p:Nat→Bool} {l:List Nat} {i a:Nat} (h:l[i]?=some a) (hp:p a=true):0<(l.filter p).length :=
 List.length_pos_of_mem (List.mem_filter.2 ⟨List.mem_of_getElem? h,hp⟩)
theorem count_one {p:Nat→Bool} {l:List Nat} {i a:Nat} (h:l[i]?=some a) (hp:p a=true) (h0:p 0=false) (h1:(l.filter p).length=1):∀ j k,l[j]?=some k→j≠i→p k=false:=by
 intro j k hj hne
 have:=count_set (p:=p) 0 h
 rw [hp,h0,h1] at this
 simp at this
 by_cases hk:p k=true
 ·have h2:(l.set i 0)[j]?=some k:=by rw [List.getElem?_set_ne fun e=>hne e.symm];exact hj
  have:=this k (List.mem_of_getElem? h2)
  rw [hk] at this;cases this
 ·simpa using hk
theorem count_tail {p:Nat→Bool} (h0:p 0=false):∀ {l:List Nat} {n:Nat},(∀ i k,i<n→l[i]?=some k→k=0)→(l.filter p).length≤l.length-n
 | [],n,_=>by simp
 | x::l,0,_=>by simpa using List.length_filter_le p (x::l)
 | x::l,n+1,h=>by
  have hx:x=0:=h 0 x (by omega) rfl
  subst hx
  have:=count_tail (p:=p) h0 (l:=l) (n:=n) fun i k hi hk=>h (i+1) k (by omega) (by simpa using hk)
  simp only [List.filter_cons,h0]
  simpa using this
section
variable {L:WgLink} {X:GX} {st:List Nat} {w w':World} {I:Nat}
theorem WgPh.far {a b:Nat} (p:WgPh L X st w) (hi:st[I]?=some a) (ha:4≤a) (hb:4≤b) (h:∀ x y,WgAt L.tWg X.wg w x y→WgAt L.tWg X.wg w' x y):WgPh L X (st.set I b) w':=by
 have hlt:=(List.getElem?_eq_some_iff.1 hi).1
 cases p with
 | quiet v wt at_ hv late hw park bb =>
  have:=count_set (p:=fun k=>decide (4≤k)) b hi
  simp only [ha,hb,decide_true,if_true] at this
  refine .quiet v wt (h _ _ at_) (by omega) (fun k hk=>?_) hw park bb
  rcases List.mem_or_eq_of_mem_set hk with hk | rfl
  ·exact late k hk
  ·exact .inr hb
 | late p i k hik hk at_ oth =>
  exfalso
  by_cases e:I=i
  ·subst e;rw [hi] at hik;cases hik;omega
  ·have:=oth I a hi e;omega
 | late1 p i hik at_ oth =>
  exfalso
  by_cases e:I=i
  ·subst e;rw [hi] at hik;cases hik;omega
  ·have:=oth I a hi e;omega
 | free p at_ oth=>exfalso;have:=oth a (List.mem_of_getElem? hi);omega
theorem WgPh.same {a:Nat} (p:WgPh L X st w) (hi:st[I]?=some a) (h:∀ x y,WgAt L.tWg X.wg w x y→WgAt L.tWg X.wg w' x y):WgPh L X (st.set I a) w':=by
 have hlt:=(List.getElem?_eq_some_iff.1 hi).1
 have e:st.set I a=st:=by
  apply List.ext_getElem?
  intro j
  by_cases hj:I=j
  ·subst hj;rw [List.getElem?_set_self hlt,hi]
  ·rw [List.getElem?_set_ne hj]
 rw [e]
 exact p.at h
theorem WgPh.at4 (p:WgPh L X st w) (hi:st[I]?=some 4):∃ v wt:Nat,WgAt L.tWg X.wg w (v*KK+wt) 0∧v+X.seats.length=(st.filter fun k=>decide (4≤k)).length+X.ad∧(∀ k∈st,k=0∨4≤k) ∧
  wt=(match X.wt with | .parked=>1 | _=>0)∧(X.wt=.parked→0<v)∧(match X.wt with | .wait b=>v≤b | .seen v0=>v≤v0 | .woken=>v=0 | .zero=>v=0 | _=>True):=by
 cases p with
 | quiet v wt at_ hv late hw park bb=>exact ⟨v,wt,at_,hv,late,hw,park,bb⟩
 | late p i k hik hk at_ oth =>
  exfalso
  by_cases e:I=i
  ·subst e;rw [hi] at hik;cases hik;omega
  ·have:=oth I 4 hi e;omega
 | late1 p i hik at_ oth =>
  exfalso
  by_cases e:I=i
  ·subst e;rw [hi] at hik;cases hik
  ·have:=oth I 4 hi e;omega
 | free p at_ oth=>exfalso;have:=oth 4 (List.mem_of_getElem? hi);omega
theorem WgPh.at23 {k:Nat} (p:WgPh L X st w) (hi:st[I]?=some k) (hk:k=3∨k=2):X.wt=.parked∧WgAt L.tWg X.wg w 1 0∧∀ j k,st[j]?=some k→j≠I→k=0:=by
 cases p with
 | quiet v wt at_ hv late hw park bb=>exfalso;have:=late k (List.mem_of_getElem? hi);omega
 | late p i k' hik hk' at_ oth =>
  by_cases e:I=i
  ·subst e;exact ⟨p,at_,oth⟩
  ·exfalso;have:=oth I k hi e;omega
 | late1 p i hik at_ oth =>
  exfalso
  by_cases e:I=i
  ·subst e;rw [hi] at hik;cases hik;omega
  ·have:=oth I k hi e;omega
 | free p at_ oth=>exfalso;have:=oth k (List.mem_of_getElem? hi);omega
theorem WgPh.at1 (p:WgPh L X st w) (hi:st[I]?=some 1):X.wt=.parked∧WgAt L.tWg X.wg w 0 0∧∀ j k,st[j]?=some k→j≠I→k=0:=by
 cases p with
 | quiet v wt at_ hv late hw park bb=>exfalso;have:=late 1 (List.mem_of_getElem? hi);omega
 | late p i k' hik hk' at_ oth =>
  exfalso
  by_cases e:I=i
  ·subst e;rw [hi] at hik;cases hik;omega
  ·have:=oth I 1 hi e;omega
 | late1 p i hik at_ oth =>
  by_cases e:I=i
  ·subst e;exact ⟨p,at_,oth⟩
  ·exfalso;have:=oth I 1 hi e;omega
 | free p at_ oth=>exfalso;have:=oth 1 (List.mem_of_getElem? hi);omega
theorem WgPh.notFree {k:Nat} (p:WgPh L X st w) (hi:st[I]?=some k) (hk:0<k):¬ WgAt L.tWg X.wg w 0 1:=by
 intro hx
 cases p with
 | quiet v wt at_ hv late hw park bb=>exact absurd (at_.unique hx).2 (by decide)
 | late p i k' hik hk' at_ oth=>exact absurd (at_.unique hx).2 (by decide)
 | late1 p i hik at_ oth=>exact absurd (at_.unique hx).2 (by decide)
 | free p at_ oth=>have:=oth k (List.mem_of_getElem? hi);omega
end
def EvShy (wg:Nat) (e:Event):Prop:=(∃ m,e=⟨.mark m,false,true⟩∧(MemAct.mark m).touch?=none∧∀ a,m≠.release a)∨∃ o wr,e=⟨.cell ⟨wg,o,none⟩,wr,true⟩∧o<2
theorem evShy_act {wg:Nat} {e:Event} (h:EvShy wg e):(∀ b,(MemAct.ofEvent e).touch?=some b→(∃ o,o<2∧b.loc=.cell ⟨wg,o,none⟩)∧b.kind=.atomic)∧∀ a,MemAct.ofEvent e≠.mark (.release a):=by
 rcases h with ⟨m,rfl,h1,h2⟩ | ⟨o,wr,rfl,ho2⟩
 ·refine ⟨fun b hb=>?_,fun a ha=>?_⟩
  ·have:(MemAct.ofEvent ⟨.mark m,false,true⟩).touch?=none:=h1
   rw [this] at hb;cases hb
  ·have:MemAct.ofEvent ⟨.mark m,false,true⟩=.mark m:=rfl
   rw [this] at ha;cases ha;exact h2 a rfl
 ·refine ⟨fun b hb=>?_,fun a ha=>?_⟩
  ·have:(MemAct.ofEvent ⟨.cell ⟨wg,o,none⟩,wr,true⟩).touch?=some ⟨.cell ⟨wg,o,none⟩,wr,.atomic⟩:=by cases wr <;> rfl
   rw [this] at hb;cases hb;exact ⟨⟨o,ho2,rfl⟩,rfl⟩
  ·cases wr <;> cases ha
theorem shy_of {wg a:Nat} {fn:FuncId} {pos:String} {es:Array Event} (h:∀ e∈es,EvShy wg e):Shy wg a (MemOp.ofEvents a fn pos es) where
 g:=fun op ho=>by obtain ⟨e,_,rfl⟩:=ofEvents_mem ho;rfl
 touch:=fun op ho b hb=>by obtain ⟨e,h1,rfl⟩:=ofEvents_mem ho;exact (evShy_act (h e h1)).1 b hb
 norel:=fun op ho b=>by obtain ⟨e,h1,rfl⟩:=ofEvents_mem ho;exact (evShy_act (h e h1)).2 b
theorem allK_deaf {t:Trace} {K K':Nat→Prop} {a wg:Nat} {fn:FuncId} {pos:String} {es:Array Event} (h:AllK t a K) (hK:∀ j,K j→K' j) (hes:∀ e∈es,EvShy wg e)
  (hd:∀ (j:Nat) (e:Event),es[j]?=some e→(MemAct.ofEvent e).touch?≠none→0<deafBehind (Deaf t a) (es.extract 0 j)):AllK (t++MemOp.ofEvents a fn pos es) a K':=by
 intro j hj hc
 rcases Nat.lt_or_ge j t.size with hlt | hge
 ·exact hK _ (h j (by rw [← g?_app hlt];exact hj) ((counts_old hlt).1 hc))
 ·exfalso
  obtain ⟨x,h1,h2,h3⟩:=hc
  obtain ⟨op,ho,hx⟩:=touch_of h1
  obtain ⟨i,rfl⟩:∃ i,j=t.size+i:=⟨j-t.size,by omega⟩
  have ho':(MemOp.ofEvents a fn pos es)[i]?=some op:=by
   rw [Array.getElem?_append_right (by omega)] at ho
   simpa using ho
  rw [ofEvents_eq] at ho'
  rw [Array.getElem?_map] at ho'
  obtain ⟨e,he,rfl⟩:=Option.map_eq_some_iff.1 ho'
  have hem:e∈es:=Array.mem_of_getElem? he
  have hk:=((evShy_act (hes e hem)).1 x hx).2
  rcases h3 with h3 | ⟨g,hg,hd0⟩
  ·exact h3 hk
  ·have hlt:=(Array.getElem?_eq_some_iff.1 he).1
   rw [hj] at hg;cases hg
   rw [deaf_inside t a fn pos es i (by omega)] at hd0
   have:=hd i e he (by rw [hx];simp)
   omega
end Go.PB
namespace Go.PB
open Go.Conc Go.Conc.Lib
open Go.ConcR (KK stA smA rd wr mk DC0)
variable {W0:World} {P:Program} {cv:Value} {L:WgLink} {Em:Frame→List Frame→Hp→MX→Prop}
theorem again_offers {o:Goroutine} {w:World} (h:(o.again w).status=.blocked):(o.again w).offers≠none:=by
 intro hn
 rcases ho:o.offers with _ | ⟨a,b⟩ <;> cases hs:o.status <;> simp only [Goroutine.again,hs,ho] at h hn <;> first | (cases h;done) | (rw [hs] at h;cases h;done) | (split at hn <;> (simp only [ho] at hn;cases hn;done)) | (rw [ho] at hn;cases hn;done) | skip
theorem g?_of {t:Trace} {i:Nat} {op:MemOp} (h:t[i]?=some op):t.g? i=some op.g:=by simp [Trace.g?,h]
theorem setCell_ne {w:World} {a:Addr} {v:Value} {b:Nat} (h:b≠a.block):(w.setCell a v).heap[b]?=w.heap[b]?:=by
 unfold World.setCell
 simp only [Array.getElem?_modify]
 rw [if_neg fun e=>h e.symm]
theorem setCell_size {w:World} {a:Addr} {v:Value}:(w.setCell a v).heap.size=w.heap.size:=by
 unfold World.setCell;simp
theorem leaves_shy {t:Trace} {wg a:Nat} {h:Hp} {fn:FuncId} {pos:String} {es:Array Event} (k:∃ p,Rel t wg a p∧Kn t (fun j=>Before t j p) h∧AllK t a fun j=>Before t j p) (hn:∀ o,h.own wg o=none∧h.ro wg o=none) (hes:∀ e∈es,EvShy wg e)
  (hd:∀ (j:Nat) (e:Event),es[j]?=some e→(MemAct.ofEvent e).touch?≠none→0<deafBehind (Deaf t a) (es.extract 0 j)) :
  ∃ p,Rel (t++MemOp.ofEvents a fn pos es) wg a p∧Kn (t++MemOp.ofEvents a fn pos es) (fun j=>Before (t++MemOp.ofEvents a fn pos es) j p) h∧AllK (t++MemOp.ofEvents a fn pos es) a fun j=>Before (t++MemOp.ofEvents a fn pos es) j p:=by
 obtain ⟨p,h1,h2,h3⟩:=k
 exact ⟨p,h1.app _,shy_kn h2 (fun j h=>h.app _) (shy_of hes) hn,allK_deaf h3 (fun j h=>h.app _) hes hd⟩
section
variable {gs:Array Goroutine} {w:World} {t:Trace} {M:MN P cv L Em} {sl:List (Slot P cv L)} {hp:Nat→Hp} {X:GX} {nb j k m:Nat} {g:Goroutine} {sc:Option (Nat × Nat)}
theorem cfg_out (c:Cfg W0 gs w t M sl hp) (hX:M.x=.game X) (hG:GameAt X gs w t sl hp nb) (hs:sl[nb+j]?=some (.out (k+1) m)) (hg:gs[nb+j+1]?=some g) :
  ∃ gs' w' ops k' m',runT P (crowd gs w sc) (nb+j+1)=(.next (crowd gs' w' sc),ops)∧(k'<k+1∨(k'=k+1∧m'<m))∧Cfg W0 gs' w' (t++ops) M (sl.set (nb+j) (.out k' m')) hp:=by
 obtain ⟨g0,hg0,hz⟩:=c.thr _ _ hs
 rw [hg] at hg0;cases hg0
 rw [hX] at hz
 replace hz:Zg P L.tWg X.wg (ZS P L.tWg X.wg (k+1)) m g w:=hz
 have hst:(sl.map Slot.stage)[nb+j]?=some (k+1):=by rw [List.getElem?_map,hs];rfl
 obtain ⟨cs,hcs⟩:∃ cs:St X,X.seats[j]?=some cs:=by
  have:=hG.len
  have hlt:=(List.getElem?_eq_some_iff.1 hs).1
  exact ⟨X.seats[j]'(by omega),List.getElem?_eq_getElem _⟩
 have hseat:SeatAt X cs (hp (nb+j+1)) (.out (k+1) m:Slot P cv L):=by
  obtain ⟨s,h1,h2⟩:=hG.seat j cs hcs
  rw [hs] at h1;cases h1;exact h2
 obtain ⟨hk6,hseat⟩:=hseat
 have hkn:=hG.know j _ hs
 have hnw:=hG.nowg (nb+j+1)
 have key:∀ {g':Goroutine} {w':World} {es:Array Event} {k' m':Nat},stepG P false g w=.go g' w' es→(∀ e∈es,EvShy X.wg e)→(k'<k+1∨(k'=k+1∧m'<m))→Side w w'→(∀ b,b≠X.wg→w'.heap[b]?=w.heap[b]?)→w'.heap.size=w.heap.size →
   WgPh L X ((sl.map Slot.stage).set (nb+j) k') w'→SlotG w' X.wg (deafBehind (Deaf t (nb+j+1)) es) g' (.out k' m':Slot P cv L)→SlotKn (t++MemOp.ofEvents (nb+j+1) g.frame.fn g.frame.place es) X.wg (nb+j+1) (hp (nb+j+1)) (.out k' m':Slot P cv L) →
   g'.status≠.blocked→(¬ WgAt L.tWg X.wg w' 0 1∨(mayWake P g=true∧g'.status≠.waiting)) →
   ∃ gs' w' ops k' m',runT P (crowd gs w sc) (nb+j+1)=(.next (crowd gs' w' sc),ops)∧(k'<k+1∨(k'=k+1∧m'<m))∧Cfg W0 gs' w' (t++ops) M (sl.set (nb+j) (.out k' m')) hp:=by
  intro g' w' es k' m' hstep hes hlt hsd hw hsz ph sg sk hnb hsl
  have hst':stepG P (nb+j+1 == 0) g w=.go g' w' es:=hstep
  refine ⟨_,_,_,k',m',runT_crowd_go hg hst',hlt,?_⟩
  refine Cfg.slot c hX hG hs (gs_go hg) hnb hsd hw hsz ph (shy_of hes) (by rw [Deaf_own];exact sg) sk (fun cx hcx=>?_) (fun g0 h0 hb ho hx=>?_)
  ·rw [hcs] at hcx;cases hcx
   exact ⟨by omega,hseat⟩
  ·rcases hsl with hsl | ⟨h1,h2⟩
   ·exact hsl hx
   ·rw [Array.getElem?_setIfInBounds_ne (by omega),Array.getElem?_map] at h0
    obtain ⟨o,e1,e2⟩:=Option.map_eq_some_iff.1 h0
    have hwk:woken P g g' w' o=o.again w':=by
     unfold woken
     rw [if_pos]
     simp only [h1,Bool.true_and,Bool.and_eq_true]
     exact ⟨by simpa using hnb,by simpa using h2⟩
    rw [hwk] at e2
    subst e2
    exact again_offers hb ho
 rcases zg_step hz with hz | ⟨m',g',rfl,hstep,hz'⟩
 ·rcases k with _ | _ | _ | _ | _ | _ | k
  ·-- it lets the starter go
   obtain ⟨hr,hmw,hz⟩:=(show Z4 P L.tWg X.wg g w from hz)
   obtain ⟨hp1,hat,hoth⟩:=hG.wg.at1 hst
   obtain ⟨g',q,hstep,hq⟩:=hz hat
   obtain ⟨h6,_,_⟩ | ⟨_,hlv,_,hdf⟩:=hkn
   ·omega
   have hd:Deaf t (nb+j+1)=1:=hdf (by omega) (by omega)
   refine key (k':=0) (m':=q) hstep (fun e he=>?_) (by omega) side_setCell (fun b hb=>setCell_ne hb) setCell_size (.free hp1 (hat.setSm 1) fun k hk=>?_) (by rw [hd];exact hq) (.inr ⟨by omega,leaves_shy hlv hnw ?_ ?_,fun h=>by omega,fun h=>by omega⟩) (fun h=>by have:=QuitsD.status hq;rw [h] at this;rcases this with h | h <;> cases h) (.inr ⟨hmw,fun h=>by have:=QuitsD.status hq;rw [h] at this;rcases this with h | h <;> cases h⟩)
   ·simp only [semEvents,List.mem_toArray,List.mem_cons,List.not_mem_nil,or_false] at he
    rcases he with rfl | rfl | rfl | rfl
    ·exact .inl ⟨_,rfl,rfl,fun a h=>by cases h⟩
    ·exact .inr ⟨_,_,rfl,by decide⟩
    ·exact .inr ⟨_,_,rfl,by decide⟩
    ·exact .inl ⟨_,rfl,rfl,fun a h=>by cases h⟩
   ·obtain ⟨i,hi⟩:=List.getElem?_of_mem hk
    by_cases e:i=nb+j
    ·subst e
     rw [List.getElem?_set_self (by simpa using (List.getElem?_eq_some_iff.1 hst).1)] at hi
     cases hi;rfl
    ·rw [List.getElem?_set_ne fun h=>e h.symm] at hi
     exact hoth i k hi e
   ·intro e he
    simp only [semEvents,List.mem_toArray,List.mem_cons,List.not_mem_nil,or_false] at he
    rcases he with rfl | rfl | rfl | rfl
    ·exact .inl ⟨_,rfl,rfl,fun a h=>by cases h⟩
    ·exact .inr ⟨_,_,rfl,by decide⟩
    ·exact .inr ⟨_,_,rfl,by decide⟩
    ·exact .inl ⟨_,rfl,rfl,fun a h=>by cases h⟩
   ·intro i e he ht
    rw [hd]
    rcases i with _ | _ | _ | _ | i
    ·simp only [semEvents] at he ⊢;simp [deafBehind]
    ·simp only [semEvents] at he ⊢;simp [deafBehind]
    ·simp only [semEvents] at he ⊢;simp [deafBehind]
    ·simp only [semEvents] at he ⊢;simp [deafBehind]
    ·simp [semEvents] at he
  ·-- the count is laid to nought
   obtain ⟨hr,hz⟩:=(show Z3 P L.tWg X.wg g w from hz)
   obtain ⟨hp1,hat,hoth⟩:=hG.wg.at23 hst (.inr rfl)
   obtain ⟨g',q,hstep,hq⟩:=hz hat
   obtain ⟨h6,_,_⟩ | ⟨_,hlv,_,hdf⟩:=hkn
   ·omega
   have hd:Deaf t (nb+j+1)=1:=hdf (by omega) (by omega)
   have hes:∀ e∈#[wr (stA X.wg)],EvShy X.wg e:=fun e he=>by simp at he;subst he;exact .inr ⟨_,_,rfl,by decide⟩
   refine key (k':=1) (m':=q) hstep hes (by omega) side_setCell (fun b hb=>setCell_ne hb) setCell_size (.late1 hp1 (nb+j) (List.getElem?_set_self (List.getElem?_eq_some_iff.1 hst).1) (hat.setSt 0) fun i k hi e=>hoth i k (by rwa [List.getElem?_set_ne fun h=>e h.symm] at hi) e) hq
    (.inr ⟨by omega,leaves_shy hlv hnw hes fun i e he ht=>?_,fun h=>by omega,fun _ _=>?_⟩) (fun h=>by have:=zg_running (k:=1) hq;rw [h] at this;cases this) (.inl fun hx=>absurd ((hat.setSt 0).unique hx).2 (by decide))
   ·rw [hd]
    rcases i with _ | i
    ·simp [deafBehind]
    ·simp at he
   ·rw [Deaf_own,hd];rfl
  ·-- the count is looked at again
   obtain ⟨hr,hz⟩:=(show Z2 P L.tWg X.wg g w from hz)
   obtain ⟨hp1,hat,hoth⟩:=hG.wg.at23 hst (.inl rfl)
   obtain ⟨g',q,hstep,hq⟩:=hz hat
   obtain ⟨h6,_,_⟩ | ⟨_,hlv,_,hdf⟩:=hkn
   ·omega
   have hd:Deaf t (nb+j+1)=1:=hdf (by omega) (by omega)
   have hes:∀ e∈#[rd (stA X.wg)],EvShy X.wg e:=fun e he=>by simp at he;subst he;exact .inr ⟨_,_,rfl,by decide⟩
   refine key (k':=2) (m':=q) hstep hes (by omega) Side.refl (fun b hb=>rfl) rfl (.late hp1 (nb+j) 2 (List.getElem?_set_self (List.getElem?_eq_some_iff.1 hst).1) (.inr rfl) hat fun i k hi e=>hoth i k (by rwa [List.getElem?_set_ne fun h=>e h.symm] at hi) e) hq
    (.inr ⟨by omega,leaves_shy hlv hnw hes fun i e he ht=>?_,fun h=>by omega,fun _ _=>?_⟩) (fun h=>by have:=zg_running (k:=2) hq;rw [h] at this;cases this) (.inl fun hx=>absurd (hat.unique hx).2 (by decide))
   ·rw [hd]
    rcases i with _ | i
    ·simp [deafBehind]
    ·simp at he
   ·rw [Deaf_own,hd];rfl
  ·-- it counts itself out
   obtain ⟨hr,hz⟩:=(show Z1 P L.tWg X.wg g w from hz)
   obtain ⟨v,wt,hat,hv,hlate,hwt,hpark,hb⟩:=hG.wg.at4 hst
   have hcnt:=count_pos (p:=fun k=>decide (4≤k)) hst rfl
   have htail:=count_tail (p:=fun k=>decide (4≤k)) rfl (l:=sl.map Slot.stage) (n:=nb) fun i k hi hk=>by
    rw [List.getElem?_map] at hk
    obtain ⟨s,e1,e2⟩:=Option.map_eq_some_iff.1 hk
    obtain ⟨m',rfl⟩:=(hG.old i s hi e1).out
    exact e2.symm
   have hlen:=hG.len
   have hadl:=hG.adl
   have hadn:X.seats.length≤X.ad:=by
    by_cases hpl:X.wt=.play
    ·rcases hG.adp hpl with h | h <;> omega
    ·exact Nat.le_of_eq (hG.ads hpl).1.symm
   simp only [List.length_map] at htail
   obtain ⟨v,rfl⟩:∃ v',v=v'+1:=⟨v-1,by omega⟩
   have hwt1:wt≤1:=by rw [hwt];split <;> omega
   obtain ⟨g',hstep,hq1,hq0⟩:=hz v wt hwt1 (by omega) (by push_cast at hat;exact hat)
   obtain ⟨h6,_,_⟩ | ⟨_,hlv,_,hdf⟩:=hkn
   ·omega
   have hd:Deaf t (nb+j+1)=1:=hdf (by omega) (by omega)
   have hes:∀ e∈#[rd (stA X.wg),wr (stA X.wg)],EvShy X.wg e:=fun e he=>by
    simp at he
    rcases he with rfl | rfl <;> exact .inr ⟨_,_,rfl,by decide⟩
   have hdi:∀ (i:Nat) (e:Event),(#[rd (stA X.wg),wr (stA X.wg)]:Array Event)[i]?=some e→(MemAct.ofEvent e).touch?≠none→0<deafBehind (Deaf t (nb+j+1)) ((#[rd (stA X.wg),wr (stA X.wg)]:Array Event).extract 0 i):=fun i e he ht=>by
    rw [hd]
    rcases i with _ | _ | i
    ·simp [deafBehind]
    ·simp [deafBehind,rd]
    ·simp at he
   have hset:=count_set (p:=fun k=>decide (4≤k)) (b:=0) hst
   simp at hset
   by_cases hl:v=0∧wt=1
   ·obtain ⟨q,hq⟩:=hq1 hl
    obtain ⟨rfl,rfl⟩:=hl
    have hp1:X.wt=.parked:=by
     revert hwt
     cases X.wt <;> simp
    have had:=(hG.ads (by rw [hp1];simp)).1
    have hone:=count_one (p:=fun k=>decide (4≤k)) hst rfl rfl (by omega)
    refine key (k':=3) (m':=q) hstep hes (by omega) side_setCell (fun b hb=>setCell_ne hb) setCell_size (.late hp1 (nb+j) 3 (List.getElem?_set_self (List.getElem?_eq_some_iff.1 hst).1) (.inl rfl) (by simpa using hat.setSt _) fun i k hi e=>?_) hq
     (.inr ⟨by omega,leaves_shy hlv hnw hes hdi,fun h=>by omega,fun _ _=>?_⟩) (fun h=>by have:=zg_running (k:=3) hq;rw [h] at this;cases this) (.inl fun hx=>absurd ((hat.setSt _).unique hx).2 (by decide))
    ·rw [List.getElem?_set_ne fun h=>e h.symm] at hi
     have h1:=hone i k hi e
     have h2:=hlate k (List.mem_of_getElem? hi)
     simp at h1
     omega
    ·rw [Deaf_own,hd];rfl
   ·obtain ⟨q,hq⟩:=hq0 hl
    refine key (k':=0) (m':=q) hstep hes (by omega) side_setCell (fun b hb=>setCell_ne hb) setCell_size (.quiet v wt (hat.setSt _) (by omega) (fun k hk=>?_) hwt (fun hp1=>?_) ?_) (by rw [hd];exact hq)
     (.inr ⟨by omega,leaves_shy hlv hnw hes hdi,fun h=>by omega,fun h=>by omega⟩) (fun h=>by have:=QuitsD.status hq;rw [h] at this;rcases this with h | h <;> cases h) (.inl fun hx=>absurd ((hat.setSt _).unique hx).2 (by decide))
    ·rcases List.mem_or_eq_of_mem_set hk with hk | rfl
     ·exact hlate k hk
     ·exact .inl rfl
    ·have:wt=1:=by rw [hwt,hp1]
     omega
    ·revert hb
     cases X.wt <;> simp <;> omega
  ·-- it is deaf from here on
   obtain ⟨hr,g',q,hstep,hq⟩:=(show ZK P L.tWg X.wg g w from hz)
   obtain ⟨h6,_,_⟩ | ⟨_,hlv,hdf,_⟩:=hkn
   ·omega
   have hd:Deaf t (nb+j+1)=0:=hdf rfl
   have hes:∀ e∈#[mk .disable],EvShy X.wg e:=fun e he=>by simp at he;subst he;exact .inl ⟨_,rfl,rfl,fun a h=>by cases h⟩
   refine key (k':=4) (m':=q) hstep hes (by omega) Side.refl (fun b hb=>rfl) rfl (hG.wg.far hst (by omega) (by omega) fun _ _ h=>h) hq
    (.inr ⟨by omega,leaves_shy hlv hnw hes fun i e he ht=>?_,fun h=>by omega,fun _ _=>?_⟩) (fun h=>by have:=zg_running (k:=4) hq;rw [h] at this;cases this) (.inl (hG.wg.notFree hst (by omega)))
   ·rcases i with _ | i
    ·simp at he;subst he;exact absurd rfl ht
    ·simp at he
   ·rw [Deaf_own,hd];rfl
  ·-- it says that it's through
   obtain ⟨hr,g',q,hstep,hq⟩:=(show ZR P L.tWg X.wg g w from hz)
   obtain ⟨_,hkh,hd⟩ | ⟨h5,_⟩:=hkn
   ·have hes:∀ e∈#[mk (.releaseMerge (stA X.wg))],EvShy X.wg e:=fun e he=>by simp at he;subst he;exact .inl ⟨_,rfl,rfl,fun a h=>by cases h⟩
    have e0:(t++MemOp.ofEvents (nb+j+1) g.frame.fn g.frame.place #[mk (.releaseMerge (stA X.wg))])[t.size]?=some { g:=nb+j+1,fn:=g.frame.fn,pos:=g.frame.place,act:=.mark (.releaseMerge (stA X.wg)) }:=by
     rw [ofEvents_eq,Array.getElem?_append_right (Nat.le_refl _)];simp [mk];rfl
    have hkb:∀ i,Knows t (nb+j+1) i→Before (t++MemOp.ofEvents (nb+j+1) g.frame.fn g.frame.place #[mk (.releaseMerge (stA X.wg))]) i t.size:=fun i hi=>.inr (hi.hb_new (Nat.le_refl _) e0 rfl)
    refine key (k':=5) (m':=q) hstep hes (by omega) Side.refl (fun b hb=>rfl) rfl (hG.wg.far hst (by omega) (by omega) fun _ _ h=>h) hq
     (.inr ⟨by omega,⟨t.size,⟨act?_of e0,g?_of e0,_,g?_of e0,by rw [deaf_old (Nat.le_refl _)];exact hd⟩,shy_kn hkh hkb (shy_of hes) hnw,fun i hi hc=>?_⟩,fun _=>?_,fun h=>by omega⟩)
     (fun h=>by have:=zg_running (k:=5) hq;rw [h] at this;cases this) (.inl (hG.wg.notFree hst (by omega)))
    ·rcases Nat.lt_or_ge i t.size with hlt | hge
     ·rw [g?_app hlt] at hi
      obtain ⟨op,ho,hog⟩:=Option.map_eq_some_iff.1 (show (t[i]?).map (·.g)=some (nb+j+1) from hi)
      exact hkb i (by have:=knows_own ho;rwa [hog] at this)
     ·have:=g?_lt hi
      rw [ofEvents_eq] at this
      simp at this
      exact .inl (by omega)
    ·rw [Deaf_own,hd];rfl
   ·omega
  ·exact hz.elim
 ·refine key (k':=k+1) (m':=m') hstep (fun e he=>by simp at he) (by omega) Side.refl (fun b hb=>rfl) rfl (hG.wg.same hst fun _ _ h=>h) hz' ?_ (fun h=>by have:=zg_running hz';rw [h] at this;cases this) (.inl (hG.wg.notFree hst (by omega)))
  rw [ofEvents_none,Array.append_empty]
  exact hkn
end
end Go.PB
