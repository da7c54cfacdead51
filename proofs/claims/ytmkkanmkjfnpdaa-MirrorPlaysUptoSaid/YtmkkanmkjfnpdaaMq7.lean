/-
  Part 7 of 9.
-/
import Derived.Test.YtmkkanmkjfnpdaaMq6
import Derived.Test.YtmkkanmkjfnpdaaMq2
import Derived.Test.YtmkkanmkjfnpdaaMq4
import Derived.Test.YtmkkanmkjfnpdaaMq3
import Derived.Test.YtmkkanmkjfnpdaaMq5
import Derived.Conc.Holds
import Derived.JoinedCond
import Derived.Conc.WgGenN2
set_option linter.unusedVariables false
set_option linter.unusedSimpArgs false
namespace Go.Proofs.Ytmkkanmkjfnpdaa
open Go Go.PB
attribute [local irreducible] Mo Bin Eql Tr Wo Ap Wle
section
def maddr (mr r b n:Nat) (w:Nat):Nat × Nat:=if w<2*n+2 then twoAddr r b w else (mr,w-(2*n+2))
def mK (mr r b n nc:Nat):List (Nat × Nat × Value):=[(r,2,.slice (some ⟨b,0,none⟩) n n),(mr,3,.pointer (some ⟨r,0,none⟩)),(mr,4,.chan (some nc))]
theorem two_blk {r b:Nat}:∀ i,(twoAddr r b i).1=r∨(twoAddr r b i).1=b
 | 0=>.inl rfl
 | 1=>.inl rfl
 | _+2=>.inr rfl
theorem m_apart {mr r b n nc:Nat} (h1:r≠b) (h2:mr≠r) (h3:mr≠b):Apart (maddr mr r b n) (2*n+5) (mK mr r b n nc) where
 inj:=fun i j hi hj e=>by
  unfold maddr at e
  split at e <;> split at e
  ·exact (two_apart (N:=i+j+1) h1 .nilIface).inj i j (by omega) (by omega) e
  ·have:=congrArg Prod.fst e
   simp only at this
   rcases two_blk (r:=r) (b:=b) i with h | h <;> omega
  ·have:=congrArg Prod.fst e
   simp only at this
   rcases two_blk (r:=r) (b:=b) j with h | h <;> omega
  ·have:=congrArg Prod.snd e
   simp only at this
   omega
 fix:=fun i hi k hk=>by
  unfold maddr
  simp only [mK,List.mem_cons,List.not_mem_nil,or_false] at hk
  split
  ·rcases hk with rfl | rfl | rfl
   ·exact (two_apart (N:=i+1) h1 (.slice (some ⟨b,0,none⟩) n n)).fix i (by omega) _ (List.mem_singleton.2 rfl)
   ·intro e
    have:=congrArg Prod.fst e
    simp only at this
    rcases two_blk (r:=r) (b:=b) i with h | h <;> omega
   ·intro e
    have:=congrArg Prod.fst e
    simp only at this
    rcases two_blk (r:=r) (b:=b) i with h | h <;> omega
  ·rcases hk with rfl | rfl | rfl <;> (intro e;have e1:=congrArg Prod.fst e;have e2:=congrArg Prod.snd e;simp only at e1 e2;omega)
theorem rd_with {c R:HProp} {b o:Nat} {v:Value} (r:Rd [c] b o v):Rd [all [c,R]] b o v:=fun h st=>Rd.of (L:=[c,R]) .here r h (star_open (M:=[c,R]) (L:=[]) st)
section
variable {B:Hand} {gv:Value} {A:Acc B gv} {R:HProp} {n k v:Nat} {s:A.S}
theorem offer_with {G:Bool→A.S→Prop} (h:OfferT A n v s G):OfferT (accWith A R) n v s G:=h
theorem mtake_with {G:Option Nat→A.S→Prop} (h:MTakeT A n s G):MTakeT (accWith A R) n s G:=h
theorem counts_with {G:Nat→Nat→Nat→A.S→Prop} (h:CountsT A n s G):CountsT (accWith A R) n s G:=h
end
section
variable {B:Hand} [Lets B] {gv:Value} {x:B.X} {mr r b n k nc nb:Nat} {L F:List HProp}
omit [Lets B] in
theorem mir_at (A:Acc B gv) (ha:A.addr=maddr mr r b n) (hK:∀ s,∀ y∈mK mr r b n nc,Rd [A.C s] y.1 y.2.1 y.2.2) (hn:n=2^k) (hk:k≤10):MirAt (accWith A (newsC nc)) mr r b n k nc where
 q:={ hn:=hn,hk:=hk,hdr:=fun s=>rd_with (hK s (r,2,.slice (some ⟨b,0,none⟩) n n) (by simp [mK])),a0:=by show A.addr 0=_;rw [ha];unfold maddr;rw [if_pos (by omega)];rfl,a1:=by show A.addr 1=_;rw [ha];unfold maddr;rw [if_pos (by omega)];rfl,a2:=fun i hi=>by show A.addr (2+i)=_;rw [ha];unfold maddr;rw [if_pos (by omega),Nat.add_comm];rfl }
 hq:=fun s=>rd_with (hK s (mr,3,.pointer (some ⟨r,0,none⟩)) (by simp [mK]))
 hc:=fun s=>rd_with (hK s (mr,4,.chan (some nc)) (by simp [mK]))
 a:=fun j hj=>by show A.addr _=_;rw [ha];unfold maddr;rw [if_neg (by omega),Nat.add_sub_cancel_left]
omit [Lets B] in
theorem mir_news (A:Acc B gv):News (accWith A (newsC nc)) nc:=⟨fun s=>A.C s,fun s h st=>star_swap st,fun s h st=>star_swap st⟩
theorem rd_K {addr:Nat→Nat × Nat} {N:Nat} {K:List (Nat × Nat × Value)} {s:Nat→Nat}:∀ y∈K,Rd [wds addr N K s] y.1 y.2.1 y.2.2:=fun y hy h hs=>by
 obtain ⟨h1,h2,s1,hc,_⟩:=hs
 exact ⟨rfl,.inl (s1.o1 _ _ _ (hc.2 y hy))⟩
def mirLone (x:B.X) (mr r b n nc:Nat) (ap:Apart (maddr mr r b n) (2*n+5) (mK mr r b n nc)):Acc B .nilIface:=accWith (loneAcc x (maddr mr r b n) (2*n+5) (mK mr r b n nc) ap) (newsC nc)
theorem lone_at {ap:Apart (maddr mr r b n) (2*n+5) (mK mr r b n nc)} (hn:n=2^k) (hk:k≤10):MirAt (mirLone x mr r b n nc ap) mr r b n k nc:=mir_at _ rfl (fun s=>rd_K) hn hk
theorem lone_news {ap:Apart (maddr mr r b n) (2*n+5) (mK mr r b n nc)}:News (mirLone x mr r b n nc ap) nc:=mir_news _
theorem arr_ne_wds {v:Value} {vs:List Value} {c:HProp} {addr:Nat→Nat × Nat} {N w:Nat} {K:List (Nat × Nat × Value)} {s:Nat→Nat} {h:Hp} (st:Star (arr mr 0 (v::vs)::c::wds addr N K s::L) h) (hw:w<N):addr w≠(mr,0):=by
 obtain ⟨h1,h2,s1,ha,h3,h4,s2,_,h5,h6,s3,hb,_⟩:=st
 intro e
 have e1:=ha 0 v rfl
 have e2:=s2.o2 _ _ _ (s3.o1 _ _ _ (hb.1 w hw).2)
 rw [e] at e2
 rcases s1.od mr 0 with d | d
 ·rw [Nat.zero_add] at e1;rw [e1] at d;cases d
 ·simp only at e2;rw [e2] at d;cases d
theorem mir_wds {h:Hp} (st:Star (arr mr 0 [.int .u64 0,.int .u64 0,.int .u64 0,.pointer (some ⟨r,0,none⟩),.chan (some nc)]::chC nc 1 #[] 0 0::wds (twoAddr r b) (2*n+2) [(r,2,.slice (some ⟨b,0,none⟩) n n)] (seqs n)::L) h):Star (wds (maddr mr r b n) (2*n+5) (mK mr r b n nc) (seqs n)::newsC nc::L) h:=by
 have st1:Star (arr mr 0 [.int .u64 0,.int .u64 0,.int .u64 0,.pointer (some ⟨r,0,none⟩),.chan (some nc)]::wds (twoAddr r b) (2*n+2) [(r,2,.slice (some ⟨b,0,none⟩) n n)] (seqs n)::chC nc 1 #[] 0 0::L) h:=Ent.star (.take .here (.take (.there .here) (.take .here .refl))) st
 refine star_map (star_shut (M:=[_,_]) st1) (fun h a=>?_) (fun h y=>star_map y (fun _ z=>⟨(#[],0,0),z⟩) (fun _ z=>z))
 obtain ⟨h1,h2,s1,ha,h3,h4,s2,hb,_⟩:=a
 refine ⟨fun w hw=>?_,fun y hy=>?_⟩
 ·by_cases c:w<2*n+2
  ·have e:maddr mr r b n w=twoAddr r b w:=if_pos c
   rw [e]
   exact ⟨(hb.1 w c).1,s1.o2 _ _ _ (s2.o1 _ _ _ (hb.1 w c).2)⟩
  ·have e:maddr mr r b n w=(mr,w-(2*n+2)):=if_neg c
   have e0:seqs n w=0:=if_neg (by omega)
   rw [e,e0]
   refine ⟨by omega,s1.o1 _ _ _ ?_⟩
   have hc:w-(2*n+2)=0∨w-(2*n+2)=1∨w-(2*n+2)=2:=by omega
   rcases hc with e2 | e2 | e2 <;> (rw [e2];simpa using ha _ _ rfl)
 ·simp only [mK,List.mem_cons,List.not_mem_nil,or_false] at hy
  rcases hy with rfl | rfl | rfl
  ·exact s1.o2 _ _ _ (s2.o1 _ _ _ (hb.2 _ (List.mem_singleton.2 rfl)))
  ·exact s1.o1 _ _ _ (by simpa using ha 3 _ rfl)
  ·exact s1.o1 _ _ _ (by simpa using ha 4 _ rfl)
theorem mnew_tr (hn:n=2^k) (hk0:1≤k) (hk:k≤10):Tr Try.prog B 8 [.int .i64 n] L x fun v L' x'=>∃ mr r b nc,r≠b∧mr≠r∧mr≠b∧v=.tuple #[.pointer (some ⟨mr,0,none⟩),.int .i64 0]∧L'=wds (maddr mr r b n) (2*n+5) (mK mr r b n nc) (seqs n)::newsC nc::L∧x'=x:=by
 refine Tr.post (R:=fun v L' x'=>∃ mr r b nc,r≠b∧mr≠r∧mr≠b∧v=.tuple #[.pointer (some ⟨mr,0,none⟩),.int .i64 0]∧x'=x∧∀ h,Star L' h→Star (wds (maddr mr r b n) (2*n+5) (mK mr r b n nc) (seqs n)::newsC nc::L) h) ?_
  (by rintro v L' x' ⟨mr,r,b,nc,h1,h2,h3,rfl,rfl,h4⟩;exact ⟨_,⟨mr,r,b,nc,h1,h2,h3,rfl,rfl,rfl⟩,h4⟩)
 refine tr_of_body Try.func8 rfl Try.ntmps8 (by simp) fun um Q _ hQ=>?_
 simp only [argE,Nat.zero_add,Nat.reduceAdd]
 repeat (first | refine we_seq ?_ | (refine wR ?_;try simp only [oS]) | refine wo_nil ?_ | refine wM ?_ | refine wA ?_)
 refine wo_call (.cons rfl .nil) trivial (new_tr hn hk0 hk) ?_
 rintro v' L' x' ⟨r,b,rfl,hrb,rfl,rfl⟩
 repeat (first | (apply wo_mo;apply mo_makeChan (m:=1);exact rfl;omega;omega;exact trivial) | refine wneqF ?_ | refine we_seq ?_ | (refine wR ?_;try simp only [oS]) | refine wo_nil ?_ | refine wM ?_ | refine wA ?_ | (apply wo_po;apply mo_extract;exact rfl;exact rfl;exact gY) | refine wF ?_ | refine we_skip ?_)
 rintro v' L' ⟨nc,rfl,rfl⟩
 repeat (first | (apply wo_po;apply mo_build (pv:=[(1,_),(2,_)]);exact rfl;exact .cons rfl (.cons rfl .nil);exact rfl;exact trivial) | (apply wo_mo;apply mo_box;exact rfl;exact trivial))
 rintro v' L' ⟨mr,rfl,rfl⟩
 refine wo_ent (arr mr 0 [.int .u64 0,.int .u64 0,.int .u64 0,.pointer (some ⟨r,0,none⟩),.chan (some nc)]::chC nc 1 #[] 0 0::wds (twoAddr r b) (2*n+2) [(r,2,.slice (some ⟨b,0,none⟩) n n)] (seqs n)::L) .refl ?_
 refine wo_pure (p:=mr≠r∧mr≠b) (fun h st=>⟨fun e=>arr_ne_wds st (w:=0) (by omega) (by rw [e];rfl),fun e=>arr_ne_wds st (w:=2) (by rw [hn];have:=Nat.one_le_two_pow (n:=k);omega) (by rw [e];rfl)⟩) fun hne=>?_
 repeat (first | refine wo_nil ?_ | refine wA ?_ | refine we_ret ?_)
 (first | refine or2 Try.func8 Try.results8 hQ rfl rfl ?_ | refine on2 Try.func8 Try.results8 hQ rfl rfl ?_)
 exact ⟨mr,r,b,nc,hrb,hne.1,hne.2,rfl,rfl,fun h st=>mir_wds st⟩
variable {f:Nat→Nat} {row:List Nat} {ap:Apart (maddr mr r b n) (2*n+5) (mK mr r b n nc)}
theorem offer_lone {v:Nat} (hn:n=2^k) (hk0:1≤k) (hk:k≤10) (R:RowAt n f row) {G:Bool→(Nat→Nat)→Prop}
  (g:∀ f',RowAt n f' (if row.length<n then row++[v] else row)→f' (2*n+2)=(f (2*n+2)+1)%18446744073709551616→f' (2*n+3)=(if row.length<n then f (2*n+3) else (f (2*n+3)+1)%18446744073709551616)→f' (2*n+4)=f (2*n+4)→G (decide (row.length<n)) f') :
  OfferT (mirLone x mr r b n nc ap) n v f G:=by
 have hpos:2≤n:=by have:=Nat.pow_le_pow_right (n:=2) (by omega) hk0;omega
 refine offer_with (A:=loneAcc x (maddr mr r b n) (2*n+5) (mK mr r b n nc) ap) ?_
 refine ⟨by show 2*n+2+0<2*n+5;omega,?_⟩
 refine put_rowG (x:=x) (ap:=ap) (N:=2*n+5) (by omega) hn hk0 hk (rowAt_same (q:=2*n+2) (by omega) (Nat.le_refl _) R) fun f' R' hs=>?_
 have e0:=hs (2*n+2) (by omega)
 have e1:=hs (2*n+3) (by omega)
 have e2:=hs (2*n+4) (by omega)
 rw [upd_same] at e0
 rw [upd_other (by omega)] at e1 e2
 by_cases c:row.length<n
 ·rw [if_pos c] at R' g
  rw [decide_eq_true c] at g ⊢
  rw [if_pos rfl]
  exact g f' R' e0 (by rw [if_pos c];exact e1) e2
 ·rw [if_neg c] at R' g
  rw [decide_eq_false c] at g ⊢
  rw [if_neg (by decide)]
  refine ⟨by show 2*n+2+1<2*n+5;omega,?_⟩
  refine g _ (rowAt_same (by omega) (by omega) R') ?_ ?_ ?_
  ·rw [upd_other (by omega)];exact e0
  ·rw [if_neg c,upd_same,show 2*n+2+1=2*n+3 from rfl,e1]
  ·rw [upd_other (by omega)];exact e2
theorem take_lone (hn:n=2^k) (hk0:1≤k) (hk:k≤10) (R:RowAt n f row) {G:Option Nat→(Nat→Nat)→Prop}
  (g:∀ f',RowAt n f' row.tail→f' (2*n+2)=f (2*n+2)→f' (2*n+3)=f (2*n+3)→f' (2*n+4)=(if row=[] then f (2*n+4) else (f (2*n+4)+1)%18446744073709551616)→G row.head? f') :
  MTakeT (mirLone x mr r b n nc ap) n f G:=by
 have hpos:2≤n:=by have:=Nat.pow_le_pow_right (n:=2) (by omega) hk0;omega
 refine mtake_with (A:=loneAcc x (maddr mr r b n) (2*n+5) (mK mr r b n nc) ap) ?_
 refine take_rowG (x:=x) (ap:=ap) (N:=2*n+5) (by omega) hn hk0 hk R fun f' R' hs=>?_
 have e0:=hs (2*n+2) (by omega)
 have e1:=hs (2*n+3) (by omega)
 have e2:=hs (2*n+4) (by omega)
 cases row with
 | nil=>exact g f' R' e0 e1 (by rw [if_pos rfl];exact e2)
 | cons y l =>
  refine ⟨by show 2*n+2+2<2*n+5;omega,?_⟩
  refine g _ (rowAt_same (by omega) (by omega) R') ?_ ?_ ?_
  ·rw [upd_other (by omega)];exact e0
  ·rw [upd_other (by omega)];exact e1
  ·rw [if_neg (by simp),upd_same,show 2*n+2+2=2*n+4 from rfl,e2]
end
end
section
section
variable {B:Hand} [Lets B] {gv:Value} {A:Acc B gv} {mr r b n k nc u:Nat} {L F:List HProp} {x:B.X}
theorem done_tr [Chans B] (R:MirAt A mr r b n k nc) (Nw:News A nc) {kind:Int} {kd:Nat} (hk:-9223372036854775808≤kind∧kind≤9223372036854775807) (hkd:kind%3=kd) (hv:u<18446744073709551616) {s:A.S} {Q:List Nat→A.S→Prop} (hs:DoneT A n kd u s Q) (hh:Has L (A.C s) F) :
  Tr Try.prog B 13 [.pointer (some ⟨mr,0,none⟩),gv,.agg #[.int .i64 kind,.int .u64 (u:Nat)]] L (A.x s) fun w L' x'=>∃ told s' bv,Q told s'∧w=.tuple #[bv,.int .i64 0]∧L'=vec 1 bv (told.map Go.PB.num)::A.C s'::F∧x'=A.x s':=by
 refine Tr.post (R:=fun w L' x'=>∃ told s' bv,Q told s'∧w=.tuple #[bv,.int .i64 0]∧x'=A.x s'∧∀ h,Star L' h→Star (vec 1 bv (told.map Go.PB.num)::A.C s'::F) h) ?_
  (by rintro w L' x' ⟨told,s',bv,h1,rfl,rfl,hs⟩;exact ⟨_,⟨told,s',bv,h1,rfl,rfl,rfl⟩,hs⟩)
 unfold DoneT at hs
 refine tr_of_body Try.func13 rfl Try.ntmps13 (by simp) fun um Q _ hQ=>?_
 simp only [argE,Nat.zero_add,Nat.reduceAdd]
 repeat (first | (apply wo_mo;apply mo_box;exact rfl;exact trivial) | refine we_seq ?_ | (refine wR ?_;try simp only [oS]))
 rintro v' L' ⟨db,rfl,rfl⟩
 refine wo_ent (arr db 0 [.int .i64 kind,.int .u64 (u:Nat)]::L) .refl ?_
 repeat (first | refine we_seq ?_ | (refine wR ?_;try simp only [oS]) | refine wo_nil ?_ | refine wA ?_ | refine wD ?_ | refine wL ?_)
 refine wo_call (.cons rfl (.cons rfl .nil)) trivial (within_tr hk (by omega)) ?_
 rintro v' L' x' ⟨rfl,rfl,rfl⟩
 rw [hkd]
 by_cases k0:kd=0
 ·rw [if_pos k0] at hs
  repeat (first | refine weqlT ?_ | refine we_seq ?_ | (refine wR ?_;try simp only [oS]) | refine wo_nil ?_ | refine wM ?_ | refine wA ?_ | refine wD ?_ | refine wL ?_ | refine wT ?_ | refine we_block ?_)
  refine wo_call (.cons rfl (.cons rfl (.cons rfl .nil))) trivial (moffer_tr R Nw hv hs (.there hh)) ?_
  rintro v' L' x' ⟨q,s',h1,rfl,rfl,rfl⟩
  repeat (first | refine we_seq ?_ | (refine wR ?_;try simp only [oS]) | refine wo_nil ?_ | refine wM ?_ | refine wA ?_ | (apply wo_po;apply mo_extract;exact rfl;exact rfl;exact gY))
  refine wo_call (.cons rfl .nil) trivial yes_tr ?_
  rintro v' L' x' ⟨rfl,rfl,rfl⟩
  repeat (first | (apply wo_mo;apply mo_buildSlice (sz:=1) (vs:=[Go.PB.num (yes q)]);exact rfl;(repeat (first | exact EvL.nil | apply EvL.cons rfl));exact rfl;(repeat (first | exact List.forall_mem_nil _ | refine List.forall_mem_cons.2 ⟨rfl,?_⟩));omega;exact trivial))
  rintro v' L' ⟨vb,rfl,rfl⟩
  repeat (first | refine wo_nil ?_ | refine wM ?_ | refine wA ?_ | refine we_ret ?_)
  (first | refine or2 Try.func13 Try.results13 hQ rfl rfl ?_ | refine on2 Try.func13 Try.results13 hQ rfl rfl ?_)
  refine ⟨[(yes q)],s',_,h1,rfl,rfl,fun h st=>?_⟩
  exact vec_new (n:=1) rfl (Ent.star (.take .here (.take .here (.drop .refl))) st)
 ·rw [if_neg k0] at hs
  by_cases k1:kd=1
  ·rw [if_pos k1] at hs
   repeat (first | refine weqlT ?_ | refine weqlF ?_ | refine we_seq ?_ | (refine wR ?_;try simp only [oS]) | refine wo_nil ?_ | refine wM ?_ | refine wA ?_ | refine wT ?_ | refine wF ?_ | refine we_block ?_)
   refine wo_call (.cons rfl (.cons rfl .nil)) trivial (mtake_tr R hs (.there hh)) ?_
   rintro v' L' x' ⟨q,s',h1,hlt,rfl,rfl,rfl⟩
   repeat (first | refine we_seq ?_ | (refine wR ?_;try simp only [oS]) | refine wo_nil ?_ | refine wM ?_ | refine wA ?_ | (apply wo_po;apply mo_extract;exact rfl;exact rfl;exact gY))
   refine wo_call (.cons rfl .nil) trivial yes_tr ?_
   rintro v' L' x' ⟨rfl,rfl,rfl⟩
   repeat (first | (apply wo_mo;apply mo_buildSlice (sz:=1) (vs:=[Go.PB.num (q.getD 0),Go.PB.num (yes q.isSome)]);exact rfl;(repeat (first | exact EvL.nil | apply EvL.cons rfl));exact rfl;(repeat (first | exact List.forall_mem_nil _ | refine List.forall_mem_cons.2 ⟨rfl,?_⟩));omega;exact trivial))
   rintro v' L' ⟨vb,rfl,rfl⟩
   repeat (first | refine wo_nil ?_ | refine wM ?_ | refine wA ?_ | refine we_ret ?_)
   (first | refine or2 Try.func13 Try.results13 hQ rfl rfl ?_ | refine on2 Try.func13 Try.results13 hQ rfl rfl ?_)
   refine ⟨[(q.getD 0),(yes q.isSome)],s',_,h1,rfl,rfl,fun h st=>?_⟩
   exact vec_new (n:=2) rfl (Ent.star (.take .here (.take .here (.drop .refl))) st)
  ·rw [if_neg k1] at hs
   repeat (first | refine weqlF ?_ | refine we_seq ?_ | (refine wR ?_;try simp only [oS]) | refine wo_nil ?_ | refine wM ?_ | refine wA ?_ | refine wF ?_ | refine we_skip ?_ | refine we_block ?_)
   refine wo_call (.cons rfl (.cons rfl .nil)) trivial (mcounts_tr R hs (.there hh)) ?_
   rintro v' L' x' ⟨a,b',c,s',h1,rfl,rfl,rfl⟩
   repeat (first | (apply wo_mo;apply mo_buildSlice (sz:=1) (vs:=[Go.PB.num a,Go.PB.num b',Go.PB.num c]);exact rfl;(repeat (first | exact EvL.nil | apply EvL.cons rfl));exact rfl;(repeat (first | exact List.forall_mem_nil _ | refine List.forall_mem_cons.2 ⟨rfl,?_⟩));omega;exact trivial) | refine we_seq ?_ | (refine wR ?_;try simp only [oS]) | refine wo_nil ?_ | refine wM ?_ | refine wA ?_ | (apply wo_po;apply mo_extract;exact rfl;exact rfl;exact gY))
   rintro v' L' ⟨vb,rfl,rfl⟩
   repeat (first | refine wo_nil ?_ | refine wM ?_ | refine wA ?_ | refine we_ret ?_)
   (first | refine or2 Try.func13 Try.results13 hQ rfl rfl ?_ | refine on2 Try.func13 Try.results13 hQ rfl rfl ?_)
   refine ⟨[a,b',c],s',_,h1,rfl,rfl,fun h st=>?_⟩
   exact vec_new (n:=3) rfl (Ent.star (.take .here (.take .here (.drop .refl))) st)
theorem call_tr (h1:1≤n) (hn:n≤1024) {kind:Int} {kd:Nat} (hk:-9223372036854775808≤kind∧kind≤9223372036854775807) (hkd:kind%3=kd) :
  Tr Try.prog B 15 [.int .i64 (n:Nat),.agg #[.int .i64 kind,.int .u64 (u:Nat)]] L x fun w L' x'=>∃ a m c,w=.agg #[.slice a m c,.slice none 0 0]∧L'=clC (.slice a m c) (.slice none 0 0) (callCl n kd u)::L∧x'=x:=by
 refine Tr.post (R:=fun v L' x'=>∃ a m c,v=.agg #[.slice a m c,.slice none 0 0]∧x'=x∧∀ h,Star L' h→Star (clC (.slice a m c) (.slice none 0 0) (callCl n kd u)::L) h) ?_
  (by rintro v L' x' ⟨a,m,c,rfl,rfl,hs⟩;exact ⟨_,⟨a,m,c,rfl,rfl,rfl⟩,hs⟩)
 refine tr_of_body Try.func15 rfl Try.ntmps15 (by simp) fun um Q _ hQ=>?_
 simp only [argE,Nat.zero_add,Nat.reduceAdd]
 repeat (first | (apply wo_mo;apply mo_box;exact rfl;exact trivial) | refine we_seq ?_ | (refine wR ?_;try simp only [oS]))
 rintro v' L' ⟨db,rfl,rfl⟩
 refine wo_ent (arr db 0 [.int .i64 kind,.int .u64 (u:Nat)]::L) .refl ?_
 repeat (first | (apply wo_mo;apply mo_alloc;exact trivial))
 rintro v' L' ⟨ab,rfl,rfl⟩
 repeat (first | refine we_seq ?_ | (refine wR ?_;try simp only [oS]) | refine wo_nil ?_ | refine wD ?_ | refine wL ?_)
 refine wo_call (.cons rfl (.cons rfl .nil)) trivial (within_tr hk (by omega)) ?_
 rintro v' L' x' ⟨rfl,rfl,rfl⟩
 rw [hkd]
 by_cases k0:kd=0
 ·have e:callCl n kd u=Mach.rofferCl n u:=if_pos k0
  repeat (first | refine weqlT ?_ | refine we_seq ?_ | (refine wR ?_;try simp only [oS]) | refine wo_nil ?_ | refine wM ?_ | refine wA ?_ | refine wD ?_ | refine wL ?_ | refine wT ?_ | refine we_block ?_)
  refine wo_call (.cons rfl (.cons rfl .nil)) trivial (ref_offer_tr h1 hn) ?_
  rintro v' L' x' ⟨qa,qn,qc,rfl,rfl,rfl⟩
  repeat (first | (apply wo_pm;apply mo_storeA (b:=ab) (c:=0) (k:=0) (a:=0) (vs:=[.slice none 0 0,.slice none 0 0]);exact rfl;exact rfl;exact rfl;(intro w hw;simp [Value.cells] at hw;rcases hw with rfl | rfl <;> rfl);exact rfl;exact Nat.le_refl 2;exact (.there .here);exact trivial) | refine wo_nil ?_ | refine we_ret ?_)
  refine at_leaveM (rs:=[.cell 4 47]) Try.func15 Try.results15 hQ (.inl rfl) (.cons (.cell (vs:=[.slice qa qn qc,.slice none 0 0]) rfl rfl (Rds.all (.there .here))) .nil) ?_
  exact ⟨_,_,_,rfl,rfl,fun h st=>by rw [e];exact Ent.star (.take .here (.drop (.drop .refl))) st⟩
 ·by_cases k1:kd=1
  ·have e:callCl n kd u=Mach.rtakeCl n:=(if_neg k0).trans (if_pos k1)
   repeat (first | refine weqlT ?_ | refine weqlF ?_ | refine we_seq ?_ | (refine wR ?_;try simp only [oS]) | refine wo_nil ?_ | refine wM ?_ | refine wA ?_ | refine wT ?_ | refine wF ?_ | refine we_block ?_)
   refine wo_call (.cons rfl .nil) trivial (ref_take_tr h1 hn) ?_
   rintro v' L' x' ⟨qa,qn,qc,rfl,rfl,rfl⟩
   repeat (first | (apply wo_pm;apply mo_storeA (b:=ab) (c:=0) (k:=0) (a:=0) (vs:=[.slice none 0 0,.slice none 0 0]);exact rfl;exact rfl;exact rfl;(intro w hw;simp [Value.cells] at hw;rcases hw with rfl | rfl <;> rfl);exact rfl;exact Nat.le_refl 2;exact (.there .here);exact trivial) | refine wo_nil ?_ | refine we_ret ?_)
   refine at_leaveM (rs:=[.cell 4 47]) Try.func15 Try.results15 hQ (.inl rfl) (.cons (.cell (vs:=[.slice qa qn qc,.slice none 0 0]) rfl rfl (Rds.all (.there .here))) .nil) ?_
   exact ⟨_,_,_,rfl,rfl,fun h st=>by rw [e];exact Ent.star (.take .here (.drop (.drop .refl))) st⟩
  ·have e:callCl n kd u=Mach.rcountsCl:=(if_neg k0).trans (if_neg k1)
   repeat (first | refine weqlF ?_ | refine we_seq ?_ | (refine wR ?_;try simp only [oS]) | refine wo_nil ?_ | refine wA ?_ | refine wF ?_ | refine we_skip ?_ | refine we_block ?_)
   refine wo_call (.nil) trivial (ref_counts_tr) ?_
   rintro v' L' x' ⟨qa,qn,qc,rfl,rfl,rfl⟩
   repeat (first | (apply wo_pm;apply mo_storeA (b:=ab) (c:=0) (k:=0) (a:=0) (vs:=[.slice none 0 0,.slice none 0 0]);exact rfl;exact rfl;exact rfl;(intro w hw;simp [Value.cells] at hw;rcases hw with rfl | rfl <;> rfl);exact rfl;exact Nat.le_refl 2;exact (.there .here);exact trivial) | refine wo_nil ?_ | refine we_ret ?_)
   refine at_leaveM (rs:=[.cell 4 47]) Try.func15 Try.results15 hQ (.inl rfl) (.cons (.cell (vs:=[.slice qa qn qc,.slice none 0 0]) rfl rfl (Rds.all (.there .here))) .nil) ?_
   exact ⟨_,_,_,rfl,rfl,fun h st=>by rw [e];exact Ent.star (.take .here (.drop (.drop .refl))) st⟩
end
end
section
section
theorem counts_lone0 {B:Hand} [Lets B] {x:B.X} {mr r b n nc:Nat} {f:Nat→Nat} {ap:Apart (maddr mr r b n) (2*n+5) (mK mr r b n nc)} {G:Nat→Nat→Nat→(Nat→Nat)→Prop} (g:G (f (2*n+2)) (f (2*n+3)) (f (2*n+4)) f):CountsT (loneAcc x (maddr mr r b n) (2*n+5) (mK mr r b n nc) ap) n f G :=
 ⟨by show 2*n+2+0<2*n+5;omega,by show 2*n+2+1<2*n+5;omega,by show 2*n+2+2<2*n+5;omega,g⟩
end
section
variable {B:Hand} [Lets B] [Chans B] {L:List HProp} {x:B.X}
theorem works_tr:Tr Try.prog B 10 [] L x fun v L' x'=>v=.bool true∧L'=L∧x'=x:=by
 refine Tr.post (R:=fun v L' x'=>v=.bool true∧x'=x∧∀ h,Star L' h→Star L h) ?_ (by rintro v L' x' ⟨h0,rfl,hs⟩;exact ⟨L,⟨h0,rfl,rfl⟩,hs⟩)
 refine tr_of_body Try.func10 rfl Try.ntmps10 (by simp) fun um Q _ hQ=>?_
 simp only [argE,Nat.zero_add,Nat.reduceAdd]
 repeat (first | refine we_seq ?_ | (refine wR ?_;try simp only [oS]) | refine wo_nil ?_ | refine wA ?_)
 refine wo_call (.cons rfl .nil) trivial (mnew_tr (n:=2) (k:=1) rfl (by omega) (by omega)) ?_
 rintro v' L' x' ⟨mr,r,b,nc,hrb,hmr,hmb,rfl,rfl,rfl⟩
 repeat (first | refine wneqF ?_ | refine we_seq ?_ | (refine wR ?_;try simp only [oS]) | refine wo_nil ?_ | refine wM ?_ | refine wA ?_ | (apply wo_po;apply mo_extract;exact rfl;exact rfl;exact gY) | refine wF ?_ | refine we_skip ?_)
 refine wo_star ((mirLone x' mr r b 2 nc (m_apart hrb hmr hmb)).C (seqs 2)::L) (fun h st=>star_shut (M:=[_,_]) st) ?_
 refine wo_call (.cons rfl (.cons rfl (.cons rfl .nil))) trivial (moffer_tr (A:=(mirLone x' mr r b 2 nc (m_apart hrb hmr hmb))) (lone_at (k:=1) rfl (by omega)) lone_news (v:=5) (by omega) (offer_lone (k:=1) rfl (by omega) (by omega) (RowAt.seqs (by omega) (by omega)) (G:=fun q f'=>q=true∧RowAt 2 f' [5]∧f' (2*2+2)=1∧f' (2*2+3)=0∧f' (2*2+4)=0) (fun f' R' e0 e1 e2=>⟨rfl,R',e0.trans rfl,e1.trans rfl,e2.trans rfl⟩)) .here) ?_
 rintro v' L' x' ⟨q1,f1,⟨rfl,R1,a1,b1,d1⟩,rfl,rfl,rfl⟩
 repeat (first | refine we_seq ?_ | (refine wR ?_;try simp only [oS]) | refine wo_nil ?_ | refine wM ?_ | refine wA ?_ | (apply wo_po;apply mo_extract;exact rfl;exact rfl;exact gY))
 refine wo_call (.cons rfl (.cons rfl (.cons rfl .nil))) trivial (moffer_tr (A:=(mirLone x' mr r b 2 nc (m_apart hrb hmr hmb))) (lone_at (k:=1) rfl (by omega)) lone_news (v:=6) (by omega) (offer_lone (k:=1) rfl (by omega) (by omega) R1 (G:=fun q f'=>q=true∧RowAt 2 f' [5,6]∧f' (2*2+2)=2∧f' (2*2+3)=0∧f' (2*2+4)=0) (fun f' R' e0 e1 e2=>⟨rfl,R',e0.trans (by rw [a1]),e1.trans b1,e2.trans d1⟩)) .here) ?_
 rintro v' L' x' ⟨q2,f2,⟨rfl,R2,a2,b2,d2⟩,rfl,rfl,rfl⟩
 repeat (first | refine we_seq ?_ | (refine wR ?_;try simp only [oS]) | refine wo_nil ?_ | refine wM ?_ | refine wA ?_ | (apply wo_po;apply mo_extract;exact rfl;exact rfl;exact gY))
 refine wo_call (.cons rfl (.cons rfl (.cons rfl .nil))) trivial (moffer_tr (A:=(mirLone x' mr r b 2 nc (m_apart hrb hmr hmb))) (lone_at (k:=1) rfl (by omega)) lone_news (v:=7) (by omega) (offer_lone (k:=1) rfl (by omega) (by omega) R2 (G:=fun q f'=>q=false∧RowAt 2 f' [5,6]∧f' (2*2+2)=3∧f' (2*2+3)=1∧f' (2*2+4)=0) (fun f' R' e0 e1 e2=>⟨rfl,R',e0.trans (by rw [a2]),e1.trans (by rw [b2];rfl),e2.trans d2⟩)) .here) ?_
 rintro v' L' x' ⟨q3,f3,⟨rfl,R3,a3,b3,d3⟩,rfl,rfl,rfl⟩
 repeat (first | refine we_seq ?_ | (refine wR ?_;try simp only [oS]) | refine wo_nil ?_ | refine wM ?_ | refine wA ?_ | (apply wo_po;apply mo_extract;exact rfl;exact rfl;exact gY))
 refine wo_call (.cons rfl (.cons rfl .nil)) trivial (mtake_tr (A:=(mirLone x' mr r b 2 nc (m_apart hrb hmr hmb))) (lone_at (k:=1) rfl (by omega)) (take_lone (k:=1) rfl (by omega) (by omega) R3 (G:=fun q f'=>q=some 5∧f' (2*2+2)=3∧f' (2*2+3)=1∧f' (2*2+4)=1) (fun f' R' e0 e1 e2=>⟨rfl,e0.trans a3,e1.trans b3,e2.trans (by rw [d3];rfl)⟩)) .here) ?_
 rintro v' L' x' ⟨q4,f4,⟨rfl,a4,b4,d4⟩,_,rfl,rfl,rfl⟩
 repeat (first | refine we_seq ?_ | (refine wR ?_;try simp only [oS]) | refine wo_nil ?_ | refine wM ?_ | refine wA ?_ | (apply wo_po;apply mo_extract;exact rfl;exact rfl;exact gY))
 refine wo_call (.cons rfl (.cons rfl .nil)) trivial (mcounts_tr (A:=(mirLone x' mr r b 2 nc (m_apart hrb hmr hmb))) (lone_at (k:=1) rfl (by omega)) (counts_with (A:=loneAcc x' (maddr mr r b 2) (2*2+5) (mK mr r b 2 nc) (m_apart hrb hmr hmb)) (counts_lone0 (G:=fun a b c f'=>a=3∧b=1∧c=1) ⟨a4,b4,d4⟩)) .here) ?_
 rintro v' L' x' ⟨ca,cb,cc,f5,⟨rfl,rfl,rfl⟩,rfl,rfl,rfl⟩
 repeat (first | refine weqlT ?_ | refine we_seq ?_ | (refine wR ?_;try simp only [oS]) | refine wo_nil ?_ | refine wM ?_ | refine wA ?_ | refine wK ?_ | (apply wo_po;apply mo_extract;exact rfl;exact rfl;exact gY) | (apply wo_po;apply mo_not;exact rfl;exact gY) | refine we_ret ?_)
 (first | refine or1 Try.func10 Try.results10 hQ rfl ?_ | refine on1 Try.func10 Try.results10 hQ rfl ?_)
 exact ⟨rfl,rfl,fun h st=>star_drop st⟩
end
end
section
section
variable {B:Hand} [Lets B] [Chans B] {L F G:List HProp} {x:B.X} {mr r b n k nc nb u:Nat}
omit [Lets B] [Chans B] in
theorem call_ok {kd:Nat} (hn:n≤1024) (hv:u<18446744073709551616):(callCl n kd u).ok=true:=by
 unfold callCl
 split
 ·simp [Mach.Cl.ok,Mach.rofferCl,Mach.rofferCode,Mach.qputCode,Mach.In.ok];omega
 ·split
  ·simp [Mach.Cl.ok,Mach.rtakeCl,Mach.qtakeCode,Mach.In.ok];omega
  ·decide
omit [Lets B] [Chans B] in
theorem mirW_new:mirW n (seqs n)=⟨[[0,0,0],qwords n],2⟩:=by
 unfold mirW
 rw [seqs_row,show seqs n (2*n+2)=0 from if_neg (by omega),show seqs n (2*n+3)=0 from if_neg (by omega),show seqs n (2*n+4)=0 from if_neg (by omega)]
end
end
section
structure DoAt (L:List HProp) (a:Option Addr) (l:List (Int × Nat)):Prop where
 rng:∀ y∈l,(-9223372036854775808≤y.1∧y.1≤9223372036854775807)∧y.2<18446744073709551616
 at_:∀ i y,l[i]?=some y→∃ b o,a=some ⟨b,o,none⟩∧Rd L b (o+2*i) (.int .i64 y.1)∧Rd L b (o+2*i+1) (.int .u64 y.2)
end
end Go.Proofs.Ytmkkanmkjfnpdaa
namespace Go.PB
section
section
variable {P:Program} {xt:TypeId} {x y:Operand} {a b:ByteArray}
theorem wpS_partA {M:Mark→Prop} {α:Type} {t:TypeId} {n:Nat} {cs:Array Value} {off:Nat} {kk:Value→Sem α} (ha:aggOf P t=some true) (hz:szOf P t=some n) {h:Hp} {Q:α→Hp→Prop} {X:Value→Hp→Prop} (q:wpS P M (kk (.agg (cs.extract off (off+n)))) h Q X) :
  wpS P M (Sem.bind (part t cs off) kk) h Q X:=by
 refine wpS_bind _ _ ?_
 unfold part
 refine wpS_isAgg (q:=true) ha ?_
 simp only [if_true]
 refine wpS_sizeOf hz ?_
 exact q
theorem eql_turned {t t1:TypeId} {f0 f1 g0 g1:Field} {k0 k1 k2:IntKind} {a0 b0 a1 b1 a2 b2:Int} [p:Und P t (.struct #[f0,f1])] [p1:Und P t1 (.struct #[g0,g1])] [sz:Siz P t1 2] (hs:P.stoodInHeld t=false) (hs1:P.stoodInHeld t1=false) (hg:P.eqGuardType P.depth t=false)
  (n0:f0.name ≠ "_") (n1:f1.name ≠ "_") (m0:g0.name ≠ "_") (m1:g1.name ≠ "_") (o0:f0.offset=0) (o1:f1.offset=1) (q0:g0.offset=0) (q1:g1.offset=1) (ft1:f1.type=t1) (t0:P.underlying f0.type=some (.int k0)) (u0:P.underlying g0.type=some (.int k1)) (u1:P.underlying g1.type=some (.int k2)) :
  Eql P t x y (.agg #[.int k0 a0,.int k1 a1,.int k2 a2]) (.agg #[.int k0 b0,.int k1 b1,.int k2 b2]) (decide (a0=b0∧a1=b1∧a2=b2)) :=
 eql_agg hg fun {M h Q X} q=>by
  rw [equal_def]
  unfold Op.equalIn
  refine wpS_underlying p.ok ?_
  dsimp only
  refine wpS_program (β:=Unit) ?_
  simp only [hs,Bool.false_eq_true,if_false,← Array.forIn_toList,List.forIn_cons,List.forIn_nil,n0,n1,ne_eq,not_false_eq_true,if_true,bind_assoc,pure_bind,o0,o1,ft1]
  have ha:aggOf P t1=some true:=by unfold aggOf;rw [p1.ok];rfl
  refine wpS_partI t0 rfl (wpS_partI t0 rfl (wpS_equalI (d:=9998) t0 ?_))
  by_cases e0:a0=b0
  ·subst e0
   simp only [beq_self_eq_true,Bool.not_true,Bool.false_eq_true,if_false,pure_bind,bind_assoc]
   refine wpS_partA ha sz.ok (wpS_partA ha sz.ok (wpS_bind _ _ ?_))
   refine equalIn_two (d:=9997) p1.ok hs1 m0 m1 q0 q1 u0 u1 ?_
   by_cases e1:a1=b1∧a2=b2
   ·obtain ⟨rfl,rfl⟩:=e1
    simp only [decide_true,and_self,Bool.not_true,Bool.false_eq_true,if_false,pure_bind]
    have q':Q true h:=by simpa using q
    exact q'
   ·simp only [e1,decide_false,Bool.not_false,if_true,pure_bind]
    have q':Q false h:=by simpa [e1] using q
    exact q'
  ·have:(a0 == b0)=false:=by simp [e0]
   simp only [this,Bool.not_false,if_true,pure_bind,bind_assoc]
   have q':Q false h:=by simpa [e0] using q
   exact q'
end
end
end Go.PB
namespace Go.Proofs.Ytmkkanmkjfnpdaa
open Go Go.PB
attribute [local irreducible] Mo Bin Eql Tr Wo Ap
section
theorem eqTurn {x y:Operand} {a0 b0 a1 b1 a2 b2:Int}:Eql Try.prog 112 x y (.agg #[.int .i64 a0,.int .u8 a1,.int .i64 a2]) (.agg #[.int .i64 b0,.int .u8 b1,.int .i64 b2]) (decide (a0=b0∧a1=b1∧a2=b2)) :=
 haveI p0:Und Try.prog 112 _:=⟨Try.underlying112⟩
 haveI p1:Und Try.prog 110 _:=⟨Try.underlying110⟩
 eql_turned (t1:=110) (p:=p0) (p1:=p1) (by kernel_rfl) (by kernel_rfl) (by kernel_rfl) (by decide) (by decide) (by decide) (by decide) rfl rfl rfl rfl rfl (by kernel_rfl) (by kernel_rfl) (by kernel_rfl)
def RdTr (L:List HProp) (a:Option Addr) (l:List (Nat × (Int × Int))):Prop:=∀ (i:Nat) t,l[i]?=some t→∃ b o,a=some ⟨b,o,none⟩∧Rds L b (o+3*i) [.int .i64 (t.1:Nat),.int .u8 t.2.1,.int .i64 t.2.2]
def RdI (L:List HProp) (a:Option Addr) (l:List Nat):Prop:=∀ (i:Nat) k,l[i]?=some k→∃ b o,a=some ⟨b,o,none⟩∧Rd L b (o+i) (.int .i64 (k:Nat))
theorem RdTr.there {L:List HProp} {a:Option Addr} {l:List (Nat × (Int × Int))} {d:HProp} (h:RdTr L a l):RdTr (d::L) a l:=fun i t hi=>by
 obtain ⟨b,o,e,r⟩:=h i t hi
 exact ⟨b,o,e,fun j v hj=>.there (r j v hj)⟩
theorem RdI.there {L:List HProp} {a:Option Addr} {l:List Nat} {d:HProp} (h:RdI L a l):RdI (d::L) a l:=fun i t hi=>by
 obtain ⟨b,o,e,r⟩:=h i t hi
 exact ⟨b,o,e,.there r⟩
section
variable {B:Hand} [Lets B] {L F:List HProp} {x:B.X}
def samePInv (x:B.X) (j p q:Nat) (n:Nat) (u1 u2 v1 v2:Value) (L:List HProp):Inv Nat B.X where
 e:=fun i=>[(2,.pointer (some ⟨p,0,none⟩)),(3,.pointer (some ⟨q,0,none⟩)),(j,.int .i64 (i:Nat))]
 L:=fun _=>arr q 0 [v1,v2]::arr p 0 [u1,u2]::L
 x:=fun _=>x
 ok:=fun i=>i≤n
theorem same_played_tr {a1 a2 a3 a4:Option Addr} {c1 c2 c3 c4:Nat} {tr:List (Nat × (Int × Int))} {cut:List Nat} (h1:RdTr L a1 tr) (h3:RdTr L a3 tr) (h2:RdI L a2 cut) (h4:RdI L a4 cut) (hl:tr.length<1000000000) (hl2:cut.length<1000000000) :
  Tr Try.prog B 32 [.agg #[.slice a1 tr.length c1,.slice a2 cut.length c2],.agg #[.slice a3 tr.length c3,.slice a4 cut.length c4]] L x fun v L' x'=>v=.bool true∧L'=L∧x'=x:=by
 refine Tr.post (R:=fun v L' x'=>v=.bool true∧x'=x∧∀ h,Star L' h→Star L h) ?_
  (by rintro v L' x' ⟨rfl,rfl,h2⟩;exact ⟨_,⟨rfl,rfl,rfl⟩,h2⟩)
 refine tr_of_body Try.func32 rfl Try.ntmps32 (by simp) fun um Q _ hQ=>?_
 simp only [argE,Nat.zero_add,Nat.reduceAdd]
 repeat (first | (apply wo_mo;apply mo_box;exact rfl;exact trivial) | refine we_seq ?_ | (refine wR ?_;try simp only [oS]))
 rintro v' L' ⟨p,rfl,rfl⟩
 repeat (first | (apply wo_mo;apply mo_box;exact rfl;exact trivial))
 rintro v' L' ⟨q,rfl,rfl⟩
 refine wo_ent (arr q 0 [.slice a3 tr.length c3,.slice a4 cut.length c4]::arr p 0 [.slice a1 tr.length c1,.slice a2 cut.length c2]::L) .refl ?_
 repeat (first | refine wneqF ?_ | refine we_seq ?_ | (refine wR ?_;try simp only [oS]) | refine wo_nil ?_ | refine wM ?_ | refine wA ?_ | refine wJ ?_ | refine wD ?_ | refine wL ?_ | refine wE ?_ | refine wF ?_ | refine we_skip ?_ | refine we_block ?_)
 refine we_loopN (samePInv x 5 p q tr.length (.slice a1 tr.length c1) (.slice a2 cut.length c2) (.slice a3 tr.length c3) (.slice a4 cut.length c4) L) (fun i=>tr.length-i) 0 (Nat.zero_le _) ⟨rfl,rfl,rfl,trivial⟩ .refl rfl ?_
 intro i hi
 replace hi:i≤tr.length:=hi
 simp only [samePInv]
 by_cases hlt:i<tr.length
 ·obtain ⟨t,ht⟩:∃ t,tr[i]?=some t:=⟨tr[i],List.getElem?_eq_getElem hlt⟩
  obtain ⟨b1,o1,rfl,r1⟩:=h1 i t ht
  obtain ⟨b3,o3,rfl,r3⟩:=h3 i t ht
  have r1:Rds (arr q 0 [.slice (some ⟨b3,o3,none⟩) tr.length c3,.slice a4 cut.length c4]::arr p 0 [.slice (some ⟨b1,o1,none⟩) tr.length c1,.slice a2 cut.length c2]::L) b1 (o1+3*i) [.int .i64 (t.1:Nat),.int .u8 t.2.1,.int .i64 t.2.2]:=fun j v hj=>.there (.there (r1 j v hj))
  have r3:Rds (arr q 0 [.slice (some ⟨b3,o3,none⟩) tr.length c3,.slice a4 cut.length c4]::arr p 0 [.slice (some ⟨b1,o1,none⟩) tr.length c1,.slice a2 cut.length c2]::L) b3 (o3+3*i) [.int .i64 (t.1:Nat),.int .u8 t.2.1,.int .i64 t.2.2]:=fun j v hj=>.there (.there (r3 j v hj))
  have heq:=eqTurn (x:=.tmp 34) (y:=.tmp 39) (a0:=(t.1:Nat)) (b0:=(t.1:Nat)) (a1:=t.2.1) (b1:=t.2.1) (a2:=t.2.2) (b2:=t.2.2)
  rw [show decide ((((t.1:Nat):Int)=(t.1:Nat))∧t.2.1=t.2.1∧t.2.2=t.2.2)=true by simp] at heq
  repeat (first | refine wlssT ?_ | refine we_seq ?_ | (refine wR ?_;try simp only [oS]) | refine wo_nil ?_ | refine wM ?_ | refine wD ?_ | refine wL ?_ | refine wE ?_ | refine wT ?_ | refine we_skip ?_ | refine we_block ?_)
  refine we_draw (List.range' 0 11) (by kernel_rfl) ?_
  repeat (first | (apply ap_pure;exact rfl;exact rfl;exact trivial;intro L;apply mo_indexAddr (r:=o1+3*i);exact rfl;exact rfl;omega;omega;omega) | (apply ap_pure;exact rfl;exact rfl;exact trivial;intro L;apply mo_indexAddr (r:=o3+3*i);exact rfl;exact rfl;omega;omega;omega) | (apply ap_read;exact rfl;exact rfl;exact trivial;apply mo_loadA (vs:=[.int .i64 (t.1:Nat),.int .u8 t.2.1,.int .i64 t.2.2]);exact rfl;exact rfl;exact r1) | (apply ap_read;exact rfl;exact rfl;exact trivial;apply mo_loadA (vs:=[.int .i64 (t.1:Nat),.int .u8 t.2.1,.int .i64 t.2.2]);exact rfl;exact rfl;exact r3) | (apply ap_pure;exact rfl;exact rfl;exact trivial;intro L;apply mo_bin;exact rfl;exact rfl;apply bin_ne;exact heq) | refine aM ?_ | refine aD ?_ | refine aL ?_ | refine ap_end ?_)
  repeat (first | (refine wR ?_;try simp only [oS]) | refine wo_nil ?_ | refine wM ?_ | refine wA ?_ | refine wadd ?_ | refine wF ?_ | refine we_skip ?_)
  refine at_round (I:=samePInv x 5 p q tr.length (.slice (some ⟨b1,o1,none⟩) tr.length c1) (.slice a2 cut.length c2) (.slice (some ⟨b3,o3,none⟩) tr.length c3) (.slice a4 cut.length c4) L) (R:=fun j=>tr.length-j<tr.length-i) (i+1) (by omega) (show i+1≤tr.length by omega) ?_ .refl rfl
  exact ⟨rfl,rfl,rfl,trivial⟩
 obtain rfl:i=tr.length:=by omega
 repeat (first | refine wlssF ?_ | refine we_seq ?_ | (refine wR ?_;try simp only [oS]) | refine wo_nil ?_ | refine wM ?_ | refine wA ?_ | refine wD ?_ | refine wL ?_ | refine wE ?_ | refine wF ?_ | refine we_block ?_ | refine we_exit ?_)
 refine we_loopN (samePInv x 6 p q cut.length (.slice a1 tr.length c1) (.slice a2 cut.length c2) (.slice a3 tr.length c3) (.slice a4 cut.length c4) L) (fun i=>cut.length-i) 0 (Nat.zero_le _) ⟨rfl,rfl,rfl,trivial⟩ .refl rfl ?_
 intro i hi
 replace hi:i≤cut.length:=hi
 simp only [samePInv]
 by_cases hlt:i<cut.length
 ·obtain ⟨t,ht⟩:∃ t,cut[i]?=some t:=⟨cut[i],List.getElem?_eq_getElem hlt⟩
  obtain ⟨b1,o1,rfl,r1⟩:=h2 i t ht
  obtain ⟨b3,o3,rfl,r3⟩:=h4 i t ht
  have r1:Rd (arr q 0 [.slice a3 tr.length c3,.slice (some ⟨b3,o3,none⟩) cut.length c4]::arr p 0 [.slice a1 tr.length c1,.slice (some ⟨b1,o1,none⟩) cut.length c2]::L) b1 (o1+i) (.int .i64 (t:Nat)):=.there (.there r1)
  have r3:Rd (arr q 0 [.slice a3 tr.length c3,.slice (some ⟨b3,o3,none⟩) cut.length c4]::arr p 0 [.slice a1 tr.length c1,.slice (some ⟨b1,o1,none⟩) cut.length c2]::L) b3 (o3+i) (.int .i64 (t:Nat)):=.there (.there r3)
  repeat (first | refine wlssT ?_ | refine we_seq ?_ | (refine wR ?_;try simp only [oS]) | refine wo_nil ?_ | refine wM ?_ | refine wD ?_ | refine wL ?_ | refine wE ?_ | refine wT ?_ | refine we_skip ?_ | refine we_block ?_)
  refine we_draw (List.range' 0 11) (by kernel_rfl) ?_
  repeat (first | (apply ap_pure;exact rfl;exact rfl;exact trivial;intro L;apply mo_indexAddr (r:=o1+i);exact rfl;exact rfl;omega;omega;omega) | (apply ap_pure;exact rfl;exact rfl;exact trivial;intro L;apply mo_indexAddr (r:=o3+i);exact rfl;exact rfl;omega;omega;omega) | (apply ap_read;exact rfl;exact rfl;exact trivial;apply mo_load;exact rfl;exact r1) | (apply ap_read;exact rfl;exact rfl;exact trivial;apply mo_load;exact rfl;exact r3) | refine aM ?_ | refine aD ?_ | (apply ap_pure;exact rfl;exact rfl;exact gY;intro L;apply mo_bin;exact rfl;exact rfl;exact bin_neq) | refine aL ?_ | refine ap_end ?_)
  rw [show (!decide (((t:Nat):Int)=((t:Nat):Int)))=false by simp]
  repeat (first | (refine wR ?_;try simp only [oS]) | refine wo_nil ?_ | refine wM ?_ | refine wA ?_ | refine wadd ?_ | refine wF ?_ | refine we_skip ?_)
  refine at_round (I:=samePInv x 6 p q cut.length (.slice a1 tr.length c1) (.slice (some ⟨b1,o1,none⟩) cut.length c2) (.slice a3 tr.length c3) (.slice (some ⟨b3,o3,none⟩) cut.length c4) L) (R:=fun j=>cut.length-j<cut.length-i) (i+1) (by omega) (show i+1≤cut.length by omega) ?_ .refl rfl
  exact ⟨rfl,rfl,rfl,trivial⟩
 obtain rfl:i=cut.length:=by omega
 repeat (first | refine wlssF ?_ | refine we_seq ?_ | (refine wR ?_;try simp only [oS]) | refine wo_nil ?_ | refine wM ?_ | refine wA ?_ | refine wD ?_ | refine wL ?_ | refine wE ?_ | refine wF ?_ | refine we_ret ?_ | refine we_exit ?_)
 (first | refine or1 Try.func32 Try.results32 hQ rfl ?_ | refine on1 Try.func32 Try.results32 hQ rfl ?_)
 exact ⟨rfl,rfl,fun h st=>Ent.star (.drop (.drop .refl)) st⟩
end
end
section
def GotAt (L:List HProp) (v:Value) (pre:List (List Nat)):Prop:=∃ a c,v=.slice a pre.length c∧∀ (j:Nat) ws,pre[j]?=some ws→∃ b o a' c',a=some ⟨b,o,none⟩∧Rd L b (o+j) (.slice a' ws.length c')∧RdV L a' ws
def GotsAt (L:List HProp) (a:Option Addr) (l:List (List (List Nat))):Prop:=∀ (k:Nat) pre,l[k]?=some pre→∃ b o v,a=some ⟨b,o,none⟩∧Rd L b (o+k) v∧GotAt L v pre
def AnsAt (L:List HProp) (v:Value) (ans:List (Bool × List Nat)):Prop:=∃ a c,v=.slice a ans.length c∧∀ (j:Nat) y,ans[j]?=some y→∃ b o a' c',a=some ⟨b,o,none⟩∧Rd L b (o+2*j) (.bool y.1)∧Rd L b (o+2*j+1) (.slice a' y.2.length c')∧RdV L a' y.2
def AnssAt (L:List HProp) (a:Option Addr) (l:List (List (Bool × List Nat))):Prop:=∀ (k:Nat) ans,l[k]?=some ans→∃ b o v,a=some ⟨b,o,none⟩∧Rd L b (o+k) v∧AnsAt L v ans
def Told (ans:List (Bool × List Nat)) (pre:List (List Nat)):Prop:=∃ tail,ans=pre.map (fun w=>(true,w))++tail∧∀ y∈tail,y.1=false
section
variable {B:Hand} [Lets B] {L F:List HProp} {x:B.X}
def sameAInv (x:B.X) (u v:Value) (n:Nat) (L:List HProp):Inv Nat B.X where
 e:=fun i=>[(0,u),(1,v),(5,.int .i64 (i:Nat))]
 L:=fun _=>L
 x:=fun _=>x
 ok:=fun i=>i≤n
def sameBInv (x:B.X) (u v:Value) (i n m:Nat) (L:List HProp):Inv Nat B.X where
 e:=fun j=>[(0,u),(1,v),(5,.int .i64 (i:Nat)),(6,.int .i64 (min j m:Nat)),(7,.int .i64 (j:Nat))]
 L:=fun _=>L
 x:=fun _=>x
 ok:=fun j=>j≤n
theorem same_answers_tr {ga aa:Option Addr} {gc ac:Nat} {got:List (List (List Nat))} {anss:List (List (Bool × List Nat))} (hg:GotsAt L ga got) (ha:AnssAt L aa anss) (hlen:got.length=anss.length) (htold:∀ (k:Nat) pre ans,got[k]?=some pre→anss[k]?=some ans→Told ans pre)
  (hl:anss.length<1000000000) (hl2:∀ a∈anss,a.length<1000000000) (hl3:∀ a∈anss,∀ y∈a,y.2.length<1000000000) :
  Tr Try.prog B 33 [.slice ga anss.length gc,.slice aa anss.length ac] L x fun v L' x'=>v=.bool true∧L'=L∧x'=x:=by
 refine tr_of_body Try.func33 rfl Try.ntmps33 (by simp) fun um Q _ hQ=>?_
 simp only [argE,Nat.zero_add,Nat.reduceAdd]
 repeat (first | refine wneqF ?_ | refine we_seq ?_ | (refine wR ?_;try simp only [oS]) | refine wo_nil ?_ | refine wM ?_ | refine wA ?_ | refine wE ?_ | refine wF ?_ | refine we_skip ?_ | refine we_block ?_)
 refine we_loopN (sameAInv x (.slice ga anss.length gc) (.slice aa anss.length ac) anss.length L) (fun i=>anss.length-i) 0 (Nat.zero_le _) ⟨rfl,rfl,rfl,trivial⟩ .refl rfl ?_
 intro i hi
 replace hi:i≤anss.length:=hi
 simp only [sameAInv]
 by_cases hlt:i<anss.length
 ·obtain ⟨ans,hans⟩:∃ t,anss[i]?=some t:=⟨anss[i],List.getElem?_eq_getElem hlt⟩
  obtain ⟨pre,hpre⟩:∃ t,got[i]?=some t:=⟨got[i]'(by omega),List.getElem?_eq_getElem (by omega)⟩
  have hn:=hl2 ans (List.mem_of_getElem? hans)
  have hn3:=hl3 ans (List.mem_of_getElem? hans)
  obtain ⟨tail,htl,hfalse⟩:=htold i pre ans hpre hans
  have hle:pre.length≤ans.length:=by rw [htl];simp
  obtain ⟨gb,go,gv,rfl,rg,ga2,gc2,rfl,hg2⟩:=hg i pre hpre
  obtain ⟨ab,ao,av,rfl,ra,aa2,ac2,rfl,ha2⟩:=ha i ans hans
  repeat (first | refine wlssT ?_ | refine we_seq ?_ | (refine wR ?_;try simp only [oS]) | refine wo_nil ?_ | refine wM ?_ | refine wA ?_ | refine wE ?_ | refine wT ?_ | refine we_skip ?_ | refine we_block ?_)
  refine we_loopN (sameBInv x (.slice (some ⟨gb,go,none⟩) anss.length gc) (.slice (some ⟨ab,ao,none⟩) anss.length ac) i ans.length pre.length L) (fun i=>ans.length-i) 0 (Nat.zero_le _) ⟨rfl,rfl,rfl,(by rw [Nat.zero_min];rfl),rfl,trivial⟩ .refl rfl ?_
  intro j hj
  replace hj:j≤ans.length:=hj
  simp only [sameBInv]
  by_cases hjl:j<ans.length
  ·obtain ⟨⟨q,ws⟩,hy⟩:∃ y,ans[j]?=some y:=⟨ans[j],List.getElem?_eq_getElem hjl⟩
   obtain ⟨b2,o2,a2,c2,rfl,r1,r2,rv⟩:=ha2 j _ hy
   simp only at r1 r2 rv
   by_cases hjp:j<pre.length
   ·have hyy:ans[j]?=some (true,pre[j]):=by
     rw [htl,List.getElem?_append_left (by simpa using hjp)];simp [hjp]
    rw [hy] at hyy
    obtain ⟨rfl,rfl⟩:q=true∧ws=pre[j]:=by simpa using hyy
    obtain ⟨b3,o3,a3,c3,rfl,s1,sv⟩:=hg2 j pre[j] (List.getElem?_eq_getElem hjp)
    have hwl:=hn3 _ (List.mem_of_getElem? hy)
    simp only at hwl
    rw [show min j pre.length=j by omega]
    obtain ⟨ws,hws⟩:∃ ws,pre[j]=ws:=⟨_,rfl⟩
    rw [hws] at r2 rv s1 sv hwl
    repeat (first | (apply wo_po;apply mo_index1;exact rfl;exact rfl;omega;exact trivial) | (apply wo_po;apply mo_index2;exact rfl;exact rfl;omega;exact trivial) | (apply wo_po;apply mo_load;exact rfl;exact ra;exact trivial) | (apply wo_po;apply mo_load;exact rfl;exact r1;exact trivial) | refine wlssT ?_ | refine we_seq ?_ | (refine wR ?_;try simp only [oS]) | refine wo_nil ?_ | refine wM ?_ | refine wD ?_ | (apply wo_po;apply mo_not;exact rfl;exact gY) | refine wE ?_ | refine wT ?_ | refine wF ?_ | refine we_skip ?_ | refine we_block ?_)
    refine we_draw (List.range' 0 26) (by kernel_rfl) ?_
    repeat (first | (apply ap_pure;exact rfl;exact rfl;exact gY;intro L;apply mo_bin;exact rfl;exact rfl;exact (bin_geqF (by omega))) | (apply ap_pure;exact rfl;exact rfl;exact gY;intro L;apply mo_index1;exact rfl;exact rfl;omega) | (apply ap_pure;exact rfl;exact rfl;exact gY;intro L;apply mo_index2;exact rfl;exact rfl;omega) | (apply ap_read;exact rfl;exact rfl;exact gY;apply mo_load;exact rfl;(first | exact ra | exact rg | exact s1 | exact r2)) | refine aM ?_ | refine aD ?_ | (apply ap_pure;exact rfl;exact rfl;exact gY;intro L;apply mo_len;exact rfl))
    refine ap_callR (Pd':=[]) rfl rfl (by kernel_rfl) rfl rfl rfl (.cons rfl (.cons rfl .nil)) (same_words_tr (l:=ws) (l':=ws) rfl rfl (by omega) sv rv) (fun v L' x' _ p hp=>by cases hp) ?_
    rintro v L' x' ⟨rfl,eL,ex⟩
    subst L' x'
    rw [show decide (ws=ws)=true from decide_eq_true rfl]
    repeat (first | (apply ap_pure;exact rfl;exact rfl;exact gY;intro L;apply mo_not;exact rfl) | (apply ap_pure;exact rfl;exact rfl;exact gY;intro L;apply mo_pickF;exact rfl;exact rfl;exact rfl) | refine ap_end ?_)
    repeat (first | (refine wR ?_;try simp only [oS]) | refine wo_nil ?_ | refine wM ?_ | refine wA ?_ | refine wadd ?_ | refine wF ?_ | refine we_skip ?_)
    refine at_round (I:=sameBInv _ _ _ i ans.length pre.length L) (R:=fun k=>ans.length-k<ans.length-j) (j+1) (by omega) (show j+1≤ans.length by omega) ?_ .refl rfl
    refine ⟨rfl,rfl,rfl,?_,rfl,trivial⟩
    rw [show min (j+1) pre.length=j+1 by omega];rfl
   ·have hq:q=false:=by
     rw [htl,List.getElem?_append_right (by simpa using hjp)] at hy
     exact hfalse _ (List.mem_of_getElem? hy)
    subst hq
    repeat (first | (apply wo_po;apply mo_index1;exact rfl;exact rfl;omega;exact trivial) | (apply wo_po;apply mo_index2;exact rfl;exact rfl;omega;exact trivial) | (apply wo_po;apply mo_load;exact rfl;exact ra;exact trivial) | (apply wo_po;apply mo_load;exact rfl;exact r1;exact trivial) | refine wlssT ?_ | refine we_seq ?_ | (refine wR ?_;try simp only [oS]) | refine wo_nil ?_ | refine wM ?_ | refine wA ?_ | refine wD ?_ | (apply wo_po;apply mo_not;exact rfl;exact gY) | refine wadd ?_ | refine wE ?_ | refine wT ?_ | refine we_skip ?_ | refine we_block ?_ | refine we_exit ?_)
    refine at_round (I:=sameBInv _ _ _ i ans.length pre.length L) (R:=fun k=>ans.length-k<ans.length-j) (j+1) (by omega) (show j+1≤ans.length by omega) ?_ .refl rfl
    refine ⟨rfl,rfl,rfl,?_,rfl,trivial⟩
    rw [show min (j+1) pre.length=min j pre.length by omega];rfl
  ·obtain rfl:j=ans.length:=by omega
   rw [show min ans.length pre.length=pre.length by omega]
   repeat (first | (apply wo_po;apply mo_index1;exact rfl;exact rfl;omega;exact trivial) | (apply wo_po;apply mo_load;exact rfl;(first | exact ra | exact rg);exact trivial) | refine wlssF ?_ | refine wneqF ?_ | refine we_seq ?_ | (refine wR ?_;try simp only [oS]) | refine wo_nil ?_ | refine wM ?_ | refine wA ?_ | refine wadd ?_ | refine wE ?_ | refine wF ?_ | refine we_skip ?_ | refine we_exit ?_)
   refine at_round (I:=sameAInv x _ _ anss.length L) (R:=fun k=>anss.length-k<anss.length-i) (i+1) (by omega) (show i+1≤anss.length by omega) ?_ .refl rfl
   exact ⟨rfl,rfl,rfl,trivial⟩
 obtain rfl:i=anss.length:=by omega
 repeat (first | refine wlssF ?_ | refine we_seq ?_ | (refine wR ?_;try simp only [oS]) | refine wo_nil ?_ | refine wM ?_ | refine wA ?_ | refine wE ?_ | refine wF ?_ | refine we_ret ?_ | refine we_exit ?_)
 (first | refine or1 Try.func33 Try.results33 hQ rfl ?_ | refine on1 Try.func33 Try.results33 hQ rfl ?_)
 exact ⟨rfl,rfl,rfl⟩
end
end
end Go.Proofs.Ytmkkanmkjfnpdaa
namespace Go.PB.Mach
section
def AnsOk (t:Th):Prop:=∃ (pre:List (List Nat)) (tail:List (Bool × List Nat)),t.ans=pre.map (fun w=>(true,w))++tail∧pre.length=t.call∧tail.length≤1∧∀ y∈tail,y.1=false
theorem modify_tail {pre:List (List Nat)} {y:Bool × List Nat} {c:Nat} {g:Bool × List Nat→Bool × List Nat} (h:pre.length=c):(pre.map (fun w=>(true,w))++[y]).modify c g=pre.map (fun w=>(true,w))++[g y]:=by
 subst h
 induction pre with
 | nil=>rfl
 | cons a l ih=>simp only [List.map_cons,List.cons_append,List.length_cons,List.modify_succ_cons,ih]
theorem begun_ok {t:Th} (h:AnsOk t):∃ (pre:List (List Nat)) (y:Bool × List Nat),t.begun.ans=pre.map (fun w=>(true,w))++[y]∧pre.length=t.begun.call∧y.1=false:=by
 obtain ⟨pre,tail,e,hp,hl,hf⟩:=h
 unfold Th.begun
 match tail,hl with
 | [],_ =>
  rw [if_pos (by rw [e];simp [hp])]
  exact ⟨pre,(false,[]),by simp [e],hp,rfl⟩
 | [y],_ =>
  rw [if_neg (by rw [e];simp [hp])]
  exact ⟨pre,y,e,hp,hf y (by simp)⟩
theorem done_ok {t:Th} {pre:List (List Nat)} {y:Bool × List Nat} (e:t.ans=pre.map (fun w=>(true,w))++[y]) (hp:pre.length=t.call):AnsOk t.done:=by
 refine ⟨pre++[y.2],[],?_,by simp [Th.done,hp],by simp,fun z hz=>by simp at hz⟩
 unfold Th.done
 simp only
 rw [e,modify_tail hp]
 simp
theorem own_ok {t:Th} {i:In} {pre:List (List Nat)} {y:Bool × List Nat} (e:t.ans=pre.map (fun w=>(true,w))++[y]) (hp:pre.length=t.call) (hy:y.1=false):AnsOk (own t i):=by
 have base:∀ u:Th,u.ans=t.ans→u.call=t.call→AnsOk u:=fun u h1 h2=>⟨pre,[y],by rw [h1,e],by rw [h2,hp],by simp,fun z hz=>by rw [List.mem_singleton.1 hz];exact hy⟩
 unfold own
 simp only
 split <;> first
  | exact base _ rfl rfl
  | (split <;> exact base _ rfl rfl)
  | skip
 ·refine ⟨pre,[(y.1,y.2++[t.r i.a])],?_,hp,by simp,fun z hz=>by rw [List.mem_singleton.1 hz];exact hy⟩
  unfold Th.tell
  simp only
  rw [e,modify_tail hp]
theorem on_ok:∀ {f:Nat} {t t':Th},AnsOk t→onF f t=some t'→AnsOk t':=by
 intro f
 induction f with
 | zero=>intro t t' _ h;cases h
 | succ f ih =>
  intro t t' ha h
  unfold onF at h
  obtain ⟨pre,y,e,hp,hy⟩:=begun_ok ha
  split at h
  ·cases h;exact ha
  split at h
  ·cases h;exact ha
  split at h
  ·cases h;exact ⟨pre,[y],e,hp,by simp,fun z hz=>by rw [List.mem_singleton.1 hz];exact hy⟩
  split at h
  ·exact ih (done_ok e hp) h
  ·exact ih (own_ok e hp hy) h
theorem op_ok {f:Nat} {w w':Wd} {t t':Th} (ha:AnsOk t) (h:opF f w t=some (w',t')):AnsOk t':=by
 unfold opF at h
 split at h
 ·simp only [Option.map_eq_some_iff] at h
  obtain ⟨u,hu,e⟩:=h
  cases e
  exact on_ok (t:={ t with pc:=t.pc+1,r:=_ }) ha hu
 ·cases h
theorem turn_ok {f:Nat} {s s':St} {k:Nat} (h:∀ t∈s.l,AnsOk t) (ht:turn f s k=some s'):∀ t∈s'.l,AnsOk t:=by
 unfold turn at ht
 split at ht
 ·rename_i t hk
  simp only [Option.map_eq_some_iff] at ht
  obtain ⟨y,hy,rfl⟩:=ht
  intro u hu
  rcases List.mem_or_eq_of_mem_set hu with hu | rfl
  ·exact h u hu
  ·exact op_ok (w':=y.1) (h t (List.mem_of_getElem? hk)) hy
 ·cases ht;exact h
theorem byOrder_ok {f:Nat}:∀ {o:List (Option Nat)} {s s':St},(∀ t∈s.l,AnsOk t)→byOrder f s o=some s'→∀ t∈s'.l,AnsOk t
 | [],s,s',h,e=>by cases e;exact h
 | none::o,s,s',h,e=>byOrder_ok (o:=o) h e
 | some k::o,s,s',h,e=>by
  unfold byOrder at e
  split at e
  ·cases ht:turn f s k with
   | none=>rw [ht] at e;cases e
   | some s1=>rw [ht] at e;exact byOrder_ok (turn_ok h ht) e
  ·exact byOrder_ok h e
theorem round_ok {f:Nat}:∀ {m k:Nat} {s:St} {q:Bool} {y:St × Bool},(∀ t∈s.l,AnsOk t)→round f m k s q=some y→∀ t∈y.1.l,AnsOk t
 | 0,k,s,q,y,h,e=>by cases e;exact h
 | m+1,k,s,q,y,h,e=>by
  unfold round at e
  split at e
  ·cases ht:turn f s k with
   | none=>rw [ht] at e;cases e
   | some s1=>rw [ht] at e;exact round_ok (turn_ok h ht) e
  ·exact round_ok h e
theorem rounds_ok {f:Nat}:∀ {g:Nat} {s s':St},(∀ t∈s.l,AnsOk t)→rounds f g s=some s'→∀ t∈s'.l,AnsOk t
 | 0,s,s',h,e=>by cases e
 | g+1,s,s',h,e=>by
  unfold rounds at e
  cases hr:round f s.l.length 0 s false with
  | none=>rw [hr] at e;cases e
  | some y =>
   rw [hr,Option.bind_some] at e
   split at e
   ·exact rounds_ok (round_ok h hr) e
   ·cases e;exact round_ok h hr
theorem begin_ok {f:Nat}:∀ {l l':List Th},(∀ t∈l,AnsOk t)→begin_ f l=some l'→∀ t∈l',AnsOk t
 | [],l',h,e=>by cases e;exact fun t ht=>by simp at ht
 | t::l,l',h,e=>by
  unfold begin_ at e
  cases ho:onF f t with
  | none=>rw [ho] at e;cases e
  | some u =>
   rw [ho,Option.bind_some] at e
   simp only [Option.map_eq_some_iff] at e
   obtain ⟨l1,h1,rfl⟩:=e
   intro v hv
   rcases List.mem_cons.1 hv with rfl | hv
   ·exact on_ok (h t (by simp)) ho
   ·exact begin_ok (fun w hw=>h w (by simp [hw])) h1 v hv
theorem play_ok {f g:Nat} {w:Wd} {o:List (Option Nat)} {l:List (List Cl)} {st:St} (h:play f g w o l=some st):∀ t∈st.l,AnsOk t:=by
 unfold play at h
 cases hb:begin_ f (l.map fun c=>{ calls:=c }) with
 | none=>rw [hb] at h;cases h
 | some l1 =>
  rw [hb,Option.bind_some] at h
  have h1:=begin_ok (fun t ht=>by
   obtain ⟨c,_,rfl⟩:=List.mem_map.1 ht
   exact ⟨[],[],rfl,rfl,by simp,fun y hy=>by simp at hy⟩) hb
  cases hbo:byOrder f ⟨w,l1,[]⟩ o with
  | none=>rw [hbo] at h;cases h
  | some s1 =>
   rw [hbo,Option.bind_some] at h
   exact rounds_ok (byOrder_ok (s:=⟨w,l1,[]⟩) h1 hbo) h
def AnsN (m:Nat) (t:Th):Prop:=t.ans.length≤m∧∀ y∈t.ans,y.2.length≤m
theorem AnsN.le {m m':Nat} {t:Th} (h:AnsN m t) (hm:m≤m'):AnsN m' t:=⟨Nat.le_trans h.1 hm,fun y hy=>Nat.le_trans (h.2 y hy) hm⟩
theorem modify_all {p:Bool × List Nat→Prop} {g:Bool × List Nat→Bool × List Nat} {l:List (Bool × List Nat)} {c:Nat} (h:∀ y∈l,p y∧p (g y)):∀ y∈l.modify c g,p y:=fun y hy=>by
 obtain ⟨i,hi⟩:=List.mem_iff_getElem?.1 hy
 rw [List.getElem?_modify] at hi
 obtain ⟨z,hz,rfl⟩:=Option.map_eq_some_iff.1 hi
 have:=h z (List.mem_of_getElem? hz)
 split
 ·exact this.2
 ·exact this.1
theorem begun_n {m:Nat} {t:Th} (h:AnsN m t):t.begun.ans.length≤m+1∧∀ y∈t.begun.ans,y.2.length≤m:=by
 unfold Th.begun
 split
 ·refine ⟨by simp [h.1],fun y hy=>?_⟩
  rcases List.mem_append.1 hy with hy | hy
  ·exact h.2 y hy
  ·rw [List.mem_singleton.1 hy];exact Nat.zero_le _
 ·exact ⟨Nat.le_succ_of_le h.1,h.2⟩
theorem own_n {m:Nat} {t:Th} {i:In} (h:t.ans.length≤m+1∧∀ y∈t.ans,y.2.length≤m):AnsN (m+1) (own t i):=by
 have base:∀ u:Th,u.ans=t.ans→AnsN (m+1) u:=fun u h1=>⟨h1▸h.1,fun y hy=>Nat.le_succ_of_le (h.2 y (h1▸hy))⟩
 unfold own
 simp only
 split <;> first
  | exact base _ rfl
  | (split <;> exact base _ rfl)
  | skip
 refine ⟨by unfold Th.tell;simpa using h.1,?_⟩
 unfold Th.tell
 refine modify_all (p:=fun y=>y.2.length≤m+1) fun y hy=>⟨Nat.le_succ_of_le (h.2 y hy),?_⟩
 simpa using h.2 y hy
theorem done_n {m:Nat} {t:Th} (h:t.ans.length≤m+1∧∀ y∈t.ans,y.2.length≤m):AnsN (m+1) t.done:=by
 refine ⟨by unfold Th.done;simpa using h.1,?_⟩
 unfold Th.done
 exact modify_all (p:=fun y=>y.2.length≤m+1) fun y hy=>⟨Nat.le_succ_of_le (h.2 y hy),Nat.le_succ_of_le (h.2 y hy)⟩
theorem on_n:∀ {f m:Nat} {t t':Th},AnsN m t→onF f t=some t'→AnsN (m+f) t':=by
 intro f
 induction f with
 | zero=>intro m t t' _ h;cases h
 | succ f ih =>
  intro m t t' ha h
  unfold onF at h
  have hb:=begun_n ha
  split at h
  ·cases h;exact ha.le (by omega)
  split at h
  ·cases h;exact AnsN.le (t:={ t with over:=true }) ha (by omega)
  split at h
  ·cases h;exact ⟨by have:=hb.1;omega,fun y hy=>by have:=hb.2 y hy;omega⟩
  split at h
  ·exact (ih (done_n hb) h).le (by omega)
  ·exact (ih (own_n hb) h).le (by omega)
theorem op_n {f m:Nat} {w w':Wd} {t t':Th} (ha:AnsN m t) (h:opF f w t=some (w',t')):AnsN (m+f) t':=by
 unfold opF at h
 split at h
 ·simp only [Option.map_eq_some_iff] at h
  obtain ⟨u,hu,e⟩:=h
  cases e
  exact on_n (t:={ t with pc:=t.pc+1,r:=_ }) ha hu
 ·cases h
def StN (f:Nat) (s:St):Prop:=∀ t∈s.l,AnsN (f*(s.tr.length+1)) t
theorem turn_n {f:Nat} {s s':St} {k:Nat} (h:StN f s) (ht:turn f s k=some s'):StN f s':=by
 unfold turn at ht
 split at ht
 ·rename_i t hk
  simp only [Option.map_eq_some_iff] at ht
  obtain ⟨y,hy,rfl⟩:=ht
  intro u hu
  show AnsN (f*((s.tr++[(k,t.mark)]).length+1)) u
  have e:f*((s.tr++[(k,t.mark)]).length+1)=f*(s.tr.length+1)+f:=by rw [List.length_append];show f*(s.tr.length+1+1)=_;rw [Nat.mul_succ]
  rw [e]
  rcases List.mem_or_eq_of_mem_set hu with hu | rfl
  ·exact (h u hu).le (by omega)
  ·exact op_n (w':=y.1) (h t (List.mem_of_getElem? hk)) hy
 ·cases ht;exact h
theorem byOrder_n {f:Nat}:∀ {o:List (Option Nat)} {s s':St},StN f s→byOrder f s o=some s'→StN f s'
 | [],s,s',h,e=>by cases e;exact h
 | none::o,s,s',h,e=>byOrder_n (o:=o) h e
 | some k::o,s,s',h,e=>by
  unfold byOrder at e
  split at e
  ·cases ht:turn f s k with
   | none=>rw [ht] at e;cases e
   | some s1=>rw [ht] at e;exact byOrder_n (turn_n h ht) e
  ·exact byOrder_n h e
theorem round_n {f:Nat}:∀ {m k:Nat} {s:St} {q:Bool} {y:St × Bool},StN f s→round f m k s q=some y→StN f y.1
 | 0,k,s,q,y,h,e=>by cases e;exact h
 | m+1,k,s,q,y,h,e=>by
  unfold round at e
  split at e
  ·cases ht:turn f s k with
   | none=>rw [ht] at e;cases e
   | some s1=>rw [ht] at e;exact round_n (turn_n h ht) e
  ·exact round_n h e
theorem rounds_n {f:Nat}:∀ {g:Nat} {s s':St},StN f s→rounds f g s=some s'→StN f s'
 | 0,s,s',h,e=>by cases e
 | g+1,s,s',h,e=>by
  unfold rounds at e
  cases hr:round f s.l.length 0 s false with
  | none=>rw [hr] at e;cases e
  | some y =>
   rw [hr,Option.bind_some] at e
   split at e
   ·exact rounds_n (round_n h hr) e
   ·cases e;exact round_n h hr
theorem begin_n {f:Nat}:∀ {l l':List Th},(∀ t∈l,AnsN 0 t)→begin_ f l=some l'→∀ t∈l',AnsN f t
 | [],l',h,e=>by cases e;exact fun t ht=>by simp at ht
 | t::l,l',h,e=>by
  unfold begin_ at e
  cases ho:onF f t with
  | none=>rw [ho] at e;cases e
  | some u =>
   rw [ho,Option.bind_some] at e
   simp only [Option.map_eq_some_iff] at e
   obtain ⟨l1,h1,rfl⟩:=e
   intro v hv
   rcases List.mem_cons.1 hv with rfl | hv
   ·have:=on_n (h t (by simp)) ho
    rwa [Nat.zero_add] at this
   ·exact begin_n (fun w hw=>h w (by simp [hw])) h1 v hv
theorem play_n {f g:Nat} {w:Wd} {o:List (Option Nat)} {l:List (List Cl)} {st:St} (h:play f g w o l=some st):StN f st:=by
 unfold play at h
 cases hb:begin_ f (l.map fun c=>{ calls:=c }) with
 | none=>rw [hb] at h;cases h
 | some l1 =>
  rw [hb,Option.bind_some] at h
  have h1:StN f ⟨w,l1,[]⟩:=fun t ht=>by
   have:=begin_n (fun t ht=>by
    obtain ⟨c,_,rfl⟩:=List.mem_map.1 ht
    exact ⟨Nat.le_refl 0,fun y hy=>by simp at hy⟩) hb t ht
   exact this.le (by show f≤f*(0+1);omega)
  cases hbo:byOrder f ⟨w,l1,[]⟩ o with
  | none=>rw [hbo] at h;cases h
  | some s1 =>
   rw [hbo,Option.bind_some] at h
   exact rounds_n (byOrder_n h1 hbo) h
end
end Go.PB.Mach
namespace Go.PB
open Go
section
def Dup (c:HProp):Prop:=∀ (L:List HProp) (h:Hp),Star (c::L) h→Star (c::c::L) h
theorem dup_fro {b o:Nat} {vs:List Value}:Dup (fro b o vs):=fun L h s=>fro_two s
theorem dup_base {W:World}:Dup (base W):=fun L h s=>by
 obtain ⟨h1,h2,s1,ha,hL⟩:=s
 exact ⟨⟨fun _ _=>none,h1.ro,fun _=>none,fun _=>none⟩,h,⟨fun _ _ _ e=>s1.r1 _ _ _ e,fun _ _ _ e=>e,fun _ _ _ e=>by simp at e,fun _ _ _ e=>e,fun _ _=>.inl rfl,fun _ _ e=>by simp at e,fun _ _ e=>e,fun _=>.inl rfl,fun _ _ e=>by simp at e,fun _ _ e=>e⟩,ha,h1,h2,s1,ha,hL⟩
theorem all_cons {c:HProp} {M L:List HProp} {h:Hp} (s:Star (all (c::M)::L) h):Star (c::all M::L) h :=
 star_map (star_open (M:=c::M) s) (fun _ z=>z) fun _ z=>star_shut z
theorem cons_all {c:HProp} {M L:List HProp} {h:Hp} (s:Star (c::all M::L) h):Star (all (c::M)::L) h :=
 star_shut (M:=c::M) (star_map s (fun _ z=>z) fun _ z=>star_open z)
theorem dup_all:∀ {M:List HProp},(∀ c∈M,Dup c)→Dup (all M)
 | [],_=>fun L h s=>star_shut (M:=[]) s
 | c::M,hM=>fun L h s=>by
  have s1:=hM c (by simp) _ _ (all_cons s)
  have s2:Star (all M::c::c::L) h:=Ent.star (.take (.there (.there .here)) (.take .here (.take .here .refl))) s1
  have s3:=dup_all (fun d hd=>hM d (by simp [hd])) _ _ s2
  have s4:Star (c::all M::c::all M::L) h:=Ent.star (.take (.there (.there .here)) (.take .here (.take (.there .here) (.take .here .refl)))) s3
  exact cons_all (star_map s4 (fun _ z=>z) fun _ z=>star_map z (fun _ z=>z) fun _ z=>cons_all z)
theorem dup_many {c:HProp} (hc:Dup c) {L:List HProp} {h:Hp} (s:Star (c::L) h):∀ n,Star (all (List.replicate n c)::c::L) h
 | 0=>star_shut (M:=[]) s
 | n+1=>by
  have s1:=dup_many hc s n
  have s2:=hc _ _ (star_swap s1)
  have s3:Star (c::all (List.replicate n c)::c::L) h:=Ent.star (.take .here (.take (.there .here) (.take .here .refl))) s2
  rw [List.replicate_succ]
  exact cons_all s3
theorem star_zip:∀ {As Bs L:List HProp} {h:Hp},As.length=Bs.length→Star (all As::all Bs::L) h→Star (all (List.zipWith (fun a b=>all [a,b]) As Bs)::L) h
 | [],[],L,h,_,s=>star_shut (M:=[]) (star_drop (star_drop s))
 | [],b::Bs,L,h,e,s=>by simp at e
 | a::As,[],L,h,e,s=>by simp at e
 | a::As,b::Bs,L,h,e,s=>by
  have s1:=all_cons s
  have s2:Star (all (b::Bs)::a::all As::L) h:=Ent.star (.take (.there (.there .here)) (.take .here (.take .here .refl))) s1
  have s3:=all_cons s2
  have s4:Star (all As::all Bs::a::b::L) h:=Ent.star (.take (.there (.there (.there .here))) (.take (.there .here) (.take (.there .here) (.take .here .refl)))) s3
  have s5:=star_zip (by simpa using e) s4
  have s6:Star (a::b::all (List.zipWith (fun a b=>all [a,b]) As Bs)::L) h:=Ent.star (.take (.there .here) (.take (.there .here) (.take .here .refl))) s5
  exact cons_all (star_shut (M:=[_,_]) s6)
theorem all_mono:∀ {As Bs L:List HProp} {h:Hp},As.length=Bs.length→(∀ (i:Nat) a b,As[i]?=some a→Bs[i]?=some b→∀ h,a h→b h)→Star (all As::L) h→Star (all Bs::L) h
 | [],[],L,h,_,_,s=>s
 | [],b::Bs,L,h,e,_,s=>by simp at e
 | a::As,[],L,h,e,_,s=>by simp at e
 | a::As,b::Bs,L,h,e,m,s=>by
  have s1:=all_cons s
  refine cons_all (star_map s1 (m 0 a b rfl rfl) fun h z=>?_)
  exact all_mono (by simpa using e) (fun i a b ha hb=>m (i+1) a b ha hb) z
theorem star_tail:∀ {M L:List HProp} {h:Hp},Star (M++L) h→Star (all L::M) h
 | [],L,h,s=>star_shut (L:=[]) (by rw [List.append_nil];exact s)
 | c::M,L,h,s=>star_swap (star_map (L:=M++L) s (fun _ z=>z) fun _ z=>star_tail z)
theorem zeros_rep {n:Nat} {v:Value}:zeros n [v]=List.replicate n v:=by
 unfold zeros
 induction n with
 | zero=>rfl
 | succ n ih=>rw [List.replicate_succ,List.flatten_cons,ih,List.replicate_succ];rfl
theorem alls_ex {Y:Type}:∀ {M:List HProp} {C:Nat→Y→HProp} {Q:Nat→Y→Prop} (hM:∀ (k:Nat) c,M[k]?=some c→∀ h,c h→∃ y,Q k y∧C k y h) {L:List HProp} {h:Hp},Star (all M::L) h →
  ∃ ys:List Y,(ys.length=M.length∧∀ (k:Nat) y,ys[k]?=some y→Q k y)∧Star (all (ys.mapIdx C)::L) h
 | [],C,Q,hM,L,h,s=>⟨[],⟨rfl,fun k y hy=>by simp at hy⟩,s⟩
 | c::M,C,Q,hM,L,h,s=>by
  obtain ⟨h1,h2,sp,hc,hr⟩:=all_cons s
  obtain ⟨y,hq,hy⟩:=hM 0 c rfl h1 hc
  obtain ⟨ys,⟨hl,hQ⟩,hs⟩:=alls_ex (C:=fun k=>C (k+1)) (Q:=fun k=>Q (k+1)) (fun k c hk=>hM (k+1) c hk) hr
  refine ⟨y::ys,⟨by simp [hl],fun k z hz=>?_⟩,?_⟩
  ·cases k with
   | zero=>cases hz;exact hq
   | succ k=>exact hQ k z hz
  ·rw [List.mapIdx_cons]
   exact cons_all ⟨h1,h2,sp,hy,hs⟩
theorem rd_item {M L:List HProp} {c:HProp} {k b o:Nat} {v:Value} (e:M[k]?=some c) (r:Rd [c] b o v):Rd (all M::L) b o v:=fun h s=>by
 obtain ⟨h1,h2,sp,hc,hr⟩:=PB.star_pick e s
 exact (Rd.of (R:=all (M.eraseIdx k)::L) .here r) h ⟨h1,h2,sp,hc,hr⟩
end
end Go.PB
namespace Go.Proofs.Ytmkkanmkjfnpdaa
open Go Go.PB
attribute [local irreducible] Mo Bin Eql Tr Wo Ap Wle
section
def gotC (gb k:Nat) (pre:List (List Nat)):HProp:=fun h=>∃ y:Value × List (Value × List Nat),y.2.map (·.2)=pre∧all [arr gb k [y.1],vec 1 y.1 (y.2.map (·.1)),all (y.2.map rowT)] h
def doneOf (t:Mach.Th):List (List Nat):=(t.ans.filter (·.1)).map (·.2)
def rgPv (gb:Nat) (q:Nat × Mach.Th):HProp:=fun h=>Star [gotC gb q.1 (doneOf q.2)] h
theorem rgPv_up {gb:Nat}:∀ q h,Star [rgPv gb q] h→rgPv gb q h:=fun q h st=>star_open (M:=[_]) st
def yesA (pre:List (List Nat)):List (Bool × List Nat):=pre.map fun w=>(true,w)
theorem yesA_len {pre:List (List Nat)}:(yesA pre).length=pre.length:=by simp [yesA]
theorem yesA_snoc {pre:List (List Nat)} {w:List Nat}:yesA pre++[(true,w)]=yesA (pre++[w]):=by simp [yesA]
theorem doneOf_yes {pre:List (List Nat)}:((yesA pre).filter (·.1)).map (·.2)=pre:=by
 induction pre with
 | nil=>rfl
 | cons a l ih=>simp only [yesA,List.map_cons] at ih ⊢;simp [List.filter_cons,ih]
theorem doneOf_T {cs:List Mach.Cl} {c p:Nat} {r:Nat→Nat} {pre:List (List Nat)} {said:List Nat}:doneOf (Mach.T cs c p r (yesA pre) said)=pre:=by
 unfold doneOf Mach.T
 simp only [List.filter_append,List.map_append,doneOf_yes]
 simp
theorem told_of {t:Mach.Th} (h:Mach.AnsOk t):Told t.ans (doneOf t):=by
 obtain ⟨pre,tail,e,hp,hl,hf⟩:=h
 have h1:tail.filter (·.1)=[]:=List.filter_eq_nil_iff.2 fun y hy=>by rw [hf y hy];decide
 have h2:doneOf t=pre:=by
  unfold doneOf
  rw [e,List.filter_append,h1,List.append_nil]
  exact doneOf_yes
 rw [h2]
 exact ⟨tail,e,hf⟩
theorem rd_all {M L:List HProp} {b o:Nat} {v:Value} (r:Rd M b o v):Rd (all M::L) b o v:=fun h s =>
 r h (star_drop (star_tail (star_open s)))
theorem rdso_vec {L F:List HProp} {a:Option Addr} {n c:Nat} {cs:List Value} (hh:Has L (vec 1 (.slice a n c) cs) F) (hn:cs.length=n*1) (hz:a=none→n=0) (hy:∀ y,a=some y→y=⟨y.block,y.off,none⟩):RdsO L a n cs:=by
 refine ⟨by omega,?_⟩
 cases a with
 | none=>exact .inl (hz rfl)
 | some y =>
  obtain ⟨b,o,sp⟩:=y
  cases hy _ rfl
  exact .inr ⟨b,o,rfl,fun i v hi=>rd_vec hh hi⟩
def Shp (v:Value) (n:Nat):Prop:=∃ a c,v=.slice a n c∧(a=none→n=0)∧∀ y,a=some y→y=⟨y.block,y.off,none⟩
theorem shp_vec {v:Value} {cs:List Value} {h:Hp} (hv:vec 1 v cs h):Shp v cs.length:=by
 obtain ⟨a,n,c,rfl,hn,_,hz,hy⟩:=vec_shape (by omega) h hv
 obtain rfl:n=cs.length:=by omega
 exact ⟨a,c,rfl,hz,hy⟩
theorem shp_rows {ι:Type} {f:ι→Value × List Nat} {l:List ι} {h:Hp} (s:all (l.map fun y=>vec 1 (f y).1 ((f y).2.map num)) h):∀ z∈l,Shp (f z).1 (f z).2.length:=fun z hz=>by
 obtain ⟨i,hi⟩:=List.mem_iff_getElem?.1 hz
 have s1:Star (all (l.map fun y=>vec 1 (f y).1 ((f y).2.map num))::[]) h:=star_one s
 obtain ⟨h1,h2,sp,hc,hr⟩:=PB.star_pick (i:=i) (c:=vec 1 (f z).1 ((f z).2.map num)) (by rw [List.getElem?_map,hi];rfl) s1
 have:=shp_vec hc
 simpa using this
def gotY (gb k:Nat) (y:Value × List (Value × List Nat)):HProp:=all [arr gb k [y.1],vec 1 y.1 (y.2.map (·.1)),all (y.2.map rowT)]
def GotQ (l:List (List (List Nat))) (k:Nat) (y:Value × List (Value × List Nat)):Prop:=l[k]?=some (y.2.map (·.2))∧Shp y.1 y.2.length∧∀ z∈y.2,Shp z.1 z.2.length
theorem gots_ex {gb:Nat} {l:List Mach.Th} {L:List HProp} {h:Hp} (s:Star (all (l.mapIdx fun k t=>rgPv gb (k,t))::L) h) :
  ∃ ys:List (Value × List (Value × List Nat)),(ys.length=l.length∧∀ (k:Nat) y,ys[k]?=some y→GotQ (l.map doneOf) k y)∧Star (all (ys.mapIdx (gotY gb))::L) h:=by
 obtain ⟨ys,⟨h1,h2⟩,h3⟩:=alls_ex (C:=gotY gb) (Q:=GotQ (l.map doneOf)) (fun k c hk h hc=>by
  rw [List.getElem?_mapIdx,Option.map_eq_some_iff] at hk
  obtain ⟨t,ht,rfl⟩:=hk
  obtain ⟨h1,h2,sp,⟨y,hy,hc⟩,_⟩:=hc
  have sg:gotY gb k y h1:=hc
  have hh:=rgPv_up (gb:=gb) (k,t)
  refine ⟨y,⟨?_,?_,?_⟩,?_⟩
  ·rw [List.getElem?_map,ht,hy];rfl
  ·obtain ⟨g1,g2,sp1,_,g3,g4,sp2,hv,_⟩:=hc
   simpa using shp_vec hv
  ·obtain ⟨g1,g2,sp1,_,g3,g4,sp2,hv,g5,g6,sp3,hr,_⟩:=hc
   exact shp_rows (f:=fun y:Value × List Nat=>y) hr
  ·have s1:Star (gotY gb k y::[]) h:=⟨h1,h2,sp,sg,‹_›⟩
   exact star_open (M:=[_,_,_]) s1) s
 exact ⟨ys,⟨by simpa using h1,h2⟩,h3⟩
theorem Rd.deep {M L F:List HProp} {c:HProp} {k b o:Nat} {v:Value} (hh:Has L (all M) F) (e:M[k]?=some c) (r:Rd [c] b o v):Rd L b o v:=Rd.of hh (rd_item e r)
theorem gots_at {gb:Nat} {l:List (List (List Nat))} {ys:List (Value × List (Value × List Nat))} {L F:List HProp} (hh:Has L (all (ys.mapIdx (gotY gb))) F) (hl:ys.length=l.length) (hq:∀ (k:Nat) y,ys[k]?=some y→GotQ l k y):GotsAt L (some ⟨gb,0,none⟩) l:=fun k pre hk=>by
 have hlt:=(List.getElem?_eq_some_iff.1 hk).1
 obtain ⟨y,hy⟩:∃ y,ys[k]?=some y:=⟨ys[k]'(by omega),List.getElem?_eq_getElem _⟩
 obtain ⟨q1,⟨a,c,ev,hz,hs⟩,q3⟩:=hq k y hy
 rw [hk] at q1
 obtain rfl:pre=y.2.map (·.2):=by simpa using q1
 have e:(ys.mapIdx (gotY gb))[k]?=some (gotY gb k y):=by rw [List.getElem?_mapIdx,hy];rfl
 refine ⟨gb,0,y.1,rfl,Rd.deep hh e (rd_all (Rd.row (k:=0) rfl (by omega))),a,c,by rw [ev];simp,fun j ws hj=>?_⟩
 rw [List.getElem?_map,Option.map_eq_some_iff] at hj
 obtain ⟨z,hz1,rfl⟩:=hj
 obtain ⟨a',c',ev',hz',hs'⟩:=q3 z (List.mem_of_getElem? hz1)
 have hjl:=(List.getElem?_eq_some_iff.1 hz1).1
 cases a with
 | none=>have:=hz rfl;omega
 | some w =>
  obtain ⟨b,o,sp⟩:=w
  cases hs _ rfl
  refine ⟨b,o,a',c',rfl,?_,fun i v hi=>?_⟩
  ·refine Rd.deep hh e (rd_all (M:=[_,_,_]) (rd_vec (cs:=y.2.map (·.1)) (by rw [ev];exact (.there .here)) ?_))
   rw [List.getElem?_map,hz1,← ev'];rfl
  ·cases a' with
   | none=>have:=hz' rfl;have:=(List.getElem?_eq_some_iff.1 hi).1;omega
   | some w' =>
    obtain ⟨b',o',sp'⟩:=w'
    cases hs' _ rfl
    have e2:(y.2.map rowT)[j]?=some (rowT z):=by rw [List.getElem?_map,hz1];rfl
    refine ⟨b',o',rfl,Rd.deep hh e (rd_all (M:=[_,_,_]) (Rd.deep (.there (.there .here)) e2 (rd_vec (n:=z.2.length) (sz:=1) (c:=c') (F:=[]) (cs:=z.2.map num) ?_ (by rw [List.getElem?_map,hi];rfl))))⟩
    have:rowT z=vec 1 (.slice (some ⟨b',o',none⟩) z.2.length c') (z.2.map num):=by unfold rowT;rw [ev']
    rw [this]
    exact .here
def ansY (_k:Nat) (y:Value × List (Bool × Value × List Nat)):HProp:=all [vec 2 y.1 (y.2.map ansV).flatten,all (y.2.map ansT)]
def AnsQ (os:List (Value × List (Bool × List Nat))) (k:Nat) (y:Value × List (Bool × Value × List Nat)):Prop:=os[k]?=some (y.1,y.2.map ansOf)∧Shp y.1 y.2.length∧∀ z∈y.2,Shp z.2.1 z.2.2.length
theorem anss_ex {os:List (Value × List (Bool × List Nat))} {L:List HProp} {h:Hp} (s:Star (all (os.map ansK)::L) h) :
  ∃ ys:List (Value × List (Bool × Value × List Nat)),(ys.length=os.length∧∀ (k:Nat) y,ys[k]?=some y→AnsQ os k y)∧Star (all (ys.mapIdx ansY)::L) h:=by
 obtain ⟨ys,⟨h1,h2⟩,h3⟩:=alls_ex (C:=ansY) (Q:=AnsQ os) (fun k c hk h hc=>by
  rw [List.getElem?_map,Option.map_eq_some_iff] at hk
  obtain ⟨y,hy,rfl⟩:=hk
  obtain ⟨al,hal,hc⟩:=hc
  refine ⟨(y.1,al),⟨?_,?_,?_⟩,hc⟩
  ·rw [hy,hal]
  ·obtain ⟨g1,g2,sp1,hv,_⟩:=hc
   obtain ⟨a,n,c,e,hn,_,hz,hs⟩:=vec_shape (by omega) _ hv
   obtain rfl:n=al.length:=by rw [flat_len (k:=2) (fun _=>rfl)] at hn;omega
   exact ⟨a,c,e,hz,hs⟩
  ·obtain ⟨g1,g2,sp1,hv,g5,g6,sp3,hr,_⟩:=hc
   exact shp_rows (f:=fun y:Bool × Value × List Nat=>y.2) hr) s
 exact ⟨ys,⟨by simpa using h1,h2⟩,h3⟩
theorem anss_at {os:List (Value × List (Bool × List Nat))} {ys:List (Value × List (Bool × Value × List Nat))} {a:Option Addr} {n c:Nat} {L F F':List HProp} (hv:Has L (vec 1 (.slice a n c) (os.map (·.1))) F') (hn:(os.map (·.1)).length=n*1) (hz:a=none→n=0) (hs:∀ y,a=some y→y=⟨y.block,y.off,none⟩)
  (hh:Has L (all (ys.mapIdx ansY)) F) (hl:ys.length=os.length) (hq:∀ (k:Nat) y,ys[k]?=some y→AnsQ os k y):AnssAt L a (os.map (·.2)):=fun k ans hk=>by
 have hlt:=(List.getElem?_eq_some_iff.1 hk).1
 simp only [List.length_map] at hlt hn
 obtain ⟨y,hy⟩:∃ y,ys[k]?=some y:=⟨ys[k]'(by omega),List.getElem?_eq_getElem _⟩
 obtain ⟨q1,⟨ya,yc,ev,yz,yh⟩,q3⟩:=hq k y hy
 rw [List.getElem?_map,q1] at hk
 obtain rfl:ans=y.2.map ansOf:=by simpa using hk.symm
 have e:(ys.mapIdx ansY)[k]?=some (ansY k y):=by rw [List.getElem?_mapIdx,hy];rfl
 cases a with
 | none=>have:=hz rfl;omega
 | some w =>
  obtain ⟨b,o,sp⟩:=w
  cases hs _ rfl
  refine ⟨b,o,y.1,rfl,rd_vec hv (by rw [List.getElem?_map,q1];rfl),ya,yc,by rw [ev];simp,fun j q hj=>?_⟩
  rw [List.getElem?_map,Option.map_eq_some_iff] at hj
  obtain ⟨z,hz1,rfl⟩:=hj
  obtain ⟨a',c',ev',hz',hs'⟩:=q3 z (List.mem_of_getElem? hz1)
  have hjl:=(List.getElem?_eq_some_iff.1 hz1).1
  cases ya with
  | none=>have:=yz rfl;omega
  | some w =>
   obtain ⟨b1,o1,sp⟩:=w
   cases yh _ rfl
   have hf:∀ i,i<2→((y.2.map ansV).flatten)[2*j+i]?=(ansV z)[i]?:=fun i hi=>flat_get (f:=ansV) (k:=2) (fun _=>rfl) _ _ _ _ hz1 hi
   refine ⟨b1,o1,a',c',rfl,?_,?_,fun i v hi=>?_⟩
   ·exact Rd.deep hh e (rd_all (M:=[_,_]) (rd_vec (i:=2*j) (cs:=(y.2.map ansV).flatten) (by rw [ev];exact .here) (hf 0 (by omega))))
   ·have:=Rd.deep (b:=b1) (o:=o1+(2*j+1)) (v:=z.2.1) hh e (rd_all (M:=[_,_]) (rd_vec (i:=2*j+1) (cs:=(y.2.map ansV).flatten) (by rw [ev];exact .here) (hf 1 (by omega))))
    rw [ev',← Nat.add_assoc] at this
    exact this
   ·cases a' with
    | none=>have:=hz' rfl;have:=(List.getElem?_eq_some_iff.1 hi).1;simp only [ansOf] at this;omega
    | some w' =>
     obtain ⟨b',o',sp'⟩:=w'
     cases hs' _ rfl
     have e2:(y.2.map ansT)[j]?=some (ansT z):=by rw [List.getElem?_map,hz1];rfl
     refine ⟨b',o',rfl,Rd.deep hh e (rd_all (M:=[_,_]) (Rd.deep (.there .here) e2 (rd_vec (n:=z.2.2.length) (sz:=1) (c:=c') (F:=[]) (cs:=z.2.2.map num) ?_ (by rw [List.getElem?_map];simp only [ansOf] at hi;rw [hi];rfl))))⟩
     have:ansT z=vec 1 (.slice (some ⟨b',o',none⟩) z.2.2.length c') (z.2.2.map num):=by unfold ansT;rw [ev']
     rw [this]
     exact .here
theorem trC_CP:∀ {l:List (Nat × Nat × Nat)},(l.map trC).flatten=trCP (l.map fun e=>(e.1,mkII e.2))
 | []=>rfl
 | e::l=>by
  have:=trC_CP (l:=l)
  simp only [List.map_cons,List.flatten_cons,trCP,this]
  rfl
theorem rdtr_vec {L F:List HProp} {a:Option Addr} {n c:Nat} {tr:List (Nat × (Int × Int))} (hh:Has L (vec 3 (.slice a n c) (trCP tr)) F) (hn:tr.length=n) (hz:a=none→n=0) (hs:∀ y,a=some y→y=⟨y.block,y.off,none⟩):RdTr L a tr:=fun i t hi=>by
 have hlt:=(List.getElem?_eq_some_iff.1 hi).1
 cases a with
 | none=>have:=hz rfl;omega
 | some w =>
  obtain ⟨b,o,sp⟩:=w
  cases hs _ rfl
  refine ⟨b,o,rfl,fun j v hj=>?_⟩
  have hjl:=(List.getElem?_eq_some_iff.1 hj).1
  rw [Nat.add_assoc]
  refine rd_vec hh ?_
  exact (flat_get (f:=fun t:Nat × (Int × Int)=>[Value.int .i64 (t.1:Nat),.int .u8 t.2.1,.int .i64 t.2.2]) (k:=3) (fun _=>rfl) _ _ _ _ hi (by simpa using hjl)).trans hj
theorem cut_le {st:Mach.St}:(Mach.St.cut st).length≤st.l.length:=by
 unfold Mach.St.cut
 exact Nat.le_trans (List.length_filter_le _ _) (by simp)
theorem star_exs {ι:Type} {P:ι→Prop} {c:ι→HProp} {L:List HProp} {h:Hp} (s:∃ y,P y∧Star (c y::L) h):Star ((fun h=>∃ y,P y∧c y h)::L) h:=by
 obtain ⟨y,hp,h1,h2,sp,hc,hr⟩:=s
 exact ⟨h1,h2,sp,⟨y,hp,hc⟩,hr⟩
theorem rdi_vec {L F:List HProp} {a:Option Addr} {n c:Nat} {l:List Nat} (hh:Has L (vec 1 (.slice a n c) (cutC l)) F) (hn:l.length=n) (hz:a=none→n=0) (hs:∀ y,a=some y→y=⟨y.block,y.off,none⟩):RdI L a l:=fun i t hi=>by
 have hlt:=(List.getElem?_eq_some_iff.1 hi).1
 cases a with
 | none=>have:=hz rfl;omega
 | some w =>
  obtain ⟨b,o,sp⟩:=w
  cases hs _ rfl
  exact ⟨b,o,rfl,rd_vec hh (by unfold cutC;rw [List.getElem?_map,hi];rfl)⟩
end
section
structure ThRo (Ro:HProp) (p8 ib rb gt qb qo nt qc gb gc k mr:Nat) (a:Option Addr) (c:Nat) (l:List (Int × Nat)):Prop where
 h1:Rd [Ro] p8 0 (.slice (some ⟨qb,qo,none⟩) nt qc)
 h2:Rd [Ro] qb (qo+k) (.slice a l.length c)
 h3:∀ (i:Nat) y,l[i]?=some y→∃ b o,a=some ⟨b,o,none⟩∧Rds [Ro] b (o+2*i) [.int .i64 y.1,.int .u64 (y.2:Nat)]
 h4:Rd [Ro] ib 0 (.int .i64 (k:Nat))
 h5:Rd [Ro] rb 0 (.pointer (some ⟨mr,0,none⟩))
 h6:Rd [Ro] gt 0 (.slice (some ⟨gb,0,none⟩) nt gc)
 hk:k<nt
 hl:l.length≤16
 ok:∀ y∈l,(-9223372036854775808≤y.1∧y.1≤9223372036854775807)∧y.2<18446744073709551616
def callsOf (n:Nat) (l:List (Int × Nat)):List Mach.Cl:=l.map fun y=>callCl n (y.1%3).toNat y.2
theorem callsOf_ring {n:Nat} {l:List (Int × Nat)} (h:∀ y∈l,y.2<18446744073709551616):MirCalls n (callsOf n l):=fun i cl hi=>by
 simp only [callsOf,List.getElem?_map,Option.map_eq_some_iff] at hi
 obtain ⟨y,hy,rfl⟩:=hi
 exact ⟨_,_,rfl,h y (List.mem_of_getElem? hy)⟩
section
variable {n j mr r b nc gb gd k:Nat} {sb says turn fin wg:Nat}
def gdN (gd nc:Nat):HProp:=all [arr gd 0 [.bool true],newsC nc]
abbrev ringG (n mr r b nc gb gd:Nat):Game:=wG (mirD n) (maddr mr r b n) (2*n+5) (mK mr r b n nc) (gdN gd nc) (rgPv gb)
abbrev ringP (n mr r b nc gd sb says turn fin gb k:Nat) (pre:List (List Nat)) (f:Nat→Nat):HProp:=plC (maddr mr r b n) (2*n+5) (mK mr r b n nc) (gdN gd nc) sb says turn fin (gotC gb k pre) f
theorem rdAllP {M L:List HProp} {b o:Nat} {v:Value} (r:Rd M b o v):Rd (all M::L) b o v:=fun h s =>
 r h (star_drop (star_tail (star_open s)))
theorem mir_at_p {pre:List (List Nat)} (h:r≠b) (hm1:mr≠r) (hm2:mr≠b) (hn:n=2^j) (hj:j≤10):MirAt (playAcc (mirD n) (maddr mr r b n) (2*n+5) (mK mr r b n nc) (m_apart h hm1 hm2) (gdN gd nc) (rgPv gb) rgPv_up sb says turn fin wg k (gotC gb k pre)) mr r b n j nc:=by
 have rK:∀ s:PlS,∀ y∈mK mr r b n nc,Rd [ringP n mr r b nc gd sb says turn fin gb k pre s.f] y.1 y.2.1 y.2.2:=fun s y hy=>rdAllP (Rd.of .here (rd_K y hy))
 refine ⟨{ hn:=hn,hk:=hj,hdr:=fun s=>rK s (r,2,_) (by simp [mK]),a0:=?_,a1:=?_,a2:=fun i hi=>?_ },fun s=>rK s (mr,3,_) (by simp [mK]),fun s=>rK s (mr,4,_) (by simp [mK]),fun j hj=>?_⟩
 ·show maddr mr r b n 0=_
  unfold maddr;rw [if_pos (by omega)];rfl
 ·show maddr mr r b n 1=_
  unfold maddr;rw [if_pos (by omega)];rfl
 ·show maddr mr r b n (2+i)=_
  unfold maddr;rw [if_pos (by omega),Nat.add_comm];rfl
 ·show maddr mr r b n (2*n+2+j)=_
  unfold maddr;rw [if_neg (by omega),Nat.add_sub_cancel_left]
theorem news_p {pre:List (List Nat)} (h:r≠b) (hm1:mr≠r) (hm2:mr≠b):News (playAcc (mirD n) (maddr mr r b n) (2*n+5) (mK mr r b n nc) (m_apart h hm1 hm2) (gdN gd nc) (rgPv gb) rgPv_up sb says turn fin wg k (gotC gb k pre)) nc where
 news:=by
  refine ⟨fun s=>all [wds (maddr mr r b n) (2*n+5) (mK mr r b n nc) s.f,arr gd 0 [.bool true],seatR sb says turn fin,gotC gb k pre],fun s h' hs=>?_,fun s h' hs=>?_⟩
  ·have s1:Star (ringP n mr r b nc gd sb says turn fin gb k pre s.f::[]) h':=star_one hs
   have s2:Star (wds (maddr mr r b n) (2*n+5) (mK mr r b n nc) s.f::gdN gd nc::seatR sb says turn fin::gotC gb k pre::[]) h':=star_open (M:=[_,_,_,_]) s1
   have s3:Star (arr gd 0 [.bool true]::newsC nc::wds (maddr mr r b n) (2*n+5) (mK mr r b n nc) s.f::seatR sb says turn fin::gotC gb k pre::[]) h':=star_open (M:=[_,_]) (star_swap s2)
   have s4:Star (wds (maddr mr r b n) (2*n+5) (mK mr r b n nc) s.f::arr gd 0 [.bool true]::seatR sb says turn fin::gotC gb k pre::newsC nc::[]) h':=Ent.star (.take (.there (.there .here)) (.take .here (.take (.there .here) (.take (.there .here) (.take .here .refl))))) s3
   exact star_swap (star_shut (M:=[_,_,_,_]) s4)
  ·have s1:Star (wds (maddr mr r b n) (2*n+5) (mK mr r b n nc) s.f::arr gd 0 [.bool true]::seatR sb says turn fin::gotC gb k pre::newsC nc::[]) h':=star_open (M:=[_,_,_,_]) (star_swap hs)
   have s2:Star (arr gd 0 [.bool true]::newsC nc::wds (maddr mr r b n) (2*n+5) (mK mr r b n nc) s.f::seatR sb says turn fin::gotC gb k pre::[]) h':=Ent.star (.take (.there .here) (.take (.there (.there (.there .here))) (.take .here .refl))) s1
   have s3:Star (gdN gd nc::wds (maddr mr r b n) (2*n+5) (mK mr r b n nc) s.f::seatR sb says turn fin::gotC gb k pre::[]) h':=star_shut (M:=[_,_]) s2
   exact star_swap s3
def thInv (n mr r b nc gb gd k sb says turn fin wg p8 ib rb gt:Nat) (l:List (Int × Nat)) (Ro:HProp) (F:List HProp):PB.Inv (Nat × List (List Nat) × PlS) TX where
 e:=fun i=>[(0,gateV sb),(1,.pointer (some ⟨p8,0,none⟩)),(2,.pointer (some ⟨ib,0,none⟩)),(3,.pointer (some ⟨rb,0,none⟩)),(4,.pointer (some ⟨gd,0,none⟩)),(5,.pointer (some ⟨gt,0,none⟩)),(7,.int .i64 (i.1:Nat))]
 L:=fun i=>ringP n mr r b nc gd sb says turn fin gb k i.2.1 i.2.2.f::Ro::F
 x:=fun i=>tx (ringG n mr r b nc gb gd) says turn fin wg (.busy i.2.2.g ((k,i.2.2.t):Nat × Mach.Th) i.2.2.n)
 ok:=fun i=>i.1≤l.length∧i.2.1.length=i.1∧Mach.onF 20 (Mach.Bt (callsOf n l) i.1 (yesA i.2.1))=some i.2.2.t∧∀ q,q<2*n+5→i.2.2.f q=i.2.2.g q
set_option maxHeartbeats 2000000 in
theorem thr_ok {p8 ib rb gt qb qo nt qc gc c:Nat} {a:Option Addr} {l:List (Int × Nat)} {Ro:HProp} (h:r≠b) (hm1:mr≠r) (hm2:mr≠b) (hn:n=2^j) (hj0:1≤j) (hj:j≤10) (O:ThRo Ro p8 ib rb gt qb qo nt qc gb gc k mr a c l) {t0:Mach.Th} (ht0:Mach.onF 20 (Mach.Bt (callsOf n l) 0 [])=some t0) :
  ThrOk (ringG n mr r b nc gb gd) (fun s=>(s,((k,t0):Nat × Mach.Th))) (.func (.func 28) #[] #[.pointer (some ⟨p8,0,none⟩),.pointer (some ⟨ib,0,none⟩),.pointer (some ⟨rb,0,none⟩),.pointer (some ⟨gd,0,none⟩),.pointer (some ⟨gt,0,none⟩)]) (all [Ro,gotC gb k []]) where
 run:=by
  refine ⟨_,_,_,rfl,inferInstance,fun sb says turn fin wg (s:Nat→Nat) m F hok=>?_⟩
  have hle:n≤1024:=by rw [hn];exact pow_le hj
  show Tr Try.prog tH _ [gateV sb,.pointer (some ⟨p8,0,none⟩),.pointer (some ⟨ib,0,none⟩),.pointer (some ⟨rb,0,none⟩),.pointer (some ⟨gd,0,none⟩),.pointer (some ⟨gt,0,none⟩)] _ (tx (ringG n mr r b nc gb gd) says turn fin wg (.busy s ((k,t0):Nat × Mach.Th) m)) _
  refine tr_star (ringP n mr r b nc gd sb says turn fin gb k [] s::Ro::F) (fun hp st=>?_) ?_
  ·have s1:Star (wds (maddr mr r b n) (2*n+5) (mK mr r b n nc) s::gdN gd nc::seatR sb says turn fin::all [Ro,gotC gb k []]::F) hp:=star_open (M:=[_,_]) st
   have s2:Star (Ro::gotC gb k []::wds (maddr mr r b n) (2*n+5) (mK mr r b n nc) s::gdN gd nc::seatR sb says turn fin::F) hp:=star_open (M:=[_,_]) (Ent.star (.take (.there (.there (.there .here))) .refl) s1)
   exact star_shut (M:=[_,_,_,_]) (Ent.star (.take (.there (.there .here)) (.take (.there (.there .here)) (.take (.there (.there .here)) (.take (.there .here) .refl)))) s2)
  refine tr_of_body Try.func28 rfl Try.ntmps28 (by simp) fun um Q _ hQ=>?_
  simp only [argE,Nat.zero_add,Nat.reduceAdd]
  repeat (first | refine we_seq ?_ | (refine wR ?_;try simp only [oS]) | refine wo_nil ?_ | refine wA ?_ | refine we_block ?_)
  refine we_loopN (thInv n mr r b nc gb gd k sb says turn fin wg p8 ib rb gt l Ro F) (fun i=>l.length-i.1) (0,[],⟨s,s,t0,m⟩) ⟨Nat.zero_le _,rfl,ht0,fun _ _=>rfl⟩ ⟨rfl,rfl,rfl,rfl,rfl,rfl,rfl,trivial⟩ .refl rfl ?_
  rintro ⟨i,pre,s⟩ ⟨hi,hpre,hon,hfg⟩
  dsimp only at hi hpre hon hfg
  simp only [thInv]
  have q1:∀ {c:HProp},Rd (c::Ro::F) p8 0 (.slice (some ⟨qb,qo,none⟩) nt qc):=fun {c}=>.there (Rd.of .here O.h1)
  have q2:∀ {c':HProp},Rd (c'::Ro::F) qb (qo+k) (.slice a l.length c):=fun {c}=>.there (Rd.of .here O.h2)
  have q4:∀ {c:HProp},Rd (c::Ro::F) ib 0 (.int .i64 (k:Nat)):=fun {c}=>.there (Rd.of .here O.h4)
  have q5:∀ {c:HProp},Rd (c::Ro::F) rb 0 (.pointer (some ⟨mr,0,none⟩)):=fun {c}=>.there (Rd.of .here O.h5)
  have hkn:=O.hk
  have hl16:=O.hl
  by_cases hlt:i<l.length
  ·obtain ⟨y,hy⟩:∃ y,l[i]?=some y:=⟨l[i],List.getElem?_eq_getElem hlt⟩
   obtain ⟨b3,o3,rfl,r3⟩:=O.h3 i y hy
   have q3:∀ {c':HProp},Rds (c'::Ro::F) b3 (o3+2*i) [.int .i64 y.1,.int .u64 (y.2:Nat)]:=fun {c} q v hq=>.there (Rd.of .here (r3 q v hq))
   obtain ⟨hy1,hy2⟩:=O.ok y (List.mem_of_getElem? hy)
   obtain ⟨kind,v⟩:=y
   simp only at hy1 hy2 q3
   have e3:=Int.emod_nonneg kind (by decide:(3:Int)≠0)
   obtain ⟨kd,hkd⟩:∃ kd:Nat,kind%3=kd:=⟨(kind%3).toNat,by omega⟩
   have hcl:(callsOf n l)[i]?=some (callCl n kd v):=by
    simp only [callsOf,List.getElem?_map,hy,Option.map_some]
    rw [hkd,Int.toNat_natCast]
   have hdone:=done_plays (addr:=maddr mr r b n) (K:=mK mr r b n nc) (A:=m_apart h hm1 hm2) (Z:=gdN gd nc) (Pv:=rgPv gb) (hPv:=rgPv_up) (sb:=sb) (says:=says) (turn:=turn) (fin:=fin) (wg:=wg) (k:=k) (Pm:=gotC gb k pre) hn hj0 hj hy2 (callsOf_ring fun y hy=>(O.ok y hy).2) hcl (by rw [yesA_len];exact hpre)
    (fun p r said hp hm=>star_one (by rw [doneOf_T];exact hm)) hon hfg
   repeat (first | (apply wo_po;apply mo_index1;exact rfl;exact rfl;omega;exact trivial) | (apply wo_po;apply mo_load;exact rfl;(first | exact q1 | exact q2 | exact q4);exact trivial) | refine wlssT ?_ | refine we_seq ?_ | (refine wR ?_;try simp only [oS]) | refine wo_nil ?_ | refine wM ?_ | refine wE ?_ | refine wT ?_ | refine we_skip ?_ | refine we_block ?_)
   refine we_draw (List.range' 0 15) (by kernel_rfl) ?_
   repeat (first | (apply ap_pure;exact rfl;exact rfl;exact trivial;intro L;apply mo_index1;exact rfl;exact rfl;omega) | (apply ap_pure;exact rfl;exact rfl;exact trivial;intro L;apply mo_index2;exact rfl;exact rfl;omega) | (apply ap_read;exact rfl;exact rfl;exact trivial;apply mo_load;exact rfl;(first | exact q1 | exact q2 | exact q4 | exact q5)) | (apply ap_read;exact rfl;exact rfl;exact trivial;apply mo_loadA (vs:=[.int .i64 kind,.int .u64 (v:Nat)]);exact rfl;exact rfl;exact q3) | refine aM ?_)
   refine ap_callR (Pd':=[]) rfl rfl (by kernel_rfl) trivial rfl rfl (.cons rfl (.cons rfl (.cons rfl .nil))) (done_tr (A:=playAcc (mirD n) (maddr mr r b n) (2*n+5) _ (m_apart h hm1 hm2) (gdN gd nc) (rgPv gb) rgPv_up sb says turn fin wg k (gotC gb k pre)) (mir_at_p h hm1 hm2 hn hj) (news_p h hm1 hm2) hy1 hkd hy2 hdone .here) (fun v L' x' _ p hp=>by cases hp) ?_
   rintro w L' x' ⟨told,s',bv,⟨hon',hfg',hok'⟩,rfl,rfl,rfl⟩
   refine ap_star (L':=wds (maddr mr r b n) (2*n+5) (mK mr r b n nc) s'.f::arr gd 0 [.bool true]::newsC nc::seatR sb says turn fin::gotC gb k pre::vec 1 bv (told.map num)::Ro::F) (fun hp st=>?_) (fun p hp=>by cases hp) ?_
   ·have s1:Star (wds (maddr mr r b n) (2*n+5) (mK mr r b n nc) s'.f::gdN gd nc::seatR sb says turn fin::gotC gb k pre::vec 1 bv (told.map num)::Ro::F) hp:=star_open (M:=[_,_,_,_]) (star_swap st)
    have s2:Star (arr gd 0 [.bool true]::newsC nc::wds (maddr mr r b n) (2*n+5) (mK mr r b n nc) s'.f::seatR sb says turn fin::gotC gb k pre::vec 1 bv (told.map num)::Ro::F) hp:=star_open (M:=[_,_]) (star_swap s1)
    exact Ent.star (.take (.there (.there .here)) (.take .here (.take .here .refl))) s2
   repeat (first | refine aM ?_ | refine aA ?_ | (apply ap_pure;exact rfl;exact rfl;exact gY;intro L;apply mo_extract;exact rfl;exact rfl) | refine ap_end ?_)
   repeat (first | refine wS ?_ | refine weqlT ?_ | refine we_seq ?_ | (refine wR ?_;try simp only [oS]) | refine wo_nil ?_ | refine wM ?_ | refine wK ?_ | refine wL ?_)
   refine we_star (gotC gb k pre::wds (maddr mr r b n) (2*n+5) (mK mr r b n nc) s'.f::gdN gd nc::seatR sb says turn fin::vec 1 bv (told.map num)::Ro::F) (fun hp st=>?_) ?_
   ·have s1:Star (arr gd 0 [.bool true]::newsC nc::wds (maddr mr r b n) (2*n+5) (mK mr r b n nc) s'.f::seatR sb says turn fin::gotC gb k pre::vec 1 bv (told.map num)::Ro::F) hp:=Ent.star (.take (.there .here) (.take (.there .here) .refl)) st
    have s2:Star (gdN gd nc::wds (maddr mr r b n) (2*n+5) (mK mr r b n nc) s'.f::seatR sb says turn fin::gotC gb k pre::vec 1 bv (told.map num)::Ro::F) hp:=star_shut (M:=[_,_]) s1
    exact Ent.star (.take (.there (.there (.there .here))) (.take (.there .here) (.take .here .refl))) s2
   refine we_ex (d:=fun (y:Value × List (Value × List Nat)) h=>y.2.map (·.2)=pre∧all [arr gb k [y.1],vec 1 y.1 (y.2.map (·.1)),all (y.2.map rowT)] h) .here fun y=>we_and .here fun hsn=>we_open .here ?_
   obtain ⟨gv,sl⟩:=y
   simp only [List.cons_append,List.nil_append] at hsn ⊢
   refine we_pure (of_has (.there .here) (vec_shape (by omega))) ?_
   rintro ⟨ga,gn,gcap,rfl,hgn,_⟩
   refine we_pure (of_has (.there (.there (.there (.there (.there (.there .here)))))) (vec_shape (by omega))) ?_
   rintro ⟨ba,bn,bcap,rfl,hbn,_⟩
   have hsl:sl.length=pre.length:=by rw [← hsn];simp
   have hgn:gn=i:=by simp at hgn;omega
   subst hgn
   have w0:Rd (arr gb k [.slice ga gn gcap]::vec 1 (.slice ga gn gcap) (sl.map (·.1))::all (sl.map rowT)::wds (maddr mr r b n) (2*n+5) (mK mr r b n nc) s'.f::gdN gd nc::seatR sb says turn fin::vec 1 (.slice ba bn bcap) (told.map num)::Ro::F) gb (0+k) (.slice ga gn gcap):=Rd.row (k:=0) rfl (by omega)
   have w4:Rd (arr gb k [.slice ga gn gcap]::vec 1 (.slice ga gn gcap) (sl.map (·.1))::all (sl.map rowT)::wds (maddr mr r b n) (2*n+5) (mK mr r b n nc) s'.f::gdN gd nc::seatR sb says turn fin::vec 1 (.slice ba bn bcap) (told.map num)::Ro::F) ib 0 (.int .i64 (k:Nat)):=Rd.of (.there (.there (.there (.there (.there (.there (.there .here))))))) O.h4
   have w6:Rd (arr gb k [.slice ga gn gcap]::vec 1 (.slice ga gn gcap) (sl.map (·.1))::all (sl.map rowT)::wds (maddr mr r b n) (2*n+5) (mK mr r b n nc) s'.f::gdN gd nc::seatR sb says turn fin::vec 1 (.slice ba bn bcap) (told.map num)::Ro::F) gt 0 (.slice (some ⟨gb,0,none⟩) nt gc):=Rd.of (.there (.there (.there (.there (.there (.there (.there .here))))))) O.h6
   refine we_draw (List.range' 0 11) (by kernel_rfl) ?_
   repeat (first | (apply ap_pure;exact rfl;exact rfl;exact trivial;intro L;apply mo_index1;exact rfl;exact rfl;omega) | (apply ap_read;exact rfl;exact rfl;exact trivial;apply mo_load;exact rfl;(first | exact w0 | exact w4 | exact w6)) | refine aM ?_)
   refine ap_loudR rfl rfl rfl rfl trivial (mo_buildSlice (sz:=1) (vs:=[.slice ba bn bcap]) rfl (.cons rfl .nil) rfl (by intro v hv;cases (List.mem_singleton.1 hv);exact rfl) (by omega)) ?_ ?_
   ·rintro v L' ⟨sb2,rfl,rfl⟩ p hp
    replace hp:=(List.mem_filter.1 hp).1
    simp only [List.mem_cons,List.not_mem_nil,or_false] at hp
    repeat (rcases hp with rfl | hp;· first | exact .inl rfl | exact .inr ⟨_,rfl,trivial,mo_load rfl (Rd.there (by first | exact w0 | exact w4 | exact w6))⟩)
   rintro v' L' ⟨sb2,rfl,rfl⟩
   refine ap_loudR rfl rfl rfl rfl trivial (mo_append (sz:=1) (new:=[.slice ba bn bcap]) rfl rfl rfl rfl (.there (.there .here)) rfl (.inr ⟨_,_,rfl,Rds.all .here⟩) (by intro v hv;cases (List.mem_singleton.1 hv);exact rfl) (by simp only [sliceLen];omega)) ?_ ?_
   ·rintro v L' rfl p hp
    replace hp:=(List.mem_filter.1 (List.mem_filter.1 hp).1).1
    simp only [List.mem_cons,List.not_mem_nil,or_false] at hp
    have v0:Rd (vec 1 v (sl.map (·.1)++[.slice ba bn bcap])::arr sb2 0 [.slice ba bn bcap]::arr gb k [.slice ga gn gcap]::all (sl.map rowT)::wds (maddr mr r b n) (2*n+5) (mK mr r b n nc) s'.f::gdN gd nc::seatR sb says turn fin::vec 1 (.slice ba bn bcap) (told.map num)::Ro::F) gb (0+k) (.slice ga gn gcap):=.there (.there (Rd.row (k:=0) rfl (by omega)))
    have v4:=Rd.of ((.there (.there (.there (.there (.there (.there (.there (.there .here)))))))):Has (vec 1 v (sl.map (·.1)++[.slice ba bn bcap])::arr sb2 0 [.slice ba bn bcap]::arr gb k [.slice ga gn gcap]::all (sl.map rowT)::wds (maddr mr r b n) (2*n+5) (mK mr r b n nc) s'.f::gdN gd nc::seatR sb says turn fin::vec 1 (.slice ba bn bcap) (told.map num)::Ro::F) Ro _) O.h4
    have v6:=Rd.of ((.there (.there (.there (.there (.there (.there (.there (.there .here)))))))):Has (vec 1 v (sl.map (·.1)++[.slice ba bn bcap])::arr sb2 0 [.slice ba bn bcap]::arr gb k [.slice ga gn gcap]::all (sl.map rowT)::wds (maddr mr r b n) (2*n+5) (mK mr r b n nc) s'.f::gdN gd nc::seatR sb says turn fin::vec 1 (.slice ba bn bcap) (told.map num)::Ro::F) Ro _) O.h6
    repeat (rcases hp with rfl | hp;· first | exact .inl rfl | exact .inr ⟨_,rfl,trivial,mo_load rfl (by first | exact v0 | exact v4 | exact v6)⟩)
   rintro v' L' rfl
   refine ap_know (of_has .here (vec_shape (by omega))) ?_
   rintro ⟨va,vn,vc,rfl,_⟩
   repeat (first | (apply ap_pure;exact rfl;exact rfl;exact trivial;intro L;apply mo_index1;exact rfl;exact rfl;omega))
   refine ap_loud rfl rfl rfl rfl rfl trivial (mo_store rfl rfl rfl (Wt.row (k:=0) (vs:=[.slice ga gn gcap]) (Nat.lt_succ_self 0) (by omega) (.there (.there .here)))) ?_
   rintro v' L' ⟨rfl,rfl⟩
   refine ap_end ?_
   repeat (first | (refine wR ?_;try simp only [oS]) | refine wo_nil ?_ | refine wM ?_ | refine wA ?_ | refine wadd ?_)
   refine at_roundS (B:=tH) (I:=thInv n mr r b nc gb gd k sb says turn fin wg p8 ib rb gt l Ro F) (R:=fun q=>l.length-q.1<l.length-gn) (gn+1,pre++[told],s') (by show l.length-(gn+1)<l.length-gn;omega) ⟨by show gn+1≤l.length;omega,by simp [hpre],by rw [← yesA_snoc];exact hon',hfg'⟩ ?_ (fun hp st=>?_) rfl
   ·exact ⟨rfl,rfl,rfl,rfl,rfl,rfl,rfl,trivial⟩
   ·have s1:Star (all (sl.map rowT)::rowT (Value.slice ba bn bcap,told)::vec 1 (.slice va vn vc) (sl.map (·.1)++[.slice ba bn bcap])::arr gb k [.slice va vn vc]::wds (maddr mr r b n) (2*n+5) (mK mr r b n nc) s'.f::gdN gd nc::seatR sb says turn fin::Ro::F) hp:=Ent.star (.take (.there (.there (.there .here))) (.take (.there (.there (.there (.there (.there (.there .here)))))) (.take .here (.drop (.take .here .refl))))) st
    have s2:=star_open s1
    have s3:Star (all ((sl++[((Value.slice ba bn bcap,told):Value × List Nat)]).map rowT)::vec 1 (.slice va vn vc) ((sl++[((Value.slice ba bn bcap,told):Value × List Nat)]).map (·.1))::arr gb k [.slice va vn vc]::wds (maddr mr r b n) (2*n+5) (mK mr r b n nc) s'.f::gdN gd nc::seatR sb says turn fin::Ro::F) hp:=star_shut (by
     rw [List.map_append,List.map_append,List.append_assoc]
     exact s2)
    have s4:=star_shut (M:=[_,_,_]) (Ent.star (.take (.there (.there .here)) (.take (.there .here) (.take .here .refl))) s3)
    have s5:Star (gotC gb k (pre++[told])::wds (maddr mr r b n) (2*n+5) (mK mr r b n nc) s'.f::gdN gd nc::seatR sb says turn fin::Ro::F) hp:=star_map s4 (fun h z=>⟨(Value.slice va vn vc,sl++[((Value.slice ba bn bcap,told):Value × List Nat)]),(show List.map (·.2) (sl++[((Value.slice ba bn bcap,told):Value × List Nat)])=pre++[told] from by rw [List.map_append];exact congrArg (·++[told]) hsn),z⟩) fun _ z=>z
    exact star_shut (M:=[_,_,_,_]) (Ent.star (.take (.there .here) (.take (.there .here) (.take (.there .here) (.take .here .refl)))) s5)
  ·obtain rfl:i=l.length:=by omega
   repeat (first | (apply wo_po;apply mo_index1;exact rfl;exact rfl;omega;exact trivial) | (apply wo_po;apply mo_load;exact rfl;(first | exact q1 | exact q2 | exact q4);exact trivial) | refine wlssF ?_ | refine we_seq ?_ | (refine wR ?_;try simp only [oS]) | refine wo_nil ?_ | refine wM ?_ | refine wE ?_ | refine wF ?_ | refine we_exit ?_)
   (first | refine or0 Try.func28 Try.results28 hQ ?_ | refine on0 Try.func28 Try.results28 hQ ?_)
   have hnone:(callsOf n l)[l.length]?=none:=List.getElem?_eq_none_iff.2 (by simp [callsOf])
   rw [Mach.on_over (f:=19) hnone] at hon
   have hst:=(Option.some.inj hon).symm
   refine ⟨s.g,((k,s.t):Nat × Mach.Th),s.n,rfl,?_,fun hp st=>?_⟩
   ·show mPlan _ (k,s.t)=none
    unfold mPlan
    rw [if_pos (by rw [hst])]
   ·have s1:Star (wds (maddr mr r b n) (2*n+5) (mK mr r b n nc) s.f::gdN gd nc::seatR sb says turn fin::gotC gb k pre::Ro::F) hp:=star_open (M:=[_,_,_,_]) st
    have s2:=star_shut (M:=[_,_]) (star_map s1 (wds_congr hfg) fun _ z=>z)
    have e:doneOf s.t=pre:=by rw [hst];exact doneOf_yes
    refine star_map s2 (fun _ z=>z) fun hq z=>star_map z (fun _ z=>z) fun hq z=>star_map z (fun hq z=>?_) fun hq z=>star_drop z
    show Star [gotC gb k (doneOf s.t)] hq
    rw [e];exact star_one z
end
end
end Go.Proofs.Ytmkkanmkjfnpdaa
namespace Go.Proofs.Ytmkkanmkjfnpdaa
open Go Go.PB
attribute [local irreducible] Mo Bin Eql Tr Wo Ap
section
theorem mo_sliceHd {P:Program} {e:Env} {ty:TypeId} {L:List HProp} {t el sz n c u:Nat} {a:Option Addr} {k:IntKind} {j:Int} {o hi:Operand} [p:SlT P t el] [s:Siz P el sz] (hx:ev e o=some (.slice a n c)) (hh:ev e hi=some (.int k j)) (hj:j=(u:Nat)) (hu:u≤c) :
  Mo P e (.slice t o none (some hi) none) ty L fun v' L'=>v'=.slice a u c∧L'=L:=by
 have h:=mo_slice (P:=P) (e:=e) (ty:=ty) (L:=L) (t:=t) (l:=0) (u:=u) hx .no (.yes hh hj) (Nat.zero_le _) hu
 have e1:(if c=0 then a else a.map (·.add (0*sz)))=a:=by
  split
  ·rfl
  ·cases a with
   | none=>rfl
   | some y=>simp [Addr.add]
 rw [e1] at h
 exact h
abbrev RW:=Option Addr × Nat × List (Int × Nat)
def rv (y:RW):Value:=.slice y.1 y.2.2.length y.2.1
def ThsAt (L:List HProp) (a:Option Addr) (rs:List RW):Prop:=∀ (i:Nat) y,rs[i]?=some y→∃ b o,a=some ⟨b,o,none⟩∧Rd L b (o+i) (rv y)∧DoAt L y.1 y.2.2∧y.2.2.length≤y.2.1
def cutR (y:RW):RW:=(y.1,y.2.1,y.2.2.take 10)
def fewR (rs:List RW):List RW:=if rs=[] then [(none,0,[])] else (rs.take 6).map cutR
section
variable {B:Hand} [Lets B] {L F:List HProp} {x:B.X}
def fewInv (x:B.X) (a:Option Addr) (c:Nat) (rs:List RW) (L:List HProp):Inv (Nat × Value) B.X where
 e:=fun i=>[(0,.slice a rs.length c),(3,i.2),(4,.int .i64 (i.1:Nat))]
 L:=fun i=>vec 1 i.2 (((rs.take i.1).map cutR).map rv)::L
 x:=fun _=>x
 ok:=fun i=>i.1≤rs.length∧i.1≤6
theorem few_tr {a:Option Addr} {c:Nat} {rs:List RW} (hr:ThsAt L a rs) :
  Tr Try.prog B 27 [.slice a rs.length c] L x fun v L' x'=>L'=vec 1 v ((fewR rs).map rv)::L∧x'=x:=by
 refine Tr.post (R:=fun v L' x'=>x'=x∧∀ h,Star L' h→Star (vec 1 v ((fewR rs).map rv)::L) h) ?_
  (by rintro v L' x' ⟨rfl,h2⟩;exact ⟨_,⟨rfl,rfl⟩,h2⟩)
 refine tr_of_body Try.func27 rfl Try.ntmps27 (by simp) fun um Q _ hQ=>?_
 simp only [argE,Nat.zero_add,Nat.reduceAdd]
 repeat (first | refine we_seq ?_ | (refine wR ?_;try simp only [oS]) | refine wo_nil ?_ | refine wA ?_ | refine we_block ?_)
 refine we_star (vec 1 (.slice none 0 0) (((rs.take 0).map cutR).map rv)::L) (fun h st=>vec_nil st) ?_
 refine we_loopN (fewInv x a c rs L) (fun i=>rs.length-i.1) (0,.slice none 0 0) ⟨Nat.zero_le _,Nat.zero_le _⟩ ⟨rfl,rfl,rfl,trivial⟩ .refl rfl ?_
 rintro ⟨i,v⟩ ⟨hil,hi4⟩
 simp only at hil hi4
 simp only [fewInv]
 refine we_pure (of_has .here (vec_shape (by omega))) ?_
 rintro ⟨va,vn,vc,rfl,hvn,_⟩
 have hvn:vn=i:=by simp at hvn;omega
 subst hvn
 by_cases hgo:vn<rs.length∧vn<6
 ·obtain ⟨hlt,h4⟩:=hgo
  obtain ⟨y,hy⟩:∃ k,rs[vn]?=some k:=⟨rs[vn],List.getElem?_eq_getElem hlt⟩
  obtain ⟨b,o,rfl,hrd,hdo,hcap⟩:=hr vn y hy
  obtain ⟨ya,yc,yl⟩:=y
  simp only [rv] at hrd hdo hcap
  have hrk:∀ {d:HProp},Rd (d::L) b (o+vn) (.slice ya yl.length yc):=fun {d}=>.there hrd
  have hmin:min (yl.length:Int) 10=((yl.take 10).length:Nat):=by rw [List.length_take];omega
  have hle16:(yl.take 10).length≤yc:=by rw [List.length_take];omega
  repeat (first | refine wlssT ?_ | refine we_seq ?_ | (refine wR ?_;try simp only [oS]) | refine wo_nil ?_ | refine wM ?_ | refine wK ?_ | refine wE ?_ | refine wT ?_ | refine we_skip ?_ | refine we_block ?_)
  refine we_draw (List.range' 0 15) (by kernel_rfl) ?_
  repeat (first | (apply ap_pure;exact rfl;exact rfl;exact trivial;intro L;apply mo_index1;exact rfl;exact rfl;omega) | (apply ap_read;exact rfl;exact rfl;exact trivial;apply mo_load;exact rfl;exact hrk) | (apply ap_pure;exact rfl;exact rfl;exact trivial;intro L;apply mo_min;exact rfl;exact rfl) | (apply ap_pure;exact rfl;exact rfl;exact trivial;intro L;apply mo_sliceHd;exact rfl;exact rfl;exact hmin;exact hle16) | refine aM ?_ | (apply ap_pure;exact rfl;exact rfl;exact gY;intro L;apply mo_len;exact rfl))
  refine ap_loudR rfl rfl rfl rfl trivial (mo_buildSlice (sz:=1) (vs:=[.slice ya (yl.take 10).length yc]) rfl (.cons rfl .nil) rfl (by intro v hv;cases (List.mem_singleton.1 hv);exact rfl) (by omega)) ?_ ?_
  ·rintro v L' ⟨sb2,rfl,rfl⟩ p hp
   replace hp:=(List.mem_filter.1 hp).1
   simp only [List.mem_cons,List.not_mem_nil,or_false] at hp
   repeat (rcases hp with rfl | hp;· first | exact .inl rfl | exact .inr ⟨_,rfl,trivial,mo_load rfl (Rd.there hrk)⟩)
   all_goals first | (subst hp;first | exact .inl rfl | exact .inr ⟨_,rfl,trivial,mo_load rfl (Rd.there hrk)⟩)
  rintro v' L' ⟨sb2,rfl,rfl⟩
  refine ap_loud rfl rfl rfl rfl rfl trivial (mo_append (sz:=1) (new:=[.slice ya (yl.take 10).length yc]) rfl rfl rfl rfl (.there .here) rfl (.inr ⟨_,_,rfl,Rds.all .here⟩) (by intro v hv;cases (List.mem_singleton.1 hv);exact rfl) (by simp only [sliceLen];omega)) ?_
  rintro v' L' rfl
  repeat (first | refine aA ?_ | refine ap_end ?_)
  repeat (first | (refine wR ?_;try simp only [oS]) | refine wo_nil ?_ | refine wM ?_ | refine wA ?_ | refine wadd ?_)
  refine at_round (I:=fewInv x (some ⟨b,o,none⟩) c rs L) (R:=fun j=>rs.length-j.1<rs.length-vn) (vn+1,v') (by show rs.length-(vn+1)<rs.length-vn;omega) ⟨by show vn+1≤rs.length;omega,by show vn+1≤6;omega⟩ ?_ ?_ rfl
  exact ⟨rfl,rfl,rfl,trivial⟩
  show Ent _ (vec 1 v' (((rs.take (vn+1)).map cutR).map rv)::_)
  rw [show ((rs.take (vn+1)).map cutR).map rv=((rs.take vn).map cutR).map rv++[.slice ya (yl.take 10).length yc] by rw [List.take_add_one,hy];simp [cutR,rv]]
  exact (.take .here (.drop .refl))
 ·have hend:rs.take vn=rs.take 6:=by
   by_cases h4:vn=6
   ·rw [h4]
   ·have:vn=rs.length:=by omega
    rw [this,List.take_length,List.take_of_length_le (by omega)]
  rw [hend]
  by_cases h0:rs=[]
  ·subst h0
   obtain rfl:vn=0:=by simp at hil;omega
   repeat (first | (apply wo_mo;apply mo_buildSlice (sz:=1) (vs:=[.slice none 0 0]);exact rfl;exact .cons rfl .nil;exact rfl;(intro v hv;cases (List.mem_singleton.1 hv);exact rfl);omega;exact trivial) | refine wlssF ?_ | refine weqlT ?_ | refine we_seq ?_ | (refine wR ?_;try simp only [oS]) | refine wo_nil ?_ | refine wM ?_ | (apply wo_no;exact rfl) | refine wJ ?_ | refine wE ?_ | refine wT ?_ | refine wF ?_ | refine we_exit ?_)
   rintro v' L' ⟨nb,rfl,rfl⟩
   repeat (first | (apply wo_mo;apply mo_append (sz:=1) (new:=[.slice none 0 0]);exact rfl;exact rfl;exact rfl;exact rfl;exact (.there .here);exact rfl;exact .inr ⟨_,_,rfl,Rds.all .here⟩;(intro v hv;cases (List.mem_singleton.1 hv);exact rfl);(simp only [sliceLen];omega);exact trivial))
   rintro v' L' rfl
   repeat (first | refine we_seq ?_ | (refine wR ?_;try simp only [oS]) | refine wo_nil ?_ | refine wM ?_ | refine wA ?_ | refine we_ret ?_)
   (first | refine or1 Try.func27 Try.results27 hQ rfl ?_ | refine on1 Try.func27 Try.results27 hQ rfl ?_)
   exact ⟨rfl,fun h st=>Ent.star (.take .here (.drop .refl)) st⟩
  ·have he:fewR rs=(rs.take 6).map cutR:=if_neg h0
   have hpos:0<rs.length:=List.length_pos_iff.2 h0
   have hvp:0<vn:=by omega
   by_cases hv:vn<rs.length
   ·obtain rfl:vn=6:=by omega
    repeat (first | refine wlssT ?_ | refine wlssF ?_ | refine weqlF ?_ | refine we_seq ?_ | (refine wR ?_;try simp only [oS]) | refine wo_nil ?_ | refine wM ?_ | refine wA ?_ | refine wK ?_ | refine wE ?_ | refine wF ?_ | refine we_ret ?_ | refine we_skip ?_ | refine we_exit ?_)
    (first | refine or1 Try.func27 Try.results27 hQ rfl ?_ | refine on1 Try.func27 Try.results27 hQ rfl ?_)
    exact ⟨rfl,fun h st=>by rw [he];exact st⟩
   ·obtain rfl:vn=rs.length:=by omega
    repeat (first | refine wlssF ?_ | refine weqlF ?_ | refine we_seq ?_ | (refine wR ?_;try simp only [oS]) | refine wo_nil ?_ | refine wM ?_ | refine wA ?_ | (apply wo_no;exact rfl) | refine wJ ?_ | refine wE ?_ | refine wF ?_ | refine we_ret ?_ | refine we_skip ?_ | refine we_exit ?_)
    (first | refine or1 Try.func27 Try.results27 hQ rfl ?_ | refine on1 Try.func27 Try.results27 hQ rfl ?_)
    exact ⟨rfl,fun h st=>by rw [he];exact st⟩
end
end
section
abbrev CY:=(Option Addr × Nat) × Nat × Mach.Cl
def clV (y:CY):List Value:=[.slice y.1.1 y.2.1 y.1.2,.slice none 0 0]
def clK (y:CY):HProp:=clC (.slice y.1.1 y.2.1 y.1.2) (.slice none 0 0) y.2.2
def cwOf (a:Option Addr) (c:Nat) (ys:List CY):CW:=⟨a,c,fun i=>match ys[i]? with | some y=>y.1 | none=>(none,0),fun _=>(none,0)⟩
theorem star_pick {c:HProp} {F:List HProp}:∀ {M:List HProp} {i:Nat} {h:Hp},M[i]?=some c→Star (M++F) h→∃ R,Star (c::R) h
 | [],i,h,hi,s=>by simp at hi
 | d::M,0,h,hi,s=>by cases hi;exact ⟨_,s⟩
 | d::M,i+1,h,hi,s=>by
  obtain ⟨h1,h2,sp,hd,hr⟩:=s
  obtain ⟨R,hR⟩:=star_pick (M:=M) (i:=i) hi hr
  refine ⟨d::R,?_⟩
  exact star_swap ⟨h1,h2,sp,hd,hR⟩
theorem code_close {a:Option Addr} {n c:Nat} {ys:List CY} {F:List HProp} (hd:∀ y∈ys,y.2.2.data=[]) {h:Hp} (s:Star (vec 2 (.slice a n c) (ys.map clV).flatten::all (ys.map clK)::F) h):codeC (cwOf a c ys) (ys.map (·.2.2)) h:=by
 intro i cl hi
 rw [List.getElem?_map,Option.map_eq_some_iff] at hi
 obtain ⟨y,hy,rfl⟩:=hi
 have hyd:=hd y (List.mem_of_getElem? hy)
 obtain ⟨a',n',c',e,hn,_,hz,hya⟩:=of_has (L:=vec 2 (.slice a n c) (ys.map clV).flatten::all (ys.map clK)::F) .here (vec_shape (by omega)) h s
 cases e
 have hlen:(ys.map clV).flatten.length=ys.length*2:=flat_len (k:=2) (fun _=>rfl) ys
 have hil:=(List.getElem?_eq_some_iff.1 hy).1
 cases a with
 | none=>have:=hz rfl;omega
 | some ad =>
  obtain ⟨cb,co,sp⟩:=ad
  cases hya _ rfl
  have key:∀ j v,(clV y)[j]?=some v→j<2→h.can ⟨cb,co+2*i+j,none⟩ v:=fun j v hj hj2=>by
   have:=(rd_vec (i:=2*i+j) (v:=v) (L:=vec 2 (.slice (some ⟨cb,co,none⟩) n c) (ys.map clV).flatten::all (ys.map clK)::F) .here (by rw [flat_get (k:=2) (fun _=>rfl) ys i j y hy hj2];exact hj)) h s
   rwa [← Nat.add_assoc] at this
  obtain ⟨R,s2⟩:=star_pick (M:=ys.map clK) (i:=i) (c:=clK y) (by rw [List.getElem?_map,hy];rfl) (star_open (star_swap s))
  have s3:Star (vec 7 (.slice y.1.1 y.2.1 y.1.2) (y.2.2.code.map inC).flatten::vec 1 (.slice none 0 0) (y.2.2.data.map num)::R) h:=star_open (M:=[_,_]) s2
  obtain ⟨ya,yn,yc,e,hn7,_,hz7,hy7⟩:=of_has (L:=vec 7 (.slice y.1.1 y.2.1 y.1.2) (y.2.2.code.map inC).flatten::vec 1 (.slice none 0 0) (y.2.2.data.map num)::R) .here (vec_shape (by omega)) h s3
  simp only [Value.slice.injEq] at e
  obtain ⟨e1,e2,e3⟩:=e
  have h7:(y.2.2.code.map inC).flatten.length=y.2.2.code.length*7:=flat_len (k:=7) (fun _=>rfl) _
  have hm:y.2.1=y.2.2.code.length:=by omega
  refine ⟨cb,co,rfl,?_,?_,fun j z hz'=>?_,fun j v hv=>?_⟩
  ·have:=key 0 _ rfl (by omega)
   simp only [cwOf,hy]
   rw [← hm];exact this
  ·have:=key 1 _ rfl (by omega)
   rw [hyd];exact this
  ·have hjl:=(List.getElem?_eq_some_iff.1 hz').1
   cases ya with
   | none=>have:=hz7 rfl;omega
   | some w =>
    obtain ⟨kb,ko,sp⟩:=w
    cases hy7 _ rfl
    refine ⟨kb,ko,by simp only [cwOf,hy];exact e1,fun m v hmv=>?_⟩
    have hm7:m<7:=(List.getElem?_eq_some_iff.1 hmv).1
    rw [e1] at s3
    have:=(rd_vec (i:=7*j+m) (v:=v) (L:=vec 7 (.slice (some ⟨kb,ko,none⟩) y.2.1 y.1.2) (y.2.2.code.map inC).flatten::vec 1 (.slice none 0 0) (y.2.2.data.map num)::R) .here (by rw [flat_get (k:=7) (fun _=>rfl) _ _ _ _ hz' hm7];exact hmv)) h s3
    rwa [← Nat.add_assoc] at this
  ·rw [hyd] at hv;simp at hv
end
section
def intC (l:List Int):List Value:=l.map fun k=>.int .i64 k
def orderF (m:Nat) (l:List Int):List Int:=(l.take 2000).map fun k=>k%((m:Int)+1)
section
variable {B:Hand} [Lets B] {L F:List HProp} {x:B.X}
def orderInv (x:B.X) (u:Value) (m:Nat) (l:List Int) (L:List HProp):Inv (Nat × Value) B.X where
 e:=fun i=>[(0,u),(1,.int .i64 (m:Nat)),(5,i.2),(6,.int .i64 (i.1:Nat))]
 L:=fun i=>vec 1 i.2 (intC ((l.take i.1).map fun k=>k%((m:Int)+1)))::L
 x:=fun _=>x
 ok:=fun i=>i.1≤l.length∧i.1≤2000
theorem order_tr {a:Option Addr} {c m:Nat} {l:List Int} (hr:RdsO L a l.length (intC l)) (hm:m<1000000) (hi:∀ k∈l,-9223372036854775808≤k∧k≤9223372036854775807) :
  Tr Try.prog B 29 [.slice a l.length c,.int .i64 (m:Nat)] L x fun v L' x'=>L'=vec 1 v (intC (orderF m l))::L∧x'=x:=by
 refine tr_of_body Try.func29 rfl Try.ntmps29 (by simp) fun um Q _ hQ=>?_
 simp only [argE,Nat.zero_add,Nat.reduceAdd]
 repeat (first | refine we_seq ?_ | (refine wR ?_;try simp only [oS]) | refine wo_nil ?_ | refine wA ?_ | refine we_block ?_)
 refine we_star (vec 1 (.slice none 0 0) (intC ((l.take 0).map fun k=>k%((m:Int)+1)))::L) (fun h st=>vec_nil st) ?_
 refine we_loopN (orderInv x (.slice a l.length c) m l L) (fun i=>l.length-i.1) (0,.slice none 0 0) ⟨Nat.zero_le _,Nat.zero_le _⟩ ⟨rfl,rfl,rfl,rfl,trivial⟩ .refl rfl ?_
 rintro ⟨i,v⟩ ⟨hil,hi2⟩
 simp only at hil hi2
 simp only [orderInv]
 refine we_pure (of_has .here (vec_shape (by omega))) ?_
 rintro ⟨va,vn,vc,rfl,hvn,_⟩
 have hvn:vn=i:=by simp [intC] at hvn;omega
 subst hvn
 by_cases hlt:vn<l.length
 ·by_cases h2:vn<2000
  ·obtain ⟨b,o,rfl,hrd⟩:=hr.rds (by omega)
   obtain ⟨k,hk⟩:∃ k,l[vn]?=some k:=⟨l[vn],List.getElem?_eq_getElem hlt⟩
   have hrk:∀ {d:HProp},Rd (d::L) b (o+vn) (.int .i64 k):=fun {d}=>.there (hrd vn _ (by simp [intC,hk]))
   repeat (first | (apply wo_po;apply mo_index1;exact rfl;exact rfl;omega;exact trivial) | (apply wo_po;apply mo_load;exact rfl;exact hrk;exact trivial) | refine wlssT ?_ | refine we_seq ?_ | (refine wR ?_;try simp only [oS]) | refine wo_nil ?_ | refine wM ?_ | refine wK ?_ | refine wadd ?_ | refine wE ?_ | refine wT ?_ | refine we_skip ?_ | refine we_block ?_)
   refine wo_call (.cons rfl (.cons rfl .nil)) trivial (within_tr (hi k (List.mem_of_getElem? hk)) (by omega)) ?_
   rintro v1 L1 x1 ⟨rfl,rfl,rfl⟩
   repeat (first | (apply wo_mo;apply mo_buildSlice (sz:=1) (vs:=[.int .i64 (k%((m:Int)+1))]);exact rfl;exact .cons rfl .nil;exact rfl;(intro v hv;cases (List.mem_singleton.1 hv);exact rfl);omega;exact trivial))
   rintro v' L' ⟨nb,rfl,rfl⟩
   repeat (first | (apply wo_mo;apply mo_append (sz:=1) (new:=[.int .i64 (k%((m:Int)+1))]);exact rfl;exact rfl;exact rfl;exact rfl;exact (.there .here);exact rfl;exact .inr ⟨_,_,rfl,Rds.all .here⟩;(intro v hv;cases (List.mem_singleton.1 hv);exact rfl);(simp only [sliceLen];omega);exact trivial))
   rintro v' L' rfl
   repeat (first | (refine wR ?_;try simp only [oS]) | refine wo_nil ?_ | refine wM ?_ | refine wA ?_ | refine wadd ?_)
   refine at_round (I:=orderInv x1 (.slice (some ⟨b,o,none⟩) l.length c) m l L) (R:=fun j=>l.length-j.1<l.length-vn) (vn+1,v') (by show l.length-(vn+1)<l.length-vn;omega) ⟨by omega,by omega⟩ ?_ ?_ rfl
   exact ⟨rfl,rfl,rfl,rfl,trivial⟩
   show Ent _ (vec 1 v' (intC ((l.take (vn+1)).map fun k=>k%((m:Int)+1)))::_)
   rw [show intC ((l.take (vn+1)).map fun k=>k%((m:Int)+1))=intC ((l.take vn).map fun k=>k%((m:Int)+1))++[.int .i64 (k%((m:Int)+1))] by rw [List.take_add_one,hk];simp [intC]]
   exact (.take .here (.drop .refl))
  ·obtain rfl:vn=2000:=by omega
   repeat (first | refine wlssT ?_ | refine wlssF ?_ | refine we_seq ?_ | (refine wR ?_;try simp only [oS]) | refine wo_nil ?_ | refine wM ?_ | refine wA ?_ | refine wK ?_ | refine wE ?_ | refine wF ?_ | refine we_ret ?_ | refine we_exit ?_)
   (first | refine or1 Try.func29 Try.results29 hQ rfl ?_ | refine on1 Try.func29 Try.results29 hQ rfl ?_)
   exact ⟨rfl,rfl⟩
 ·obtain rfl:vn=l.length:=by omega
  repeat (first | refine wlssF ?_ | refine we_seq ?_ | (refine wR ?_;try simp only [oS]) | refine wo_nil ?_ | refine wM ?_ | refine wA ?_ | (apply wo_no;exact rfl) | refine wJ ?_ | refine wE ?_ | refine wF ?_ | refine we_ret ?_ | refine we_exit ?_)
  (first | refine or1 Try.func29 Try.results29 hQ rfl ?_ | refine on1 Try.func29 Try.results29 hQ rfl ?_)
  refine ⟨?_,rfl⟩
  unfold orderF
  rw [List.take_of_length_le (by omega),List.take_of_length_le (by omega)]
end
end
end Go.Proofs.Ytmkkanmkjfnpdaa
namespace Go.Proofs.Ytmkkanmkjfnpdaa
open Go Go.PB
attribute [local irreducible] Mo Bin Eql Tr Wo Ap Wle
section
theorem startF_keep {g:Game}:∀ {ts:List (Thr g)} {s:g.σ},(∀ t∈ts,∀ s,(t.ini s).1=s)→(startF ts s).1=s
 | [],s,_=>rfl
 | t::ts,s,h=>by
  show (startF ts (t.ini s).1).1=s
  rw [h t (by simp) s]
  exact startF_keep fun u hu=>h u (by simp [hu])
section
variable {D:Wds} {U:(Nat→Nat)→HProp} {Pv:Nat × Mach.Th→HProp} {F:List HProp}
theorem rel_step {p:PS (mG D U Pv)} {k:Int} (h:∃ st,Rel p st):∃ st,Rel (takeF p k).1 st:=by
 obtain ⟨st,h⟩:=h
 by_cases h0:k<0
 ·have ht:takeF p k=(p,false):=by unfold takeF;rw [if_pos h0]
  rw [ht];exact ⟨st,h⟩
 ·obtain ⟨n,rfl⟩:∃ n:Nat,k=n:=⟨k.toNat,by omega⟩
  obtain ⟨st',_,h2,_⟩:=take_rel h n
  exact ⟨st',h2⟩
theorem rel_start {ts:List (Thr (mG D U Pv))} {cc:List (List Mach.Cl)} {s0:(mG D U Pv).σ} (hb:Begins D U Pv 0 ts cc) (h0:D.ok s0):∃ st,Rel (D:=D) (U:=U) (Pv:=Pv) ⟨(startF ts s0).1,(startF ts s0).2,[]⟩ st:=by
 obtain ⟨l,h1,h2,h3,h4,h5⟩:=begin_rel ts cc 0 s0 hb
 exact ⟨⟨D.W s0,l,[]⟩,⟨congrArg D.W h4.symm,(startF_len ts (show (mG D U Pv).σ from s0)).trans h2.symm,fun k=>(h5 k).trans (by rw [Nat.zero_add]),rfl,Nat.zero_le _,h3,(show D.ok (startF ts (show (mG D U Pv).σ from s0)).1 from h4.symm▸h0)⟩⟩
theorem rel_cut {p:PS (mG D U Pv)} {st:Mach.St} (h:Rel p st) {n:Nat} (hn:n=st.l.length):cutN (mG D U Pv) p.qs n=Mach.St.cut st:=by
 subst hn
 unfold cutN Mach.St.cut
 apply List.filter_congr
 intro k _
 have hq:=h.qs k
 cases hl:st.l[k]? with
 | none=>rw [hl] at hq;rw [hq];rfl
 | some t =>
  rw [hl] at hq
  rw [hq]
  show ((mPlan D (k,t)).isSome)=!t.over
  unfold mPlan
  cases ho:t.over <;> simp [ho]
theorem pv_list {qs:List (Nat × Mach.Th)} {l:List Mach.Th} (hq:∀ k:Nat,qs[k]?=(l[k]?).map fun t=>(k,t)):qs.map Pv=l.mapIdx fun k t=>Pv (k,t):=by
 apply List.ext_getElem?
 intro k
 rw [List.getElem?_map,List.getElem?_mapIdx,hq k]
 cases l[k]? <;> rfl
theorem mplays_tr {oa ta:Option Addr} {on oc tn tc:Nat} {order:List Int} {ts:List (Thr (mG D U Pv))} {cc:List (List Mach.Cl)} {s0:(mG D U Pv).σ} (hb:Begins D U Pv 0 ts cc) (h0:D.ok s0) (hini:∀ t∈ts,∀ s,(t.ini s).1=s) (hts:∀ t∈ts,ThrOk (mG D U Pv) t.ini t.fv t.M) (h1:0<ts.length) (h16:ts.length≤16) (hor:order.length≤16384)
  (hrt:RdsO F ta tn (ts.map Thr.fv)) (hro:RdsO F oa on (order.map fun k=>.int .i64 k)) :
  Tr Try.prog mT 30 [.slice oa on oc,.slice ta tn tc] (U s0::all (ts.map Thr.M)::F) .idle fun v L' x' =>
   ∃ tv cv st f',v=.tuple #[.agg #[tv,cv],.int .i64 0]∧x'=.idle∧Mach.play D.fu 16385 (D.W s0) (order.map fun k=>if k<0 then none else some k.toNat) cc=some st∧st.w=D.W f'∧st.tr.length≤16384∧st.l.length=cc.length ∧
    L'=vec 3 tv (trCP (st.tr.map fun e=>(e.1,mkII e.2)))::vec 1 cv (cutC (Mach.St.cut st))::U f'::all (st.l.mapIdx fun k t=>Pv (k,t))::F:=by
 obtain ⟨st,hp,hr,hl⟩:=play_rel (o:=order) hb h0
 refine Tr.mono (plays_tr (g:=mG D U Pv) (order:=order) (ts:=ts) (s0:=s0) (fun p=>∃ st,Rel p st) (fun j hj=>?_) (rel_start hb h0) (fun p k h=>rel_step h) (fun p ⟨st,h⟩ _=>h.ok) (fun _ _ z=>z) hts h1 h16 hor hrt hro) ?_
 ·have e:(startF (ts.take j) s0).1=s0:=startF_keep fun t ht=>hini t (List.mem_of_mem_take ht)
  rw [e];exact h0
 ·rintro v L' x' ⟨tv,cv,rfl,rfl,rfl⟩
  refine ⟨tv,cv,st,(playF ts s0 order).s,rfl,rfl,hp,hr.w,hr.le,hl,?_⟩
  rw [hr.tr,rel_cut hr (by rw [hl,hb.len])]
  exact congrArg (fun z=>vec 3 tv (trCP (st.tr.map fun e=>(e.1,mkII e.2)))::vec 1 cv (cutC (Mach.St.cut st))::U (playF ts s0 order).s::all z::F) (pv_list (Pv:=Pv) hr.qs)
end
end
section
theorem row_cells {b:Nat} {v:Value} {L:List HProp}:∀ (n o:Nat) {h:Hp},Star (arr b o (List.replicate n v)::L) h→Star (all ((List.range' o n).map fun i=>arr b i [v])::L) h
 | 0,o,h,s=>star_shut (M:=[]) (star_drop s)
 | n+1,o,h,s=>by
  rw [List.replicate_succ] at s
  have s1:Star (arr b o [v]::arr b (o+1) (List.replicate n v)::L) h:=star_cut (us:=[v]) s
  rw [List.range'_succ,List.map_cons]
  exact cons_all (star_map s1 (fun _ z=>z) fun _ z=>row_cells n (o+1) z)
theorem got_nil {gb i:Nat}:∀ h,arr gb i [.slice none 0 0] h→gotC gb i [] h:=fun h z=>by
 refine ⟨(.slice none 0 0,[]),rfl,?_⟩
 have s:Star (arr gb i [.slice none 0 0]::[]) h:=star_one z
 have s1:Star (vec 1 (.slice none 0 0) []::all []::arr gb i [.slice none 0 0]::[]) h:=vec_nil (star_shut (M:=[]) s)
 exact Ent.star (.take (.there (.there .here)) (.take .here (.take .here .refl))) s1
theorem vec_row {b o n c:Nat} {cs:List Value}:∀ h,vec 1 (.slice (some ⟨b,o,none⟩) n c) cs h→∃ sp,arr b o (cs++sp) h:=fun h z=>by
 rcases z with ⟨e,_⟩ | ⟨b',o',n',c',sp,e,h1,h2,h3,h4⟩
 ·cases e
 ·cases e;exact ⟨sp,h4⟩
abbrev TH:=Nat × (Option Addr × Nat × List CY)
def boxes (ts:List TH):List HProp:=ts.mapIdx fun i y=>arr y.1 0 [.int .i64 (i:Nat)]
def thM (RoS:HProp) (gb i:Nat) (t:TH):HProp:=all [all [RoS,arr t.1 0 [.int .i64 (i:Nat)]],gotC gb i []]
theorem deal {RoS:HProp} (hd:Dup RoS) {gb:Nat} {ts:List TH} {L:List HProp} {h:Hp} (s:Star (RoS::all (boxes ts)::arr gb 0 (List.replicate ts.length (.slice none 0 0))::L) h):Star (all (ts.mapIdx (thM RoS gb))::RoS::L) h:=by
 have s1:=dup_many hd s ts.length
 have s2:Star (all (List.replicate ts.length RoS)::all (boxes ts)::arr gb 0 (List.replicate ts.length (.slice none 0 0))::RoS::L) h:=Ent.star (.take .here (.take (.there .here) (.take (.there .here) (.take .here .refl)))) s1
 have s3:=star_zip (by simp [boxes]) s2
 have s4:=row_cells ts.length 0 (star_swap s3)
 have s5:Star (all ((List.range' 0 ts.length).map fun i=>gotC gb i [])::_) h:=all_mono (by simp) (fun i a b ha hb=>by
  rw [List.getElem?_map,Option.map_eq_some_iff] at ha hb
  obtain ⟨k,hk,rfl⟩:=ha
  obtain ⟨k',hk',rfl⟩:=hb
  rw [hk] at hk'
  cases hk'
  exact got_nil) s4
 have s6:=star_zip (by simp [boxes]) (star_swap s5)
 have e:List.zipWith (fun a b=>all [a,b]) (List.zipWith (fun a b=>all [a,b]) (List.replicate ts.length RoS) (boxes ts)) ((List.range' 0 ts.length).map fun i=>gotC gb i [])=ts.mapIdx (thM RoS gb):=by
  apply List.ext_getElem?
  intro i
  by_cases hi:i<ts.length
  ·simp [boxes,thM,hi,List.getElem?_zipWith,List.getElem?_range']
  ·have h1:(ts.mapIdx (thM RoS gb))[i]?=none:=List.getElem?_eq_none_iff.2 (by simp;omega)
   rw [h1]
   apply List.getElem?_eq_none_iff.2
   simp [boxes];omega
 rw [e] at s6
 exact s6
def t0Of (t:TH):Mach.Th:=(Mach.onF 20 (Mach.Bt (t.2.2.2.map (·.2.2)) 0 [])).getD (Mach.Bt [] 0 [])
abbrev rpF (p8 rb gd gt:Nat) (y:TH):Value:=.func (.func 28) #[] #[.pointer (some ⟨p8,0,none⟩),.pointer (some ⟨y.1,0,none⟩),.pointer (some ⟨rb,0,none⟩),.pointer (some ⟨gd,0,none⟩),.pointer (some ⟨gt,0,none⟩)]
def thrsOf (n mr r b nc p8 rb gd gt gb:Nat) (RoS:HProp) (ts:List TH):List (Thr (ringG n mr r b nc gb gd)):=ts.mapIdx fun i t=>⟨rpF p8 rb gd gt t,fun s=>(s,((i,t0Of t):Nat × Mach.Th)),thM RoS gb i t⟩
def ccOf (ts:List TH):List (List Mach.Cl):=ts.map fun t=>t.2.2.2.map (·.2.2)
theorem thrs_begin {n j mr r b nc p8 rb gd gt gb:Nat} {RoS:HProp} {ts:List TH} (hn:n=2^j) (hj0:1≤j) (hj:j≤10) (hc:∀ t∈ts,MirCalls n (t.2.2.2.map (·.2.2))):Begins (mirD n) (fun f=>all [wds (maddr mr r b n) (2*n+5) (mK mr r b n nc) f,gdN gd nc]) (rgPv gb) 0 (thrsOf n mr r b nc p8 rb gd gt gb RoS ts) (ccOf ts) where
 len:=by simp [thrsOf,ccOf]
 ini:=fun k t c ht hcc=>by
  simp only [ccOf,List.getElem?_map,Option.map_eq_some_iff] at hcc
  obtain ⟨y,hy,rfl⟩:=hcc
  simp only [thrsOf,List.getElem?_mapIdx,hy,Option.map_some,Option.some.injEq] at ht
  subst ht
  obtain ⟨t',h1,h2,h3⟩:=mirror_begin hn hj0 hj (hc y (List.mem_of_getElem? hy))
  refine ⟨t',h2,h3,fun s=>?_⟩
  show (s,((k,t0Of y):Nat × Mach.Th))=_
  unfold t0Of
  rw [h1,Nat.zero_add];rfl
abbrev roS (qb qo qc p8 rb gt gb mr:Nat) (rs:List RW) (sp:List Value) (L:List HProp):HProp:=all [fro qb qo (rs.map rv++sp),fro p8 0 [.slice (some ⟨qb,qo,none⟩) rs.length qc],fro rb 0 [.pointer (some ⟨mr,0,none⟩)],fro gt 0 [.slice (some ⟨gb,0,none⟩) rs.length rs.length],all L]
theorem thrs_ok {n j mr r b nc p8 rb gd gt gb qb qo qc:Nat} {rs:List RW} {sp:List Value} {L:List HProp} {ts:List TH} (hne:r≠b) (hm1:mr≠r) (hm2:mr≠b) (hn:n=2^j) (hj0:1≤j) (hj:j≤10) (hrow:∀ (i:Nat) y,rs[i]?=some y→DoAt L y.1 y.2.2∧y.2.2.length≤10) (hts:ts.length=rs.length)
  (hg:∀ (i:Nat) t y,ts[i]?=some t→rs[i]?=some y→t.2.2.2.map (·.2.2)=callsOf n y.2.2):∀ t∈thrsOf n mr r b nc p8 rb gd gt gb (roS qb qo qc p8 rb gt gb mr rs sp L) ts,ThrOk (ringG n mr r b nc gb gd) t.ini t.fv t.M:=by
 intro t ht
 obtain ⟨i,hi⟩:=List.mem_iff_getElem?.1 ht
 simp only [thrsOf,List.getElem?_mapIdx,Option.map_eq_some_iff] at hi
 obtain ⟨y,hy,rfl⟩:=hi
 have hil:=(List.getElem?_eq_some_iff.1 hy).1
 obtain ⟨z,hz⟩:∃ z,rs[i]?=some z:=⟨rs[i]'(by omega),List.getElem?_eq_getElem (by omega)⟩
 obtain ⟨hdo,h16⟩:=hrow i z hz
 have hcl:=hg i y z hy hz
 obtain ⟨t',h1,_,_⟩:=mirror_begin hn hj0 hj (callsOf_ring (n:=n) (l:=z.2.2) fun w hw=>(hdo.rng w hw).2)
 have ht0:t0Of y=t':=by unfold t0Of;rw [hcl,h1];rfl
 have lift:∀ {b o v},Rd [fro qb qo (rs.map rv++sp),fro p8 0 [.slice (some ⟨qb,qo,none⟩) rs.length qc],fro rb 0 [.pointer (some ⟨mr,0,none⟩)],fro gt 0 [.slice (some ⟨gb,0,none⟩) rs.length rs.length],all L] b o v→Rd [all [roS qb qo qc p8 rb gt gb mr rs sp L,arr y.1 0 [.int .i64 (i:Nat)]]] b o v:=fun h=>rd_all (rd_all h)
 have O:ThRo (all [roS qb qo qc p8 rb gt gb mr rs sp L,arr y.1 0 [.int .i64 (i:Nat)]]) p8 y.1 rb gt qb qo rs.length qc gb rs.length i mr z.1 z.2.1 z.2.2 :=
  {
   h1:=lift (.there (Rd.fro (k:=0) rfl rfl))
   h2:=lift (Rd.fro (k:=i) (by rw [List.getElem?_append_left (by rw [List.length_map];omega),List.getElem?_map,hz];rfl) rfl)
   h3:=fun q w hw=>by
    obtain ⟨b',o',e,r1,r2⟩:=hdo.at_ q w hw
    refine ⟨b',o',e,fun m v hm=>?_⟩
    match m,hm with
    | 0,hm=>cases hm;exact lift (.there (.there (.there (.there (rd_all r1)))))
    | 1,hm=>cases hm;exact lift (.there (.there (.there (.there (rd_all r2)))))
   h4:=rd_all (.there (.row0 rfl))
   h5:=lift (.there (.there (Rd.fro (k:=0) rfl rfl)))
   h6:=lift (.there (.there (.there (Rd.fro (k:=0) rfl rfl))))
   hk:=by omega
   hl:=Nat.le_trans h16 (by decide)
   ok:=hdo.rng }
 show ThrOk (ringG n mr r b nc gb gd) (fun s=>(s,((i,t0Of y):Nat × Mach.Th))) (rpF p8 rb gd gt y) (thM _ gb i y)
 rw [ht0]
 exact thr_ok hne hm1 hm2 hn hj0 hj O h1
theorem thrs_M {n mr r b nc p8 rb gd gt gb:Nat} {RoS:HProp} {ts:List TH}:(thrsOf n mr r b nc p8 rb gd gt gb RoS ts).map Thr.M=ts.mapIdx (thM RoS gb):=by
 apply List.ext_getElem?
 intro k
 simp only [thrsOf,List.getElem?_map,List.getElem?_mapIdx]
 cases ts[k]? <;> rfl
theorem thrs_fv {n mr r b nc p8 rb gd gt gb:Nat} {RoS:HProp} {ts:List TH}:(thrsOf n mr r b nc p8 rb gd gt gb RoS ts).map Thr.fv=ts.map (rpF p8 rb gd gt):=by
 apply List.ext_getElem?
 intro k
 simp only [thrsOf,List.getElem?_map,List.getElem?_mapIdx]
 cases ts[k]? <;> rfl
theorem thrs_ini {n mr r b nc p8 rb gd gt gb:Nat} {RoS:HProp} {ts:List TH}:∀ t∈thrsOf n mr r b nc p8 rb gd gt gb RoS ts,∀ s,(t.ini s).1=s:=fun t ht s=>by
 obtain ⟨i,hi⟩:=List.mem_iff_getElem?.1 ht
 simp only [thrsOf,List.getElem?_mapIdx,Option.map_eq_some_iff] at hi
 obtain ⟨y,hy,rfl⟩:=hi
 rfl
end
end Go.Proofs.Ytmkkanmkjfnpdaa
namespace Go.Proofs.Ytmkkanmkjfnpdaa
open Go Go.PB
attribute [local irreducible] Mo Bin Eql Tr Wo Ap Wle
attribute [local instance] Pass.of_no
section
def thC1 (y:TH):Value:=.slice y.2.1 y.2.2.2.length y.2.2.1
def thCode (y:TH):HProp:=codeC (cwOf y.2.1 y.2.2.1 y.2.2.2) (y.2.2.2.map (·.2.2))
def thGood (n:Nat) (rs:List RW) (ts:List TH):Prop:=∀ (i:Nat) t y,ts[i]?=some t→rs[i]?=some y→t.2.2.2.map (·.2.2)=callsOf n y.2.2
def rpFix (p8 rb gd gt gb mr r b nc n:Nat) (qv:Value) (rs:List RW) (L:List HProp):List HProp :=
 arr gd 0 [.bool true]::arr gt 0 [.slice (some ⟨gb,0,none⟩) rs.length rs.length]::arr gb 0 (zeros rs.length [.slice none 0 0])::arr rb 0 [.pointer (some ⟨mr,0,none⟩)]::wds (maddr mr r b n) (2*n+5) (mK mr r b n nc) (seqs n)::arr p8 0 [qv]::vec 1 qv (rs.map rv)::newsC nc::L
def rpOut (p8 rb gd gt gb mr r b nc n:Nat) (qv ov:Value) (rs:List RW) (L:List HProp):PB.Inv (Nat × Nat × Value × Value × List TH) MX where
 e:=fun i=>[(2,ov),(7,.int .i64 (n:Nat)),(8,.pointer (some ⟨p8,0,none⟩)),(9,.pointer (some ⟨rb,0,none⟩)),(11,.pointer (some ⟨gt,0,none⟩)),(12,.pointer (some ⟨gd,0,none⟩)),(13,i.2.2.1),(14,i.2.2.2.1),(15,.pointer (some ⟨i.2.1,0,none⟩))]
 L:=fun i=>arr i.2.1 0 [.int .i64 (i.1:Nat)]::vec 1 i.2.2.1 (i.2.2.2.2.map (rpF p8 rb gd gt))::vec 1 i.2.2.2.1 (i.2.2.2.2.map thC1)::all (boxes i.2.2.2.2)::all (i.2.2.2.2.map thCode)::rpFix p8 rb gd gt gb mr r b nc n qv rs L
 x:=fun _=>.idle
 ok:=fun i=>i.1≤rs.length∧i.2.2.2.2.length=i.1∧thGood n rs i.2.2.2.2
def rpIn (p8 rb gd gt gb mr r b nc n i ib:Nat) (qv ov tv cv:Value) (rs:List RW) (ts:List TH) (row:List (Int × Nat)) (fv:Value) (L:List HProp):PB.Inv (Nat × Value × List CY) MX where
 e:=fun k=>[(2,ov),(7,.int .i64 (n:Nat)),(8,.pointer (some ⟨p8,0,none⟩)),(9,.pointer (some ⟨rb,0,none⟩)),(11,.pointer (some ⟨gt,0,none⟩)),(12,.pointer (some ⟨gd,0,none⟩)),(13,tv),(14,cv),(15,.pointer (some ⟨ib,0,none⟩)),(16,k.2.1),(17,.int .i64 (k.1:Nat))]
 L:=fun k=>vec 2 k.2.1 (k.2.2.map clV).flatten::all (k.2.2.map clK)::arr ib 0 [.int .i64 (i:Nat)]::vec 1 tv (ts.map (rpF p8 rb gd gt)++[fv])::vec 1 cv (ts.map thC1)::all (boxes ts)::all (ts.map thCode)::rpFix p8 rb gd gt gb mr r b nc n qv rs L
 x:=fun _=>.idle
 ok:=fun k=>k.1≤row.length∧k.2.2.length=k.1∧k.2.2.map (·.2.2)=(callsOf n row).take k.1
theorem rd_lift {L:List HProp}:∀ (M:List HProp) {b o:Nat} {v:Value},Rd L b o v→Rd (M++L) b o v
 | [],b,o,v,h=>h
 | c::M,b,o,v,h=>.there (rd_lift M h)
theorem few_at {L:List HProp} {a:Option Addr} {rs:List RW} (h:ThsAt L a rs):∀ (i:Nat) y,(fewR rs)[i]?=some y→DoAt L y.1 y.2.2∧y.2.2.length≤10:=by
 intro i y hy
 unfold fewR at hy
 split at hy
 ·have:y=(none,0,[]):=by
   have:=List.mem_of_getElem? hy
   simpa using this
  subst this
  exact ⟨⟨fun z hz=>by simp at hz,fun j z hz=>by simp at hz⟩,by simp⟩
 ·rw [List.getElem?_map,Option.map_eq_some_iff] at hy
  obtain ⟨z,hz,rfl⟩:=hy
  rw [List.getElem?_take] at hz
  split at hz
  ·obtain ⟨b,o,_,_,hd,_⟩:=h i z hz
   refine ⟨⟨fun w hw=>hd.rng w (List.mem_of_mem_take hw),fun j w hw=>?_⟩,by simp only [cutR,List.length_take];omega⟩
   simp only [cutR,List.getElem?_take] at hw
   split at hw
   ·exact hd.at_ j w hw
   ·cases hw
  ·cases hz
theorem callCl_data {n kd v:Nat}:(callCl n kd v).data=[]:=by
 unfold callCl
 split
 ·rfl
 split <;> rfl
theorem boxes_snoc {ts:List TH} {t:TH}:boxes (ts++[t])=boxes ts++[arr t.1 0 [.int .i64 (ts.length:Nat)]]:=by
 unfold boxes
 rw [List.mapIdx_append]
 simp
theorem thGood_snoc {n:Nat} {rs:List RW} {ts:List TH} {t:TH} {y:RW} (h:thGood n rs ts) (hy:rs[ts.length]?=some y) (ht:t.2.2.2.map (·.2.2)=callsOf n y.2.2):thGood n rs (ts++[t]):=fun i u z hu hz=>by
 by_cases hi:i<ts.length
 ·rw [List.getElem?_append_left hi] at hu
  exact h i u z hu hz
 ·rw [List.getElem?_append_right (by omega)] at hu
  have hlt:=(List.getElem?_eq_some_iff.1 hu).1
  simp only [List.length_cons,List.length_nil] at hlt
  obtain rfl:i=ts.length:=by omega
  rw [Nat.sub_self] at hu
  cases hu
  rw [hy] at hz
  cases hz
  exact ht
theorem rdso_lift {L:List HProp} (M:List HProp) {a:Option Addr} {n:Nat} {vs:List Value} (h:RdsO L a n vs):RdsO (M++L) a n vs :=
 ⟨h.1,h.2.imp id fun ⟨b,o,e,r⟩=>⟨b,o,e,fun i v hi=>rd_lift M (r i v hi)⟩⟩
theorem seqs_ok {n:Nat} (h:n≤1024):(mirD n).ok (seqs n):=fun i hi=>by
 unfold seqs
 split <;> omega
def ccK (ts:List TH):Calls:=ts.map fun t=>(cwOf t.2.1 t.2.2.1 t.2.2.2,t.2.2.2.map (·.2.2))
theorem ccK_calls {ts:List TH}:(ccK ts).map (·.2)=ccOf ts:=by
 simp only [ccK,ccOf,List.map_map];rfl
theorem ccK_v {ts:List TH}:(ccK ts).map cvK=ts.map thC1:=by
 simp only [ccK,List.map_map]
 apply List.map_congr_left
 intro t _
 show Value.slice t.2.1 (t.2.2.2.map (·.2.2)).length t.2.2.1=Value.slice t.2.1 t.2.2.2.length t.2.2.1
 rw [List.length_map]
theorem codes_ok {n:Nat} {ts:List TH} {F:List HProp} (hn:n≤1024) (hl:ts.length<1000) (hc:∀ t∈ts,MirCalls n (t.2.2.2.map (·.2.2))) (h16:∀ t∈ts,t.2.2.2.length<1000000):CallsOk (all (ts.map thCode)::F) (ccK ts) where
 n:=by simpa [ccK] using hl
 obs:=fun y hy h s=>by
  obtain ⟨t,ht,rfl⟩:=List.mem_map.1 hy
  obtain ⟨i,hi⟩:=List.mem_iff_getElem?.1 ht
  obtain ⟨R,hR⟩:=star_pick (M:=ts.map thCode) (i:=i) (c:=thCode t) (by rw [List.getElem?_map,hi];rfl) (star_open s)
  obtain ⟨h1,h2,sp,hc1,_⟩:=hR
  exact code_mono sp hc1
 ok:=fun y hy=>by
  obtain ⟨t,ht,rfl⟩:=List.mem_map.1 hy
  rw [List.all_eq_true]
  intro cl hcl
  obtain ⟨i,hi⟩:=List.mem_iff_getElem?.1 hcl
  obtain ⟨kd,v,rfl,hv⟩:=hc t ht i cl hi
  exact call_ok hn hv
 len:=fun y hy=>by
  obtain ⟨t,ht,rfl⟩:=List.mem_map.1 hy
  simpa using h16 t ht
section
variable {B:Hand} [Lets B] {L:List HProp} {x:B.X}
theorem pwidth_tr {n:Int} (hn:-9223372036854775808≤n∧n≤9223372036854775807) :
  Tr Try.prog B 26 [.int .i64 n] L x fun v L' x'=>∃ k:Nat,1≤k∧k≤3∧v=.int .i64 ((2^k:Nat):Int)∧L'=L∧x'=x:=by
 have h1:=Int.emod_nonneg n (by omega:(3:Int)≠0)
 have h2:=Int.emod_lt_of_pos n (by omega:(0:Int)<3)
 refine tr_of_body Try.func26 rfl Try.ntmps26 (by simp) fun um Q _ hQ=>?_
 simp only [argE,Nat.zero_add,Nat.reduceAdd]
 repeat (first | refine we_seq ?_ | (refine wR ?_;try simp only [oS]) | refine wo_nil ?_ | refine wM ?_ | refine wA ?_)
 refine wo_call (.cons rfl (.cons rfl .nil)) trivial (within_tr hn (by omega)) ?_
 rintro v L' x' ⟨rfl,rfl,rfl⟩
 obtain ⟨k,hk⟩:∃ k:Nat,n%3=k:=⟨(n%3).toNat,by omega⟩
 rw [hk]
 have hk3:k≤2:=by omega
 have hw:IntKind.i64.wrap (2*2^(min (k:Int).toNat IntKind.i64.bits))=((2^(k+1):Nat):Int):=by
  have:k=0∨k=1∨k=2:=by omega
  rcases this with rfl | rfl | rfl <;> rfl
 repeat (first | (apply wo_po;apply mo_bin;exact rfl;exact rfl;apply bin_shl;omega;exact hw;exact gY) | refine wo_nil ?_ | refine wA ?_ | refine we_ret ?_)
 (first | refine or1 Try.func26 Try.results26 hQ rfl ?_ | refine on1 Try.func26 Try.results26 hQ rfl ?_)
 exact ⟨k+1,by omega,by omega,rfl,rfl,rfl⟩
end
set_option maxHeartbeats 4000000 in
theorem rplays_tr {L:List HProp} {slots:Int} {ta oa:Option Addr} {tc oc:Nat} {rs0:List RW} {order:List Int} (hL:Dup (all L)) (hs:-9223372036854775808≤slots∧slots≤9223372036854775807) (hr0:ThsAt L ta rs0) (hro:RdsO L oa order.length (intC order)) (hoi:∀ k∈order,-9223372036854775808≤k∧k≤9223372036854775807) :
  Tr Try.prog mT 6 [.int .i64 slots,.slice ta rs0.length tc,.slice oa order.length oc] L .idle fun v L' x'=>v=.bool true∧x'=.idle:=by
 refine tr_of_body Try.func6 rfl Try.ntmps6 (by simp) fun um Q _ hQ=>?_
 simp only [argE,Nat.zero_add,Nat.reduceAdd]
 repeat (first | refine we_seq ?_ | (refine wR ?_;try simp only [oS]) | refine wo_nil ?_ | refine wM ?_ | refine wA ?_)
 refine wo_call (.cons rfl .nil) trivial (pwidth_tr hs) ?_
 rintro v1 L1 x1 ⟨j,hj0,hj3,rfl,eL,rfl⟩
 subst L1
 obtain ⟨n,hn⟩:∃ n,n=2^j:=⟨_,rfl⟩
 have hj:j≤10:=by omega
 rw [← hn]
 have hle:n≤1024:=by rw [hn];exact pow_le hj
 have hpos:0<n:=by rw [hn];exact Nat.two_pow_pos j
 repeat (first | refine we_seq ?_ | (refine wR ?_;try simp only [oS]) | refine wo_nil ?_ | refine wM ?_ | refine wA ?_)
 refine wo_call (.cons rfl .nil) trivial (few_tr hr0) ?_
 rintro qv L2 x1 ⟨rfl,rfl⟩
 have hrs:0<(fewR rs0).length∧(fewR rs0).length≤6:=by
  unfold fewR
  split
  ·simp
  ·rename_i h0
   have:=List.length_pos_iff.2 h0
   simp only [List.length_map,List.length_take];omega
 have hrow:=few_at hr0
 generalize hrsd:fewR rs0=rs at hrs hrow
 refine wo_pure (of_has .here (vec_shape (by omega))) ?_
 rintro ⟨qa,qn,qc,rfl,hqn,_,hqz,hqy⟩
 have hqn:qn=rs.length:=by simp at hqn;omega
 subst hqn
 cases qa with
 | none=>have:=hqz rfl;omega
 | some ad =>
 obtain ⟨qb,qo,sp⟩:=ad
 have:=hqy _ rfl
 simp only [Addr.mk.injEq,true_and] at this
 subst this
 repeat (first | (apply wo_mo;apply mo_alloc;exact trivial))
 rintro v' L' ⟨p8,rfl,rfl⟩
 repeat (first | refine wS ?_ | refine we_seq ?_ | (refine wR ?_;try simp only [oS]) | refine wo_nil ?_ | refine wM ?_)
 refine wo_call (.cons rfl .nil) trivial (mnew_tr hn hj0 hj) ?_
 rintro v1 L2 x1 ⟨mr,r,b,nc,hne,hm1,hm2,rfl,rfl,rfl⟩
 repeat (first | (apply wo_mo;apply mo_alloc;exact trivial) | refine wM ?_ | (apply wo_po;apply mo_extract;exact rfl;exact rfl;exact gY))
 rintro v' L' ⟨rb,rfl,rfl⟩
 repeat (first | refine wS ?_ | refine wneqF ?_ | refine we_seq ?_ | (refine wR ?_;try simp only [oS]) | refine wo_nil ?_ | refine wM ?_ | refine wA ?_ | refine wL ?_ | refine wE ?_ | refine wF ?_ | refine we_skip ?_)
 repeat (first | (apply wo_mo;apply mo_make (n:=rs.length);exact rfl;exact rfl;exact rfl;omega;omega;exact trivial))
 rintro v' L' ⟨gb,rfl,rfl⟩
 repeat (first | (apply wo_mo;apply mo_alloc;exact trivial))
 rintro v' L' ⟨gt,rfl,rfl⟩
 repeat (first | refine wS ?_ | (apply wo_mo;apply mo_alloc;exact trivial) | refine we_seq ?_ | (refine wR ?_;try simp only [oS]) | refine wo_nil ?_)
 rintro v' L' ⟨gd,rfl,rfl⟩
 repeat (first | refine wS ?_ | (apply wo_mo;apply mo_alloc;exact trivial) | refine we_seq ?_ | (refine wR ?_;try simp only [oS]) | refine wo_nil ?_ | refine wA ?_)
 rintro v' L' ⟨ib,rfl,rfl⟩
 repeat (first | refine wS ?_ | refine wo_nil ?_ | refine we_block ?_)
 refine we_star ((rpOut p8 rb gd gt gb mr r b nc n (.slice (some ⟨qb,qo,none⟩) rs.length qc) (.slice oa order.length oc) rs L).L (0,ib,.slice none 0 0,.slice none 0 0,[])) (fun h st=>?_) ?_
 ·have s2:=Ent.star (.take (.there (.there (.there (.there (.there .here))))) .refl) st
  have s3:Star (all []::all []::vec 1 (.slice none 0 0) []::vec 1 (.slice none 0 0) []::_) h:=star_shut (M:=[]) (star_shut (M:=[]) (vec_nil (vec_nil s2)))
  exact Ent.star (.take (.there (.there (.there (.there (.there .here))))) (.take (.there (.there .here)) (.take (.there (.there .here)) (.take .here (.take .here (.take (.there .here) (.take (.there .here) (.take (.there .here) (.take (.there .here) (.take .here (.take (.there .here) (.take (.there .here) (.take .here .refl))))))))))))) s3
 refine we_loopN (rpOut p8 rb gd gt gb mr r b nc n (.slice (some ⟨qb,qo,none⟩) rs.length qc) (.slice oa order.length oc) rs L) (fun i=>rs.length-i.1) (0,ib,.slice none 0 0,.slice none 0 0,[]) ⟨Nat.zero_le _,rfl,fun i t y h=>by simp at h⟩ ⟨rfl,rfl,rfl,rfl,rfl,rfl,rfl,rfl,rfl,trivial⟩ .refl rfl ?_
 rintro ⟨i,ib,tv,cv,ts⟩ ⟨hi,hts,hgood⟩
 dsimp only at hi hts hgood
 simp only [rpOut,rpFix]
 refine we_pure (of_has (.there .here) (vec_shape (by omega))) ?_
 rintro ⟨tva,tvn,tvc,rfl,htvn,_⟩
 have htvn:tvn=i:=by simp at htvn;omega
 subst htvn
 refine we_pure (of_has (.there (.there .here)) (vec_shape (by omega))) ?_
 rintro ⟨cva,cvn,cvc,rfl,hcvn,_⟩
 have hcvn:cvn=tvn:=by simp at hcvn;omega
 subst hcvn
 by_cases hlt:cvn<rs.length
 ·obtain ⟨y,hy⟩:∃ y,rs[cvn]?=some y:=⟨rs[cvn],List.getElem?_eq_getElem hlt⟩
  obtain ⟨ya,yc,row⟩:=y
  repeat (first | (apply wo_po;apply mo_makeFunc (first:=[]) (cap:=[_,_,_,_,_]) (vf:=[]);exact .nil;exact .cons rfl (.cons rfl (.cons rfl (.cons rfl (.cons rfl .nil))));exact trivial) | (apply wo_mo;apply mo_buildSlice (sz:=1) (vs:=[rpF p8 rb gd gt (ib,(none,0,[]))]);exact rfl;exact .cons rfl .nil;exact rfl;(intro v hv;cases (List.mem_singleton.1 hv);exact rfl);omega;exact trivial) | refine wlssT ?_ | refine we_seq ?_ | (refine wR ?_;try simp only [oS]) | refine wo_nil ?_ | refine wM ?_ | refine wL ?_ | refine wE ?_ | refine wT ?_ | refine we_skip ?_ | refine we_block ?_)
  rintro v' L' ⟨nb,rfl,rfl⟩
  repeat (first | (apply wo_mo;apply mo_append (sz:=1) (new:=[rpF p8 rb gd gt (ib,(none,0,[]))]);exact rfl;exact rfl;exact rfl;exact rfl;exact (.there (.there .here));exact rfl;exact .inr ⟨_,_,rfl,Rds.all .here⟩;(intro v hv;cases (List.mem_singleton.1 hv);exact rfl);(simp only [sliceLen];omega);exact trivial))
  rintro tv' L' rfl
  repeat (first | refine we_seq ?_ | (refine wR ?_;try simp only [oS]) | refine wo_nil ?_ | refine wA ?_ | refine we_block ?_)
  obtain ⟨hdo,h16⟩:=hrow cvn _ hy
  simp only at hdo h16
  have hrowv:∀ {tv v16:Value} {ys:List CY},Rd (vec 2 v16 (ys.map clV).flatten::all (ys.map clK)::arr ib 0 [.int .i64 (cvn:Nat)]::vec 1 tv (ts.map (rpF p8 rb gd gt)++[rpF p8 rb gd gt (ib,(none,0,[]))])::vec 1 (.slice cva cvn cvc) (ts.map thC1)::all (boxes ts)::all (ts.map thCode)::rpFix p8 rb gd gt gb mr r b nc n (.slice (some ⟨qb,qo,none⟩) rs.length qc) rs L) qb (qo+cvn) (.slice ya row.length yc):=fun {tv v16 ys} =>
   rd_vec (i:=cvn) (cs:=rs.map rv) (.there (.there (.there (.there (.there (.there (.there (.there (.there (.there (.there (.there (.there .here))))))))))))) (by rw [List.getElem?_map,hy];rfl)
  refine we_star ((rpIn p8 rb gd gt gb mr r b nc n cvn ib (.slice (some ⟨qb,qo,none⟩) rs.length qc) (.slice oa order.length oc) tv' (.slice cva cvn cvc) rs ts row (rpF p8 rb gd gt (ib,(none,0,[]))) L).L (0,.slice none 0 0,[])) (fun h st=>?_) ?_
  ·exact vec_nil (star_shut (M:=[]) (Ent.star (.take (.there (.there .here)) (.take .here (.drop .refl))) st))
  refine we_loopN (rpIn p8 rb gd gt gb mr r b nc n cvn ib (.slice (some ⟨qb,qo,none⟩) rs.length qc) (.slice oa order.length oc) tv' (.slice cva cvn cvc) rs ts row (rpF p8 rb gd gt (ib,(none,0,[]))) L) (fun i=>row.length-i.1) (0,.slice none 0 0,[]) ⟨Nat.zero_le _,rfl,by simp⟩ ⟨rfl,rfl,rfl,rfl,rfl,rfl,rfl,rfl,rfl,rfl,rfl,trivial⟩ .refl rfl ?_
  rintro ⟨m,v16,ys⟩ ⟨hm,hys,hyc⟩
  dsimp only at hm hys hyc
  simp only [rpIn]
  refine we_pure (of_has .here (vec_shape (by omega))) ?_
  rintro ⟨va,vn,vc,rfl,hvn,_⟩
  have hvn:vn=m:=by rw [flat_len (k:=2) (fun _=>rfl)] at hvn;omega
  subst hvn
  have w15:Rd (vec 2 (.slice va vn vc) (ys.map clV).flatten::all (ys.map clK)::arr ib 0 [.int .i64 (cvn:Nat)]::vec 1 tv' (ts.map (rpF p8 rb gd gt)++[rpF p8 rb gd gt (ib,(none,0,[]))])::vec 1 (.slice cva cvn cvc) (ts.map thC1)::all (boxes ts)::all (ts.map thCode)::rpFix p8 rb gd gt gb mr r b nc n (.slice (some ⟨qb,qo,none⟩) rs.length qc) rs L) ib 0 (.int .i64 (cvn:Nat)):=.there (.there (.row0 rfl))
  have w8:Rd (vec 2 (.slice va vn vc) (ys.map clV).flatten::all (ys.map clK)::arr ib 0 [.int .i64 (cvn:Nat)]::vec 1 tv' (ts.map (rpF p8 rb gd gt)++[rpF p8 rb gd gt (ib,(none,0,[]))])::vec 1 (.slice cva cvn cvc) (ts.map thC1)::all (boxes ts)::all (ts.map thCode)::rpFix p8 rb gd gt gb mr r b nc n (.slice (some ⟨qb,qo,none⟩) rs.length qc) rs L) p8 0 (.slice (some ⟨qb,qo,none⟩) rs.length qc):=rd_lift [_,_,_,_,_,_,_,_,_,_,_,_] (.row0 rfl)
  by_cases hlm:vn<row.length
  ·obtain ⟨z,hz⟩:∃ z,row[vn]?=some z:=⟨row[vn],List.getElem?_eq_getElem hlm⟩
   obtain ⟨b3,o3,rfl,z1,z2⟩:=hdo.at_ vn z hz
   obtain ⟨hz1,hz2⟩:=hdo.rng z (List.mem_of_getElem? hz)
   obtain ⟨kind,u⟩:=z
   simp only at z1 z2 hz1 hz2
   have e3:=Int.emod_nonneg kind (by decide:(3:Int)≠0)
   obtain ⟨kd,hkd⟩:∃ kd:Nat,kind%3=kd:=⟨(kind%3).toNat,by omega⟩
   have w3:Rds (vec 2 (.slice va vn vc) (ys.map clV).flatten::all (ys.map clK)::arr ib 0 [.int .i64 (cvn:Nat)]::vec 1 tv' (ts.map (rpF p8 rb gd gt)++[rpF p8 rb gd gt (ib,(none,0,[]))])::vec 1 (.slice cva cvn cvc) (ts.map thC1)::all (boxes ts)::all (ts.map thCode)::rpFix p8 rb gd gt gb mr r b nc n (.slice (some ⟨qb,qo,none⟩) rs.length qc) rs L) b3 (o3+2*vn) [.int .i64 kind,.int .u64 (u:Nat)]:=fun q v hq=>by
    match q,hq with
    | 0,hq=>cases hq;exact rd_lift [_,_,_,_,_,_,_,_,_,_,_,_,_,_,_] z1
    | 1,hq=>cases hq;exact rd_lift [_,_,_,_,_,_,_,_,_,_,_,_,_,_,_] z2
   repeat (first | (apply wo_po;apply mo_index1;exact rfl;exact rfl;omega;exact trivial) | (apply wo_po;apply mo_index2;exact rfl;exact rfl;omega;exact trivial) | (apply wo_po;apply mo_load;exact rfl;(first | exact w8 | exact w15 | exact hrowv);exact trivial) | (apply wo_po;apply mo_loadA (vs:=[.int .i64 kind,.int .u64 (u:Nat)]);exact rfl;exact rfl;exact w3;exact trivial) | refine wlssT ?_ | refine we_seq ?_ | (refine wR ?_;try simp only [oS]) | refine wo_nil ?_ | refine wM ?_ | refine wE ?_ | refine wT ?_ | refine we_skip ?_ | refine we_block ?_)
   refine wo_call (.cons rfl (.cons rfl .nil)) trivial (call_tr (by omega) hle hz1 hkd) ?_
   rintro v1 L1 x1 ⟨ka,m,kc,rfl,rfl,rfl⟩
   repeat (first | (apply wo_mo;apply mo_buildSlice (sz:=2) (vs:=[.agg #[.slice ka m kc,.slice none 0 0]]);exact rfl;exact .cons rfl .nil;exact rfl;(intro v hv;cases (List.mem_singleton.1 hv);exact rfl);omega;exact trivial))
   rintro v' L' ⟨nb3,rfl,rfl⟩
   repeat (first | (apply wo_mo;apply mo_append (sz:=2) (new:=[.slice ka m kc,.slice none 0 0]);exact rfl;exact rfl;exact rfl;exact rfl;exact (.there (.there .here));exact rfl;exact .inr ⟨_,_,rfl,Rds.all .here⟩;(intro v hv;simp at hv;rcases hv with rfl | rfl <;> rfl);(simp only [sliceLen];omega);exact trivial))
   rintro v2 L' rfl
   repeat (first | (refine wR ?_;try simp only [oS]) | refine wo_nil ?_ | refine wM ?_ | refine wA ?_ | refine wadd ?_)
   have hcl:(callsOf n row)[vn]?=some (callCl n kd u):=by
    simp only [callsOf,List.getElem?_map,hz,Option.map_some]
    rw [hkd,Int.toNat_natCast]
   refine at_roundS (B:=mT) (I:=rpIn p8 rb gd gt gb mr r b nc n cvn ib (.slice (some ⟨qb,qo,none⟩) rs.length qc) (.slice oa order.length oc) tv' (.slice cva cvn cvc) rs ts row (rpF p8 rb gd gt (ib,(none,0,[]))) L) (R:=fun q=>row.length-q.1<row.length-vn) (vn+1,v2,ys++[((ka,kc),m,callCl n kd u)]) (by show row.length-(vn+1)<row.length-vn;omega) ⟨by show vn+1≤row.length;omega,by simp [hys],by rw [List.map_append,hyc,List.take_add_one,hcl];rfl⟩ ?_ (fun hp st=>?_) rfl
   ·exact ⟨rfl,rfl,rfl,rfl,rfl,rfl,rfl,rfl,rfl,rfl,rfl,trivial⟩
   ·have s1:Star (all (ys.map clK)::clK ((ka,kc),m,callCl n kd u)::vec 2 v2 ((ys.map clV).flatten++[.slice ka m kc,.slice none 0 0])::arr ib 0 [.int .i64 (cvn:Nat)]::_) hp:=Ent.star (.take (.there (.there (.there .here))) (.take (.there (.there .here)) (.take .here (.drop .refl)))) st
    have s2:=star_open s1
    have s3:Star (all ((ys++[(((ka,kc),m,callCl n kd u):CY)]).map clK)::vec 2 v2 ((ys++[(((ka,kc),m,callCl n kd u):CY)]).map clV).flatten::arr ib 0 [.int .i64 (cvn:Nat)]::_) hp:=star_shut (by
     rw [List.map_append,List.map_append,List.flatten_append,List.append_assoc]
     exact s2)
    exact star_swap s3
  ·obtain rfl:vn=row.length:=by omega
   have hyc':ys.map (·.2.2)=callsOf n row:=by rw [hyc,List.take_of_length_le (by simp [callsOf])]
   repeat (first | (apply wo_po;apply mo_index1;exact rfl;exact rfl;omega;exact trivial) | (apply wo_po;apply mo_load;exact rfl;(first | exact w8 | exact w15 | exact hrowv);exact trivial) | refine wlssF ?_ | refine we_seq ?_ | (refine wR ?_;try simp only [oS]) | refine wo_nil ?_ | refine wM ?_ | refine wE ?_ | refine wF ?_ | refine we_exit ?_)
   repeat (first | (apply wo_mo;apply mo_buildSlice (sz:=1) (vs:=[.slice va row.length vc]);exact rfl;exact .cons rfl .nil;exact rfl;(intro v hv;cases (List.mem_singleton.1 hv);exact rfl);omega;exact trivial))
   rintro v' L' ⟨nb4,rfl,rfl⟩
   repeat (first | (apply wo_mo;apply mo_append (sz:=1) (new:=[.slice va row.length vc]);exact rfl;exact rfl;exact rfl;exact rfl;exact (.there (.there (.there (.there (.there .here)))));exact rfl;exact .inr ⟨_,_,rfl,Rds.all .here⟩;(intro v hv;cases (List.mem_singleton.1 hv);exact rfl);(simp only [sliceLen];omega);exact trivial))
   rintro cv' L' rfl
   repeat (first | (apply wo_mo;apply mo_alloc;exact trivial) | refine we_seq ?_ | (refine wR ?_;try simp only [oS]) | refine wo_nil ?_ | refine wA ?_ | refine wL ?_)
   rintro v' L' ⟨ib2,rfl,rfl⟩
   repeat (first | refine wS ?_ | (refine wR ?_;try simp only [oS]) | refine wo_nil ?_ | refine wL ?_ | refine wadd ?_)
   let t:TH:=(ib,(va,vc,ys))
   have hyl:ys.length=row.length:=hys
   refine at_roundS (B:=mT) (I:=rpOut p8 rb gd gt gb mr r b nc n (.slice (some ⟨qb,qo,none⟩) rs.length qc) (.slice oa order.length oc) rs L) (R:=fun q=>rs.length-q.1<rs.length-cvn) (cvn+1,ib2,tv',cv',ts++[t]) (by show rs.length-(cvn+1)<rs.length-cvn;omega) ⟨by show cvn+1≤rs.length;omega,by simp [hts],thGood_snoc hgood (by rw [hts];exact hy) hyc'⟩ ?_ (fun hp st=>?_) rfl
   ·exact ⟨rfl,rfl,rfl,rfl,rfl,rfl,rfl,rfl,rfl,trivial⟩
   ·have s1:=Ent.star (.take (.there (.there (.there .here))) (.take (.there (.there (.there .here))) (.take .here (.take (.there (.there (.there .here))) (.take .here (.take (.there (.there .here)) (.take (.there .here) (.drop (.take .here .refl))))))))) st
    have s2:=star_map (d:=thCode t) (star_shut (M:=[_,_]) s1) (fun h z=>code_close (a:=va) (n:=row.length) (c:=vc) (ys:=ys) (F:=[]) (fun y hy=>by
     have hm:y.2.2∈callsOf n row:=by rw [← hyc'];exact List.mem_map_of_mem hy
     obtain ⟨w,_,hw⟩:=List.mem_map.1 hm
     rw [← hw];exact callCl_data) z) fun _ z=>z
    have s3:=star_open (Ent.star (.take (.there (.there (.there (.there .here)))) (.take (.there (.there (.there (.there .here)))) .refl)) s2)
    have s4:Star (all (boxes (ts++[t]))::_) hp:=star_shut (by
     rw [boxes_snoc,List.append_assoc,hts]
     exact s3)
    have s5:=star_open (Ent.star (.take (.there (.there (.there (.there (.there .here))))) (.take (.there .here) .refl)) s4)
    have s6:Star (all ((ts++[t]).map thCode)::_) hp:=star_shut (by
     rw [List.map_append,List.append_assoc]
     exact s5)
    have s7:=Ent.star (.take (.there (.there .here)) (.take (.there (.there .here)) (.take (.there (.there .here)) (.take (.there .here) (.take .here .refl))))) s6
    have e1:(ts++[t]).map (rpF p8 rb gd gt)=ts.map (rpF p8 rb gd gt)++[rpF p8 rb gd gt (ib,(none,0,[]))]:=by rw [List.map_append];rfl
    have e2:(ts++[t]).map thC1=ts.map thC1++[.slice va row.length vc]:=by rw [List.map_append];show _++[Value.slice va ys.length vc]=_;rw [hyl]
    show Star (_::vec 1 tv' ((ts++[t]).map (rpF p8 rb gd gt))::vec 1 cv' ((ts++[t]).map thC1)::_) hp
    rw [e1,e2]
    exact s7
 ·obtain rfl:cvn=rs.length:=by omega
  repeat (first | refine wlssF ?_ | refine we_seq ?_ | (refine wR ?_;try simp only [oS]) | refine wo_nil ?_ | refine wM ?_ | refine wL ?_ | refine wE ?_ | refine wF ?_ | refine we_exit ?_)
  refine wo_call (.cons rfl (.cons rfl .nil)) trivial (order_tr (m:=rs.length) (rdso_lift [_,_,_,_,_,_,_,_,_,_,_,_,_] hro) (by omega) hoi) ?_
  rintro odv L1 x1 ⟨rfl,rfl⟩
  refine wo_pure (of_has (.there (.there .here)) (vec_shape (by omega))) ?_
  rintro ⟨a',n',c',e,htn',_,htz,hty⟩
  cases e
  refine wo_pure (of_has .here (vec_shape (by omega))) ?_
  rintro ⟨oda,odn,odc,rfl,hodn,_,hodz,hody⟩
  repeat (first | refine we_seq ?_ | (refine wR ?_;try simp only [oS]) | refine wo_nil ?_ | refine wM ?_ | refine wA ?_)
  refine wo_frz (b:=gt) (o:=0) (.there (.there (.there (.there (.there (.there (.there .here))))))) ?_
  refine wo_frz (b:=rb) (o:=0) (.there (.there (.there (.there (.there (.there (.there (.there (.there .here))))))))) ?_
  refine wo_frz (b:=p8) (o:=0) (.there (.there (.there (.there (.there (.there (.there (.there (.there (.there (.there .here))))))))))) ?_
  refine wo_star ((fun h=>∃ sp,arr qb qo (rs.map rv++sp) h)::_) (fun h st=>star_map (Ent.star (.take (.there (.there (.there (.there (.there (.there (.there (.there (.there (.there (.there (.there .here)))))))))))) .refl) st) vec_row fun _ z=>z) ?_
  refine wo_ex .here fun sp=>?_
  refine wo_frz (b:=qb) (o:=qo) .here ?_
  let RoS:HProp:=roS qb qo qc p8 rb gt gb mr rs sp L
  have hRoS:Dup RoS:=dup_all (by
   intro c hc
   simp only [List.mem_cons,List.not_mem_nil,or_false] at hc
   rcases hc with rfl | rfl | rfl | rfl | rfl
   ·exact dup_fro
   ·exact dup_fro
   ·exact dup_fro
   ·exact dup_fro
   ·exact hL)
  refine wo_star (all [wds (maddr mr r b n) (2*n+5) (mK mr r b n nc) (seqs n),gdN gd nc]::all ((thrsOf n mr r b nc p8 rb gd gt gb RoS ts).map Thr.M)::RoS::vec 1 (.slice oda odn odc) (intC (orderF rs.length order))::vec 1 (.slice tva rs.length tvc) (ts.map (rpF p8 rb gd gt))::vec 1 (.slice cva rs.length cvc) (ts.map thC1)::all (ts.map thCode)::[]) (fun h st=>?_) ?_
  ·have s1:=star_tail (M:=[_,_,_,_,_,_,_,_,_,_,_,_,_,_]) st
   have s2:Star (RoS::_) h:=star_shut (M:=[_,_,_,_,_]) (Ent.star (.take (.there .here) (.take (.there .here) (.take (.there .here) (.take (.there .here) (.take .here .refl))))) s1)
   have s3:=Ent.star (.take .here (.take (.there (.there (.there (.there .here)))) (.take (.there (.there (.there (.there (.there (.there .here)))))) (.take .here (.drop .refl))))) s2
   rw [zeros_rep,← hts] at s3
   have s4:=deal hRoS s3
   rw [hts] at s4
   rw [thrs_M]
   have s5:Star (gdN gd nc::_) h:=star_shut (M:=[_,_]) (Ent.star (.take (.there (.there (.there (.there (.there (.there .here)))))) (.take (.there (.there (.there (.there (.there (.there (.there .here))))))) .refl)) s4)
   exact star_shut (M:=[_,_]) (Ent.star (.take (.there (.there (.there (.there (.there (.there (.there .here))))))) (.take .here (.take .here .refl))) s5)
  have hcalls:∀ t∈ts,MirCalls n (t.2.2.2.map (·.2.2)):=fun t ht=>by
   obtain ⟨i,hi⟩:=List.mem_iff_getElem?.1 ht
   have hil:=(List.getElem?_eq_some_iff.1 hi).1
   rw [hgood i t _ hi (List.getElem?_eq_getElem (by omega))]
   exact callsOf_ring fun w hw=>((hrow i _ (List.getElem?_eq_getElem (by omega))).1.rng w hw).2
  have hlen:(thrsOf n mr r b nc p8 rb gd gt gb RoS ts).length=rs.length:=by rw [← hts];simp [thrsOf]
  refine wo_call (.cons rfl (.cons rfl .nil)) trivial (mplays_tr (D:=mirD n) (order:=orderF rs.length order) (ts:=thrsOf n mr r b nc p8 rb gd gt gb RoS ts) (cc:=ccOf ts) (s0:=(seqs n:Nat→Nat)) (thrs_begin hn hj0 hj hcalls) (seqs_ok hle) thrs_ini (thrs_ok hne hm1 hm2 hn hj0 hj hrow hts hgood) (by omega) (by omega) (by simp only [orderF,List.length_map,List.length_take];omega)
   (by rw [thrs_fv];exact rdso_vec (.there (.there .here)) (by simp [hts]) htz hty) (rdso_vec (.there .here) hodn hodz hody)) ?_
  rintro v1 L1 x1 ⟨tv2,cv2,st,f',rfl,rfl,hplay,hw,htr,hstl,rfl⟩
  refine wo_pure (of_has .here (vec_shape (by omega))) ?_
  rintro ⟨a1,n1,c1,rfl,hn1,_,hz1,hy1⟩
  obtain rfl:n1=st.tr.length:=by rw [trCP_len] at hn1;simp at hn1;omega
  refine wo_pure (of_has (.there .here) (vec_shape (by omega))) ?_
  rintro ⟨a2,n2,c2,rfl,hn2,_,hz2,hy2⟩
  obtain rfl:n2=(Mach.St.cut st).length:=by simp [cutC] at hn2;omega
  repeat (first | (apply wo_mo;apply mo_alloc;exact trivial) | refine wM ?_ | (apply wo_po;apply mo_extract;exact rfl;exact rfl;exact gY))
  rintro v' L' ⟨pb,rfl,rfl⟩
  repeat (first | (apply wo_pm;apply mo_storeA (c:=0) (k:=0) (a:=0) (vs:=[.slice none 0 0,.slice none 0 0]);exact rfl;exact rfl;exact rfl;(intro w hw;simp [Value.cells] at hw;rcases hw with rfl | rfl <;> rfl);exact rfl;exact Nat.le_refl 2;exact .here;exact trivial) | refine we_seq ?_ | (refine wR ?_;try simp only [oS]) | refine wo_nil ?_ | refine wM ?_ | refine wA ?_)
  refine wo_call (.cons rfl .nil) trivial (mworld_tr hle) ?_
  rintro v1 L1 x1 ⟨wv,lv,rfl,rfl,rfl⟩
  refine wo_pure (of_has .here wv_shape) ?_
  rintro ⟨⟨wa,wn,wc,rfl⟩,la,ln,lc,rfl⟩
  repeat (first | refine wM ?_)
  have hplay':Mach.play 30 16385 ⟨[[0,0,0],qwords n],2⟩ ((orderF rs.length order).map fun k=>if k<0 then none else some k.toNat) ((ccK ts).map (·.2))=some st:=by
   rw [ccK_calls,← mirW_new];exact hplay
  obtain rfl:odn=(orderF rs.length order).length:=by simp [intC] at hodn;omega
  have hol:(orderF rs.length order).length<1000000:=by simp only [orderF,List.length_map,List.length_take];omega
  have hob:∀ k∈orderF rs.length order,-9223372036854775808≤k∧k≤9223372036854775807:=fun k hk=>by
   obtain ⟨z,_,rfl⟩:=List.mem_map.1 hk
   have h1:=Int.emod_nonneg z (by omega:(rs.length:Int)+1≠0)
   have h2:=Int.emod_lt_of_pos z (by omega:(0:Int)<(rs.length:Int)+1)
   omega
  have hys16:∀ t∈ts,t.2.2.2.length<1000000:=fun t ht=>by
   obtain ⟨i,hi⟩:=List.mem_iff_getElem?.1 ht
   have hil:=(List.getElem?_eq_some_iff.1 hi).1
   have h1:=hgood i t _ hi (List.getElem?_eq_getElem (by omega))
   have h2:=(hrow i _ (List.getElem?_eq_getElem (by omega))).2
   have h3:=congrArg List.length h1
   simp only [List.length_map,callsOf] at h3
   omega
  rw [← ccK_v]
  refine wo_call (.cons rfl (.cons rfl (.cons rfl .nil))) trivial (play_tr (w:=⟨[[0,0,0],qwords n],2⟩) (st:=st) (o:=orderF rs.length order) (cc:=ccK ts) (f:=30) (g:=16385) hplay' (by omega) (CallsOk.there (CallsOk.there (CallsOk.there (CallsOk.there (CallsOk.there (CallsOk.there (CallsOk.there (CallsOk.there (codes_ok hle (by omega) hcalls hys16)))))))) ) hol hob ?_ .here (.there (.there (.there (.there (.there (.there (.there (.there .here))))))))) ?_
  ·intro i k hk
   have hil:=(List.getElem?_eq_some_iff.1 hk).1
   cases oda with
   | none=>have:=hodz rfl;omega
   | some y =>
    obtain ⟨ob,oo,sp2⟩:=y
    cases hody _ rfl
    exact ⟨ob,oo,rfl,rd_vec (i:=i) (.there (.there (.there (.there (.there (.there .here)))))) (by simp [intC,hk])⟩
  rintro v2 L2 x2 ⟨trv,cutv,ansv,wv2,lv2,os,rfl,rfl,hos,hst⟩
  refine wo_star _ hst ?_
  refine wo_pure (of_has .here (vec_shape (by omega))) ?_
  rintro ⟨a3,n3,c3,rfl,hn3,_,hz3,hy3⟩
  refine wo_pure (of_has (.there .here) (vec_shape (by omega))) ?_
  rintro ⟨a4,n4,c4,rfl,hn4,_,hz4,hy4⟩
  refine wo_pure (of_has (.there (.there .here)) (vec_shape (by omega))) ?_
  rintro ⟨a5,n5,c5,rfl,hn5,_,hz5,hy5⟩
  refine wo_pure (of_has (.there (.there (.there (.there .here)))) wv_shape) ?_
  rintro ⟨⟨wa2,wn2,wc2,rfl⟩,la2,ln2,lc2,rfl⟩
  repeat (first | (apply wo_mo;apply mo_alloc;exact trivial) | refine wM ?_ | (apply wo_po;apply mo_extract;exact rfl;exact rfl;exact gY))
  rintro v' L' ⟨pb2,rfl,rfl⟩
  repeat (first | (apply wo_mo;apply mo_alloc;exact trivial))
  rintro v' L' ⟨wb2,rfl,rfl⟩
  repeat (first | (apply wo_pm;apply mo_storeA (c:=0) (k:=0) (a:=0) (vs:=[.slice none 0 0,.slice none 0 0]);exact rfl;exact rfl;exact rfl;(intro w hw;simp [Value.cells] at hw;rcases hw with rfl | rfl <;> rfl);exact rfl;exact Nat.le_refl 2;(first | exact .here | exact .there .here);exact trivial) | refine weqlT ?_ | refine we_seq ?_ | (refine wR ?_;try simp only [oS]) | refine wo_nil ?_ | refine wM ?_ | refine wA ?_)
  repeat (first | (apply wo_po;apply mo_load;exact rfl;exact rd_lift [_,_,_,_,_,_,_,_,_,_,_,_] (rd_all (M:=[_,_]) (.there (rd_all (M:=[_,_]) (.row0 rfl))));exact gY) | (apply wo_po;apply mo_loadA (vs:=[.slice a1 st.tr.length c1,.slice a2 (Mach.St.cut st).length c2]);exact rfl;exact rfl;exact Rds.all (.there (.there (.there (.there (.there (.there (.there (.there (.there .here)))))))));exact gY) | (apply wo_po;apply mo_loadA (vs:=[.slice a3 n3 c3,.slice a4 n4 c4]);exact rfl;exact rfl;exact Rds.all (.there .here);exact gY) | refine wM ?_ | refine wK ?_)
  obtain rfl:n3=st.tr.length:=by rw [trC_CP,trCP_len] at hn3;simp at hn3;omega
  obtain rfl:n4=(Mach.St.cut st).length:=by simp at hn4;omega
  obtain rfl:n5=st.l.length:=by
   have:=congrArg List.length hos
   simp only [List.length_map] at this hn5
   omega
  have hl4:st.l.length≤6:=by rw [hstl];simp only [ccOf,List.length_map];omega
  obtain ⟨trp,htrp⟩:∃ trp,trp=st.tr.map fun e=>(e.1,mkII e.2):=⟨_,rfl⟩
  have htl:st.tr.length=trp.length:=by rw [htrp];simp
  rw [trC_CP,← htrp,htl]
  rw [htl] at hz1 hz3
  refine wo_call (.cons rfl (.cons rfl .nil)) rfl (same_played_tr (tr:=trp) (cut:=st.cut) (rdtr_vec (.there (.there (.there (.there (.there (.there (.there (.there (.there (.there .here)))))))))) rfl hz1 hy1) (rdtr_vec (.there (.there .here)) rfl hz3 hy3) (rdi_vec (.there (.there (.there (.there (.there (.there (.there (.there (.there (.there (.there .here))))))))))) rfl hz2 hy2) (rdi_vec (.there (.there (.there .here))) rfl hz4 hy4) (by omega) (by have:=cut_le (st:=st);omega)) ?_
  rintro v L1 x1 ⟨rfl,rfl,rfl⟩
  repeat (first | (apply wo_po;apply mo_load;exact rfl;exact rd_lift [_,_,_,_,_,_,_,_,_,_,_,_,_,_] (rd_all (rd_lift [_,_,_] (Rd.fro (k:=0) rfl rfl)));exact gY) | refine wM ?_ | refine wK ?_)
  refine wo_star ((fun h=>∃ ys:List (Value × List (Value × List Nat)),(ys.length=st.l.length∧∀ (k:Nat) y,ys[k]?=some y→GotQ (st.l.map doneOf) k y)∧all (ys.mapIdx (gotY gb)) h)::(fun h=>∃ ys:List (Value × List (Bool × Value × List Nat)),(ys.length=os.length∧∀ (k:Nat) y,ys[k]?=some y→AnsQ os k y)∧all (ys.mapIdx ansY) h)::vec 1 (.slice a5 st.l.length c5) (os.map (·.1))::[]) (fun h s=>?_) ?_
  ·have s1:Star (all (st.l.mapIdx fun k t=>rgPv gb (k,t))::all (os.map ansK)::vec 1 (.slice a5 st.l.length c5) (os.map (·.1))::_) h:=Ent.star (.take (.there (.there (.there (.there (.there (.there (.there (.there (.there (.there (.there (.there (.there .here))))))))))))) (.take (.there (.there (.there (.there (.there .here))))) (.take (.there (.there (.there (.there .here)))) .refl))) s
   exact star_exs (gots_ex (star_map s1 (fun _ z=>z) fun _ z=>star_exs (anss_ex (star_drop (star_tail (M:=[_,_]) z)))))
  refine wo_ex (c:=fun (ys:List (Value × List (Value × List Nat))) h=>(ys.length=st.l.length∧∀ (k:Nat) y,ys[k]?=some y→GotQ (st.l.map doneOf) k y)∧all (ys.mapIdx (gotY gb)) h) .here fun gys=>wo_and .here fun hgys=>?_
  refine wo_ex (c:=fun (ys:List (Value × List (Bool × Value × List Nat))) h=>(ys.length=os.length∧∀ (k:Nat) y,ys[k]?=some y→AnsQ os k y)∧all (ys.mapIdx ansY) h) (.there .here) fun ays=>wo_and .here fun hays=>?_
  obtain ⟨anss,hanss⟩:∃ anss,anss=os.map (·.2):=⟨_,rfl⟩
  have hal:st.l.length=anss.length:=by rw [hanss,hos,List.length_map]
  have hga:GotsAt (all (ays.mapIdx ansY)::all (gys.mapIdx (gotY gb))::vec 1 (.slice a5 st.l.length c5) (os.map (·.1))::[]) (some ⟨gb,0,none⟩) (st.l.map doneOf):=gots_at (.there .here) (by rw [hgys.1,List.length_map]) hgys.2
  have haa:AnssAt (all (ays.mapIdx ansY)::all (gys.mapIdx (gotY gb))::vec 1 (.slice a5 st.l.length c5) (os.map (·.1))::[]) a5 anss:=hanss▸anss_at (.there (.there .here)) hn5 hz5 hy5 .here hays.1 hays.2
  have hrl:rs.length=anss.length:=by rw [← hal,hstl];simp only [ccOf,List.length_map];omega
  have hbig:=Mach.play_n hplay
  have hany:∀ a∈anss,∃ t∈st.l,a=t.ans:=fun a ha=>by
   rw [hanss,hos] at ha
   obtain ⟨t,ht,rfl⟩:=List.mem_map.1 ha
   exact ⟨t,ht,rfl⟩
  have hfu:(mirD n).fu*(st.tr.length+1)<1000000000:=by show 30*_<_;omega
  rw [hal] at hga haa ⊢
  simp only [hrl]
  refine wo_call (.cons rfl (.cons rfl .nil)) rfl (same_answers_tr (got:=st.l.map doneOf) (anss:=anss) hga haa (by rw [List.length_map,hal]) (fun k pre ans hp ha=>?_) (by omega) (fun a ha=>?_) fun a ha y hy=>?_) ?_
  ·rw [hanss,hos,List.getElem?_map,Option.map_eq_some_iff] at ha
   rw [List.getElem?_map,Option.map_eq_some_iff] at hp
   obtain ⟨t,ht,rfl⟩:=ha
   obtain ⟨t',ht',rfl⟩:=hp
   rw [ht] at ht'
   cases ht'
   exact told_of (Mach.play_ok hplay t (List.mem_of_getElem? ht))
  ·obtain ⟨t,ht,rfl⟩:=hany a ha
   exact Nat.lt_of_le_of_lt (hbig t ht).1 hfu
  ·obtain ⟨t,ht,rfl⟩:=hany a ha
   exact Nat.lt_of_le_of_lt ((hbig t ht).2 y hy) hfu
  rintro v1 L1 x1 ⟨rfl,rfl,rfl⟩
  repeat (first | refine wM ?_ | refine wK ?_)
  refine wo_call .nil rfl works_tr ?_
  rintro v L' x' ⟨rfl,rfl,rfl⟩
  repeat (first | refine wo_nil ?_ | refine wA ?_ | refine wK ?_ | refine we_ret ?_)
  (first | refine or1 Try.func6 Try.results6 hQ rfl ?_ | refine on1 Try.func6 Try.results6 hQ rfl ?_)
  exact ⟨rfl,rfl⟩
end
end Go.Proofs.Ytmkkanmkjfnpdaa
namespace Go.PB
open Go
section
theorem form_in {c:OpenClaim} (h1:c.start=.entering) (h2:c.stops=[]) {C:Checked} {os:Os} {f:FuncId} {L:List FuncId} {Pre:World→Array Value→Prop} {Post:Stop.Interp→World→Array Value→Value→World→Prop} :
  c.form C os f L Pre Post↔∀ F:Stop.Interp,ReturnsInOpen c.assume none C os f .any c.okInput Pre (Post F) (c.atReturn C.prog) (c.always C.prog L):=by
 unfold OpenClaim.form
 rw [h1,h2]
theorem upto_of {p:Pinned} {s:ChangeSpec} {k:(H:Type)→List (DataW H)→Bool} {c:OpenClaim} (hstart:c.start=.entering) (hstops:c.stops=[]) (hlaid:c.laid=[]) (hout:c.outside=[]) (hnb:c.noBlocks=false) (h:c.holds p (OpenSpec.ofChange s))
  (hfit:∀ f fn,p.checked.prog.funcNamed c.func=some f→p.checked.prog.funcs[f]?=some fn→∀ os:Os,os.Started→∀ (H:Type) (enc:TypeId × Value→H),
   ∃ (w:World) (tape:Tape) (i:Input),w.os=os∧(w.forCall tape i).Shaped p.checked.prog∧i.vars=[]∧Input.okWide p.checked.prog (w.forCall tape i) .any w.heap.size f i ∧
    ({ OpenSpec.ofChange s with cond:=some k }:OpenSpec).pre6 enc p.checked.prog fn c.domain c.apart (w.forCall tape i).memory i.args∧c.assume.holds p.checked.prog (lone (Frame.enter p.checked.prog f i.args .normal) [] (w.forCall tape i))) :
  ({ c with narrowed:=true }:OpenClaim).holds p { OpenSpec.ofChange s with cond:=some k }:=by
 obtain ⟨a1,a2,a3,a4,a5,a6,a7,a8,f,fn,g1,g2,r,b1,b2,b3,b4,b5,kn,c1,c2,c3,c4,c5,c6,m,l,q,n1,v1,e1,L,hL,all⟩:=h
 refine ⟨a1,a2,a3,a4,a5,a6,a7,a8,f,fn,g1,g2,r,b1,b2,b3,b4,b5,kn,c1,c2,c3,c4,c5,c6,m,l,q,by simp,v1,e1,L,hL,fun os x y H enc inj=>?_⟩
 have A:=all os x y H enc inj
 have st:os.Started:=by
  have x':c.world os:=x
  unfold OpenClaim.world at x'
  rw [hout,hstart] at x'
  exact x'
 have fit:=hfit f fn g1 g2 os st H enc
 refine (form_in (c:={ c with narrowed:=true }) hstart hstops).2 fun F=>?_
 have B:=(form_in hstart hstops).1 A F
 rw [OpenClaim.pre_of_none' hlaid] at B
 rw [OpenClaim.pre_of_none' (c:={ c with narrowed:=true }) hlaid]
 obtain ⟨h0,h1,h2,_,h4⟩:=B
 refine ⟨h0,h1,h2,?_,fun w tape i ⟨d1,d2,d3,d4,d5,d6,d7⟩=>h4 w tape i ⟨d1,d2,d3,d4,?_,d6,d7⟩⟩
 ·obtain ⟨w,tape,i,f1,f2,f3,f4,f5,f6⟩:=fit
  refine ⟨w,tape,i,f1,f2,f3,?_,f5,f6,trivial⟩
  show c.okInput _ _ _ _ _ _
  unfold OpenClaim.okInput
  rw [hnb]
  exact f4
 ·obtain ⟨e2,e3⟩:=d5
  obtain ⟨ds,gs,before,z1,z2,z3⟩:=(OpenSpec.pre_some (k:=k) rfl _ _ _ _).1 e2
  exact ⟨⟨ds,gs,before,z1,z2⟩,e3⟩
end
end Go.PB
namespace Go.PB
open Go.Conc Go.Conc.Lib Go.ConcR.Gen
open Go.ConcR (KK stA smA rd wr mk DC0)
def WgAt (ty:TypeId) (wg:Nat) (w:World) (st sm:Int):Prop:=∃ f:Nat × Nat,w.heap[wg]?=some (.cells #[.int .u64 st,.int .u32 sm] ty f)∧w.frozen? ⟨wg,0,none⟩=false∧w.frozen? ⟨wg,1,none⟩=false
section
variable {ty:TypeId} {wg:Nat} {w w':World} {st sm:Int}
theorem WgAt.cellSt (h:WgAt ty wg w st sm):w.cell? (stA wg)=some (.int .u64 st):=by obtain ⟨f,h,_⟩:=h;simp [World.cell?,stA,h]
theorem WgAt.cellSm (h:WgAt ty wg w st sm):w.cell? (smA wg)=some (.int .u32 sm):=by obtain ⟨f,h,_⟩:=h;simp [World.cell?,smA,h]
theorem WgAt.thaw (h:WgAt ty wg w st sm) (n:Nat) (hn:n<2:=by decide):w.frozen? ⟨wg,n,none⟩=false:=by
 obtain ⟨f,_,h0,h1⟩:=h
 rcases n with _ | _ | n
 ·exact h0
 ·exact h1
 ·omega
theorem WgAt.unique {st' sm':Int} (h:WgAt ty wg w st sm) (h':WgAt ty wg w st' sm'):st=st'∧sm=sm':=by
 obtain ⟨f,h,_⟩:=h
 obtain ⟨f',h',_⟩:=h'
 rw [h] at h'
 simp at h'
 exact ⟨h'.1.1,h'.1.2⟩
theorem WgAt.setSt (h:WgAt ty wg w st sm) (v:Int):WgAt ty wg (w.setCell (stA wg) (.int .u64 v)) v sm:=by
 obtain ⟨f,h,h0,h1⟩:=h
 refine ⟨f,?_,by rw [frozen_setCell];exact h0,by rw [frozen_setCell];exact h1⟩
 simp [World.setCell,stA,Array.getElem?_modify,h]
theorem WgAt.setSm (h:WgAt ty wg w st sm) (v:Int):WgAt ty wg (w.setCell (smA wg) (.int .u32 v)) st v:=by
 obtain ⟨f,h,h0,h1⟩:=h
 refine ⟨f,?_,by rw [frozen_setCell];exact h0,by rw [frozen_setCell];exact h1⟩
 simp [World.setCell,smA,Array.getElem?_modify,h]
theorem WgAt.of_heap (h:WgAt ty wg w st sm) (e:w'.heap[wg]?=w.heap[wg]?):WgAt ty wg w' st sm:=by
 obtain ⟨f,h,h0,h1⟩:=h
 have hf:∀ o,w'.frozen? ⟨wg,o,none⟩=w.frozen? ⟨wg,o,none⟩:=fun o=>by unfold World.frozen?;rw [e]
 exact ⟨f,e.trans h,(hf 0).trans h0,(hf 1).trans h1⟩
def WgLive (ty:TypeId) (Wg:Nat) (w:World):Prop:=∃ st sm,WgAt ty Wg w st sm
end
def RL (ty:TypeId) (Wg:Nat) (w w₁:World):Prop:=WgLive ty Wg w→WgLive ty Wg w₁
theorem live_cell {ty:TypeId} {Wg:Nat} {w:World} (h:WgLive ty Wg w):∃ v,w.cell? ⟨Wg,0,none⟩=some v:=let ⟨_,_,x⟩:=h;⟨_,WgAt.cellSt x⟩
section
variable (P:Program) (ty:TypeId) (Wg:Nat)
def Zg (Stop:Goroutine→World→Prop) (m:Nat) (g:Goroutine) (w:World):Prop:=Goes P false (RL ty Wg) DC0 Stop m g w
def Z4 (g:Goroutine) (w:World):Prop :=
 g.status=.running∧mayWake P g=true∧(WgAt ty Wg w 0 0→∃ g' q,stepG P false g w=.go g' (w.setCell (smA Wg) (.int .u32 1)) (semEvents (smA Wg))∧QuitsD P q 1 g')
def Z3 (g:Goroutine) (w:World):Prop :=
 g.status=.running∧(WgAt ty Wg w 1 0→∃ g' m,stepG P false g w=.go g' (w.setCell (stA Wg) (.int .u64 0)) #[wr (stA Wg)]∧Zg P ty Wg (Z4 P ty Wg) m g' (w.setCell (stA Wg) (.int .u64 0)))
def Z2 (g:Goroutine) (w:World):Prop :=
 g.status=.running∧(WgAt ty Wg w 1 0→∃ g' m,stepG P false g w=.go g' w #[rd (stA Wg)]∧Zg P ty Wg (Z3 P ty Wg) m g' w)
def Z1 (g:Goroutine) (w:World):Prop :=
 g.status=.running∧∀ v wt:Nat,wt≤1→v<2147483647→WgAt ty Wg w ((v+1)*KK+wt) 0 →
  ∃ g',stepG P false g w=.go g' (w.setCell (stA Wg) (.int .u64 (v*KK+wt))) #[rd (stA Wg),wr (stA Wg)] ∧
   ((v=0∧wt=1)→∃ m,Zg P ty Wg (Z2 P ty Wg) m g' (w.setCell (stA Wg) (.int .u64 (v*KK+wt))))∧(¬ (v=0∧wt=1)→∃ q,QuitsD P q 1 g')
def ZK (g:Goroutine) (w:World):Prop :=
 g.status=.running∧∃ g' m,stepG P false g w=.go g' w #[mk .disable]∧Zg P ty Wg (Z1 P ty Wg) m g' w
def ZR (g:Goroutine) (w:World):Prop :=
 g.status=.running∧∃ g' m,stepG P false g w=.go g' w #[mk (.releaseMerge (stA Wg))]∧Zg P ty Wg (ZK P ty Wg) m g' w
end
end Go.PB
namespace Go.PB
open Go.Conc Go.Conc.Lib Go.ConcR.Gen
open Go.ConcR (KK stA smA rd wr mk DC0)
theorem quits_more {P:Program}:∀ {n d:Nat} {g:Goroutine},QuitsD P n d g→QuitsD P (n+1) d g
 | 0,_,_,h=>.inl h
 | _+1,_,_,h=>h.imp id fun ⟨hs,g',es,hm,hst,hq⟩=>⟨hs,g',es,hm,hst,quits_more hq⟩
theorem quits_mono {P:Program} {n n' d:Nat} {g:Goroutine} (h:QuitsD P n d g) (hn:n≤n'):QuitsD P n' d g:=by
 induction hn with
 | refl=>exact h
 | step _ ih=>exact quits_more ih
set_option maxRecDepth 100000 in
set_option maxHeartbeats 8000000 in
theorem add_goes [Go.ConcR.Payload] {P:Program} {L:WgLink} (H:WgLib P L) {Wg:Nat} {b₀:Frame} {a₀:Act} {ops₀:Array Oper} {i₀:Nat} {rest₀:List Nat} {k₀:List Item} {cs:List Frame} {qt:Nat}
  (hT:QuitsD P qt 0 (G (b₀.at (a₀.put ((ops₀[i₀]?).bind (·.dst)) (.tuple #[])) (.inRegion ops₀ rest₀::k₀)) cs)) (w:World) (hK:WgLive L.tWg Wg w) :
  Zg P L.tWg Wg (ZR P L.tWg Wg) 20 (G ((Go.Conc.base L.add).at ⟨#[.pointer (some ⟨Wg,0,none⟩),.int .i64 (-1)]++Array.replicate 115 undef,[]⟩ [.code (body_add L)]) (b₀.at a₀ (.inRegion ops₀ (i₀::rest₀)::k₀)::cs)) w:=by
 lib_facts
 simp only [body_add,addFn,Option.getD_some,Array.replicate_succ,Array.replicate_zero]
 unfold Zg
 have key:∀ {w w₁:World},WgLive L.tWg Wg w→RL L.tWg Wg w w₁→WgLive L.tWg Wg w₁:=fun h r=>r h
 walk_nrm
 repeat (first | u_c stepG_seq key hK | u_c stepG_region_end key hK | u_c stepG_skip key hK | u_reg key hK | u_skip key hK | u_op key hK | u_cond true key hK | u_cond false key hK | u_c stepG_ret' key hK | u_c stepG_block key hK | u_c stepG_loop key hK | u_c stepG_end key hK | u_defer key hK | u_leave1 H.f_uAdd key hK | u_leave1 H.f_uLoad key hK | u_leave0 H.f_uStore key hK | u_call H.f_uAdd (nm_uAdd L) uAddFn key hK | u_call H.f_uLoad (nm_uLoad L) uLoadFn key hK | u_call H.f_uStore (nm_uStore L) uStoreFn key hK | u_bub key hK)
 u_conv H.underlying_tWgP H.room_tWg (live_cell hK).choose_spec key hK
 refine Goes.stop (fun w₁ h₁=>?_)
 replace hK:=key hK h₁
 clear h₁
 refine ⟨rfl,_,30,stepG_markAt .releaseMerge (by simp) rfl rfl (by k_ne) rfl H.f_relMerge (x_relMerge_n L) (x_relMerge_b L) (x_relMerge_x L) (x_relMerge_f L) (by simp [Act.eval,stA]),?_⟩
 unfold Zg
 walk_nrm
 repeat (first | u_c stepG_seq key hK | u_c stepG_region_end key hK | u_c stepG_skip key hK | u_reg key hK | u_skip key hK | u_op key hK | u_cond true key hK | u_cond false key hK | u_c stepG_ret' key hK | u_c stepG_block key hK | u_c stepG_loop key hK | u_c stepG_end key hK | u_defer key hK | u_leave1 H.f_uAdd key hK | u_leave1 H.f_uLoad key hK | u_leave0 H.f_uStore key hK | u_call H.f_uAdd (nm_uAdd L) uAddFn key hK | u_call H.f_uLoad (nm_uLoad L) uLoadFn key hK | u_call H.f_uStore (nm_uStore L) uStoreFn key hK | u_bub key hK)
 refine Goes.stop (fun w₁ h₁=>?_)
 replace hK:=key hK h₁
 clear h₁
 refine ⟨rfl,_,80,stepG_mark0 .disable (by simp) rfl rfl (by k_ne) rfl H.f_disable (x_disable_n L) (x_disable_b L) (x_disable_x L) (x_disable_f L),?_⟩
 unfold Zg
 walk_nrm
 repeat (first | u_c stepG_seq key hK | u_c stepG_region_end key hK | u_c stepG_skip key hK | u_reg key hK | u_skip key hK | u_op key hK | u_cond true key hK | u_cond false key hK | u_c stepG_ret' key hK | u_c stepG_block key hK | u_c stepG_loop key hK | u_c stepG_end key hK | u_defer key hK | u_leave1 H.f_uAdd key hK | u_leave1 H.f_uLoad key hK | u_leave0 H.f_uStore key hK | u_call H.f_uAdd (nm_uAdd L) uAddFn key hK | u_call H.f_uLoad (nm_uLoad L) uLoadFn key hK | u_call H.f_uStore (nm_uStore L) uStoreFn key hK | u_bub key hK)
 refine Goes.stop (fun w₁ h₁=>?_)
 clear h₁ hK
 refine ⟨rfl,fun v wt hwt hv hw=>?_⟩
 have e0:IntKind.u64.wrap (KK+18446744069414584320)=0:=by decide
 have e1:IntKind.u64.wrap (KK+1+18446744069414584320)=1:=by decide
 rcases Nat.eq_zero_or_pos v with rfl | hvp <;> (obtain rfl | rfl:wt=0∨wt=1:=by omega)
 ·-- nobody is left,nobody waits
  replace hw:WgAt L.tWg Wg w₁ KK 0:=by simpa using hw
  have z:((0:Nat):Int)*KK+((0:Nat):Int)=0:=by simp
  rw [z]
  refine ⟨_,(stepG_add_atomic rfl rfl (by k_ne) rfl H.f_addU64 (x_addU64_n L) (x_addU64_b L) (x_addU64_x L) .u64 (x_addU64_f L) rfl rfl (WgAt.cellSt hw) (WgAt.thaw hw 0)).trans (by rw [e0];rfl),fun hl=>absurd hl.2 (by decide),fun _=>⟨qt+200,?_⟩⟩
  clear hw
  walk_nrm
  q_val (.int .u64 0)
  q_c stepG_region_end
  q_c stepG_ret'
  q_leave1 H.f_uAdd
  q_val (.int .u64 0)
  q_c stepG_region_end
  q_c stepG_seq
  q_c stepG_seq
  q_reg
  q_val (.int .u64 0)
  q_val (.int .u64 0)
  q_val (.bool false)
  q_val (.bool false)
  q_skip
  q_skip
  q_val (.bool false)
  q_c stepG_region_end
  q_cond false
  q_c stepG_skip
  q_c stepG_seq
  q_reg
  q_val (.int .u64 0)
  q_val (.int .u64 0)
  q_val (.int .i32 0)
  q_val (.int .i32 0)
  q_c stepG_region_end
  q_c stepG_seq
  q_reg
  q_val (.int .u64 0)
  q_val (.int .u64 0)
  q_val (.int .u32 0)
  q_val (.int .u32 0)
  q_c stepG_region_end
  q_c stepG_seq
  q_c stepG_seq
  q_reg
  q_val (.bool true)
  q_val (.int .i64 (-1))
  q_val (.bool false)
  q_val (.bool false)
  q_val (.bool false)
  q_skip
  q_skip
  q_skip
  q_skip
  q_val (.bool false)
  q_c stepG_region_end
  q_cond false
  q_c stepG_skip
  q_c stepG_seq
  q_c stepG_seq
  q_reg
  q_val (.int .i32 0)
  q_val (.bool false)
  q_c stepG_region_end
  q_cond false
  q_c stepG_skip
  q_c stepG_seq
  q_c stepG_seq
  q_reg
  q_val (.int .u32 0)
  q_val (.bool false)
  q_val (.bool false)
  q_skip
  q_skip
  q_val (.bool false)
  q_val (.bool false)
  q_skip
  q_skip
  q_skip
  q_skip
  q_val (.bool false)
  q_c stepG_region_end
  q_cond false
  q_c stepG_skip
  q_c stepG_seq
  q_c stepG_seq
  q_reg
  q_val (.int .i32 0)
  q_val (.bool false)
  q_val (.bool false)
  q_val (.int .u32 0)
  q_val (.bool true)
  q_val (.bool true)
  q_c stepG_region_end
  q_cond true
  q_c stepG_ret'
  q_enable
  q_leave0 H.f_add
  exact quits_mono hT (by omega)
 ·-- nobody is left,the starter waits: the last one
  replace hw:WgAt L.tWg Wg w₁ (KK+1) 0:=by simpa using hw
  have z:((0:Nat):Int)*KK+((1:Nat):Int)=1:=by simp
  rw [z]
  refine ⟨_,(stepG_add_atomic rfl rfl (by k_ne) rfl H.f_addU64 (x_addU64_n L) (x_addU64_b L) (x_addU64_x L) .u64 (x_addU64_f L) rfl rfl (WgAt.cellSt hw) (WgAt.thaw hw 0)).trans (by rw [e1];rfl),fun _=>⟨150,?_⟩,fun hl=>absurd ⟨rfl,rfl⟩ hl⟩
  have hK:WgLive L.tWg Wg (w₁.setCell (stA Wg) (.int .u64 1)):=⟨_,_,WgAt.setSt hw 1⟩
  clear hw
  unfold Zg
  walk_nrm
  u_op key hK
  u_c stepG_region_end key hK
  u_c stepG_ret' key hK
  u_leave1 H.f_uAdd key hK
  u_op key hK
  u_c stepG_region_end key hK
  u_c stepG_seq key hK
  u_c stepG_seq key hK
  u_reg key hK
  u_op key hK
  u_op key hK
  u_op key hK
  u_op key hK
  u_skip key hK
  u_skip key hK
  u_op key hK
  u_c stepG_region_end key hK
  u_cond false key hK
  u_c stepG_skip key hK
  u_c stepG_seq key hK
  u_reg key hK
  u_op key hK
  u_op key hK
  u_op key hK
  u_op key hK
  u_c stepG_region_end key hK
  u_c stepG_seq key hK
  u_reg key hK
  u_op key hK
  u_op key hK
  u_op key hK
  u_op key hK
  u_c stepG_region_end key hK
  u_c stepG_seq key hK
  u_c stepG_seq key hK
  u_reg key hK
  u_op key hK
  u_op key hK
  u_op key hK
  u_op key hK
  u_op key hK
  u_skip key hK
  u_skip key hK
  u_skip key hK
  u_skip key hK
  u_op key hK
  u_c stepG_region_end key hK
  u_cond false key hK
  u_c stepG_skip key hK
  u_c stepG_seq key hK
  u_c stepG_seq key hK
  u_reg key hK
  u_op key hK
  u_op key hK
  u_c stepG_region_end key hK
  u_cond false key hK
  u_c stepG_skip key hK
  u_c stepG_seq key hK
  u_c stepG_seq key hK
  u_reg key hK
  u_op key hK
  u_op key hK
  u_op key hK
  u_op key hK
  u_op key hK
  u_op key hK
  u_op key hK
  u_skip key hK
  u_skip key hK
  u_skip key hK
  u_skip key hK
  u_op key hK
  u_c stepG_region_end key hK
  u_cond false key hK
  u_c stepG_skip key hK
  u_c stepG_seq key hK
  u_c stepG_seq key hK
  u_reg key hK
  u_op key hK
  u_op key hK
  u_op key hK
  u_op key hK
  u_op key hK
  u_op key hK
  u_c stepG_region_end key hK
  u_cond false key hK
  u_c stepG_skip key hK
  u_c stepG_seq key hK
  u_c stepG_seq key hK
  u_reg key hK
  u_op key hK
  u_op key hK
  u_op key hK
  u_call H.f_uLoad (nm_uLoad L) uLoadFn key hK
  u_c stepG_seq key hK
  u_reg key hK
  u_op key hK
  u_c stepG_region_end key hK
  u_c stepG_seq key hK
  u_reg key hK
  u_op key hK
  u_op key hK
  u_op key hK
  refine Goes.stop (fun w₂ h₂=>?_)
  clear h₂ hK
  refine ⟨rfl,fun hw=>⟨_,60,stepG_load_atomic rfl rfl (by k_ne) rfl H.f_loadU64 (x_loadU64_n L) (x_loadU64_b L) (x_loadU64_x L) .u64 (x_loadU64_f L) rfl (WgAt.cellSt hw),?_⟩⟩
  have hK:WgLive L.tWg Wg w₂:=⟨_,_,hw⟩
  clear hw
  unfold Zg
  walk_nrm
  u_op key hK
  u_c stepG_region_end key hK
  u_c stepG_ret' key hK
  u_leave1 H.f_uLoad key hK
  u_op key hK
  u_op key hK
  u_c stepG_region_end key hK
  u_cond false key hK
  u_c stepG_skip key hK
  u_c stepG_seq key hK
  u_reg key hK
  u_op key hK
  u_op key hK
  u_op key hK
  u_call H.f_uStore (nm_uStore L) uStoreFn key hK
  u_reg key hK
  u_op key hK
  u_op key hK
  u_op key hK
  u_op key hK
  refine Goes.stop (fun w₃ h₃=>?_)
  clear h₃ hK
  refine ⟨rfl,fun hw=>⟨_,60,stepG_store_atomic rfl rfl (by k_ne) rfl H.f_storeU64 (x_storeU64_n L) (x_storeU64_b L) (x_storeU64_x L) (x_storeU64_f L) rfl rfl (WgAt.cellSt hw) (WgAt.thaw hw 0),?_⟩⟩
  have hK:WgLive L.tWg Wg (w₃.setCell (stA Wg) (.int .u64 0)):=⟨_,_,WgAt.setSt hw 0⟩
  clear hw
  unfold Zg
  walk_nrm
  u_c stepG_region_end key hK
  u_c stepG_end key hK
  u_leave0 H.f_uStore key hK
  u_c stepG_region_end key hK
  u_c stepG_seq key hK
  u_c stepG_seq key hK
  u_reg key hK
  u_op key hK
  u_c stepG_region_end key hK
  u_cond false key hK
  u_c stepG_skip key hK
  u_c stepG_block key hK
  u_c stepG_loop key hK
  u_c stepG_seq key hK
  u_c stepG_seq key hK
  u_reg key hK
  u_op key hK
  u_op key hK
  u_c stepG_region_end key hK
  u_cond true key hK
  u_c stepG_skip key hK
  u_c stepG_seq key hK
  u_c stepG_block key hK
  u_reg key hK
  u_op key hK
  u_op key hK
  u_op key hK
  refine Goes.stop (fun w₄ h₄=>?_)
  clear h₄ hK
  refine ⟨rfl,mayWake_entry rfl rfl H.f_semrelease (x_semrelease_b L),fun hw=>⟨_,qt+40,(stepG_semrelease rfl rfl (by k_ne) rfl H.f_semrelease (x_semrelease_n L) (x_semrelease_b L) (x_semrelease_x L) (x_semrelease_f L) (by simp [Act.eval,smA]) (WgAt.cellSm hw) (WgAt.thaw hw 1)).trans (by rfl),?_⟩⟩
  clear hw
  walk_nrm
  q_c stepG_region_end
  q_c stepG_inBlock
  q_reg
  q_val (.int .u32 1)
  q_val (.int .u32 0)
  q_val (.int .u32 0)
  q_c stepG_region_end
  q_c stepG_inLoop
  q_c stepG_seq
  q_c stepG_seq
  q_reg
  q_val (.int .u32 0)
  q_val (.bool false)
  q_c stepG_region_end
  q_cond false
  q_exit
  q_c stepG_end
  q_enable
  q_leave0 H.f_add
  exact quits_mono hT (by omega)
 ·-- some are left,nobody waits
  replace hw:WgAt L.tWg Wg w₁ (((v:Nat)+1)*KK+0) 0:=by simpa using hw
  have z:((v:Nat):Int)*KK+((0:Nat):Int)=(v:Int)*KK+0:=by simp
  rw [z]
  have eS:IntKind.u64.wrap (((v:Nat)+1)*KK+0+18446744069414584320)=(v:Int)*KK+0:=by rw [IntKind.wrap_u64];simp only [KK];omega
  obtain ⟨S,hS⟩:∃ S:Int,S=(v:Int)*KK+0:=⟨_,rfl⟩
  rw [← hS] at eS ⊢
  have a1:S/4294967296=(v:Int):=by rw [hS];simp only [KK];omega
  have a2:0≤S∧S<9223372036854775808:=by rw [hS];simp only [KK];omega
  have b1:bits .and .u64 S 2147483648=0:=by rw [hS];have:=Go.ConcN.st_flag v 0 (by omega) (by omega);simpa [KK] using this
  have b2:bits .and .u64 S 2147483647=0:=by rw [hS];have:=Go.ConcN.st_waiters v 0 (by omega) (by omega);simpa [KK] using this
  clear hS z
  refine ⟨_,(stepG_add_atomic rfl rfl (by k_ne) rfl H.f_addU64 (x_addU64_n L) (x_addU64_b L) (x_addU64_x L) .u64 (x_addU64_f L) rfl rfl (WgAt.cellSt hw) (WgAt.thaw hw 0)).trans (by rw [eS];rfl),fun hl=>absurd hl.1 (by omega),fun _=>⟨qt+150,?_⟩⟩
  clear hw
  walk_nrm
  q_vn (.int .u64 S)
  q_c stepG_region_end
  q_c stepG_ret'
  q_leave1 H.f_uAdd
  q_vn (.int .u64 S)
  q_c stepG_region_end
  q_c stepG_seq
  q_c stepG_seq
  q_reg
  q_vn (.int .u64 S)
  q_vn (.int .u64 0)
  q_vn (.bool false)
  q_vn (.bool false)
  q_skip
  q_skip
  q_vn (.bool false)
  q_c stepG_region_end
  q_cond false
  q_c stepG_skip
  q_c stepG_seq
  q_reg
  q_vn (.int .u64 S)
  q_vn (.int .u64 (v:Int))
  q_vn (.int .i32 (v:Int))
  q_vn (.int .i32 (v:Int))
  q_c stepG_region_end
  q_c stepG_seq
  q_reg
  q_vn (.int .u64 S)
  q_vn (.int .u64 0)
  q_vn (.int .u32 0)
  q_vn (.int .u32 0)
  q_c stepG_region_end
  q_c stepG_seq
  q_c stepG_seq
  q_reg
  q_vn (.bool true)
  q_vn (.int .i64 (-1))
  q_vn (.bool false)
  q_vn (.bool false)
  q_vn (.bool false)
  q_skip
  q_skip
  q_skip
  q_skip
  q_vn (.bool false)
  q_c stepG_region_end
  q_cond false
  q_c stepG_skip
  q_c stepG_seq
  q_c stepG_seq
  q_reg
  q_vn (.int .i32 (v:Int))
  q_vn (.bool false)
  q_c stepG_region_end
  q_cond false
  q_c stepG_skip
  q_c stepG_seq
  q_c stepG_seq
  q_reg
  q_vn (.int .u32 0)
  q_vn (.bool false)
  q_vn (.bool false)
  q_skip
  q_skip
  q_vn (.bool false)
  q_vn (.bool false)
  q_skip
  q_skip
  q_skip
  q_skip
  q_vn (.bool false)
  q_c stepG_region_end
  q_cond false
  q_c stepG_skip
  q_c stepG_seq
  q_c stepG_seq
  q_reg
  q_vn (.int .i32 (v:Int))
  q_vn (.bool true)
  q_vn (.bool true)
  q_skip
  q_skip
  q_vn (.bool true)
  q_c stepG_region_end
  q_cond true
  q_c stepG_ret'
  q_enable
  q_leave0 H.f_add
  exact quits_mono hT (by omega)
 ·-- some are left,the starter waits
  replace hw:WgAt L.tWg Wg w₁ (((v:Nat)+1)*KK+1) 0:=by simpa using hw
  have z:((v:Nat):Int)*KK+((1:Nat):Int)=(v:Int)*KK+1:=by simp
  rw [z]
  have eS:IntKind.u64.wrap (((v:Nat)+1)*KK+1+18446744069414584320)=(v:Int)*KK+1:=by rw [IntKind.wrap_u64];simp only [KK];omega
  obtain ⟨S,hS⟩:∃ S:Int,S=(v:Int)*KK+1:=⟨_,rfl⟩
  rw [← hS] at eS ⊢
  have a1:S/4294967296=(v:Int):=by rw [hS];simp only [KK];omega
  have a2:0≤S∧S<9223372036854775808:=by rw [hS];simp only [KK];omega
  have b1:bits .and .u64 S 2147483648=0:=by rw [hS];have:=Go.ConcN.st_flag v 1 (by omega) (by omega);simpa [KK] using this
  have b2:bits .and .u64 S 2147483647=1:=by rw [hS];have:=Go.ConcN.st_waiters v 1 (by omega) (by omega);simpa [KK] using this
  clear hS z
  refine ⟨_,(stepG_add_atomic rfl rfl (by k_ne) rfl H.f_addU64 (x_addU64_n L) (x_addU64_b L) (x_addU64_x L) .u64 (x_addU64_f L) rfl rfl (WgAt.cellSt hw) (WgAt.thaw hw 0)).trans (by rw [eS];rfl),fun hl=>absurd hl.1 (by omega),fun _=>⟨qt+150,?_⟩⟩
  clear hw
  walk_nrm
  q_vn (.int .u64 S)
  q_c stepG_region_end
  q_c stepG_ret'
  q_leave1 H.f_uAdd
  q_vn (.int .u64 S)
  q_c stepG_region_end
  q_c stepG_seq
  q_c stepG_seq
  q_reg
  q_vn (.int .u64 S)
  q_vn (.int .u64 0)
  q_vn (.bool false)
  q_vn (.bool false)
  q_skip
  q_skip
  q_vn (.bool false)
  q_c stepG_region_end
  q_cond false
  q_c stepG_skip
  q_c stepG_seq
  q_reg
  q_vn (.int .u64 S)
  q_vn (.int .u64 (v:Int))
  q_vn (.int .i32 (v:Int))
  q_vn (.int .i32 (v:Int))
  q_c stepG_region_end
  q_c stepG_seq
  q_reg
  q_vn (.int .u64 S)
  q_vn (.int .u64 1)
  q_vn (.int .u32 1)
  q_vn (.int .u32 1)
  q_c stepG_region_end
  q_c stepG_seq
  q_c stepG_seq
  q_reg
  q_vn (.bool true)
  q_vn (.int .i64 (-1))
  q_vn (.bool false)
  q_vn (.bool false)
  q_vn (.bool false)
  q_skip
  q_skip
  q_skip
  q_skip
  q_vn (.bool false)
  q_c stepG_region_end
  q_cond false
  q_c stepG_skip
  q_c stepG_seq
  q_c stepG_seq
  q_reg
  q_vn (.int .i32 (v:Int))
  q_vn (.bool false)
  q_c stepG_region_end
  q_cond false
  q_c stepG_skip
  q_c stepG_seq
  q_c stepG_seq
  q_reg
  q_vn (.int .u32 1)
  q_vn (.bool true)
  q_vn (.bool true)
  q_vn (.int .i64 (-1))
  q_vn (.bool false)
  q_vn (.bool false)
  q_vn (.bool false)
  q_skip
  q_skip
  q_skip
  q_skip
  q_vn (.bool false)
  q_c stepG_region_end
  q_cond false
  q_c stepG_skip
  q_c stepG_seq
  q_c stepG_seq
  q_reg
  q_vn (.int .i32 (v:Int))
  q_vn (.bool true)
  q_vn (.bool true)
  q_skip
  q_skip
  q_vn (.bool true)
  q_c stepG_region_end
  q_cond true
  q_c stepG_ret'
  q_enable
  q_leave0 H.f_add
  exact quits_mono hT (by omega)
end Go.PB
namespace Go.PB
open Go.Conc Go.Conc.Lib Go.ConcR.Gen
open Go.ConcR (KK stA smA rd wr mk DC0)
set_option maxRecDepth 100000 in
theorem add_goes2 [Go.ConcR.Payload] {P:Program} {L:WgLink} (H:WgLib P L) {Wg:Nat} {b₀:Frame} {a₀:Act} {ops₀:Array Oper} {i₀:Nat} {rest₀:List Nat} {k₀:List Item} {cs:List Frame} {qt:Nat}
  (hT:QuitsD P qt 0 (G (b₀.at (a₀.put ((ops₀[i₀]?).bind (·.dst)) (.tuple #[])) (.inRegion ops₀ rest₀::k₀)) cs)) (w:World) (hK:WgLive L.tWg Wg w) :
  Zg P L.tWg Wg (ZR P L.tWg Wg) 20 (G ((Go.Conc.base L.add).at ⟨#[.pointer (some ⟨Wg,0,none⟩),.int .i64 (-1),undef,undef,undef,undef,undef,undef,undef,undef,undef,undef,undef,undef,undef,undef,undef,undef,undef,undef,undef,undef,undef,undef,undef,undef,undef,undef,undef,undef,undef,undef,undef,undef,undef,undef,undef,undef,undef,undef,undef,undef,undef,undef,undef,undef,undef,undef,undef,undef,undef,undef,undef,undef,undef,undef,undef,undef,undef,undef,undef,undef,undef,undef,undef,undef,undef,undef,undef,undef,undef,undef,undef,undef,undef,undef,undef,undef,undef,undef,undef,undef,undef,undef,undef,undef,undef,undef,undef,undef,undef,undef,undef,undef,undef,undef,undef,undef,undef,undef,undef,undef,undef,undef,undef,undef,undef,undef,undef,undef,undef,undef,undef,undef,undef,undef,undef],[]⟩ [.code (body_add L)]) (b₀.at a₀ (.inRegion ops₀ (i₀::rest₀)::k₀)::cs)) w:=by
 have e:(#[.pointer (some ⟨Wg,0,none⟩),.int .i64 (-1),undef,undef,undef,undef,undef,undef,undef,undef,undef,undef,undef,undef,undef,undef,undef,undef,undef,undef,undef,undef,undef,undef,undef,undef,undef,undef,undef,undef,undef,undef,undef,undef,undef,undef,undef,undef,undef,undef,undef,undef,undef,undef,undef,undef,undef,undef,undef,undef,undef,undef,undef,undef,undef,undef,undef,undef,undef,undef,undef,undef,undef,undef,undef,undef,undef,undef,undef,undef,undef,undef,undef,undef,undef,undef,undef,undef,undef,undef,undef,undef,undef,undef,undef,undef,undef,undef,undef,undef,undef,undef,undef,undef,undef,undef,undef,undef,undef,undef,undef,undef,undef,undef,undef,undef,undef,undef,undef,undef,undef,undef,undef,undef,undef,undef,undef]:Array Value)=#[.pointer (some ⟨Wg,0,none⟩),.int .i64 (-1)]++Array.replicate 115 undef:=by kernel_rfl
 rw [e]
 exact add_goes H hT w hK
set_option maxHeartbeats 8000000 in
set_option maxRecDepth 100000 in
theorem done_goes [Go.ConcR.Payload] {P:Program} {L:WgLink} (H:WgLib P L) {Wg:Nat} {c:Frame} {cs:List Frame} {qt:Nat} (hcm:c.mode=.returning) (hT:QuitsD P qt 0 (G c cs)) (w:World) (hK:WgLive L.tWg Wg w) :
  Zg P L.tWg Wg (ZR P L.tWg Wg) 23 (G ((baseD L.done).at ⟨#[.pointer (some ⟨Wg,0,none⟩),undef,undef,undef],[]⟩ [.code (body_done L)]) (c::cs)) w:=by
 lib_facts
 have hA:=@add_goes2 _ P L H Wg
 unfold Zg at hA ⊢
 have key:∀ {w w₁:World},WgLive L.tWg Wg w→RL L.tWg Wg w w₁→WgLive L.tWg Wg w₁:=fun h r=>r h
 simp only [body_done,body_add,doneFn,addFn,Option.getD_some] at hA ⊢
 u_reg key hK
 u_op key hK
 u_in key hK
 refine goes_call rfl rfl (by k_ne) rfl H.f_add (nm_add L) rfl ⟨by u_nil,?_⟩
 walk_nrmf addFn
 refine hA (qt:=qt+3) ?_ _ hK
 q_c stepG_region_end
 q_c stepG_end
 exact QuitsD.leaveD rfl rfl H.f_done rfl hcm hT
theorem done_enter {P:Program} {L:WgLink} (H:WgLib P L) {v:Value}:Frame.enter P L.done #[v] .deferred=(baseD L.done).at ⟨#[v,undef,undef,undef],[]⟩ [.code (body_done L)]:=by
 simp [Frame.enter,H.f_done,body_done,doneFn]
 rfl
end Go.PB
