/-
  Part 5 of 8.
-/
import Derived.Test.YtodgemainhokjaaSqf4
import Derived.Test.YtodgemainhokjaaSqf2
import Derived.Test.YtodgemainhokjaaSqf3
set_option linter.unusedVariables false
set_option linter.unusedSimpArgs false
namespace Go.Proofs.Ytodgemainhokjaa
open Go Go.PB
attribute [local irreducible] Mo Bin Eql Tr Wo Ap Wle
section
def sAddr (r:Nat) (w:Nat):Nat × Nat:=(r,if w=0 then 0 else 1+w)
def sK (r n:Nat):List (Nat × Nat × Value):=[(r,1,.int .i64 (n:Nat))]
theorem s_apart (r n:Nat):Apart (sAddr r) (n+1) (sK r n) where
 inj:=fun i j _ _ h=>by
  have:=congrArg Prod.snd h
  simp only [sAddr] at this
  split at this <;> split at this <;> omega
 fix:=fun i _ k hk=>by
  simp only [sK,List.mem_singleton] at hk;subst hk
  intro h
  have:=congrArg Prod.snd h
  simp only [sAddr] at this
  split at this <;> omega
def sC (r n:Nat) (f:Nat→Nat):HProp:=wds (sAddr r) (n+1) (sK r n) f
def recF (ws:List Nat) (v:Nat):Nat→Nat:=fun w=>if w=0 then v else ws.getD (w-1) 0
theorem recF_succ {ws:List Nat} {v i:Nat}:recF ws v (1+i)=ws.getD i 0:=by
 unfold recF
 rw [if_neg (by omega),show 1+i-1=i by omega]
def updL:(Nat→Nat)→List Nat→Nat→Nat→Nat
 | f,[],_=>f
 | f,w::l,i=>updL (upd f (1+i) w) l (i+1)
theorem updL_at:∀ (l:List Nat) (f:Nat→Nat) (i j:Nat),updL f l i j=if i+1≤j∧j<i+1+l.length then l.getD (j-(i+1)) 0 else f j
 | [],f,i,j=>by simp only [updL,List.length_nil];rw [if_neg (by omega)]
 | w::l,f,i,j=>by
  rw [updL,updL_at l]
  simp only [List.length_cons]
  by_cases h1:i+1+1≤j∧j<i+1+1+l.length
  ·rw [if_pos h1,if_pos (by omega),show j-(i+1)=(j-(i+1+1))+1 by omega];rfl
  ·rw [if_neg h1]
   by_cases h2:j=1+i
   ·subst h2
    rw [upd_same,if_pos (by omega),show 1+i-(i+1)=0 by omega];rfl
   ·rw [upd_other h2,if_neg (by omega)]
theorem upd_rec {ws ws':List Nat} {v u n:Nat} (h':ws'.length=n):∀ i,i<n+1→upd (updL (upd (recF ws v) 0 (v+1)) ws' 0) 0 u i=recF ws' u i:=fun i hi=>by
 by_cases h0:i=0
 ·subst h0;rw [upd_same];rfl
 ·rw [upd_other h0,updL_at,if_pos (by omega)]
  show _=if i=0 then u else _
  rw [if_neg h0]
section
variable {B:Hand} [Lets B] {x:B.X} {r n nb:Nat} {L F:List HProp} {h:Hp} {ws ws':List Nat} {ms:List (Int × Nat)} {v:Nat} {f f':Nat→Nat}
theorem sC_rd:Rd [sC r n f] r 1 (.int .i64 (n:Nat)):=fun h hs=>by
 obtain ⟨h1,h2,s1,hc,_⟩:=hs
 exact ⟨rfl,.inl (s1.o1 _ _ _ (hc.2 (r,1,.int .i64 (n:Nat)) (List.mem_singleton.2 rfl)))⟩
theorem sC_congr (e:∀ i,i<n+1→f i=f' i):∀ h,sC r n f h→sC r n f' h:=fun h s=>⟨fun w hw=>by rw [← e w hw];exact s.1 w hw,s.2⟩
def sLone (x:B.X) (r n:Nat):Acc B .nilIface:=loneAcc x (sAddr r) (n+1) (sK r n) (s_apart r n)
theorem s_addr {i:Nat}:sAddr r (1+i)=(r,2+i):=by
 simp only [sAddr];rw [if_neg (by omega)];congr 1;omega
theorem s_at (h1:1≤n) (h2:n≤16):SeqAt (sLone x r n) r n:=⟨h1,h2,fun s=>sC_rd,rfl,fun i _=>s_addr⟩
theorem rd_in1 {M:List HProp} {b o:Nat} {v:Value} (h:Rd M b o v):Rd [all M] b o v:=fun w st=>h w (by have:=star_open st;rwa [List.append_nil] at this)
theorem rloop_lone {K:List Nat→(Nat→Nat)→Prop} {s:Nat→Nat}:∀ (k:Nat) (acc:List Nat),acc.length+k≤n→K (acc++(List.range' acc.length k).map fun i=>s (1+i)) s→RLoop (sLone x r n) K k acc s
 | 0,acc,_,hk=>by
  show K acc s
  simpa using hk
 | k+1,acc,hl,hk=>⟨by omega,rloop_lone k (acc++[s (1+acc.length)]) (by simp;omega) (by
   rw [List.range'_succ] at hk
   simpa using hk)⟩
theorem range_rec {ws:List Nat} {v:Nat}:(List.range' 0 ws.length).map (fun i=>recF ws v (1+i))=ws:=by
 apply List.ext_getElem
 ·simp
 ·intro i h1 h2
  simp only [List.getElem_map,List.getElem_range',recF_succ]
  rw [List.getD_eq_getElem?_getD,List.getElem?_eq_getElem (by omega)]
  simp
theorem readT_lone (hlen:ws.length=n) (hv:v%2=0) {Q:Option (List Nat × Nat)→(Nat→Nat)→Prop} (q:Q (some (ws,v)) (recF ws v)):ReadT (sLone x r n) n (recF ws v) Q:=by
 refine ⟨by show 0<n+1;omega,?_⟩
 show if v%2=0 then _ else _
 rw [if_pos hv]
 refine rloop_lone n [] (by simp) ⟨by show 0<n+1;omega,?_⟩
 show if v=v then _ else _
 rw [if_pos rfl]
 show Q (some (_,v)) _
 simp only [List.length_nil,List.nil_append]
 rw [← hlen,range_rec]
 exact q
theorem read_lone (h1:1≤n) (h2:n≤16) (hlen:ws.length=n) (hv:v%2=0) (hh:Has L (sC r n (recF ws v)) F) :
  Tr Try.prog B 16 [.pointer (some ⟨r,0,none⟩),.nilIface] L x fun v' L' x'=>∃ rv,v'=.tuple #[rv,.int .u64 (v:Nat),.int .i64 0]∧L'=sC r n (recF ws v)::vec 1 rv (ws.map num)::F∧x'=x:=by
 refine (read_tr (A:=sLone x r n) (s_at h1 h2) (s:=recF ws v) (Q:=fun o s=>o=some (ws,v)∧s=recF ws v) (readT_lone hlen hv ⟨rfl,rfl⟩) hh).mono ?_
 rintro v' L' x' ⟨o,s',rv,⟨rfl,rfl⟩,_,rfl,rfl,rfl⟩
 exact ⟨rv,rfl,rfl,rfl⟩
def newF (ws:List Nat) (i:Nat):Nat→Nat:=fun w=>if w=0 then 0 else if w-1<i then ws.getD (w-1) 0 else 0
def newInv (x:B.X) (r n:Nat) (ws:List Nat) (wv:Value) (L:List HProp):PB.Inv Nat B.X where
 e:=fun i=>[(4,.pointer (some ⟨r,0,none⟩)),(19,wv),(20,.int .i64 (n:Nat)),(21,.int .i64 (i:Nat))]
 L:=fun i=>sC r n (newF ws i)::L
 x:=fun _=>x
 ok:=fun i=>i≤n
theorem snew_tr (h1:1≤n) (h2:n≤16) {wa:Option Addr} {wc:Nat} (hlen:ws.length=n) (hb:∀ w∈ws,w<18446744073709551616) (hw:RdsO L wa n (ws.map num)) :
  Tr Try.prog B 11 [.slice wa n wc] L x fun v L' x'=>∃ r,v=.tuple #[.pointer (some ⟨r,0,none⟩),.int .i64 0]∧L'=sC r n (recF ws 0)::L∧x'=x:=by
 refine Tr.post (R:=fun v L' x'=>∃ r,v=.tuple #[.pointer (some ⟨r,0,none⟩),.int .i64 0]∧x'=x∧∀ h,Star L' h→Star (sC r n (recF ws 0)::L) h) ?_ (by rintro v L' x' ⟨r,rfl,rfl,hs⟩;exact ⟨_,⟨r,rfl,rfl,rfl⟩,hs⟩)
 obtain ⟨wb,wo,rfl,hrds⟩:=hw.rds (by omega)
 refine tr_of_body Try.func11 rfl Try.ntmps11 (by simp) fun um Q _ hQ=>?_
 simp only [argE,Nat.zero_add,Nat.reduceAdd]
 repeat (first | (apply wo_po;apply mo_build (pv:=[(1,_)]);exact rfl;exact .cons rfl .nil;exact rfl;exact trivial) | (apply wo_mo;apply mo_box;exact rfl;exact trivial) | refine wgtrF ?_ | refine weqlF ?_ | refine we_seq ?_ | (refine wR ?_;try simp only [oS]) | refine wo_nil ?_ | refine wM ?_ | refine wA ?_ | refine wE ?_ | refine wF ?_ | refine we_skip ?_ | refine we_block ?_)
 rintro v' L' ⟨r,rfl,rfl⟩
 refine wo_star (sC r n (newF ws 0)::L) (fun h st=>star_map st (fun h a=>⟨fun w hw=>⟨?_,?_⟩,fun k hk=>?_⟩) fun _ y=>y) ?_
 ·show (if w=0 then 0 else if w-1<0 then ws.getD (w-1) 0 else 0)<18446744073709551616
  rw [if_neg (by omega:¬ (w-1<0))];split <;> decide
 ·have e:newF ws 0 w=0:=by
   show (if w=0 then 0 else if w-1<0 then ws.getD (w-1) 0 else 0)=0
   rw [if_neg (by omega:¬ (w-1<0))];split <;> rfl
  rw [e]
  have hlt:w<17:=by omega
  match w,hlt with
  | 0,_=>exact a 0 _ rfl
  | 1,_=>exact a 2 _ rfl
  | 2,_=>exact a 3 _ rfl
  | 3,_=>exact a 4 _ rfl
  | 4,_=>exact a 5 _ rfl
  | 5,_=>exact a 6 _ rfl
  | 6,_=>exact a 7 _ rfl
  | 7,_=>exact a 8 _ rfl
  | 8,_=>exact a 9 _ rfl
  | 9,_=>exact a 10 _ rfl
  | 10,_=>exact a 11 _ rfl
  | 11,_=>exact a 12 _ rfl
  | 12,_=>exact a 13 _ rfl
  | 13,_=>exact a 14 _ rfl
  | 14,_=>exact a 15 _ rfl
  | 15,_=>exact a 16 _ rfl
  | 16,_=>exact a 17 _ rfl
  | w+17,h=>exact absurd h (by omega)
 ·simp only [sK,List.mem_singleton] at hk;subst hk;exact a 1 _ rfl
 repeat (first | refine we_seq ?_ | (refine wR ?_;try simp only [oS]) | refine wo_nil ?_ | refine wM ?_ | refine wA ?_ | refine wE ?_ | refine we_block ?_)
 refine we_loopN (newInv x r n ws (.slice (some ⟨wb,wo,none⟩) n wc) L) (fun i=>n-i) 0 (Nat.zero_le _) ⟨rfl,rfl,rfl,rfl,trivial⟩ .refl rfl ?_
 intro i hi
 replace hi:i≤n:=hi
 dsimp only [newInv]
 by_cases c2:i<n
 ·have hiw:i<ws.length:=by omega
  obtain ⟨w,hwv⟩:∃ w,ws[i]=w:=⟨_,rfl⟩
  have hwb:w<18446744073709551616:=hb w (hwv▸List.getElem_mem hiw)
  have hrd:Rd (sC r n (newF ws i)::L) wb (wo+i) (.int .u64 (w:Nat)):=.there (hrds i _ (by rw [List.getElem?_map,List.getElem?_eq_getElem hiw,hwv];rfl))
  repeat (first | (apply wo_po;apply mo_indexAddr (r:=wo+i);exact rfl;exact rfl;omega;omega;omega;exact trivial) | (apply wo_po;apply mo_load;exact rfl;exact hrd;exact trivial) | (apply wo_po;apply mo_indexArr1 (j:=i);exact rfl;exact rfl;omega;exact trivial) | refine wlssT ?_ | refine we_seq ?_ | (refine wR ?_;try simp only [oS]) | refine wo_nil ?_ | refine wM ?_ | refine wA ?_ | refine wN ?_ | refine wD ?_ | refine wT ?_ | refine we_skip ?_ | refine we_block ?_)
  refine wo_call (.cons rfl (.cons rfl .nil)) trivial (store_lone (wt_wds (s_apart r n) .here (w:=1+i) (by omega) s_addr (n:=w) hwb)) ?_
  rintro v1 L1 x1 ⟨rfl,rfl,rfl⟩
  repeat (first | (refine wR ?_;try simp only [oS]) | refine wo_nil ?_ | refine wM ?_ | refine wadd ?_)
  have e:upd (newF ws i) (1+i) w=newF ws (i+1):=by
   funext j
   show (if j=1+i then w else if j=0 then 0 else if j-1<i then ws.getD (j-1) 0 else 0)=if j=0 then 0 else if j-1<i+1 then ws.getD (j-1) 0 else 0
   by_cases hj:j=1+i
   ·subst hj
    rw [if_pos rfl,if_neg (by omega),if_pos (by omega),show 1+i-1=i by omega,List.getD_eq_getElem?_getD,List.getElem?_eq_getElem hiw,hwv];rfl
   ·rw [if_neg hj]
    by_cases h0:j=0
    ·rw [if_pos h0,if_pos h0]
    ·rw [if_neg h0,if_neg h0]
     by_cases h3:j-1<i
     ·rw [if_pos h3,if_pos (by omega)]
     ·rw [if_neg h3,if_neg (by omega)]
  rw [e]
  refine at_round (I:=newInv x1 r n ws (.slice (some ⟨wb,wo,none⟩) n wc) L) (R:=fun j=>n-j<n-i) (i+1) (by omega) (by show i+1≤n;omega) ⟨rfl,rfl,rfl,rfl,trivial⟩ .refl rfl
 ·obtain rfl:i=n:=by omega
  repeat (first | refine wlssF ?_ | refine we_seq ?_ | (refine wR ?_;try simp only [oS]) | refine wo_nil ?_ | refine wM ?_ | refine wA ?_ | refine wF ?_ | refine we_ret ?_ | refine we_exit ?_)
  (first | refine or2 Try.func11 Try.results11 hQ rfl rfl ?_ | refine on2 Try.func11 Try.results11 hQ rfl rfl ?_)
  refine ⟨r,rfl,rfl,fun h st=>star_map st (sC_congr fun j hj=>?_) fun _ z=>z⟩
  show (if j=0 then 0 else if j-1<i then ws.getD (j-1) 0 else 0)=if j=0 then 0 else ws.getD (j-1) 0
  by_cases h0:j=0
  ·rw [if_pos h0,if_pos h0]
  ·rw [if_neg h0,if_neg h0,if_pos (by omega)]
end
end
section
section
variable {B:Hand} [Lets B] {gv:Value} {A:Acc B gv} {r n:Nat} {L F:List HProp}
def WaitT (A:Acc B gv) (n:Nat) (Q:Option (List Nat × Nat)→A.S→Prop):Nat→A.S→Prop
 | 0,s=>ReadT A n s Q
 | k+1,s=>ReadT A n s fun o s=>if o.isSome=true then Q o s else WaitT A n Q k s
def waInv (A:Acc B gv) (r n:Nat) (F:List HProp) (Q:Option (List Nat × Nat)→A.S→Prop):PB.Inv (Nat × A.S) B.X where
 e:=fun i=>[(0,.pointer (some ⟨r,0,none⟩)),(1,gv),(2,.int .i64 ((i.1+1:Nat):Int))]
 L:=fun i=>A.C i.2::F
 x:=fun i=>A.x i.2
 ok:=fun i=>i.1<16384∧WaitT A n Q i.1 i.2
theorem wait_tr (R:SeqAt A r n) {k:Nat} (hk:k<16384) {s:A.S} {G:Option (List Nat × Nat)→A.S→Prop} (hs:WaitT A n G k s) (hh:Has L (A.C s) F) :
  Tr Try.prog B 39 [.pointer (some ⟨r,0,none⟩),gv,.int .i64 ((k+1:Nat):Int)] L (A.x s) fun v' L' x'=>∃ q s' rv,G q s'∧GoodR n q∧v'=.tuple #[rv,.int .u64 (rdV q:Nat),.int .i64 (if q.isSome=true then 0 else 51)]∧L'=A.C s'::vec 1 rv ((rdW q).map num)::F∧x'=A.x s':=by
 have hlo:=R.lo
 have hhi:=R.hi
 have hr0:=Rd.of hh (R.hdr s)
 refine tr_of_body Try.func39 rfl Try.ntmps39 (by simp) fun um Q _ hQ=>?_
 simp only [argE,Nat.zero_add,Nat.reduceAdd]
 repeat (first | (fail) | refine wlssT ?_ | refine wlssF ?_ | refine wleqT ?_ | refine wleqF ?_ | refine wgtrT ?_ | refine wgtrF ?_ | refine wgeqT ?_ | refine wgeqF ?_ | refine weqlT ?_ | refine weqlF ?_ | refine wneqT ?_ | refine wneqF ?_ | refine we_seq ?_ | (refine wR ?_;try simp only [oS]) | refine wo_nil ?_ | refine wM ?_ | refine wA ?_ | (apply wo_no;exact rfl) | (apply wo_nu;exact rfl) | refine wK ?_ | refine wJ ?_ | refine wN ?_ | refine wD ?_ | (apply wo_po;apply mo_extract;exact rfl;exact rfl;exact gY) | (apply wo_po;apply mo_not;exact rfl;exact gY) | refine wL ?_ | (apply wo_po;apply mo_bin;exact rfl;exact rfl;exact bin_lss;exact gY) | (apply wo_po;apply mo_bin;exact rfl;exact rfl;exact bin_gtr;exact gY) | (apply wo_po;apply mo_bin;exact rfl;exact rfl;exact bin_leq;exact gY) | (apply wo_po;apply mo_bin;exact rfl;exact rfl;exact bin_geq;exact gY) | (apply wo_po;apply mo_bin;exact rfl;exact rfl;exact bin_eql;exact gY) | (apply wo_po;apply mo_bin;exact rfl;exact rfl;exact bin_neq;exact gY) | refine wadd ?_ | refine wsub ?_ | (apply wo_po;apply mo_bin;exact rfl;exact rfl;apply bin_ne;apply eql_ptr_nil;exact gY) | (apply wo_po;apply mo_bin;exact rfl;exact rfl;apply bin_eq;apply eql_ptr_nil;exact gY) | (apply wo_po;apply mo_bin;exact rfl;exact rfl;apply bin_ne;apply eql_slice_nil;exact gY) | (apply wo_po;apply mo_bin;exact rfl;exact rfl;apply bin_eq;apply eql_slice_nil;exact gY) | (apply wo_po;apply mo_bin;exact rfl;exact rfl;apply bin_ne;apply eql_nil_nil;exact gY) | (apply wo_po;apply mo_bin;exact rfl;exact rfl;apply bin_eq;apply eql_nil_nil;exact gY) | (apply wo_po;apply mo_bin;exact rfl;exact rfl;apply bin_ne;apply eql_iface_nil;exact gY) | refine wE ?_ | (apply wo_po;apply mo_conv;exact rfl;(first | exact wrap_i64 (by omega) (by omega) | exact wrap_u64 (by omega) (by omega));exact gY) | (apply wo_po;apply mo_min;exact rfl;exact rfl;exact gY) | refine wT ?_ | refine wF ?_ | refine we_ret ?_ | refine we_skip ?_ | refine we_label ?_ | refine we_block ?_ | refine we_scope ?_ | refine we_exit ?_)
 refine wo_call (.cons rfl .nil) trivial (snone_no hr0 hlo) ?_
 rintro v1 L1 x1 ⟨rfl,rfl,rfl⟩
 repeat (first | (fail) | refine wlssT ?_ | refine wlssF ?_ | refine wleqT ?_ | refine wleqF ?_ | refine wgtrT ?_ | refine wgtrF ?_ | refine wgeqT ?_ | refine wgeqF ?_ | refine weqlT ?_ | refine weqlF ?_ | refine wneqT ?_ | refine wneqF ?_ | refine we_seq ?_ | (refine wR ?_;try simp only [oS]) | refine wo_nil ?_ | refine wM ?_ | refine wA ?_ | (apply wo_no;exact rfl) | (apply wo_nu;exact rfl) | refine wK ?_ | refine wJ ?_ | refine wN ?_ | refine wD ?_ | (apply wo_po;apply mo_extract;exact rfl;exact rfl;exact gY) | (apply wo_po;apply mo_not;exact rfl;exact gY) | refine wL ?_ | (apply wo_po;apply mo_bin;exact rfl;exact rfl;exact bin_lss;exact gY) | (apply wo_po;apply mo_bin;exact rfl;exact rfl;exact bin_gtr;exact gY) | (apply wo_po;apply mo_bin;exact rfl;exact rfl;exact bin_leq;exact gY) | (apply wo_po;apply mo_bin;exact rfl;exact rfl;exact bin_geq;exact gY) | (apply wo_po;apply mo_bin;exact rfl;exact rfl;exact bin_eql;exact gY) | (apply wo_po;apply mo_bin;exact rfl;exact rfl;exact bin_neq;exact gY) | refine wadd ?_ | refine wsub ?_ | (apply wo_po;apply mo_bin;exact rfl;exact rfl;apply bin_ne;apply eql_ptr_nil;exact gY) | (apply wo_po;apply mo_bin;exact rfl;exact rfl;apply bin_eq;apply eql_ptr_nil;exact gY) | (apply wo_po;apply mo_bin;exact rfl;exact rfl;apply bin_ne;apply eql_slice_nil;exact gY) | (apply wo_po;apply mo_bin;exact rfl;exact rfl;apply bin_eq;apply eql_slice_nil;exact gY) | (apply wo_po;apply mo_bin;exact rfl;exact rfl;apply bin_ne;apply eql_nil_nil;exact gY) | (apply wo_po;apply mo_bin;exact rfl;exact rfl;apply bin_eq;apply eql_nil_nil;exact gY) | (apply wo_po;apply mo_bin;exact rfl;exact rfl;apply bin_ne;apply eql_iface_nil;exact gY) | refine wE ?_ | (apply wo_po;apply mo_conv;exact rfl;(first | exact wrap_i64 (by omega) (by omega) | exact wrap_u64 (by omega) (by omega));exact gY) | (apply wo_po;apply mo_min;exact rfl;exact rfl;exact gY) | refine wT ?_ | refine wF ?_ | refine we_ret ?_ | refine we_skip ?_ | refine we_label ?_ | refine we_block ?_ | refine we_scope ?_ | refine we_exit ?_)
 refine we_loopN (waInv A r n F G) (fun i=>i.1) (k,s) ⟨hk,hs⟩ ⟨rfl,rfl,rfl,trivial⟩ (Ent.take hh .refl) rfl ?_
 clear hs hk hr0
 rintro ⟨k,s1⟩ ⟨hk,h1⟩
 dsimp only [waInv] at hk h1 ⊢
 have hsub:IntKind.i64.wrap (((k+1:Nat):Int)-1)=(k:Int):=(wrap_i64 (by omega) (by omega)).trans (by omega)
 cases k with
 | zero =>
  repeat (first | (fail) | refine wlssT ?_ | refine wlssF ?_ | refine wleqT ?_ | refine wleqF ?_ | refine wgtrT ?_ | refine wgtrF ?_ | refine wgeqT ?_ | refine wgeqF ?_ | refine weqlT ?_ | refine weqlF ?_ | refine wneqT ?_ | refine wneqF ?_ | refine we_seq ?_ | (refine wR ?_;try simp only [oS]) | refine wo_nil ?_ | refine wM ?_ | refine wA ?_ | (apply wo_no;exact rfl) | (apply wo_nu;exact rfl) | refine wK ?_ | refine wJ ?_ | refine wN ?_ | refine wD ?_ | (apply wo_po;apply mo_extract;exact rfl;exact rfl;exact gY) | (apply wo_po;apply mo_not;exact rfl;exact gY) | refine wL ?_ | (apply wo_po;apply mo_bin;exact rfl;exact rfl;exact bin_lss;exact gY) | (apply wo_po;apply mo_bin;exact rfl;exact rfl;exact bin_gtr;exact gY) | (apply wo_po;apply mo_bin;exact rfl;exact rfl;exact bin_leq;exact gY) | (apply wo_po;apply mo_bin;exact rfl;exact rfl;exact bin_geq;exact gY) | (apply wo_po;apply mo_bin;exact rfl;exact rfl;exact bin_eql;exact gY) | (apply wo_po;apply mo_bin;exact rfl;exact rfl;exact bin_neq;exact gY) | refine wadd ?_ | refine wsub ?_ | (apply wo_po;apply mo_bin;exact rfl;exact rfl;apply bin_ne;apply eql_ptr_nil;exact gY) | (apply wo_po;apply mo_bin;exact rfl;exact rfl;apply bin_eq;apply eql_ptr_nil;exact gY) | (apply wo_po;apply mo_bin;exact rfl;exact rfl;apply bin_ne;apply eql_slice_nil;exact gY) | (apply wo_po;apply mo_bin;exact rfl;exact rfl;apply bin_eq;apply eql_slice_nil;exact gY) | (apply wo_po;apply mo_bin;exact rfl;exact rfl;apply bin_ne;apply eql_nil_nil;exact gY) | (apply wo_po;apply mo_bin;exact rfl;exact rfl;apply bin_eq;apply eql_nil_nil;exact gY) | (apply wo_po;apply mo_bin;exact rfl;exact rfl;apply bin_ne;apply eql_iface_nil;exact gY) | refine wE ?_ | (apply wo_po;apply mo_conv;exact rfl;(first | exact wrap_i64 (by omega) (by omega) | exact wrap_u64 (by omega) (by omega));exact gY) | (apply wo_po;apply mo_min;exact rfl;exact rfl;exact gY) | refine wT ?_ | refine wF ?_ | refine we_ret ?_ | refine we_skip ?_ | refine we_label ?_ | refine we_block ?_ | refine we_scope ?_ | refine we_exit ?_)
  refine wo_call (.cons rfl (.cons rfl .nil)) trivial (read_tr R (Q:=G) h1 .here) ?_
  rintro v1 L1 x1 ⟨q,s2,rv,h2,hg,rfl,rfl,rfl⟩
  cases q with
  | none =>
   repeat (first | (apply wo_po;apply mo_bin;exact rfl;exact rfl;apply bin_sub;exact hsub;exact trivial) | refine wlssT ?_ | refine wlssF ?_ | refine wleqT ?_ | refine wleqF ?_ | refine wgtrT ?_ | refine wgtrF ?_ | refine wgeqT ?_ | refine wgeqF ?_ | refine weqlT ?_ | refine weqlF ?_ | refine wneqT ?_ | refine wneqF ?_ | refine we_seq ?_ | (refine wR ?_;try simp only [oS]) | refine wo_nil ?_ | refine wM ?_ | refine wA ?_ | (apply wo_no;exact rfl) | (apply wo_nu;exact rfl) | refine wK ?_ | refine wJ ?_ | refine wN ?_ | refine wD ?_ | (apply wo_po;apply mo_extract;exact rfl;exact rfl;exact gY) | (apply wo_po;apply mo_not;exact rfl;exact gY) | refine wL ?_ | (apply wo_po;apply mo_bin;exact rfl;exact rfl;exact bin_lss;exact gY) | (apply wo_po;apply mo_bin;exact rfl;exact rfl;exact bin_gtr;exact gY) | (apply wo_po;apply mo_bin;exact rfl;exact rfl;exact bin_leq;exact gY) | (apply wo_po;apply mo_bin;exact rfl;exact rfl;exact bin_geq;exact gY) | (apply wo_po;apply mo_bin;exact rfl;exact rfl;exact bin_eql;exact gY) | (apply wo_po;apply mo_bin;exact rfl;exact rfl;exact bin_neq;exact gY) | refine wadd ?_ | refine wsub ?_ | (apply wo_po;apply mo_bin;exact rfl;exact rfl;apply bin_ne;apply eql_ptr_nil;exact gY) | (apply wo_po;apply mo_bin;exact rfl;exact rfl;apply bin_eq;apply eql_ptr_nil;exact gY) | (apply wo_po;apply mo_bin;exact rfl;exact rfl;apply bin_ne;apply eql_slice_nil;exact gY) | (apply wo_po;apply mo_bin;exact rfl;exact rfl;apply bin_eq;apply eql_slice_nil;exact gY) | (apply wo_po;apply mo_bin;exact rfl;exact rfl;apply bin_ne;apply eql_nil_nil;exact gY) | (apply wo_po;apply mo_bin;exact rfl;exact rfl;apply bin_eq;apply eql_nil_nil;exact gY) | (apply wo_po;apply mo_bin;exact rfl;exact rfl;apply bin_ne;apply eql_iface_nil;exact gY) | refine wE ?_ | (apply wo_po;apply mo_conv;exact rfl;(first | exact wrap_i64 (by omega) (by omega) | exact wrap_u64 (by omega) (by omega));exact gY) | (apply wo_po;apply mo_min;exact rfl;exact rfl;exact gY) | refine wT ?_ | refine wF ?_ | refine we_ret ?_ | refine we_skip ?_ | refine we_label ?_ | refine we_block ?_ | refine we_scope ?_ | refine we_exit ?_)
   (first | refine or3 Try.func39 Try.results39 hQ rfl rfl rfl ?_ | refine on3 Try.func39 Try.results39 hQ rfl rfl rfl ?_)
   exact ⟨none,s2,rv,h2,hg,rfl,rfl,rfl⟩
  | some y =>
   repeat (first | (apply wo_po;apply mo_bin;exact rfl;exact rfl;apply bin_sub;exact hsub;exact trivial) | refine wlssT ?_ | refine wlssF ?_ | refine wleqT ?_ | refine wleqF ?_ | refine wgtrT ?_ | refine wgtrF ?_ | refine wgeqT ?_ | refine wgeqF ?_ | refine weqlT ?_ | refine weqlF ?_ | refine wneqT ?_ | refine wneqF ?_ | refine we_seq ?_ | (refine wR ?_;try simp only [oS]) | refine wo_nil ?_ | refine wM ?_ | refine wA ?_ | (apply wo_no;exact rfl) | (apply wo_nu;exact rfl) | refine wK ?_ | refine wJ ?_ | refine wN ?_ | refine wD ?_ | (apply wo_po;apply mo_extract;exact rfl;exact rfl;exact gY) | (apply wo_po;apply mo_not;exact rfl;exact gY) | refine wL ?_ | (apply wo_po;apply mo_bin;exact rfl;exact rfl;exact bin_lss;exact gY) | (apply wo_po;apply mo_bin;exact rfl;exact rfl;exact bin_gtr;exact gY) | (apply wo_po;apply mo_bin;exact rfl;exact rfl;exact bin_leq;exact gY) | (apply wo_po;apply mo_bin;exact rfl;exact rfl;exact bin_geq;exact gY) | (apply wo_po;apply mo_bin;exact rfl;exact rfl;exact bin_eql;exact gY) | (apply wo_po;apply mo_bin;exact rfl;exact rfl;exact bin_neq;exact gY) | refine wadd ?_ | refine wsub ?_ | (apply wo_po;apply mo_bin;exact rfl;exact rfl;apply bin_ne;apply eql_ptr_nil;exact gY) | (apply wo_po;apply mo_bin;exact rfl;exact rfl;apply bin_eq;apply eql_ptr_nil;exact gY) | (apply wo_po;apply mo_bin;exact rfl;exact rfl;apply bin_ne;apply eql_slice_nil;exact gY) | (apply wo_po;apply mo_bin;exact rfl;exact rfl;apply bin_eq;apply eql_slice_nil;exact gY) | (apply wo_po;apply mo_bin;exact rfl;exact rfl;apply bin_ne;apply eql_nil_nil;exact gY) | (apply wo_po;apply mo_bin;exact rfl;exact rfl;apply bin_eq;apply eql_nil_nil;exact gY) | (apply wo_po;apply mo_bin;exact rfl;exact rfl;apply bin_ne;apply eql_iface_nil;exact gY) | refine wE ?_ | (apply wo_po;apply mo_conv;exact rfl;(first | exact wrap_i64 (by omega) (by omega) | exact wrap_u64 (by omega) (by omega));exact gY) | (apply wo_po;apply mo_min;exact rfl;exact rfl;exact gY) | refine wT ?_ | refine wF ?_ | refine we_ret ?_ | refine we_skip ?_ | refine we_label ?_ | refine we_block ?_ | refine we_scope ?_ | refine we_exit ?_)
   (first | refine or3 Try.func39 Try.results39 hQ rfl rfl rfl ?_ | refine on3 Try.func39 Try.results39 hQ rfl rfl rfl ?_)
   exact ⟨some y,s2,rv,h2,hg,rfl,rfl,rfl⟩
 | succ k =>
  repeat (first | (fail) | refine wlssT ?_ | refine wlssF ?_ | refine wleqT ?_ | refine wleqF ?_ | refine wgtrT ?_ | refine wgtrF ?_ | refine wgeqT ?_ | refine wgeqF ?_ | refine weqlT ?_ | refine weqlF ?_ | refine wneqT ?_ | refine wneqF ?_ | refine we_seq ?_ | (refine wR ?_;try simp only [oS]) | refine wo_nil ?_ | refine wM ?_ | refine wA ?_ | (apply wo_no;exact rfl) | (apply wo_nu;exact rfl) | refine wK ?_ | refine wJ ?_ | refine wN ?_ | refine wD ?_ | (apply wo_po;apply mo_extract;exact rfl;exact rfl;exact gY) | (apply wo_po;apply mo_not;exact rfl;exact gY) | refine wL ?_ | (apply wo_po;apply mo_bin;exact rfl;exact rfl;exact bin_lss;exact gY) | (apply wo_po;apply mo_bin;exact rfl;exact rfl;exact bin_gtr;exact gY) | (apply wo_po;apply mo_bin;exact rfl;exact rfl;exact bin_leq;exact gY) | (apply wo_po;apply mo_bin;exact rfl;exact rfl;exact bin_geq;exact gY) | (apply wo_po;apply mo_bin;exact rfl;exact rfl;exact bin_eql;exact gY) | (apply wo_po;apply mo_bin;exact rfl;exact rfl;exact bin_neq;exact gY) | refine wadd ?_ | refine wsub ?_ | (apply wo_po;apply mo_bin;exact rfl;exact rfl;apply bin_ne;apply eql_ptr_nil;exact gY) | (apply wo_po;apply mo_bin;exact rfl;exact rfl;apply bin_eq;apply eql_ptr_nil;exact gY) | (apply wo_po;apply mo_bin;exact rfl;exact rfl;apply bin_ne;apply eql_slice_nil;exact gY) | (apply wo_po;apply mo_bin;exact rfl;exact rfl;apply bin_eq;apply eql_slice_nil;exact gY) | (apply wo_po;apply mo_bin;exact rfl;exact rfl;apply bin_ne;apply eql_nil_nil;exact gY) | (apply wo_po;apply mo_bin;exact rfl;exact rfl;apply bin_eq;apply eql_nil_nil;exact gY) | (apply wo_po;apply mo_bin;exact rfl;exact rfl;apply bin_ne;apply eql_iface_nil;exact gY) | refine wE ?_ | (apply wo_po;apply mo_conv;exact rfl;(first | exact wrap_i64 (by omega) (by omega) | exact wrap_u64 (by omega) (by omega));exact gY) | (apply wo_po;apply mo_min;exact rfl;exact rfl;exact gY) | refine wT ?_ | refine wF ?_ | refine we_ret ?_ | refine we_skip ?_ | refine we_label ?_ | refine we_block ?_ | refine we_scope ?_ | refine we_exit ?_)
  refine wo_call (.cons rfl (.cons rfl .nil)) trivial (read_tr R (Q:=fun o s=>if o.isSome=true then G o s else WaitT A n G k s) h1 .here) ?_
  rintro v1 L1 x1 ⟨q,s2,rv,h2,hg,rfl,rfl,rfl⟩
  cases q with
  | none =>
   simp only [Option.isSome_none,Bool.false_eq_true,if_false] at h2
   repeat (first | (apply wo_po;apply mo_bin;exact rfl;exact rfl;apply bin_sub;exact hsub;exact trivial) | refine wlssT ?_ | refine wlssF ?_ | refine wleqT ?_ | refine wleqF ?_ | refine wgtrT ?_ | refine wgtrF ?_ | refine wgeqT ?_ | refine wgeqF ?_ | refine weqlT ?_ | refine weqlF ?_ | refine wneqT ?_ | refine wneqF ?_ | refine we_seq ?_ | (refine wR ?_;try simp only [oS]) | refine wo_nil ?_ | refine wM ?_ | refine wA ?_ | (apply wo_no;exact rfl) | (apply wo_nu;exact rfl) | refine wK ?_ | refine wJ ?_ | refine wN ?_ | refine wD ?_ | (apply wo_po;apply mo_extract;exact rfl;exact rfl;exact gY) | (apply wo_po;apply mo_not;exact rfl;exact gY) | refine wL ?_ | (apply wo_po;apply mo_bin;exact rfl;exact rfl;exact bin_lss;exact gY) | (apply wo_po;apply mo_bin;exact rfl;exact rfl;exact bin_gtr;exact gY) | (apply wo_po;apply mo_bin;exact rfl;exact rfl;exact bin_leq;exact gY) | (apply wo_po;apply mo_bin;exact rfl;exact rfl;exact bin_geq;exact gY) | (apply wo_po;apply mo_bin;exact rfl;exact rfl;exact bin_eql;exact gY) | (apply wo_po;apply mo_bin;exact rfl;exact rfl;exact bin_neq;exact gY) | refine wadd ?_ | refine wsub ?_ | (apply wo_po;apply mo_bin;exact rfl;exact rfl;apply bin_ne;apply eql_ptr_nil;exact gY) | (apply wo_po;apply mo_bin;exact rfl;exact rfl;apply bin_eq;apply eql_ptr_nil;exact gY) | (apply wo_po;apply mo_bin;exact rfl;exact rfl;apply bin_ne;apply eql_slice_nil;exact gY) | (apply wo_po;apply mo_bin;exact rfl;exact rfl;apply bin_eq;apply eql_slice_nil;exact gY) | (apply wo_po;apply mo_bin;exact rfl;exact rfl;apply bin_ne;apply eql_nil_nil;exact gY) | (apply wo_po;apply mo_bin;exact rfl;exact rfl;apply bin_eq;apply eql_nil_nil;exact gY) | (apply wo_po;apply mo_bin;exact rfl;exact rfl;apply bin_ne;apply eql_iface_nil;exact gY) | refine wE ?_ | (apply wo_po;apply mo_conv;exact rfl;(first | exact wrap_i64 (by omega) (by omega) | exact wrap_u64 (by omega) (by omega));exact gY) | (apply wo_po;apply mo_min;exact rfl;exact rfl;exact gY) | refine wT ?_ | refine wF ?_ | refine we_ret ?_ | refine we_skip ?_ | refine we_label ?_ | refine we_block ?_ | refine we_scope ?_ | refine we_exit ?_)
   refine at_round (I:=waInv A r n F G) (R:=fun j=>j.1<k+1) (k,s2) (Nat.lt_succ_self k) ⟨by show k<16384;omega,h2⟩ ⟨rfl,rfl,rfl,trivial⟩ (.take .here (.drop .refl)) rfl
  | some y =>
   simp only [Option.isSome_some,if_true] at h2
   repeat (first | (apply wo_po;apply mo_bin;exact rfl;exact rfl;apply bin_sub;exact hsub;exact trivial) | refine wlssT ?_ | refine wlssF ?_ | refine wleqT ?_ | refine wleqF ?_ | refine wgtrT ?_ | refine wgtrF ?_ | refine wgeqT ?_ | refine wgeqF ?_ | refine weqlT ?_ | refine weqlF ?_ | refine wneqT ?_ | refine wneqF ?_ | refine we_seq ?_ | (refine wR ?_;try simp only [oS]) | refine wo_nil ?_ | refine wM ?_ | refine wA ?_ | (apply wo_no;exact rfl) | (apply wo_nu;exact rfl) | refine wK ?_ | refine wJ ?_ | refine wN ?_ | refine wD ?_ | (apply wo_po;apply mo_extract;exact rfl;exact rfl;exact gY) | (apply wo_po;apply mo_not;exact rfl;exact gY) | refine wL ?_ | (apply wo_po;apply mo_bin;exact rfl;exact rfl;exact bin_lss;exact gY) | (apply wo_po;apply mo_bin;exact rfl;exact rfl;exact bin_gtr;exact gY) | (apply wo_po;apply mo_bin;exact rfl;exact rfl;exact bin_leq;exact gY) | (apply wo_po;apply mo_bin;exact rfl;exact rfl;exact bin_geq;exact gY) | (apply wo_po;apply mo_bin;exact rfl;exact rfl;exact bin_eql;exact gY) | (apply wo_po;apply mo_bin;exact rfl;exact rfl;exact bin_neq;exact gY) | refine wadd ?_ | refine wsub ?_ | (apply wo_po;apply mo_bin;exact rfl;exact rfl;apply bin_ne;apply eql_ptr_nil;exact gY) | (apply wo_po;apply mo_bin;exact rfl;exact rfl;apply bin_eq;apply eql_ptr_nil;exact gY) | (apply wo_po;apply mo_bin;exact rfl;exact rfl;apply bin_ne;apply eql_slice_nil;exact gY) | (apply wo_po;apply mo_bin;exact rfl;exact rfl;apply bin_eq;apply eql_slice_nil;exact gY) | (apply wo_po;apply mo_bin;exact rfl;exact rfl;apply bin_ne;apply eql_nil_nil;exact gY) | (apply wo_po;apply mo_bin;exact rfl;exact rfl;apply bin_eq;apply eql_nil_nil;exact gY) | (apply wo_po;apply mo_bin;exact rfl;exact rfl;apply bin_ne;apply eql_iface_nil;exact gY) | refine wE ?_ | (apply wo_po;apply mo_conv;exact rfl;(first | exact wrap_i64 (by omega) (by omega) | exact wrap_u64 (by omega) (by omega));exact gY) | (apply wo_po;apply mo_min;exact rfl;exact rfl;exact gY) | refine wT ?_ | refine wF ?_ | refine we_ret ?_ | refine we_skip ?_ | refine we_label ?_ | refine we_block ?_ | refine we_scope ?_ | refine we_exit ?_)
   (first | refine or3 Try.func39 Try.results39 hQ rfl rfl rfl ?_ | refine on3 Try.func39 Try.results39 hQ rfl rfl rfl ?_)
   exact ⟨some y,s2,rv,h2,hg,rfl,rfl,rfl⟩
end
section
variable {B:Hand} [Lets B] {x:B.X} {r n:Nat} {L F:List HProp} {ws:List Nat} {v:Nat}
end
end
end Go.Proofs.Ytodgemainhokjaa
namespace Go.Proofs.Ytodgemainhokjaa
open Go Go.PB
attribute [local irreducible] Mo Bin Eql Tr Wo Ap Wle
attribute [local instance] Pass.of_no
section
structure Thr (g:Game) where
 fv:Value
 ini:g.σ→g.σ × g.θ
 M:HProp
section
variable {g:Game}
def startF:List (Thr g)→g.σ→g.σ × List g.θ
 | [],s=>(s,[])
 | t::ts,s=>((startF ts (t.ini s).1).1,(t.ini s).2::(startF ts (t.ini s).1).2)
theorem startF_snoc {t:Thr g}:∀ (l:List (Thr g)) (s:g.σ),startF (l++[t]) s=((t.ini (startF l s).1).1,(startF l s).2++[(t.ini (startF l s).1).2])
 | [],s=>rfl
 | a::l,s=>by simp only [List.cons_append,startF,startF_snoc l]
theorem startF_len:∀ (l:List (Thr g)) (s:g.σ),(startF l s).2.length=l.length
 | [],s=>rfl
 | a::l,s=>by simp [startF,startF_len l]
def ordF (p:PS g) (order:List Int):PS g:=order.foldl (fun p k=>(takeF p k).1) p
def roundF (p:PS g):Nat→PS g × Bool
 | 0=>(p,false)
 | k+1=>((takeF (roundF p k).1 k).1,(takeF (roundF p k).1 k).2||(roundF p k).2)
def restF:Nat→PS g→PS g
 | 0,p=>p
 | n+1,p=>if (roundF p p.qs.length).2=true then restF n (roundF p p.qs.length).1 else (roundF p p.qs.length).1
def playF (ts:List (Thr g)) (s:g.σ) (order:List Int):PS g:=restF 16385 (ordF ⟨(startF ts s).1,(startF ts s).2,[]⟩ order)
def cutC (l:List Nat):List Value:=l.map fun k=>.int .i64 (k:Nat)
theorem roundF_len (p:PS g):∀ n,(roundF p n).1.qs.length=p.qs.length
 | 0=>rfl
 | n+1=>by show (takeF _ _).1.qs.length=_;rw [takeF_len,roundF_len p n]
theorem roundF_le {p:PS g} (h:p.tr.length≤16384):∀ n,(roundF p n).1.tr.length≤16384
 | 0=>h
 | n+1=>takeF_le (roundF_le h n) _
theorem takeF_cases (p:PS g) (k:Int):takeF p k=(p,false)∨∃ (n:Nat) (q:g.θ) (m:Int × Int) (f:g.σ→g.σ × g.θ),k=n∧p.qs[n]?=some q∧g.plan q=some (m,f)∧p.tr.length≠16384∧takeF p k=(⟨(f p.s).1,p.qs.set n (f p.s).2,p.tr++[(n,m)]⟩,true):=by
 by_cases h0:k<0
 ·left;unfold takeF;rw [if_pos h0]
 obtain ⟨n,rfl⟩:∃ n:Nat,k=n:=⟨k.toNat,by omega⟩
 cases hq:p.qs[n]? with
 | none=>left;unfold takeF;rw [if_neg h0,Int.toNat_natCast,hq]
 | some q =>
  cases hpl:g.plan q with
  | none=>left;unfold takeF;rw [if_neg h0,Int.toNat_natCast,hq];simp only [hpl]
  | some mf =>
   obtain ⟨m,f⟩:=mf
   by_cases htr:p.tr.length=16384
   ·left;unfold takeF;rw [if_neg h0,Int.toNat_natCast,hq];simp only [hpl,if_pos htr]
   ·right;refine ⟨n,q,m,f,rfl,hq,hpl,htr,?_⟩
    unfold takeF;rw [if_neg h0,Int.toNat_natCast,hq];simp only [hpl,if_neg htr]
theorem takeF_grow (p:PS g) (k:Int):p.tr.length+(if (takeF p k).2=true then 1 else 0)≤(takeF p k).1.tr.length:=by
 rcases takeF_cases p k with h | ⟨n,q,m,f,_,_,_,_,h⟩ <;> rw [h] <;> simp
theorem roundF_grow (p:PS g):∀ n,p.tr.length+(if (roundF p n).2=true then 1 else 0)≤(roundF p n).1.tr.length
 | 0=>by simp [roundF]
 | n+1=>by
  have h1:=roundF_grow p n
  have h2:=takeF_grow (roundF p n).1 n
  show p.tr.length+(if ((takeF (roundF p n).1 n).2||(roundF p n).2)=true then 1 else 0)≤(takeF (roundF p n).1 n).1.tr.length
  cases h3:(takeF (roundF p n).1 n).2 <;> cases h4:(roundF p n).2 <;> simp [h3,h4] at h1 h2 ⊢ <;> omega
theorem ordF_len (order:List Int):∀ p:PS g,(ordF p order).qs.length=p.qs.length:=by
 induction order with
 | nil=>intro p;rfl
 | cons k l ih=>intro p;show (ordF (takeF p k).1 l).qs.length=_;rw [ih,takeF_len]
theorem ordF_le (order:List Int):∀ p:PS g,p.tr.length≤16384→(ordF p order).tr.length≤16384:=by
 induction order with
 | nil=>intro p h;exact h
 | cons k l ih=>intro p h;exact ih _ (takeF_le h k)
theorem ordF_snoc (p:PS g) (l:List Int) (k:Int):ordF p (l++[k])=(takeF (ordF p l) k).1:=by simp [ordF]
def cutN (g:Game) (qs:List g.θ) (j:Nat):List Nat:=(List.range j).filter fun k=>((qs[k]?).bind g.plan).isSome
theorem cutN_succ {qs:List g.θ} {j:Nat}:cutN g qs (j+1)=cutN g qs j++(if ((qs[j]?).bind g.plan).isSome=true then [j] else []):=by
 unfold cutN
 rw [List.range_succ,List.filter_append]
 congr 1
 simp only [List.filter_cons,List.filter_nil]
def shutS (ids:List SId) (qs:List g.θ) (j:Nat):List (Seat g.σ g.θ):=(List.zip ids qs).mapIdx fun k iq=>if k<j then ⟨iq.1.says,iq.1.turn,iq.1.fin,.shut iq.2⟩ else seatS iq.1 iq.2
theorem shutS_zero {ids:List SId} {qs:List g.θ}:shutS ids qs 0=seatSs ids qs:=by
 apply List.ext_getElem?
 intro k
 simp only [shutS,List.getElem?_mapIdx,seatSs,List.getElem?_zipWith,List.getElem?_zip_eq_some,List.zip,Nat.not_lt_zero,if_false]
 cases ids[k]? <;> cases qs[k]? <;> rfl
theorem shutS_len {ids:List SId} {qs:List g.θ} {j:Nat} (h:ids.length=qs.length):(shutS ids qs j).length=ids.length:=by simp [shutS];omega
theorem shutS_get {ids:List SId} {qs:List g.θ} {j k:Nat} {i:SId} {q:g.θ} (hi:ids[k]?=some i) (hq:qs[k]?=some q):(shutS ids qs j)[k]?=some (if k<j then ⟨i.says,i.turn,i.fin,.shut q⟩ else seatS i q):=by
 simp [shutS,List.getElem?_mapIdx,List.zip,List.getElem?_zipWith,hi,hq]
theorem shutS_succ {ids:List SId} {qs:List g.θ} {j:Nat} {i:SId} {q:g.θ} (hi:ids[j]?=some i) (hq:qs[j]?=some q):(shutS ids qs j).set j ⟨i.says,i.turn,i.fin,.shut q⟩=shutS ids qs (j+1):=by
 apply List.ext_getElem?
 intro k
 have hj:j<(shutS ids qs j).length:=(List.getElem?_eq_some_iff.1 (shutS_get (j:=j) hi hq)).1
 rw [List.getElem?_set]
 by_cases e:j=k
 ·subst e
  rw [if_pos rfl,if_pos hj,shutS_get hi hq,if_pos (by omega)]
 ·rw [if_neg e]
  simp only [shutS,List.getElem?_mapIdx]
  cases (ids.zip qs)[k]? with
  | none=>rfl
  | some iq =>
   simp only [Option.map_some,Option.some.injEq]
   by_cases h:k<j
   ·rw [if_pos h,if_pos (by omega)]
   ·rw [if_neg h,if_neg (by omega)]
theorem shutS_all {ids:List SId} {qs:List g.θ} (h:ids.length=qs.length):(shutS ids qs ids.length).map Seat.fins=qs.map g.Fin:=by
 apply List.ext_getElem?
 intro k
 by_cases hk:k<ids.length
 ·have hi:=List.getElem?_eq_getElem hk
  have hq:=List.getElem?_eq_getElem (show k<qs.length by omega)
  rw [List.getElem?_map,shutS_get hi hq,if_pos hk,List.getElem?_map,hq]
  rfl
 ·rw [List.getElem?_eq_none (by simp [shutS_len h];omega),List.getElem?_eq_none (by simp;omega)]
theorem shutS_closed {ids:List SId} {qs:List g.θ} (h:ids.length=qs.length):∀ s∈shutS ids qs ids.length,s.closed:=by
 intro s hs
 obtain ⟨k,hk⟩:=List.mem_iff_getElem?.1 hs
 have hlt:=(List.getElem?_eq_some_iff.1 hk).1
 rw [shutS_len h] at hlt
 rw [shutS_get (List.getElem?_eq_getElem hlt) (List.getElem?_eq_getElem (show k<qs.length by omega)),if_pos hlt] at hk
 cases hk
 trivial
end
section
variable {g:Game} {ts:List (Thr g)} {s0:g.σ} {F:List HProp} {wg pb rb:Nat} {ov tv:Value}
theorem star_head {c:HProp} {M L:List HProp} {h:Hp} (s:Star (all (c::M)::L) h):Star (c::all M::L) h :=
 star_map (star_open s) (fun _ a=>a) (fun _ st=>star_shut (M:=M) st)
def startInvP (ts:List (Thr g)) (s0:g.σ) (wg pb rb:Nat) (ov tv:Value) (F:List HProp):PB.Inv (Nat × g.σ × List g.θ × List SId × Value) MX where
 e:=fun i=>[(0,ov),(1,tv),(4,.pointer (some ⟨rb,0,none⟩)),(7,.pointer (some ⟨wg,0,none⟩)),(8,.pointer (some ⟨pb,0,none⟩)),(28,tv),(29,.int .i64 (ts.length:Nat)),(30,.int .i64 (i.1:Nat))]
 L:=fun i=>g.U i.2.1::arr pb 0 [i.2.2.2.2,.slice none 0 0,.slice none 0 0]::vec 1 i.2.2.2.2 (ptrs i.2.2.2.1)::all (seatCs g i.2.2.2.1 i.2.2.1)::all ((ts.drop i.1).map Thr.M)::arr rb 0 [.slice none 0 0,.slice none 0 0]::F
 x:=fun i=>gx g wg (seatSs i.2.2.2.1 i.2.2.1) (some i.2.1) 16384 (seatSs i.2.2.2.1 i.2.2.1).length
 ok:=fun i=>i.1≤ts.length∧i.2.2.2.1.length=i.1∧startF (ts.take i.1) s0=(i.2.1,i.2.2.1)
def seatMid (wg pb rb j n:Nat) (ov tv fv:Value) (x:MX) (L:List HProp):PB.Inv (Nat × Nat × Nat × Nat) MX where
 e:=fun i=>[(0,ov),(1,tv),(4,.pointer (some ⟨rb,0,none⟩)),(7,.pointer (some ⟨wg,0,none⟩)),(8,.pointer (some ⟨pb,0,none⟩)),(28,tv),(29,.int .i64 (n:Nat)),(30,.int .i64 (j:Nat)),(10,fv),(11,.pointer (some ⟨i.1,0,none⟩))]
 L:=fun i=>arr i.1 0 [.chan (some i.2.2.1),.chan (some i.2.2.2),.chan (some i.2.1),.int .u8 0,.int .i64 0,.bool false]::ob i.2.1 newChan::ob i.2.2.1 newChan::ob i.2.2.2 newChan::L
 x:=fun _=>x
 ok:=fun _=>True
def ordInv (p0:PS g) (order:List Int) (ids:List SId) (wg pb rb:Nat) (ov:Value) (ss:Value) (F:List HProp):PB.Inv (Nat × Value) MX where
 e:=fun i=>[(4,.pointer (some ⟨rb,0,none⟩)),(7,.pointer (some ⟨wg,0,none⟩)),(8,.pointer (some ⟨pb,0,none⟩)),(49,ov),(50,.int .i64 (order.length:Nat)),(51,.int .i64 (i.1:Nat))]
 L:=fun i=>playL g pb ss i.2 (.slice none 0 0) ids (ordF p0 (order.take i.1)) F
 x:=fun i=>playX g wg ids (ordF p0 (order.take i.1))
 ok:=fun i=>i.1≤order.length
def restInv (I:PS g→Prop) (p0:PS g) (ids:List SId) (wg pb rb:Nat) (ss:Value) (F:List HProp):PB.Inv (Nat × PS g × Value × Bool) MX where
 e:=fun i=>[(4,.pointer (some ⟨rb,0,none⟩)),(7,.pointer (some ⟨wg,0,none⟩)),(8,.pointer (some ⟨pb,0,none⟩)),(14,.bool i.2.2.2)]
 L:=fun i=>playL g pb ss i.2.2.1 (.slice none 0 0) ids i.2.1 F
 x:=fun i=>playX g wg ids i.2.1
 ok:=fun i=>I i.2.1∧i.2.1.qs.length=p0.qs.length∧i.2.1.tr.length≤16384∧(if i.2.2.2=true then restF i.1 i.2.1=restF 16385 p0∧16384<i.2.1.tr.length+i.1 else i.2.1=restF 16385 p0)
def rndInvP (p:PS g) (ids:List SId) (wg pb rb:Nat) (ss:Value) (F:List HProp):PB.Inv (Nat × Value) MX where
 e:=fun i=>[(4,.pointer (some ⟨rb,0,none⟩)),(7,.pointer (some ⟨wg,0,none⟩)),(8,.pointer (some ⟨pb,0,none⟩)),(14,.bool (roundF p i.1).2),(61,.int .i64 (ids.length:Nat)),(62,.int .i64 (i.1:Nat))]
 L:=fun i=>playL g pb ss i.2 (.slice none 0 0) ids (roundF p i.1).1 F
 x:=fun i=>playX g wg ids (roundF p i.1).1
 ok:=fun i=>i.1≤ids.length
def cutInv (p:PS g) (ids:List SId) (wg pb rb:Nat) (ss tsv:Value) (F:List HProp):PB.Inv (Nat × Value) MX where
 e:=fun i=>[(4,.pointer (some ⟨rb,0,none⟩)),(7,.pointer (some ⟨wg,0,none⟩)),(8,.pointer (some ⟨pb,0,none⟩)),(72,ss),(73,.int .i64 (ids.length:Nat)),(74,.int .i64 (i.1:Nat))]
 L:=fun i=>vec 1 i.2 (cutC (cutN g p.qs i.1))::arr pb 0 [ss,tsv,i.2]::vec 1 ss (ptrs ids)::vec 3 tsv (trCP p.tr)::all (seatCs g ids p.qs)::g.U p.s::F
 x:=fun i=>gx g wg (shutS ids p.qs i.1) (some p.s) (16384-p.tr.length) ids.length
 ok:=fun i=>i.1≤ids.length
set_option maxHeartbeats 4000000 in
theorem plays_tr {oa ta:Option Addr} {on oc tn tc:Nat} {order:List Int} (I:PS g→Prop) (hS:∀ j,j<ts.length→g.ok (startF (ts.take j) s0).1) (hI0:I ⟨(startF ts s0).1,(startF ts s0).2,[]⟩) (hIs:∀ p k,I p→I (takeF p k).1) (hIo:∀ p,I p→p.tr.length<16384→g.ok p.s) (hfin:∀ q h,g.Pv q h→g.Fin q h) (hts:∀ t∈ts,ThrOk g t.ini t.fv t.M) (h1:0<ts.length) (h16:ts.length≤16) (hor:order.length≤16384)
  (hrt:RdsO F ta tn (ts.map Thr.fv)) (hro:RdsO F oa on (order.map fun k=>.int .i64 k)) :
  Tr Try.prog mT 18 [.slice oa on oc,.slice ta tn tc] (g.U s0::all (ts.map Thr.M)::F) .idle fun v L' x' =>
   ∃ tv cv,v=.tuple #[.agg #[tv,cv],.int .i64 0]∧x'=.idle∧L'=vec 3 tv (trCP (playF ts s0 order).tr)::vec 1 cv (cutC (cutN g (playF ts s0 order).qs ts.length))::g.U (playF ts s0 order).s::all ((playF ts s0 order).qs.map g.Fin)::F:=by
 refine Tr.post (R:=fun v L' x'=>∃ tv cv,v=.tuple #[.agg #[tv,cv],.int .i64 0]∧x'=MX.idle∧∀ h,Star L' h→Star (vec 3 tv (trCP (playF ts s0 order).tr)::vec 1 cv (cutC (cutN g (playF ts s0 order).qs ts.length))::g.U (playF ts s0 order).s::all ((playF ts s0 order).qs.map g.Fin)::F) h) ?_
  (by rintro v L' x' ⟨tv,cv,rfl,rfl,h2⟩;exact ⟨_,⟨tv,cv,rfl,rfl,rfl⟩,h2⟩)
 have hfn:∀ v∈ts.map Thr.fv,isFn v:=by
  intro v hv
  obtain ⟨t,ht,rfl⟩:=List.mem_map.1 hv
  obtain ⟨f,first,cap,hc,_⟩:=(hts t ht).run
  revert hc
  cases t.fv with
  | func a b c=>exact fun _=>⟨a,b,c,rfl⟩
  | _=>intro hc;cases hc
 have hIord:∀ (l:List Int) (p:PS g),I p→I (ordF p l):=by
  intro l
  induction l with
  | nil=>exact fun p h=>h
  | cons k l ih=>exact fun p h=>ih _ (hIs p k h)
 have hIrnd:∀ (p:PS g) k,I p→I (roundF p k).1:=by
  intro p k h
  induction k with
  | zero=>exact h
  | succ k ih=>exact hIs _ _ ih
 have htn:tn=ts.length:=by have:=hrt.1;simpa using this
 have hon:on=order.length:=by have:=hro.1;simpa using this
 subst htn
 subst hon
 refine tr_of_body Try.func18 rfl Try.ntmps18 (by simp) fun um Q _ hQ=>?_
 simp only [argE,Nat.zero_add,Nat.reduceAdd]
 repeat (first | (apply wo_mo;apply mo_alloc;exact trivial) | refine we_seq ?_ | (refine wR ?_;try simp only [oS]))
 rintro v' L' ⟨rb,rfl,rfl⟩
 repeat (first | refine we_seq ?_ | (refine wR ?_;try simp only [oS]) | refine wo_nil ?_ | refine wM ?_ | refine wA ?_)
 refine wo_call (.cons rfl .nil) trivial (wrong_tr (fun v hv=>.inr (hfn v hv)) hrt.there.there.there (by omega)) ?_
 rintro v' L' x' ⟨⟨k,rfl,hk⟩,rfl,rfl⟩
 obtain rfl:k=0:=by
  rcases hk with ⟨_,h⟩ | ⟨_,h⟩
  ·obtain ⟨_,_,_,h⟩:=hfn _ h;cases h
  ·rw [h,List.length_map,if_neg (by omega),if_neg (by omega)]
 repeat (first | (apply wo_mo;apply mo_allocS;exact trivial) | refine wgtrF ?_ | refine wneqF ?_ | refine we_seq ?_ | (refine wR ?_;try simp only [oS]) | refine wo_nil ?_ | refine wM ?_ | refine wA ?_ | refine wE ?_ | refine wF ?_ | refine we_skip ?_)
 rintro v' L' ⟨wg,rfl,rfl⟩
 repeat (first | refine we_seq ?_ | (refine wR ?_;try simp only [oS]) | refine wo_nil ?_)
 refine wo_begin g s0 (wg:=wg) (R:=arr rb 0 [.slice none 0 0,.slice none 0 0]::g.U s0::all (ts.map Thr.M)::F) (fun h st=>st) ?_
 repeat (first | (apply wo_mo;apply mo_alloc;exact trivial))
 rintro v' L' ⟨pb,rfl,rfl⟩
 repeat (first | refine we_seq ?_ | (refine wR ?_;try simp only [oS]) | refine wo_nil ?_ | refine wM ?_ | refine wE ?_ | refine we_block ?_)
 refine we_star (vec 1 (.slice none 0 0) (ptrs [])::all (seatCs g [] [])::arr pb 0 [.slice none 0 0,.slice none 0 0,.slice none 0 0]::shpC wg 119 2::arr rb 0 [.slice none 0 0,.slice none 0 0]::g.U s0::all (ts.map Thr.M)::F) (fun h st=>vec_nil (star_shut (M:=[]) st)) ?_
 refine we_loopN (startInvP ts s0 wg pb rb (.slice oa order.length oc) (.slice ta ts.length tc) (shpC wg 119 2::F)) (fun i=>ts.length-i.1) (0,s0,[],[],.slice none 0 0) ⟨by omega,rfl,rfl⟩ ⟨rfl,rfl,rfl,rfl,rfl,rfl,rfl,rfl,trivial⟩ (.take (.there (.there (.there (.there (.there .here))))) (.take (.there (.there .here)) (.take .here (.take .here (.take (.there (.there .here)) (.take (.there .here) (.take .here .refl))))))) rfl ?_
 rintro ⟨j,s,qs,ids,ss⟩ ⟨hj,hids,hst⟩
 simp only at hj hids hst
 have hqs:qs.length=j:=by have:=startF_len (ts.take j) s0;rw [hst] at this;simpa [Nat.min_eq_left hj] using this
 have hsl:(seatSs ids qs).length=ids.length:=by simp [seatSs];omega
 simp only [startInvP]
 by_cases hlt:j<ts.length
 ·obtain ⟨tb,to,rfl,hrd⟩:=hrt.rds (by omega)
  have ht:ts[j]?=some ts[j]:=List.getElem?_eq_getElem hlt
  have hrj:=hrd j (ts[j].fv) (by simp [ht])
  have hTO:=hts _ (List.getElem_mem hlt)
  have hdrop:ts.drop j=ts[j]::ts.drop (j+1):=List.drop_eq_getElem_cons hlt
  rw [hdrop]
  refine we_star (g.U s::arr pb 0 [ss,.slice none 0 0,.slice none 0 0]::vec 1 ss (ptrs ids)::all (seatCs g ids qs)::ts[j].M::all ((ts.drop (j+1)).map Thr.M)::arr rb 0 [.slice none 0 0,.slice none 0 0]::shpC wg 119 2::F) (fun h st=>Ent.star (.take (.there (.there .here)) (.take (.there (.there .here)) (.take (.there (.there .here)) (.take (.there (.there .here)) (.take .here (.take .here .refl)))))) (star_head (((.there (.there (.there (.there .here)))):Has _ (all ((ts[j]::ts.drop (j+1)).map Thr.M)) _).star st))) ?_
  repeat (first | (apply wo_po;apply mo_index1;exact rfl;exact rfl;omega;exact gY) | (apply wo_po;apply mo_load;exact rfl;exact .there (.there (.there (.there (.there (.there (.there (.there hrj)))))));exact trivial) | refine wlssT ?_ | refine we_seq ?_ | (refine wR ?_;try simp only [oS]) | refine wo_nil ?_ | refine wA ?_ | refine wT ?_ | refine we_skip ?_ | refine we_block ?_)
  let MI:=seatMid wg pb rb j ts.length (.slice oa order.length oc) (.slice (some ⟨tb,to,none⟩) ts.length tc) ts[j].fv (gx g wg (seatSs ids qs) (some s) 16384 (seatSs ids qs).length) (g.U s::arr pb 0 [ss,.slice none 0 0,.slice none 0 0]::vec 1 ss (ptrs ids)::all (seatCs g ids qs)::ts[j].M::all ((ts.drop (j+1)).map Thr.M)::arr rb 0 [.slice none 0 0,.slice none 0 0]::shpC wg 119 2::F)
  refine we_join MI ?_ ?_
  ·refine we_draw (List.range' 0 6) (by kernel_rfl) ?_
   refine ap_fork3 (f:=1) (g:=2) (ordf:=[1,0,2,3,4,5]) (ordg:=[2,0,1,3,4,5]) (Rf:=[2,3,4,5]) (Rg:=[1,3,4,5]) (by kernel_rfl) (by kernel_rfl) (by kernel_rfl) (by kernel_rfl) (by kernel_rfl) (by kernel_rfl) (by kernel_rfl) (by kernel_rfl) (by kernel_rfl) ?_ ?_ ?_
   ·refine ap1_mo (Pd':=[]) rfl rfl rfl trivial (mo_makeChan (m:=0) (k:=.i64) rfl (by omega) (by omega)) (fun v L' _ p hp=>by cases hp) ?_
    rintro v' L' ⟨ct,rfl,rfl⟩
    refine ap_fork2 (f:=2) (ordf:=[0,2,1,3,4,5]) (Rf:=[3,4,5]) (by kernel_rfl) (by kernel_rfl) (by kernel_rfl) (by kernel_rfl) (by kernel_rfl) ?_ ?_
    ·refine ap1_mo (Pd':=[]) rfl rfl rfl trivial (mo_makeChan (m:=0) (k:=.i64) rfl (by omega) (by omega)) (fun v L' _ p hp=>by cases hp) ?_
     rintro v' L' ⟨ce,rfl,rfl⟩
     refine ap_loud rfl rfl rfl rfl rfl trivial (mo_makeChan (m:=0) (k:=.i64) rfl (by omega) (by omega)) ?_
     rintro v' L' ⟨cs,rfl,rfl⟩
     repeat (first | (apply ap_pure;exact rfl;exact rfl;exact trivial;intro L;apply mo_build (pv:=[(0,_),(1,_),(2,_)]);exact rfl;exact .cons rfl (.cons rfl (.cons rfl .nil));exact rfl))
     refine ap_loud rfl rfl rfl rfl rfl trivial (mo_box rfl) ?_
     rintro v' L' ⟨sb,rfl,rfl⟩
     repeat (first | refine aA ?_ | refine ap_end ?_)
     refine at_mid (B:=mT) (I:=MI) (sb,cs,ct,ce) trivial ?_ ?_ rfl
     exact ⟨rfl,rfl,rfl,rfl,rfl,rfl,rfl,rfl,rfl,rfl,trivial⟩
     repeat (first | exact Ent.refl | (apply Ent.take;(repeat (first | exact Has.here | apply Has.there))) | apply Ent.drop)
    ·refine ap1_mo (Pd':=[]) rfl rfl rfl trivial (mo_makeChan (m:=0) (k:=.i64) rfl (by omega) (by omega)) (fun v L' _ p hp=>by cases hp) ?_
     rintro v' L' ⟨cs,rfl,rfl⟩
     refine ap_loud rfl rfl rfl rfl rfl trivial (mo_makeChan (m:=0) (k:=.i64) rfl (by omega) (by omega)) ?_
     rintro v' L' ⟨ce,rfl,rfl⟩
     repeat (first | (apply ap_pure;exact rfl;exact rfl;exact trivial;intro L;apply mo_build (pv:=[(0,_),(1,_),(2,_)]);exact rfl;exact .cons rfl (.cons rfl (.cons rfl .nil));exact rfl))
     refine ap_loud rfl rfl rfl rfl rfl trivial (mo_box rfl) ?_
     rintro v' L' ⟨sb,rfl,rfl⟩
     repeat (first | refine aA ?_ | refine ap_end ?_)
     refine at_mid (B:=mT) (I:=MI) (sb,cs,ct,ce) trivial ?_ ?_ rfl
     exact ⟨rfl,rfl,rfl,rfl,rfl,rfl,rfl,rfl,rfl,rfl,trivial⟩
     repeat (first | exact Ent.refl | (apply Ent.take;(repeat (first | exact Has.here | apply Has.there))) | apply Ent.drop)
   ·refine ap1_mo (Pd':=[]) rfl rfl rfl trivial (mo_makeChan (m:=0) (k:=.i64) rfl (by omega) (by omega)) (fun v L' _ p hp=>by cases hp) ?_
    rintro v' L' ⟨ce,rfl,rfl⟩
    refine ap_fork2 (f:=2) (ordf:=[1,2,0,3,4,5]) (Rf:=[3,4,5]) (by kernel_rfl) (by kernel_rfl) (by kernel_rfl) (by kernel_rfl) (by kernel_rfl) ?_ ?_
    ·refine ap1_mo (Pd':=[]) rfl rfl rfl trivial (mo_makeChan (m:=0) (k:=.i64) rfl (by omega) (by omega)) (fun v L' _ p hp=>by cases hp) ?_
     rintro v' L' ⟨ct,rfl,rfl⟩
     refine ap_loud rfl rfl rfl rfl rfl trivial (mo_makeChan (m:=0) (k:=.i64) rfl (by omega) (by omega)) ?_
     rintro v' L' ⟨cs,rfl,rfl⟩
     repeat (first | (apply ap_pure;exact rfl;exact rfl;exact trivial;intro L;apply mo_build (pv:=[(0,_),(1,_),(2,_)]);exact rfl;exact .cons rfl (.cons rfl (.cons rfl .nil));exact rfl))
     refine ap_loud rfl rfl rfl rfl rfl trivial (mo_box rfl) ?_
     rintro v' L' ⟨sb,rfl,rfl⟩
     repeat (first | refine aA ?_ | refine ap_end ?_)
     refine at_mid (B:=mT) (I:=MI) (sb,cs,ct,ce) trivial ?_ ?_ rfl
     exact ⟨rfl,rfl,rfl,rfl,rfl,rfl,rfl,rfl,rfl,rfl,trivial⟩
     repeat (first | exact Ent.refl | (apply Ent.take;(repeat (first | exact Has.here | apply Has.there))) | apply Ent.drop)
    ·refine ap1_mo (Pd':=[]) rfl rfl rfl trivial (mo_makeChan (m:=0) (k:=.i64) rfl (by omega) (by omega)) (fun v L' _ p hp=>by cases hp) ?_
     rintro v' L' ⟨cs,rfl,rfl⟩
     refine ap_loud rfl rfl rfl rfl rfl trivial (mo_makeChan (m:=0) (k:=.i64) rfl (by omega) (by omega)) ?_
     rintro v' L' ⟨ct,rfl,rfl⟩
     repeat (first | (apply ap_pure;exact rfl;exact rfl;exact trivial;intro L;apply mo_build (pv:=[(0,_),(1,_),(2,_)]);exact rfl;exact .cons rfl (.cons rfl (.cons rfl .nil));exact rfl))
     refine ap_loud rfl rfl rfl rfl rfl trivial (mo_box rfl) ?_
     rintro v' L' ⟨sb,rfl,rfl⟩
     repeat (first | refine aA ?_ | refine ap_end ?_)
     refine at_mid (B:=mT) (I:=MI) (sb,cs,ct,ce) trivial ?_ ?_ rfl
     exact ⟨rfl,rfl,rfl,rfl,rfl,rfl,rfl,rfl,rfl,rfl,trivial⟩
     repeat (first | exact Ent.refl | (apply Ent.take;(repeat (first | exact Has.here | apply Has.there))) | apply Ent.drop)
   ·refine ap1_mo (Pd':=[]) rfl rfl rfl trivial (mo_makeChan (m:=0) (k:=.i64) rfl (by omega) (by omega)) (fun v L' _ p hp=>by cases hp) ?_
    rintro v' L' ⟨cs,rfl,rfl⟩
    refine ap_fork2 (f:=1) (ordf:=[2,1,0,3,4,5]) (Rf:=[3,4,5]) (by kernel_rfl) (by kernel_rfl) (by kernel_rfl) (by kernel_rfl) (by kernel_rfl) ?_ ?_
    ·refine ap1_mo (Pd':=[]) rfl rfl rfl trivial (mo_makeChan (m:=0) (k:=.i64) rfl (by omega) (by omega)) (fun v L' _ p hp=>by cases hp) ?_
     rintro v' L' ⟨ct,rfl,rfl⟩
     refine ap_loud rfl rfl rfl rfl rfl trivial (mo_makeChan (m:=0) (k:=.i64) rfl (by omega) (by omega)) ?_
     rintro v' L' ⟨ce,rfl,rfl⟩
     repeat (first | (apply ap_pure;exact rfl;exact rfl;exact trivial;intro L;apply mo_build (pv:=[(0,_),(1,_),(2,_)]);exact rfl;exact .cons rfl (.cons rfl (.cons rfl .nil));exact rfl))
     refine ap_loud rfl rfl rfl rfl rfl trivial (mo_box rfl) ?_
     rintro v' L' ⟨sb,rfl,rfl⟩
     repeat (first | refine aA ?_ | refine ap_end ?_)
     refine at_mid (B:=mT) (I:=MI) (sb,cs,ct,ce) trivial ?_ ?_ rfl
     exact ⟨rfl,rfl,rfl,rfl,rfl,rfl,rfl,rfl,rfl,rfl,trivial⟩
     repeat (first | exact Ent.refl | (apply Ent.take;(repeat (first | exact Has.here | apply Has.there))) | apply Ent.drop)
    ·refine ap1_mo (Pd':=[]) rfl rfl rfl trivial (mo_makeChan (m:=0) (k:=.i64) rfl (by omega) (by omega)) (fun v L' _ p hp=>by cases hp) ?_
     rintro v' L' ⟨ce,rfl,rfl⟩
     refine ap_loud rfl rfl rfl rfl rfl trivial (mo_makeChan (m:=0) (k:=.i64) rfl (by omega) (by omega)) ?_
     rintro v' L' ⟨ct,rfl,rfl⟩
     repeat (first | (apply ap_pure;exact rfl;exact rfl;exact trivial;intro L;apply mo_build (pv:=[(0,_),(1,_),(2,_)]);exact rfl;exact .cons rfl (.cons rfl (.cons rfl .nil));exact rfl))
     refine ap_loud rfl rfl rfl rfl rfl trivial (mo_box rfl) ?_
     rintro v' L' ⟨sb,rfl,rfl⟩
     repeat (first | refine aA ?_ | refine ap_end ?_)
     refine at_mid (B:=mT) (I:=MI) (sb,cs,ct,ce) trivial ?_ ?_ rfl
     exact ⟨rfl,rfl,rfl,rfl,rfl,rfl,rfl,rfl,rfl,rfl,trivial⟩
     repeat (first | exact Ent.refl | (apply Ent.take;(repeat (first | exact Has.here | apply Has.there))) | apply Ent.drop)
  ·rintro ⟨sb,cs,ct,ce⟩ _
   simp only [MI,seatMid]
   repeat (first | refine we_seq ?_ | (refine wR ?_;try simp only [oS]) | refine wM ?_)
   refine wo_call (.cons rfl (.cons rfl (.cons rfl .nil))) trivial (Tr.ent (L':=g.U s::ts[j].M::arr sb 0 [.chan (some ct),.chan (some ce),.chan (some cs),.int .u8 0,.int .i64 0,.bool false]::ob cs newChan::ob ct newChan::ob ce newChan::arr pb 0 [ss,.slice none 0 0,.slice none 0 0]::vec 1 ss (ptrs ids)::all (seatCs g ids qs)::all ((ts.drop (j+1)).map Thr.M)::arr rb 0 [.slice none 0 0,.slice none 0 0]::shpC wg 119 2::F) (.take (.there (.there (.there (.there .here)))) (.take (.there (.there (.there (.there (.there (.there (.there .here))))))) (.take .here (.take .here (.take .here (.take .here .refl)))))) (run_tr hTO (by have:=hS j hlt;rw [hst] at this;exact this) hfin (by rw [hsl];omega) (fun h st=>shp_of (.there (.there (.there (.there (.there .here))))) st))) ?_
   rintro v' L' x' ⟨rfl,rfl,rfl⟩
   refine wo_pure (of_has (.there (.there (.there (.there .here)))) (vec_shape (by omega))) ?_
   rintro ⟨sa,sn,sc,rfl,hsn,_⟩
   have hsn:sn=ids.length:=by simp [ptrs] at hsn;omega
   subst hsn
   repeat (first | (apply wo_mo;apply mo_buildSlice (sz:=1) (vs:=[.pointer (some ⟨sb,0,none⟩)]);exact rfl;exact .cons rfl .nil;exact rfl;(intro v hv;cases (List.mem_singleton.1 hv);exact rfl);omega;exact trivial) | (refine wR ?_;try simp only [oS]) | refine wo_nil ?_ | refine wM ?_ | refine wD ?_ | refine wL ?_)
   rintro v' L' ⟨nb,rfl,rfl⟩
   repeat (first | (apply wo_mo;apply mo_append (sz:=1) (new:=[.pointer (some ⟨sb,0,none⟩)]);exact rfl;exact rfl;exact rfl;exact rfl;exact (.there (.there (.there (.there (.there .here)))));exact rfl;exact .inr ⟨_,_,rfl,Rds.all .here⟩;(intro v hv;cases (List.mem_singleton.1 hv);exact rfl);(simp only [sliceLen];omega);exact trivial))
   rintro v' L' rfl
   refine wo_pure (of_has .here (vec_shape (by omega))) ?_
   rintro ⟨ua,un,uc,rfl,hun,_⟩
   repeat (first | refine wS ?_ | (refine wR ?_;try simp only [oS]) | refine wo_nil ?_ | refine wM ?_ | refine wD ?_ | refine wadd ?_)
   have hseats:seatCs g (ids++[⟨sb,cs,ct,ce⟩]) (qs++[(ts[j].ini s).2])=seatCs g ids qs++[seatC g ⟨sb,cs,ct,ce⟩ (ts[j].ini s).2]:=by
    unfold seatCs;rw [List.zipWith_append (by omega)];rfl
   have hseatS:seatSs (ids++[⟨sb,cs,ct,ce⟩]) (qs++[(ts[j].ini s).2])=seatSs ids qs++[seatS ⟨sb,cs,ct,ce⟩ (ts[j].ini s).2]:=by
    unfold seatSs;rw [List.zipWith_append (by omega)];rfl
   refine at_roundS (B:=mT) (I:=startInvP ts s0 wg pb rb (.slice oa order.length oc) (.slice (some ⟨tb,to,none⟩) ts.length tc) (shpC wg 119 2::F)) (R:=fun i'=>ts.length-i'.1<ts.length-j) (j+1,(ts[j].ini s).1,qs++[(ts[j].ini s).2],ids++[⟨sb,cs,ct,ce⟩],.slice ua un uc) (by show ts.length-(j+1)<ts.length-j;omega) ⟨by show j+1≤_;omega,by show (ids++[_]).length=j+1;simp;omega,?_⟩ ?_ (fun h st=>?_) ?_
   ·show startF (ts.take (j+1)) s0=_
    rw [List.take_succ_eq_append_getElem hlt,startF_snoc,hst]
   ·exact ⟨rfl,rfl,rfl,rfl,rfl,rfl,rfl,rfl,trivial⟩
   ·have s1:Star (seatR sb cs ct ce::arr sb 3 (lastC ((g.plan (ts[j].ini s).2).map (·.1)))::all (seatCs g ids qs)::g.U (ts[j].ini s).1::arr pb 0 [.slice ua un uc,.slice none 0 0,.slice none 0 0]::vec 1 (.slice ua un uc) (ptrs ids++[.pointer (some ⟨sb,0,none⟩)])::all ((ts.drop (j+1)).map Thr.M)::arr rb 0 [.slice none 0 0,.slice none 0 0]::shpC wg 119 2::F) h:=Ent.star (.take (.there (.there (.there .here))) (.take (.there (.there (.there .here))) (.take (.there (.there (.there (.there .here)))) (.take (.there (.there .here)) (.take (.there (.there .here)) (.take .here (.drop .refl))))))) st
    have s2:=star_push (c:=seatC g ⟨sb,cs,ct,ce⟩ (ts[j].ini s).2) (star_shut (M:=[_,_]) s1)
    rw [← hseats] at s2
    have e3:ptrs ids++[.pointer (some ⟨sb,0,none⟩)]=ptrs (ids++[⟨sb,cs,ct,ce⟩]):=by simp [ptrs]
    rw [e3] at s2
    exact Ent.star (.take (.there .here) (.take (.there .here) (.take (.there .here) (.take .here .refl)))) s2
   ·show gx g wg (seatSs (ids++[_]) (qs++[_])) _ _ _=_
    rw [hseatS]
    simp only [List.length_append,List.length_singleton]
    rfl
 ·obtain rfl:j=ts.length:=by omega
  rw [List.take_length] at hst
  rw [hsl]
  repeat (first | refine wlssF ?_ | refine we_seq ?_ | (refine wR ?_;try simp only [oS]) | refine wo_nil ?_ | refine wM ?_ | refine wE ?_ | refine wF ?_ | refine we_block ?_ | refine we_exit ?_)
  refine we_star (playL g pb ss (.slice none 0 0) (.slice none 0 0) ids (⟨s,qs,[]⟩:PS g) (arr rb 0 [.slice none 0 0,.slice none 0 0]::shpC wg 119 2::F)) (fun h st=>Ent.star (M:=playL g pb ss (.slice none 0 0) (.slice none 0 0) ids (⟨s,qs,[]⟩:PS g) (arr rb 0 [.slice none 0 0,.slice none 0 0]::shpC wg 119 2::F)) (.take (.there .here) (.take (.there .here) (.take (.there .here) (.take .here (.take .here (.drop .refl)))))) (vec_nil (sz:=3) st)) ?_
  refine we_loopN (ordInv (⟨s,qs,[]⟩:PS g) order ids wg pb rb (.slice oa order.length oc) ss (arr rb 0 [.slice none 0 0,.slice none 0 0]::shpC wg 119 2::F)) (fun i=>order.length-i.1) (0,.slice none 0 0) (Nat.zero_le _) ⟨rfl,rfl,rfl,rfl,rfl,rfl,trivial⟩ .refl rfl ?_
  have hI1:I (⟨s,qs,[]⟩:PS g):=by rw [hst] at hI0;exact hI0
  rintro ⟨i,tsv⟩ hi
  replace hi:i≤order.length:=hi
  have hpl:ids.length=(ordF (⟨s,qs,[]⟩:PS g) (order.take i)).qs.length:=by rw [ordF_len];show ids.length=qs.length;omega
  have hple:=ordF_le (order.take i) (⟨s,qs,[]⟩:PS g) (Nat.zero_le _)
  simp only [ordInv]
  by_cases hlt2:i<order.length
  ·obtain ⟨ob,oo,rfl,hrd⟩:=hro.rds (by omega)
   have hri:=hrd i (.int .i64 order[i]) (by rw [List.getElem?_map,List.getElem?_eq_getElem hlt2];rfl)
   repeat (first | (apply wo_po;apply mo_index1;exact rfl;exact rfl;omega;exact gY) | (apply wo_po;apply mo_load;exact rfl;exact .there (.there (.there (.there (.there (.there (.there hri))))));exact trivial) | refine wlssT ?_ | refine we_seq ?_ | (refine wR ?_;try simp only [oS]) | refine wo_nil ?_ | refine wM ?_ | refine wA ?_ | refine wT ?_ | refine we_skip ?_ | refine we_block ?_)
   refine wo_call (.cons rfl (.cons rfl .nil)) trivial (takes_tr hpl hple (hIo _ (hIord _ _ hI1))) ?_
   rintro v' L' x' ⟨ts',rfl,rfl,rfl⟩
   repeat (first | (refine wR ?_;try simp only [oS]) | refine wo_nil ?_ | refine wM ?_ | refine wadd ?_)
   have htk:(takeF (ordF (⟨s,qs,[]⟩:PS g) (order.take i)) order[i]).1=ordF (⟨s,qs,[]⟩:PS g) (order.take (i+1)):=by
    rw [List.take_succ_eq_append_getElem hlt2,ordF_snoc]
   rw [htk]
   refine at_round (B:=mT) (I:=ordInv (⟨s,qs,[]⟩:PS g) order ids wg pb rb (.slice (some ⟨ob,oo,none⟩) order.length oc) ss (arr rb 0 [.slice none 0 0,.slice none 0 0]::shpC wg 119 2::F)) (R:=fun i'=>order.length-i'.1<order.length-i) (i+1,ts') (by show order.length-(i+1)<order.length-i;omega) (show i+1≤order.length by omega) ?_ .refl rfl
   exact ⟨rfl,rfl,rfl,rfl,rfl,rfl,trivial⟩
  ·obtain rfl:i=order.length:=by omega
   rw [List.take_length] at hpl hple ⊢
   obtain ⟨p1,hp1⟩:∃ p1,ordF (⟨s,qs,[]⟩:PS g) order=p1:=⟨_,rfl⟩
   rw [hp1] at hpl hple ⊢
   repeat (first | refine wlssF ?_ | refine we_seq ?_ | (refine wR ?_;try simp only [oS]) | refine wo_nil ?_ | refine wA ?_ | refine wF ?_ | refine we_block ?_ | refine we_exit ?_)
   refine we_loopN (restInv I p1 ids wg pb rb ss (arr rb 0 [.slice none 0 0,.slice none 0 0]::shpC wg 119 2::F)) (fun i=>if i.2.2.2=true then i.1+1 else 0) (16385,p1,tsv,true) ⟨by rw [← hp1];exact hIord _ _ hI1,rfl,hple,by simp only [if_true];exact ⟨trivial,by omega⟩⟩ ⟨rfl,rfl,rfl,rfl,trivial⟩ .refl rfl ?_
   rintro ⟨n,p,tv2,more⟩ ⟨hIp,hq1,hq2,hq3⟩
   simp only at hIp hq1 hq2 hq3
   simp only [restInv]
   cases more with
   | true =>
    simp only [if_true] at hq3
    obtain ⟨n,rfl⟩:∃ m,n=m+1:=⟨n-1,by omega⟩
    have hpq:p.qs.length=ids.length:=by omega
    refine we_pure (of_has (.there (.there .here)) (vec_shape (by omega))) ?_
    rintro ⟨sa,sn,sc,rfl,hsn,_⟩
    have hsn:sn=ids.length:=by simp [ptrs] at hsn;omega
    subst hsn
    repeat (first | refine we_seq ?_ | (refine wR ?_;try simp only [oS]) | refine wo_nil ?_ | refine wM ?_ | refine wA ?_ | refine wD ?_ | refine wL ?_ | refine wE ?_ | refine wT ?_ | refine we_skip ?_ | refine we_block ?_)
    refine we_loopN (rndInvP p ids wg pb rb (.slice sa ids.length sc) (arr rb 0 [.slice none 0 0,.slice none 0 0]::shpC wg 119 2::F)) (fun i=>ids.length-i.1) (0,tv2) (Nat.zero_le _) ⟨rfl,rfl,rfl,rfl,rfl,rfl,trivial⟩ .refl rfl ?_
    rintro ⟨k,tv3⟩ hk
    replace hk:k≤ids.length:=hk
    simp only [rndInvP]
    by_cases hlt3:k<ids.length
    ·repeat (first | refine wlssT ?_ | refine we_seq ?_ | (refine wR ?_;try simp only [oS]) | refine wo_nil ?_ | refine wM ?_ | refine wA ?_ | refine wT ?_ | refine we_skip ?_ | refine we_block ?_)
     refine wo_call (.cons rfl (.cons rfl .nil)) trivial (takes_tr (by rw [roundF_len];omega) (roundF_le hq2 k) (hIo _ (hIrnd _ _ hIp))) ?_
     rintro v' L' x' ⟨ts',rfl,rfl,rfl⟩
     have hnx:roundF p (k+1)=((takeF (roundF p k).1 k).1,(takeF (roundF p k).1 k).2||(roundF p k).2):=rfl
     have hr1:(roundF p (k+1)).1=(takeF (roundF p k).1 k).1:=rfl
     obtain ⟨b,hb⟩:∃ b,(takeF (roundF p k).1 k).2=b:=⟨_,rfl⟩
     rw [hb,← hr1]
     cases b with
     | true =>
      repeat (first | (refine wR ?_;try simp only [oS]) | refine wo_nil ?_ | refine wM ?_ | refine wA ?_ | (apply wo_no;exact rfl) | refine wK ?_ | refine wadd ?_)
      refine at_round (B:=mT) (I:=rndInvP p ids wg pb rb (.slice sa ids.length sc) (arr rb 0 [.slice none 0 0,.slice none 0 0]::shpC wg 119 2::F)) (R:=fun i'=>ids.length-i'.1<ids.length-k) (k+1,ts') (by show ids.length-(k+1)<ids.length-k;omega) (show k+1≤ids.length by omega) ?_ .refl rfl
      exact ⟨rfl,rfl,rfl,by rw [hnx,hb];rfl,rfl,rfl,trivial⟩
     | false =>
      repeat (first | (refine wR ?_;try simp only [oS]) | refine wo_nil ?_ | refine wM ?_ | refine wA ?_ | refine wJ ?_ | refine wadd ?_)
      refine at_round (B:=mT) (I:=rndInvP p ids wg pb rb (.slice sa ids.length sc) (arr rb 0 [.slice none 0 0,.slice none 0 0]::shpC wg 119 2::F)) (R:=fun i'=>ids.length-i'.1<ids.length-k) (k+1,ts') (by show ids.length-(k+1)<ids.length-k;omega) (show k+1≤ids.length by omega) ?_ .refl rfl
      exact ⟨rfl,rfl,rfl,by rw [hnx,hb];rfl,rfl,rfl,trivial⟩
    ·obtain rfl:k=ids.length:=by omega
     repeat (first | refine wlssF ?_ | refine we_seq ?_ | (refine wR ?_;try simp only [oS]) | refine wo_nil ?_ | refine wF ?_ | refine we_exit ?_)
     have hg:=roundF_grow p ids.length
     have hle3:=roundF_le hq2 ids.length
     have hrest:restF (n+1) p=if (roundF p ids.length).2=true then restF n (roundF p ids.length).1 else (roundF p ids.length).1:=by
      show (if (roundF p p.qs.length).2=true then restF n (roundF p p.qs.length).1 else (roundF p p.qs.length).1)=_
      rw [hpq]
     refine at_round (B:=mT) (I:=restInv I p1 ids wg pb rb (.slice sa ids.length sc) (arr rb 0 [.slice none 0 0,.slice none 0 0]::shpC wg 119 2::F)) (R:=fun i'=>(if i'.2.2.2=true then i'.1+1 else 0)<(if true=true then (n+1)+1 else 0)) (n,(roundF p ids.length).1,tv3,(roundF p ids.length).2) ?_ ⟨hIrnd _ _ hIp,by show (roundF p ids.length).1.qs.length=_;rw [roundF_len];exact hq1,hle3,?_⟩ ?_ .refl rfl
     ·show (if (roundF p ids.length).2=true then n+1 else 0)<(if true=true then (n+1)+1 else 0)
      simp only [if_true]
      split <;> omega
     ·simp only
      rw [hrest] at hq3
      cases hb:(roundF p ids.length).2 with
      | true=>rw [hb] at hq3 hg;simp only [if_true] at hq3 hg ⊢;exact ⟨hq3.1,by omega⟩
      | false=>rw [hb] at hq3;simpa using hq3.1
     ·exact ⟨rfl,rfl,rfl,rfl,trivial⟩
   | false =>
    simp only [Bool.false_eq_true,if_false] at hq3
    have hplay:playF ts s0 order=p:=by rw [hq3,← hp1];unfold playF;rw [hst]
    rw [hplay] at hQ
    have hpq:p.qs.length=ids.length:=by omega
    refine we_pure (of_has (.there (.there .here)) (vec_shape (by omega))) ?_
    rintro ⟨sa,sn,sc,rfl,hsn,_,hnz,hy⟩
    have hsn:sn=ids.length:=by simp [ptrs] at hsn;omega
    subst hsn
    cases sa with
    | none=>have:=hnz rfl;omega
    | some ad =>
    obtain ⟨sb,so,sp⟩:=ad
    have:=hy _ rfl
    simp only [Addr.mk.injEq,true_and] at this
    subst this
    repeat (first | refine we_seq ?_ | (refine wR ?_;try simp only [oS]) | refine wo_nil ?_ | refine wM ?_ | refine wD ?_ | refine wL ?_ | refine wE ?_ | refine wF ?_ | refine we_block ?_ | refine we_exit ?_)
    refine we_star (vec 1 (.slice none 0 0) (cutC (cutN g p.qs 0))::arr pb 0 [.slice (some ⟨sb,so,none⟩) ids.length sc,tv2,.slice none 0 0]::vec 1 (.slice (some ⟨sb,so,none⟩) ids.length sc) (ptrs ids)::vec 3 tv2 (trCP p.tr)::all (seatCs g ids p.qs)::g.U p.s::arr rb 0 [.slice none 0 0,.slice none 0 0]::shpC wg 119 2::F) (fun h st=>vec_nil (Ent.star (.take (.there .here) (.take (.there .here) (.take (.there .here) (.take (.there .here) (.take .here .refl))))) st)) ?_
    refine we_loopN (cutInv p ids wg pb rb (.slice (some ⟨sb,so,none⟩) ids.length sc) tv2 (arr rb 0 [.slice none 0 0,.slice none 0 0]::shpC wg 119 2::F)) (fun i=>ids.length-i.1) (0,.slice none 0 0) (Nat.zero_le _) ⟨rfl,rfl,rfl,rfl,rfl,rfl,trivial⟩ .refl (by simp only [cutInv];rw [shutS_zero]) ?_
    rintro ⟨k,cv⟩ hk
    replace hk:k≤ids.length:=hk
    simp only [cutInv]
    by_cases hlt3:k<ids.length
    ·have hi:ids[k]?=some ids[k]:=List.getElem?_eq_getElem hlt3
     have hq:p.qs[k]?=some (p.qs[k]'(by omega)):=List.getElem?_eq_getElem _
     obtain ⟨i,hie⟩:∃ i,ids[k]=i:=⟨_,rfl⟩
     obtain ⟨q,hqe⟩:∃ q,(p.qs[k]'(by omega))=q:=⟨_,rfl⟩
     rw [hie] at hi
     rw [hqe] at hq
     let er:=all ((seatCs g ids p.qs).eraseIdx k)
     refine we_star (seatR i.sb i.says i.turn i.fin::arr i.sb 3 (lastQ g q)::er::vec 1 cv (cutC (cutN g p.qs k))::arr pb 0 [.slice (some ⟨sb,so,none⟩) ids.length sc,tv2,cv]::vec 1 (.slice (some ⟨sb,so,none⟩) ids.length sc) (ptrs ids)::vec 3 tv2 (trCP p.tr)::g.U p.s::arr rb 0 [.slice none 0 0,.slice none 0 0]::shpC wg 119 2::F) (fun h st=>seat_pick hi hq (((.there (.there (.there (.there .here)))):Has (_::_::_::_::all (seatCs g ids p.qs)::_) _ _).star st)) ?_
     have hback:∀ {cv':Value} {cl:List Value} h,Star (seatR i.sb i.says i.turn i.fin::arr i.sb 3 (lastQ g q)::er::vec 1 cv' cl::arr pb 0 [.slice (some ⟨sb,so,none⟩) ids.length sc,tv2,cv']::vec 1 (.slice (some ⟨sb,so,none⟩) ids.length sc) (ptrs ids)::vec 3 tv2 (trCP p.tr)::g.U p.s::arr rb 0 [.slice none 0 0,.slice none 0 0]::shpC wg 119 2::F) h →
       Star (vec 1 cv' cl::arr pb 0 [.slice (some ⟨sb,so,none⟩) ids.length sc,tv2,cv']::vec 1 (.slice (some ⟨sb,so,none⟩) ids.length sc) (ptrs ids)::vec 3 tv2 (trCP p.tr)::all (seatCs g ids p.qs)::g.U p.s::arr rb 0 [.slice none 0 0,.slice none 0 0]::shpC wg 119 2::F) h:=fun h st=>by
      have s1:=seat_put (q':=q) hi hq st
      rw [set_same hq] at s1
      exact Ent.star (.take (.there .here) (.take (.there .here) (.take (.there .here) (.take (.there .here) (.take .here .refl))))) s1
     have hcl:(cutN g p.qs k).length≤k:=by have:=List.length_filter_le (fun k=>((p.qs[k]?).bind g.plan).isSome) (List.range k);rw [List.length_range] at this;exact this
     have hget:(shutS ids p.qs k)[k]?=some (⟨i.says,i.turn,i.fin,.said q⟩:Seat g.σ g.θ):=by rw [shutS_get hi hq,if_neg (by omega)];rfl
     have hsl2:ids.length=(shutS ids p.qs k).length:=(shutS_len hpq.symm).symm
     have rs:∀ {a b c d e:HProp} {M:List HProp},Rd (a::b::c::d::e::vec 1 (.slice (some ⟨sb,so,none⟩) ids.length sc) (ptrs ids)::M) sb (so+k) (.pointer (some ⟨i.sb,0,none⟩)):=rd_vec (cs:=ptrs ids) (.there (.there (.there (.there (.there .here))))) (by simp [ptrs,hi])
     refine we_pure (of_has (.there (.there (.there .here))) (vec_shape (by omega))) ?_
     rintro ⟨ca,cn,cc,rfl,hcn,_⟩
     have hcn:cn=(cutN g p.qs k).length:=by simp [cutC] at hcn;omega
     subst hcn
     cases hpl2:g.plan q with
     | none =>
      have hlq:lastQ g q=[.int .u8 0,.int .i64 0,.bool true]:=by unfold lastQ;rw [hpl2];rfl
      have hcut:cutN g p.qs (k+1)=cutN g p.qs k:=by rw [cutN_succ,hq];simp [hpl2]
      rw [hlq] at hback ⊢
      have rl:∀ {a:HProp} {M:List HProp},Rd (a::arr i.sb 3 [.int .u8 0,.int .i64 0,.bool true]::M) i.sb 5 (.bool true):=.there (Rd.row (k:=2) rfl rfl)
      have re:∀ {M:List HProp},Rd (seatR i.sb i.says i.turn i.fin::M) i.sb 1 (.chan (some i.fin)):=Rd.fro (k:=1) rfl rfl
      repeat (first | (apply wo_po;apply mo_index1;exact rfl;exact rfl;omega;exact gY) | (apply wo_po;apply mo_load;exact rfl;(first | exact rs | exact rl | exact re);exact trivial) | refine wlssT ?_ | refine we_seq ?_ | (refine wR ?_;try simp only [oS]) | refine wo_nil ?_ | refine wM ?_ | refine wA ?_ | refine wN ?_ | refine wD ?_ | (apply wo_po;apply mo_not;exact rfl;exact gY) | refine wT ?_ | refine wF ?_ | refine we_skip ?_ | refine we_block ?_)
      refine wo_shut (X:=⟨g,wg,shutS ids p.qs k,some p.s,16384-p.tr.length,ids.length,false,.play,none,0⟩) (j:=k) (c:=⟨i.says,i.turn,i.fin,.said q⟩) (q0:=q) rfl rfl rfl hsl2 rfl hget rfl trivial (by decide) ?_
      repeat (first | (refine wR ?_;try simp only [oS]) | refine wo_nil ?_ | refine wM ?_ | refine wadd ?_)
      refine at_roundS (B:=mT) (I:=cutInv p ids wg pb rb (.slice (some ⟨sb,so,none⟩) ids.length sc) tv2 (arr rb 0 [.slice none 0 0,.slice none 0 0]::shpC wg 119 2::F)) (R:=fun i'=>ids.length-i'.1<ids.length-k) (k+1,.slice ca (cutN g p.qs k).length cc) (by show ids.length-(k+1)<ids.length-k;omega) (show k+1≤ids.length by omega) ?_ (fun h st=>?_) ?_
      ·exact ⟨rfl,rfl,rfl,rfl,rfl,rfl,trivial⟩
      ·show Star (vec 1 _ (cutC (cutN g p.qs (k+1)))::_) h
       rw [hcut]
       exact hback h st
      ·simp only [cutInv]
       rw [← shutS_succ hi hq]
     | some mf =>
      obtain ⟨m,f⟩:=mf
      have hlq:lastQ g q=[.int .u8 m.1,.int .i64 m.2,.bool false]:=by unfold lastQ;rw [hpl2];rfl
      have hcut:cutN g p.qs (k+1)=cutN g p.qs k++[k]:=by rw [cutN_succ,hq];simp [hpl2]
      rw [hlq] at hback ⊢
      have rl:∀ {a:HProp} {M:List HProp},Rd (a::arr i.sb 3 [.int .u8 m.1,.int .i64 m.2,.bool false]::M) i.sb 5 (.bool false):=.there (Rd.row (k:=2) rfl rfl)
      have re:∀ {a b:HProp} {M:List HProp},Rd (a::b::seatR i.sb i.says i.turn i.fin::M) i.sb 1 (.chan (some i.fin)):=.there (.there (Rd.fro (k:=1) rfl rfl))
      repeat (first | (apply wo_po;apply mo_index1;exact rfl;exact rfl;omega;exact gY) | (apply wo_po;apply mo_load;exact rfl;(first | exact rs | exact rl);exact trivial) | (apply wo_mo;apply mo_buildSlice (sz:=1) (vs:=[.int .i64 (k:Nat)]);exact rfl;exact .cons rfl .nil;exact rfl;(intro v hv;cases (List.mem_singleton.1 hv);exact rfl);omega;exact trivial) | refine wlssT ?_ | refine we_seq ?_ | (refine wR ?_;try simp only [oS]) | refine wo_nil ?_ | refine wM ?_ | refine wA ?_ | refine wN ?_ | refine wD ?_ | (apply wo_po;apply mo_not;exact rfl;exact gY) | refine wL ?_ | refine wT ?_ | refine we_skip ?_ | refine we_block ?_)
      rintro v' L' ⟨nb,rfl,rfl⟩
      repeat (first | (apply wo_mo;apply mo_append (sz:=1) (new:=[.int .i64 (k:Nat)]);exact rfl;exact rfl;exact rfl;exact rfl;exact (.there (.there (.there (.there .here))));exact rfl;exact .inr ⟨_,_,rfl,Rds.all .here⟩;(intro v hv;cases (List.mem_singleton.1 hv);exact rfl);(simp only [sliceLen];omega);exact trivial))
      rintro v' L' rfl
      refine wo_pure (of_has .here (vec_shape (by omega))) ?_
      rintro ⟨ua,un,uc,rfl,hun,_⟩
      repeat (first | refine wS ?_ | (apply wo_po;apply mo_load;exact rfl;exact re;exact trivial) | (refine wR ?_;try simp only [oS]) | refine wo_nil ?_ | refine wM ?_ | refine wN ?_ | refine wD ?_)
      refine wo_shut (X:=⟨g,wg,shutS ids p.qs k,some p.s,16384-p.tr.length,ids.length,false,.play,none,0⟩) (j:=k) (c:=⟨i.says,i.turn,i.fin,.said q⟩) (q0:=q) rfl rfl rfl hsl2 rfl hget rfl trivial (by decide) ?_
      repeat (first | (refine wR ?_;try simp only [oS]) | refine wo_nil ?_ | refine wM ?_ | refine wadd ?_)
      refine at_roundS (B:=mT) (I:=cutInv p ids wg pb rb (.slice (some ⟨sb,so,none⟩) ids.length sc) tv2 (arr rb 0 [.slice none 0 0,.slice none 0 0]::shpC wg 119 2::F)) (R:=fun i'=>ids.length-i'.1<ids.length-k) (k+1,.slice ua un uc) (by show ids.length-(k+1)<ids.length-k;omega) (show k+1≤ids.length by omega) ?_ (fun h st=>?_) ?_
      ·exact ⟨rfl,rfl,rfl,rfl,rfl,rfl,trivial⟩
      ·show Star (vec 1 _ (cutC (cutN g p.qs (k+1)))::_) h
       have e4:cutC (cutN g p.qs (k+1))=cutC (cutN g p.qs k)++[.int .i64 (k:Nat)]:=by rw [hcut];simp [cutC]
       rw [e4]
       exact hback h (Ent.star (.take (.there (.there .here)) (.take (.there (.there .here)) (.take (.there (.there .here)) (.take .here (.drop .refl))))) st)
      ·simp only [cutInv]
       rw [← shutS_succ hi hq]
    ·obtain rfl:k=ids.length:=by omega
     repeat (first | refine wlssF ?_ | refine we_seq ?_ | (refine wR ?_;try simp only [oS]) | refine wo_nil ?_ | refine wF ?_ | refine we_exit ?_)
     refine wo_call (.cons rfl .nil) trivial (wgWait_tr (X:=⟨g,wg,shutS ids p.qs ids.length,some p.s,16384-p.tr.length,ids.length,false,.play,none,0⟩) rfl (by show ids.length<1000;omega) (shutS_len hpq.symm).symm (shutS_closed hpq.symm) (fun d e=>by cases e) rfl (fun h st=>shp_of (.there (.there (.there (.there (.there (.there (.there .here))))))) st)) ?_
     rintro v' L' x' ⟨rfl,rfl,rfl⟩
     rw [show GX.ends ⟨g,wg,shutS ids p.qs ids.length,some p.s,16384-p.tr.length,ids.length,false,.play,none,0⟩=all (p.qs.map g.Fin) from congrArg all (shutS_all hpq.symm)]
     repeat (first | (apply wo_po;apply mo_loadA (vs:=[tv2,cv]);exact rfl;exact rfl;exact Rds.row (k:=1) (.there (.there .here)) (by intro i v hv;match i,hv with | 0,hv=>exact hv | 1,hv=>exact hv);exact trivial) | refine we_seq ?_ | (refine wR ?_;try simp only [oS]) | refine wo_nil ?_ | refine wD ?_)
     refine wo_pure (of_has (.there .here) (vec_shape (by omega))) ?_
     rintro ⟨ca,cn,cc,rfl,_⟩
     refine wo_pure (of_has (.there (.there (.there (.there .here)))) (vec_shape (by omega))) ?_
     rintro ⟨ta2,tn2,tc2,rfl,_⟩
     repeat (first | (apply wo_pm;apply mo_storeA (c:=0) (k:=0) (a:=0) (vs:=[.slice none 0 0,.slice none 0 0]);exact rfl;exact rfl;exact rfl;(intro w hw;simp [Value.cells] at hw;rcases hw with rfl | rfl <;> rfl);exact rfl;exact Nat.le_refl 2;exact (.there (.there (.there (.there (.there (.there (.there .here)))))));exact trivial) | refine wo_nil ?_ | refine wA ?_ | refine we_ret ?_)
     refine at_leaveM (rs:=[.cell 4 49,.tmp 5]) Try.func18 Try.results18 hQ (.inl rfl) (.cons (.cell (vs:=[.slice ta2 tn2 tc2,.slice ca cn cc]) rfl rfl (Rds.all (.there (.there (.there (.there (.there (.there (.there .here))))))))) (.cons (.tmp rfl) .nil)) ?_
     refine ⟨_,_,rfl,rfl,fun h st=>?_⟩
     rw [← hids]
     exact Ent.star (.take (.there (.there (.there (.there .here)))) (.take (.there .here) (.take (.there (.there (.there (.there .here)))) (.take .here (.drop (.drop (.drop (.drop (.drop .refl))))))))) st
end
end
end Go.Proofs.Ytodgemainhokjaa
namespace Go.PB
open Go.Conc
section
section
variable {P:Program} {b o:Nat}
theorem atom_load {f:Nat} [x:Exn P f (Extern.Atomic.loadT (.int .u64))] {n:Int}:Atom1 P (callFunc f [Value.pointer (some ⟨b,o,none⟩)].toArray) b o (.int .u64 n) (.int .u64 n) none:=by
 obtain ⟨g,h⟩:=looks_load (P:=P) (f:=f) (a:=⟨b,o,none⟩)
 refine ⟨_,fun e he=>?_,fun w hc _=>h w n hc⟩
 simp at he
 rcases he with rfl | rfl
 ·exact .inl ⟨_,rfl⟩
 ·exact .inr ⟨_,rfl⟩
theorem atom_add {f:Nat} [x:Exn P f (Extern.Atomic.update (Op.intArith .add) .u64 true)] {n d:Int}:Atom1 P (callFunc f [Value.pointer (some ⟨b,o,none⟩),.int .u64 d].toArray) b o (.int .u64 n) (.int .u64 (IntKind.u64.wrap (n+d))) (some (.int .u64 (IntKind.u64.wrap (n+d)))):=by
 obtain ⟨g,h⟩:=adds_add (P:=P) (f:=f) (a:=⟨b,o,none⟩) (d:=d)
 refine ⟨_,fun e he=>?_,fun w hc hf=>h w n hc hf⟩
 simp at he
 rcases he with rfl | rfl | rfl
 ·exact .inl ⟨_,rfl⟩
 ·exact .inr ⟨_,rfl⟩
 ·exact .inr ⟨_,rfl⟩
theorem atom_cas {f:Nat} [x:Exn P f (Extern.Atomic.casT (.int .u64))] {n m y:Int}:Atom1 P (callFunc f [Value.pointer (some ⟨b,o,none⟩),.int .u64 m,.int .u64 y].toArray) b o (.int .u64 n) (.bool (decide (n=m))) (if n=m then some (.int .u64 y) else none):=by
 obtain ⟨g,h⟩:=swaps_cas (P:=P) (f:=f) (a:=⟨b,o,none⟩) (old:=m) (new:=y)
 by_cases hn:n=m
 ·rw [if_pos hn,decide_eq_true hn]
  refine ⟨_,fun e he=>?_,fun w hc hf=>(h w n hc hf).1 hn⟩
  simp at he
  rcases he with rfl | rfl | rfl
  ·exact .inl ⟨_,rfl⟩
  ·exact .inr ⟨_,rfl⟩
  ·exact .inr ⟨_,rfl⟩
 ·rw [if_neg hn,decide_eq_false hn]
  refine ⟨_,fun e he=>?_,fun w hc hf=>(h w n hc hf).2 hn⟩
  simp at he
  rcases he with rfl | rfl
  ·exact .inl ⟨_,rfl⟩
  ·exact .inr ⟨_,rfl⟩
theorem atom_store {f:Nat} [x:Exn P f Extern.Atomic.storeT] {n y:Int}:Atom1 P (callFunc f [Value.pointer (some ⟨b,o,none⟩),.int .u64 y].toArray) b o (.int .u64 n) unit (some (.int .u64 y)):=by
 refine ⟨#[⟨.mark (.extern f),false,true⟩,⟨.cell ⟨b,o,none⟩,true,true⟩],fun e he=>?_,fun w hc hf=>ext_runT (v:=unit) ?_⟩
 ·simp at he
  rcases he with rfl | rfl
  ·exact .inl ⟨_,rfl⟩
  ·exact .inr ⟨_,rfl⟩
 ·show (Sem.bind (store ⟨b,o,none⟩ (.int .u64 y) .atomic) fun _=>(pure unit:Sem Value)).runT P w _=_
  rw [store_runT hc hf rfl]
  rfl
end
theorem wo_atom {P:Program} {cv:Value} {kd:CallKind} {n:Nat} {K:Post (fHand P cv)} {e:Env} {z:Z} {L:List HProp} {l:List OpG} {d:Option Nat} {ty:TypeId} {gd:Option (Nat × Bool)} {op:Op}
  {g:Game} {s1 s2 s3 wg m:Nat} {q:g.θ} {mk:Int × Int} {F:g.σ→g.σ × g.θ} {Rv:g.σ→Value→Prop} (hpl:g.plan q=some (mk,F)) (hg:gYes e gd) (hk:kd≠.early)
  (ha:∀ t,Agree e t→∀ st r,g.ok st→g.U st r→∃ b o old v new,r.own b o=some old∧Atom1 P (execOp (evT t) (opOf op ty)) b o old v new∧g.U (F st).1 (r.lay b o new)∧Rv st v)
  (k:∀ st v m',m=m'+1→g.ok st→Rv st v→Wo P (fHand P cv) kd n l K (setE d v e) z L (⟨g,s1,s2,s3,wg,.free (F st).2 m'⟩:TX)) :
  Wo P (fHand P cv) kd n (⟨d,op,ty,gd⟩::l) K e z L (⟨g,s1,s2,s3,wg,.free q m⟩:TX) :=
 wo_act (R:=fun v L' x'=>∃ st m',m=m'+1∧g.ok st∧Rv st v∧L'=L∧x'=(⟨g,s1,s2,s3,wg,.free (F st).2 m'⟩:TX)) hg hk
  (fun t h O a s qq=>⟨q,m,mk,F,rfl,hpl,fun n' st r e1 h1 h2=>by
   obtain ⟨b,o,old,v,new,c1,c2,c3,c4⟩:=ha t a st r h1 h2
   exact ⟨b,o,old,v,new,c1,c2,c3,qq v L _ h ⟨st,n',e1,h1,c4,rfl,rfl⟩ s⟩⟩)
  (by rintro v L' x' ⟨st,m',h1,h2,h3,rfl,rfl⟩;exact k st v m' h1 h2 h3)
end
end Go.PB
namespace Go.Proofs.Ytodgemainhokjaa
open Go Go.PB
attribute [local irreducible] Mo Bin Eql Tr Wo Ap Wle
attribute [local instance] Pass.of_no
section
abbrev fH:Hand:=fHand Try.prog cvT
structure ThrT (g:Game) where
 fv:Value
 q0:g.θ
 M:HProp
structure ThrF (g:Game) (N:Nat) (t:ThrT g):Prop where
 run:∃ f first cap,callee? t.fv=some (f,first,cap)∧Ent' Try.prog f∧∀ wg F,Tr Try.prog fH f (first++[.nilIface]++cap) (t.M::F) (tx g 0 0 0 wg (.free t.q0 N)) fun v L' x' =>
  ∃ q' n',x'=tx g 0 0 0 wg (.free q' n')∧g.plan q'=none∧∀ h,Star L' h→Star (g.Fin q'::F) h
section
variable {g:Game}
theorem goesF_tr {N wg tb:Nat} {t:ThrT g} (TO:ThrF g N t) (hfin:∀ q h,g.Pv q h→g.Fin q h) {hc:Hp} (hs:Star [t.M,arr tb 0 [t.fv]] hc) :
  Nonempty (Run Try.prog tH false (tEnd Try.prog 62) (goFr Try.prog { target:=.fn (.func 61) [.pointer (some ⟨wg,0,none⟩),.pointer (some ⟨tb,0,none⟩)].toArray,args:=#[] }) [] hc (tx g 0 0 0 wg (.free t.q0 N))):=by
 obtain ⟨f,first,cap,hcal,en,tr⟩:=TO.run
 have e1:Enterable Try.prog 61:=(inferInstance:Ent' Try.prog 61).ok
 have e3:Enterable Try.prog 62:=(inferInstance:Ent' Try.prog 62).ok
 refine go_runF Try.func61 rfl Try.ntmps61 (by simp) Try.results61 e1 e3 rfl hfin hs ?_
 simp only [argE,Nat.zero_add,Nat.reduceAdd]
 repeat (first | refine we_seq ?_ | (refine wR ?_;try simp only [oS]))
 refine wo_defer (first:=[]) (cap:=[]) (args:=[_]) (vs:=[.pointer (some ⟨wg,0,none⟩)]) rfl (.cons rfl .nil) trivial ?_
 repeat (first | (apply wo_po;apply mo_load;exact rfl;exact .there (Rd.row (k:=0) rfl rfl);exact trivial) | (refine wR ?_;try simp only [oS]) | refine wo_nil ?_)
 refine wo_callv (args:=[_]) rfl hcal (.cons rfl .nil) trivial (tr wg _) ?_
 rintro v L' x' ⟨q',n',rfl,hp,hL⟩
 refine wo_star _ hL ?_
 repeat (first | refine wo_nil ?_)
 exact fun t h _ _ st=>⟨rfl,q',⟨hp,n',rfl⟩,star_map st (fun _ a=>a) (fun _ _=>trivial)⟩
abbrev fx (g:Game) (fd:FreeD g) (wg:Nat) (s:g.σ) (ad nf:Nat):MX:=.game ⟨g,wg,[],some s,0,ad,false,.play,some fd,nf⟩
def freeInv (fd:FreeD g) (ts:List (ThrT g)) (s0:g.σ) (wg:Nat) (tv:Value) (F:List HProp):PB.Inv Nat MX where
 e:=fun i=>[(4,.pointer (some ⟨wg,0,none⟩)),(12,tv),(13,.int .i64 (ts.length:Nat)),(14,.int .i64 (i:Nat))]
 L:=fun i=>all ((ts.drop i).map ThrT.M)::F
 x:=fun i=>fx g fd wg s0 i i
 ok:=fun i=>i≤ts.length
theorem free_tr {fd:FreeD g} {ts:List (ThrT g)} {s0:g.σ} {F:List HProp} {ta:Option Addr} {tn tc:Nat} (hcut:∀ r,g.U s0 r→g.U s0 { r with obj:=fun _=>none }) (hq:fd.q0=ts.map ThrT.q0) (hI:fd.I s0 fd.q0) (hφ:fd.φ s0 fd.q0≤fd.N) (hfin:∀ q h,g.Pv q h→g.Fin q h)
  (hts:∀ t∈ts,ThrF g fd.N t) (h1:0<ts.length) (h16:ts.length≤16) (hrt:RdsO F ta tn (ts.map ThrT.fv)) :
  Tr Try.prog mT 41 [.slice ta tn tc] (g.U s0::all (ts.map ThrT.M)::F) .idle fun v L' x' =>
   ∃ s qs,fd.I s qs∧(∀ q∈qs,g.plan q=none)∧qs.length=ts.length∧v=.int .i64 0∧x'=.idle∧L'=g.U s::all (qs.map g.Fin)::F:=by
 refine Tr.post (R:=fun v L' x'=>∃ s qs,fd.I s qs∧(∀ q∈qs,g.plan q=none)∧qs.length=ts.length∧v=.int .i64 0∧x'=MX.idle∧∀ h,Star L' h→Star (g.U s::all (qs.map g.Fin)::F) h) ?_
  (by rintro v L' x' ⟨s,qs,a1,a2,a3,rfl,rfl,h2⟩;exact ⟨_,⟨s,qs,a1,a2,a3,rfl,rfl,rfl⟩,h2⟩)
 have hfn:∀ v∈ts.map ThrT.fv,isFn v:=by
  intro v hv
  obtain ⟨t,ht,rfl⟩:=List.mem_map.1 hv
  obtain ⟨f,first,cap,hc,_⟩:=(hts t ht).run
  revert hc
  cases t.fv with
  | func a b c=>exact fun _=>⟨a,b,c,rfl⟩
  | _=>intro hc;cases hc
 have htn:tn=ts.length:=by have:=hrt.1;simpa using this
 subst htn
 refine tr_of_body Try.func41 rfl Try.ntmps41 (by simp) fun um Q _ hQ=>?_
 simp only [argE,Nat.zero_add,Nat.reduceAdd]
 repeat (first | refine we_seq ?_ | (refine wR ?_;try simp only [oS]) | refine wo_nil ?_ | refine wM ?_ | refine wA ?_)
 refine wo_call (.cons rfl .nil) trivial (wrong_tr (fun v hv=>.inr (hfn v hv)) hrt.there.there (by omega)) ?_
 rintro v' L' x' ⟨⟨k,rfl,hk⟩,rfl,rfl⟩
 obtain rfl:k=0:=by
  rcases hk with ⟨_,h⟩ | ⟨_,h⟩
  ·obtain ⟨_,_,_,h⟩:=hfn _ h;cases h
  ·rw [h,List.length_map,if_neg (by omega),if_neg (by omega)]
 repeat (first | (apply wo_mo;apply mo_allocS;exact trivial) | refine wneqF ?_ | refine we_seq ?_ | (refine wR ?_;try simp only [oS]) | refine wo_nil ?_ | refine wM ?_ | refine wA ?_ | refine wF ?_ | refine we_skip ?_)
 rintro v' L' ⟨wg,rfl,rfl⟩
 refine wo_beginF g fd s0 (wg:=wg) (R:=all (ts.map ThrT.M)::F) hcut hI hφ (fun h st=>Ent.star (.take (.there (.there .here)) (.take .here (.take .here .refl))) st) ?_
 repeat (first | refine we_seq ?_ | (refine wR ?_;try simp only [oS]) | refine wo_nil ?_ | refine wM ?_ | refine wE ?_ | refine we_block ?_)
 refine we_loopN (freeInv fd ts s0 wg (.slice ta ts.length tc) (shpC wg 119 2::F)) (fun i=>ts.length-i) 0 (Nat.zero_le _) ⟨rfl,rfl,rfl,rfl,trivial⟩ (.take (.there .here) (.take .here .refl)) rfl ?_
 intro j hj
 replace hj:j≤ts.length:=hj
 simp only [freeInv]
 by_cases hlt:j<ts.length
 ·obtain ⟨tb,to,rfl,hrd⟩:=hrt.rds (by omega)
  have ht:ts[j]?=some ts[j]:=List.getElem?_eq_getElem hlt
  have hrj:=hrd j (ts[j].fv) (by simp [ht])
  have hTO:=hts _ (List.getElem_mem hlt)
  have hdrop:ts.drop j=ts[j]::ts.drop (j+1):=List.drop_eq_getElem_cons hlt
  obtain ⟨fa,fb,fc,hfe⟩:=hfn ts[j].fv (List.mem_map.2 ⟨_,List.getElem_mem hlt,rfl⟩)
  rw [hfe] at hrj
  rw [hdrop]
  refine we_star (ts[j].M::all ((ts.drop (j+1)).map ThrT.M)::shpC wg 119 2::F) (fun h st=>star_head st) ?_
  repeat (first | (apply wo_po;apply mo_index1;exact rfl;exact rfl;omega;exact gY) | (apply wo_po;apply mo_load;exact rfl;exact .there (.there (.there hrj));exact trivial) | (apply wo_mo;apply mo_alloc;exact trivial) | refine wlssT ?_ | refine we_seq ?_ | (refine wR ?_;try simp only [oS]) | refine wo_nil ?_ | refine wT ?_ | refine we_skip ?_ | refine we_block ?_)
  rintro v' L' ⟨tb',rfl,rfl⟩
  repeat (first | refine wS ?_ | refine we_seq ?_ | (refine wR ?_;try simp only [oS]) | refine wo_nil ?_)
  refine wo_call (.cons rfl (.cons rfl .nil)) trivial (wgAdd_tr (X:=⟨g,wg,[],some s0,0,j,false,.play,some fd,j⟩) rfl (by show j<1000;omega) (by show j=0+j;omega) rfl rfl (fun h st=>shp_of (.there (.there (.there .here))) st)) ?_
  rintro v1 L1 x1 ⟨rfl,rfl,rfl⟩
  repeat (first | (apply wo_po;apply mo_makeFunc (first:=[]) (cap:=[_,_]) (vf:=[]);exact .nil;exact .cons rfl (.cons rfl .nil);exact trivial) | (refine wR ?_;try simp only [oS]) | refine wo_nil ?_)
  refine wo_startF (X:=⟨g,wg,[],some s0,0,j+1,false,.play,some fd,j⟩) (fd:=fd) (q0:=ts[j].q0) (M:=[ts[j].M,arr tb' 0 [.func fa fb fc]]) (R:=all ((ts.drop (j+1)).map ThrT.M)::shpC wg 119 2::F) (cap:=[_,_]) rfl trivial rfl rfl rfl (by show j+1=0+j+1;omega) (by show fd.q0[j]?=_;rw [hq];simp [ht]) (fun h st=>star_shut (M:=[_,_]) (Ent.star (.take (.there .here) (.take .here (.take .here (.take .here .refl)))) st)) (fun hc st=>goesF_tr (t:=ts[j]) hTO hfin (by rw [hfe];exact st)) ?_
  repeat (first | (refine wR ?_;try simp only [oS]) | refine wo_nil ?_ | refine wM ?_ | refine wadd ?_)
  refine at_round (B:=mT) (I:=freeInv fd ts s0 wg (.slice (some ⟨tb,to,none⟩) ts.length tc) (shpC wg 119 2::F)) (R:=fun i'=>ts.length-i'<ts.length-j) (j+1) (by show ts.length-(j+1)<ts.length-j;omega) (show j+1≤ts.length by omega) ?_ .refl rfl
  exact ⟨rfl,rfl,rfl,rfl,trivial⟩
 ·obtain rfl:j=ts.length:=by omega
  repeat (first | refine wlssF ?_ | refine we_seq ?_ | (refine wR ?_;try simp only [oS]) | refine wo_nil ?_ | refine wF ?_ | refine we_exit ?_)
  refine wo_call (.cons rfl .nil) trivial (wgWait_tr (X:=⟨g,wg,[],some s0,0,ts.length,false,.play,some fd,ts.length⟩) rfl (by show ts.length<1000;omega) (by show ts.length=0+ts.length;omega) (fun s hs=>by cases hs) (fun d hd=>by cases hd;show ts.length=fd.q0.length;rw [hq,List.length_map]) rfl (fun h st=>shp_of (.there .here) st)) ?_
  rintro v' L' x' ⟨rfl,rfl,rfl⟩
  refine wo_star ((fun r=>∃ a:{ p:g.σ × List g.θ // fd.I p.1 p.2∧(∀ q∈p.2,g.plan q=none)∧p.2.length=fd.q0.length },all (g.U a.1.1::a.1.2.map g.Fin) r)::all ((ts.drop ts.length).map ThrT.M)::shpC wg 119 2::F) (fun h st=>star_map st (fun r hr=>?_) fun _ a=>a) ?_
  ·obtain ⟨s,qs,b1,b2,b3,b4⟩:=hr
   exact ⟨⟨(s,qs),b1,b2,b3⟩,b4⟩
  refine wo_ex .here ?_
  rintro ⟨⟨s,qs⟩,b1,b2,b3⟩
  repeat (first | refine we_seq ?_ | (refine wR ?_;try simp only [oS]) | refine wo_nil ?_ | refine wA ?_ | refine we_ret ?_)
  (first | refine or1 Try.func41 Try.results41 hQ rfl ?_ | refine on1 Try.func41 Try.results41 hQ rfl ?_)
  refine ⟨s,qs,b1,b2,by rw [b3,hq,List.length_map],rfl,rfl,fun h st=>?_⟩
  exact Ent.star (.take .here (.take .here (.drop (.drop .refl)))) (star_head st)
end
end
end Go.Proofs.Ytodgemainhokjaa
namespace Go.Proofs.Ytodgemainhokjaa
open Go Go.PB
section
section
variable {g:Game}
end
def sumN (l:List Nat):Nat:=l.foldr (·+·) 0
theorem sumN_set:∀ {l:List Nat} {k a b:Nat},l[k]?=some a→sumN (l.set k b)+a=sumN l+b
 | [],_,_,_,h=>by simp at h
 | x::l,0,a,b,h=>by simp at h;subst h;simp only [List.set_cons_zero,sumN,List.foldr_cons];omega
 | x::l,k+1,a,b,h=>by
  have:=sumN_set (l:=l) (k:=k) (a:=a) (b:=b) (by simpa using h)
  simp only [List.set_cons_succ,sumN,List.foldr_cons] at this ⊢
  omega
end
end Go.Proofs.Ytodgemainhokjaa
namespace Go.Proofs.Ytodgemainhokjaa
open Go Go.PB
attribute [local irreducible] Mo Bin Eql Tr Wo Ap Wle
section
theorem wds_congr {addr:Nat→Nat × Nat} {N:Nat} {K:List (Nat × Nat × Value)} {f f':Nat→Nat} (e:∀ i,i<N→f i=f' i):∀ h,wds addr N K f h→wds addr N K f' h:=fun h s =>
 ⟨fun w hw=>by rw [← e w hw];exact s.1 w hw,s.2⟩
structure WGm where
 σ:Type
 θ:Type
 ζ:Type
 wf:σ→Nat→Nat
 zf:σ→ζ
 Z:ζ→HProp
 plan:θ→Option ((Int × Int) × (σ→σ × θ))
 ok:σ→Prop
 Pv:θ→HProp
 up:∀ q h,Star [Pv q] h→Pv q h
def WGm.g (G:WGm) (addr:Nat→Nat × Nat) (N:Nat) (K:List (Nat × Nat × Value)):Game where
 σ:=G.σ
 θ:=G.θ
 U:=fun s=>all [wds addr N K (G.wf s),G.Z (G.zf s)]
 plan:=G.plan
 ok:=G.ok
 Pv:=G.Pv
 Fin:=G.Pv
theorem sum_step {α:Type} {φ0 φ1:α→Nat} (h:∀ a,φ1 a≤φ0 a):∀ {l:List α} {k:Nat} {q q':α},l[k]?=some q→φ1 q'+1≤φ0 q→sumN ((l.set k q').map φ1)+1≤sumN (l.map φ0)
 | [],_,_,_,hq,_=>by simp at hq
 | a::l,0,q,q',hq,hl=>by
  simp at hq;subst hq
  have hle:∀ l:List α,sumN (l.map φ1)≤sumN (l.map φ0):=by
   intro l
   induction l with
   | nil=>simp [sumN]
   | cons b l ih=>have:=h b;simp only [List.map_cons,sumN,List.foldr_cons] at ih ⊢;omega
  have:=hle l
  simp only [List.set_cons_zero,List.map_cons,sumN,List.foldr_cons] at this ⊢;omega
 | a::l,k+1,q,q',hq,hl=>by
  have h1:=sum_step h (l:=l) (k:=k) (q:=q) (q':=q') (by simpa using hq) hl
  have h2:=h a
  simp only [List.set_cons_succ,List.map_cons,sumN,List.foldr_cons] at h1 ⊢;omega
theorem sum_set {α:Type} {φ:α→Nat} {l:List α} {k:Nat} {q q':α} (hq:l[k]?=some q):sumN ((l.set k q').map φ)+φ q=sumN (l.map φ)+φ q':=by
 rw [List.map_set]
 exact sumN_set (by rw [List.getElem?_map,hq];rfl)
end
end Go.Proofs.Ytodgemainhokjaa
namespace Go.PB
open Go.Conc
section
variable {P:Program} {cv:Value} {kd:CallKind} {n:Nat} {K:Post (fHand P cv)} {e:Env} {z:Z} {L:List HProp} {l:List OpG} {d:Option Nat} {ty:TypeId} {gd:Option (Nat × Bool)} {tys:Array TypeId}
 {g:Game} {s1 s2 s3 wg m:Nat} {q:g.θ} {mk:Int × Int} {F:g.σ→g.σ × g.θ} {b o:Nat}
theorem wo_loadF {f:Nat} [x:Exn P f (Extern.Atomic.loadT (.int .u64))] {o1:Operand} (Rv:g.σ→Int→Prop) (hx:ev e o1=some (.pointer (some ⟨b,o,none⟩))) (hpl:g.plan q=some (mk,F)) (hg:gYes e gd) (hk:kd≠.early)
  (ha:∀ st r,g.ok st→g.U st r→∃ v,r.own b o=some (.int .u64 v)∧g.U (F st).1 r∧Rv st v)
  (k:∀ st v m',m=m'+1→g.ok st→Rv st v→Wo P (fHand P cv) kd n l K (setE d (.int .u64 v) e) z L (⟨g,s1,s2,s3,wg,.free (F st).2 m'⟩:TX)) :
  Wo P (fHand P cv) kd n (⟨d,.call ⟨.value (.func f),#[o1],tys⟩,ty,gd⟩::l) K e z L (⟨g,s1,s2,s3,wg,.free q m⟩:TX) :=
 wo_atom (Rv:=fun st v=>∃ w,v=.int .u64 w∧Rv st w) hpl hg hk (fun t a st r h1 h2=>by
  obtain ⟨v,c1,c2,c3⟩:=ha st r h1 h2
  exact ⟨b,o,_,.int .u64 v,none,c1,by rw [exec_call (args:=[o1]) (.cons hx .nil) a];exact atom_load,c2,v,rfl,c3⟩)
  (by rintro st _ m' h1 h2 ⟨w,rfl,h3⟩;exact k st w m' h1 h2 h3)
theorem wo_storeF {f:Nat} [x:Exn P f Extern.Atomic.storeT] {o1 o2:Operand} {y:Int} (hx:ev e o1=some (.pointer (some ⟨b,o,none⟩))) (hy:ev e o2=some (.int .u64 y)) (hpl:g.plan q=some (mk,F)) (hg:gYes e gd) (hk:kd≠.early)
  (ha:∀ st r,g.ok st→g.U st r→∃ v,r.own b o=some (.int .u64 v)∧g.U (F st).1 (r.lay b o (some (.int .u64 y))))
  (k:∀ st m',m=m'+1→g.ok st→Wo P (fHand P cv) kd n l K (setE d unit e) z L (⟨g,s1,s2,s3,wg,.free (F st).2 m'⟩:TX)) :
  Wo P (fHand P cv) kd n (⟨d,.call ⟨.value (.func f),#[o1,o2],tys⟩,ty,gd⟩::l) K e z L (⟨g,s1,s2,s3,wg,.free q m⟩:TX) :=
 wo_atom (Rv:=fun st v=>v=unit) hpl hg hk (fun t a st r h1 h2=>by
  obtain ⟨v,c1,c2⟩:=ha st r h1 h2
  exact ⟨b,o,_,unit,_,c1,by rw [exec_call (args:=[o1,o2]) (.cons hx (.cons hy .nil)) a];exact atom_store,c2,rfl⟩)
  (by rintro st _ m' h1 h2 rfl;exact k st m' h1 h2)
theorem wo_addF {f:Nat} [x:Exn P f (Extern.Atomic.update (Op.intArith .add) .u64 true)] {o1 o2:Operand} {y:Int} (Rv:g.σ→Int→Prop) (hx:ev e o1=some (.pointer (some ⟨b,o,none⟩))) (hy:ev e o2=some (.int .u64 y)) (hpl:g.plan q=some (mk,F)) (hg:gYes e gd) (hk:kd≠.early)
  (ha:∀ st r,g.ok st→g.U st r→∃ v w,r.own b o=some (.int .u64 v)∧IntKind.u64.wrap (v+y)=w∧g.U (F st).1 (r.lay b o (some (.int .u64 w)))∧Rv st w)
  (k:∀ st v m',m=m'+1→g.ok st→Rv st v→Wo P (fHand P cv) kd n l K (setE d (.int .u64 v) e) z L (⟨g,s1,s2,s3,wg,.free (F st).2 m'⟩:TX)) :
  Wo P (fHand P cv) kd n (⟨d,.call ⟨.value (.func f),#[o1,o2],tys⟩,ty,gd⟩::l) K e z L (⟨g,s1,s2,s3,wg,.free q m⟩:TX) :=
 wo_atom (Rv:=fun st v=>∃ w,v=.int .u64 w∧Rv st w) hpl hg hk (fun t a st r h1 h2=>by
  obtain ⟨v,w,c1,rfl,c2,c3⟩:=ha st r h1 h2
  exact ⟨b,o,_,_,_,c1,by rw [exec_call (args:=[o1,o2]) (.cons hx (.cons hy .nil)) a];exact atom_add,c2,_,rfl,c3⟩)
  (by rintro st _ m' h1 h2 ⟨w,rfl,h3⟩;exact k st w m' h1 h2 h3)
theorem wo_casF {f:Nat} [x:Exn P f (Extern.Atomic.casT (.int .u64))] {o1 o2 o3:Operand} {a y:Int} (Rv:g.σ→Bool→Prop) (hx:ev e o1=some (.pointer (some ⟨b,o,none⟩))) (hy:ev e o2=some (.int .u64 a)) (hz:ev e o3=some (.int .u64 y)) (hpl:g.plan q=some (mk,F)) (hg:gYes e gd) (hk:kd≠.early)
  (ha:∀ st r,g.ok st→g.U st r→∃ v,r.own b o=some (.int .u64 v)∧g.U (F st).1 (r.lay b o (if v=a then some (.int .u64 y) else none))∧Rv st (decide (v=a)))
  (k:∀ st v m',m=m'+1→g.ok st→Rv st v→Wo P (fHand P cv) kd n l K (setE d (.bool v) e) z L (⟨g,s1,s2,s3,wg,.free (F st).2 m'⟩:TX)) :
  Wo P (fHand P cv) kd n (⟨d,.call ⟨.value (.func f),#[o1,o2,o3],tys⟩,ty,gd⟩::l) K e z L (⟨g,s1,s2,s3,wg,.free q m⟩:TX) :=
 wo_atom (Rv:=fun st v=>∃ w,v=.bool w∧Rv st w) hpl hg hk (fun t ag st r h1 h2=>by
  obtain ⟨v,c1,c2,c3⟩:=ha st r h1 h2
  exact ⟨b,o,_,_,_,c1,by rw [exec_call (args:=[o1,o2,o3]) (.cons hx (.cons hy (.cons hz .nil))) ag];exact atom_cas,c2,_,rfl,c3⟩)
  (by rintro st _ m' h1 h2 ⟨w,rfl,h3⟩;exact k st w m' h1 h2 h3)
end
end Go.PB
namespace Go.Proofs.Ytodgemainhokjaa
open Go Go.PB
attribute [local irreducible] Mo Bin Eql Tr Wo Ap Wle
attribute [local instance] Pass.of_no
section
variable {G:WGm} {addr:Nat→Nat × Nat} {N:Nat} {K:List (Nat × Nat × Value)} {wg:Nat} {L F:List HProp} {b o w:Nat}
theorem U_own {s:G.σ} {r:Hp} (hU:(G.g addr N K).U s r) (hw:w<N) (ha:addr w=(b,o)):r.own b o=some (.int .u64 (G.wf s w:Nat))∧G.wf s w<18446744073709551616:=by
 obtain ⟨h1,h2,sp,hc,_⟩:=hU
 have:=hc.1 w hw
 rw [ha] at this
 exact ⟨sp.o1 _ _ _ this.2,this.1⟩
theorem U_keep {s s':G.σ} {r:Hp} (hU:(G.g addr N K).U s r) (hf:∀ i,i<N→G.wf s' i=G.wf s i) (hz:G.zf s'=G.zf s):(G.g addr N K).U s' r:=by
 show Star [_,G.Z (G.zf s')] r
 rw [hz]
 exact star_map hU (wds_congr fun i hi=>(hf i hi).symm) fun _ z=>z
theorem U_lay (A:Apart addr N K) {s s':G.σ} {r:Hp} {n:Nat} (hU:(G.g addr N K).U s r) (hw:w<N) (ha:addr w=(b,o)) (hn:n<18446744073709551616) (hf:∀ i,i<N→G.wf s' i=upd (G.wf s) w n i) (hz:G.zf s'=G.zf s):(G.g addr N K).U s' (r.lay b o (some (.int .u64 (n:Nat)))):=by
 have h1:Star (wds addr N K (upd (G.wf s) w n)::[G.Z (G.zf s)]) (r.set b o (.int .u64 (n:Nat))):=(wt_wds A (.here:Has [wds addr N K (G.wf s),G.Z (G.zf s)] _ _) hw ha hn r hU).2
 show Star [_,G.Z (G.zf s')] _
 rw [hz]
 exact star_map h1 (wds_congr fun i hi=>(hf i hi).symm) fun _ z=>z
structure FrS (G:WGm) where
 q:G.θ
 n:Nat
abbrev frX (G:WGm) (addr:Nat→Nat × Nat) (N:Nat) (K:List (Nat × Nat × Value)) (wg:Nat) (s:FrS G):TX:=tx (G.g addr N K) 0 0 0 wg (.free s.q s.n)
theorem load_free (hw:w<N) (ha:addr w=(b,o)) {q:G.θ} {m:Nat} {mk:Int × Int} {FF:G.σ→G.σ × G.θ} (hpl:G.plan q=some (mk,FF)) (hk:∀ st,G.ok st→(∀ i,i<N→G.wf (FF st).1 i=G.wf st i)∧G.zf (FF st).1=G.zf st) :
  Tr Try.prog fH 47 [.pointer (some ⟨b,o,none⟩)] L (frX G addr N K wg ⟨q,m⟩) fun v L' x'=>∃ st m',m'<m∧G.ok st∧G.wf st w<18446744073709551616∧v=.int .u64 (G.wf st w:Nat)∧L'=L∧x'=frX G addr N K wg ⟨(FF st).2,m'⟩:=by
 refine tr_of_body Try.func47 rfl Try.ntmps47 (by simp) fun um Q _ hQ=>?_
 simp only [argE,Nat.zero_add,Nat.reduceAdd]
 repeat (first | refine we_seq ?_ | (refine wR ?_;try simp only [oS]) | refine wo_nil ?_ | refine wM ?_ | refine wA ?_ | refine wN ?_ | refine wD ?_)
 refine wo_loadF (g:=G.g addr N K) (F:=FF) (b:=b) (o:=o) (fun st v=>v=(G.wf st w:Nat)∧G.wf st w<18446744073709551616) rfl hpl trivial (by decide) (fun st r h1 h2=>⟨_,(U_own h2 hw ha).1,U_keep h2 (hk st h1).1 (hk st h1).2,rfl,(U_own h2 hw ha).2⟩) ?_
 rintro st _ m' hm hok ⟨rfl,hlt⟩
 repeat (first | refine wo_nil ?_ | refine wA ?_ | refine we_ret ?_)
 (first | refine or1 Try.func47 Try.results47 hQ rfl ?_ | refine on1 Try.func47 Try.results47 hQ rfl ?_)
 exact ⟨st,m',(by have h0:m=m'+1:=hm;omega),hok,hlt,rfl,rfl,rfl⟩
theorem store_free (A:Apart addr N K) (hw:w<N) (ha:addr w=(b,o)) {n:Nat} (hn:n<18446744073709551616) {q:G.θ} {m:Nat} {mk:Int × Int} {FF:G.σ→G.σ × G.θ} (hpl:G.plan q=some (mk,FF)) (hk:∀ st,G.ok st→(∀ i,i<N→G.wf (FF st).1 i=upd (G.wf st) w n i)∧G.zf (FF st).1=G.zf st) :
  Tr Try.prog fH 44 [.pointer (some ⟨b,o,none⟩),.int .u64 (n:Nat)] L (frX G addr N K wg ⟨q,m⟩) fun v L' x'=>∃ st m',m'<m∧G.ok st∧v=.tuple #[]∧L'=L∧x'=frX G addr N K wg ⟨(FF st).2,m'⟩:=by
 refine tr_of_body Try.func44 rfl Try.ntmps44 (by simp) fun um Q _ hQ=>?_
 simp only [argE,Nat.zero_add,Nat.reduceAdd]
 repeat (first | (refine wR ?_;try simp only [oS]) | refine wM ?_ | refine wN ?_ | refine wD ?_)
 refine wo_storeF (g:=G.g addr N K) (F:=FF) (b:=b) (o:=o) (y:=(n:Nat)) rfl rfl hpl trivial (by decide) (fun st r h1 h2=>⟨_,(U_own h2 hw ha).1,U_lay A h2 hw ha hn (hk st h1).1 (hk st h1).2⟩) ?_
 rintro st m' hm hok
 repeat (first | refine wo_nil ?_)
 (first | refine or0 Try.func44 Try.results44 hQ ?_ | refine on0 Try.func44 Try.results44 hQ ?_)
 exact ⟨st,m',(by have h0:m=m'+1:=hm;omega),hok,rfl,rfl,rfl⟩
theorem add_free (A:Apart addr N K) (hw:w<N) (ha:addr w=(b,o)) {n:Nat} {q:G.θ} {m:Nat} {mk:Int × Int} {FF:G.σ→G.σ × G.θ} (hpl:G.plan q=some (mk,FF)) (hk:∀ st,G.ok st→(∀ i,i<N→G.wf (FF st).1 i=upd (G.wf st) w ((G.wf st w+n)%18446744073709551616) i)∧G.zf (FF st).1=G.zf st) :
  Tr Try.prog fH 86 [.pointer (some ⟨b,o,none⟩),.int .u64 (n:Nat)] L (frX G addr N K wg ⟨q,m⟩) fun v L' x'=>∃ st m',m'<m∧G.ok st∧v=.int .u64 ((G.wf st w+n)%18446744073709551616:Nat)∧L'=L∧x'=frX G addr N K wg ⟨(FF st).2,m'⟩:=by
 refine tr_of_body Try.func86 rfl Try.ntmps86 (by simp) fun um Q _ hQ=>?_
 simp only [argE,Nat.zero_add,Nat.reduceAdd]
 repeat (first | refine we_seq ?_ | (refine wR ?_;try simp only [oS]) | refine wo_nil ?_ | refine wM ?_ | refine wA ?_ | refine wN ?_ | refine wD ?_)
 refine wo_addF (g:=G.g addr N K) (F:=FF) (b:=b) (o:=o) (y:=(n:Nat)) (fun st v=>v=(((G.wf st w+n)%18446744073709551616:Nat):Int)) rfl rfl hpl trivial (by decide) (fun st r h1 h2=>⟨_,((G.wf st w+n)%18446744073709551616:Nat),(U_own h2 hw ha).1,by rw [wrap_u64_mod];omega,U_lay A h2 hw ha (Nat.mod_lt _ (by decide)) (hk st h1).1 (hk st h1).2,rfl⟩) ?_
 rintro st _ m' hm hok rfl
 repeat (first | refine wo_nil ?_ | refine wA ?_ | refine we_ret ?_)
 (first | refine or1 Try.func86 Try.results86 hQ rfl ?_ | refine on1 Try.func86 Try.results86 hQ rfl ?_)
 exact ⟨st,m',(by have h0:m=m'+1:=hm;omega),hok,rfl,rfl,rfl⟩
theorem cas_free (A:Apart addr N K) (hw:w<N) (ha:addr w=(b,o)) {a n:Nat} (hn:n<18446744073709551616) {q:G.θ} {m:Nat} {mk:Int × Int} {FF:G.σ→G.σ × G.θ} (hpl:G.plan q=some (mk,FF)) (hk:∀ st,G.ok st→(∀ i,i<N→G.wf (FF st).1 i=(if G.wf st w=a then upd (G.wf st) w n else G.wf st) i)∧G.zf (FF st).1=G.zf st) :
  Tr Try.prog fH 48 [.pointer (some ⟨b,o,none⟩),.int .u64 (a:Nat),.int .u64 (n:Nat)] L (frX G addr N K wg ⟨q,m⟩) fun v L' x'=>∃ st m',m'<m∧G.ok st∧v=.bool (decide (G.wf st w=a))∧L'=L∧x'=frX G addr N K wg ⟨(FF st).2,m'⟩:=by
 refine tr_of_body Try.func48 rfl Try.ntmps48 (by simp) fun um Q _ hQ=>?_
 simp only [argE,Nat.zero_add,Nat.reduceAdd]
 repeat (first | refine we_seq ?_ | (refine wR ?_;try simp only [oS]) | refine wo_nil ?_ | refine wM ?_ | refine wA ?_ | refine wN ?_ | refine wD ?_)
 refine wo_casF (g:=G.g addr N K) (F:=FF) (b:=b) (o:=o) (a:=(a:Nat)) (y:=(n:Nat)) (fun st v=>v=decide (G.wf st w=a)) rfl rfl rfl hpl trivial (by decide) (fun st r h1 h2=>⟨_,(U_own h2 hw ha).1,?_,decide_eq_decide.2 (by omega)⟩) ?_
 ·have hk':=hk st h1
  by_cases hw':G.wf st w=a
  ·rw [if_pos hw'] at hk';rw [if_pos (by omega)];exact U_lay A h2 hw ha hn hk'.1 hk'.2
  ·rw [if_neg hw'] at hk';rw [if_neg (by omega)];exact U_keep h2 hk'.1 hk'.2
 rintro st _ m' hm hok rfl
 repeat (first | refine wo_nil ?_ | refine wA ?_ | refine we_ret ?_)
 (first | refine or1 Try.func48 Try.results48 hQ rfl ?_ | refine on1 Try.func48 Try.results48 hQ rfl ?_)
 exact ⟨st,m',(by have h0:m=m'+1:=hm;omega),hok,rfl,rfl,rfl⟩
def FrStep (G:WGm) (N:Nat) (w:Nat) (s:FrS G) (f:G.σ→Nat→Nat) (R:G.σ→FrS G→Prop):Prop :=
 w<N∧∃ mk F,G.plan s.q=some (mk,F)∧(∀ st,G.ok st→(∀ i,i<N→G.wf (F st).1 i=f st i)∧G.zf (F st).1=G.zf st)∧∀ st n,n<s.n→G.ok st→R st ⟨(F st).2,n⟩
def freAcc (G:WGm) (addr:Nat→Nat × Nat) (N:Nat) (K:List (Nat × Nat × Value)) (A:Apart addr N K) (wg:Nat) (Cf:HProp):Acc fH .nilIface where
 S:=FrS G
 C:=fun _=>Cf
 x:=fun s=>frX G addr N K wg s
 step:=fun _ _ s R=>R s
 addr:=addr
 load:=fun w s R=>FrStep G N w s G.wf fun st s'=>R (G.wf st w) s'
 store:=fun w n s R=>FrStep G N w s (fun st=>upd (G.wf st) w n) fun _ s'=>R s'
 cas:=fun w a n s R=>FrStep G N w s (fun st=>if G.wf st w=a then upd (G.wf st) w n else G.wf st) fun st s'=>R (decide (G.wf st w=a)) s'
 add:=fun w n s R=>FrStep G N w s (fun st=>upd (G.wf st) w ((G.wf st w+n)%18446744073709551616)) fun st s'=>R ((G.wf st w+n)%18446744073709551616) s'
 swap:=fun w n s R=>FrStep G N w s (fun st=>upd (G.wf st) w n) fun st s'=>R (G.wf st w) s'
 gate:=.inl ⟨rfl,fun op w s R h=>h⟩
 load_ok:=fun w s R L F b o ha ⟨hw,mk,FF,hpl,hk,hR⟩ hh=>tr_star _ (fun h st=>hh.star st) ((load_free hw ha hpl hk).post fun v L' x' ⟨st,m',h1,h2,h3,h4,h5,h6⟩ =>
  ⟨_,⟨G.wf st w,⟨(FF st).2,m'⟩,h3,hR st m' h1 h2,h4,rfl,h6⟩,fun h st=>by rw [h5] at st;exact st⟩)
 store_ok:=fun w n s R L F b o ha hn ⟨hw,mk,FF,hpl,hk,hR⟩ hh=>tr_star _ (fun h st=>hh.star st) ((store_free A hw ha hn hpl hk).post fun v L' x' ⟨st,m',h1,h2,h4,h5,h6⟩ =>
  ⟨_,⟨⟨(FF st).2,m'⟩,hR st m' h1 h2,h4,rfl,h6⟩,fun h st=>by rw [h5] at st;exact st⟩)
 cas_ok:=fun w a n s R L F b o ha hn ⟨hw,mk,FF,hpl,hk,hR⟩ hh=>tr_star _ (fun h st=>hh.star st) ((cas_free A hw ha hn hpl hk).post fun v L' x' ⟨st,m',h1,h2,h4,h5,h6⟩ =>
  ⟨_,⟨_,⟨(FF st).2,m'⟩,hR st m' h1 h2,h4,rfl,h6⟩,fun h st=>by rw [h5] at st;exact st⟩)
 add_ok:=fun w n s R L F b o ha hn ⟨hw,mk,FF,hpl,hk,hR⟩ hh=>tr_star _ (fun h st=>hh.star st) ((add_free A hw ha hpl hk).post fun v L' x' ⟨st,m',h1,h2,h4,h5,h6⟩ =>
  ⟨_,⟨_,⟨(FF st).2,m'⟩,Nat.mod_lt _ (by decide),hR st m' h1 h2,h4,rfl,h6⟩,fun h st=>by rw [h5] at st;exact st⟩)
end
end Go.Proofs.Ytodgemainhokjaa
namespace Go.Proofs.Ytodgemainhokjaa
open Go Go.PB
attribute [local irreducible] Mo Bin Eql Tr Wo Ap Wle
section
structure Slf where
 n:Nat
 W:Nat→Nat→Nat
 ζ:Type
 π:Type
 onW:Nat→Nat→π→ζ→ζ × π
 onR:List Nat→Nat→π→ζ→ζ × π
 skip:List (Option Nat)→List (Option Nat)
 sub:∀ l x,x∈skip l→x∈l
 len:∀ l,(skip l).length≤l.length
inductive SlfSt where
 | idle
 | cas (v:Nat)
 | wr (v j:Nat)
 | rd (v j:Nat) (acc:List Nat)
structure SlfS (ζ:Type) where
 ver:Nat
 ws:Nat→Nat
 xs:List Nat
 z:ζ
structure SlfQ (π:Type) where
 ops:List (Option Nat)
 st:SlfSt
 p:π
def Slf.words (D:Slf) (x:Nat):List Nat:=(List.range D.n).map (D.W x)
def slfPlan (D:Slf) (q:SlfQ D.π):Option ((Int × Int) × (SlfS D.ζ→SlfS D.ζ × SlfQ D.π)) :=
 match q.ops,q.st with
 | [],_=>none
 | some x::rest,.idle=>some ((((1:Nat):Int),((0:Nat):Int)),fun s=>if s.ver%2=0 then (s,⟨some x::rest,.cas s.ver,q.p⟩) else (s,⟨rest,.idle,q.p⟩))
 | some x::rest,.cas v=>some ((((5:Nat):Int),((0:Nat):Int)),fun s=>if s.ver=v then ({ s with ver:=(v+1)%18446744073709551616 },⟨some x::rest,.wr v 0,q.p⟩) else (s,⟨rest,.idle,q.p⟩))
 | some x::rest,.wr v j=>if j<D.n then some ((((2:Nat):Int),((1+j:Nat):Int)),fun s=>({ s with ws:=upd s.ws j (D.W x j) },⟨some x::rest,.wr v (j+1),q.p⟩))
   else some ((((2:Nat):Int),((0:Nat):Int)),fun s=>({ s with ver:=(v+2)%18446744073709551616,xs:=s.xs++[x],z:=(D.onW x ((v+2)%18446744073709551616) q.p s.z).1 },⟨rest,.idle,(D.onW x ((v+2)%18446744073709551616) q.p s.z).2⟩))
 | some _::_,.rd _ _ _=>none
 | none::rest,.idle=>some ((((1:Nat):Int),((0:Nat):Int)),fun s=>if s.ver%2=0 then (s,⟨none::rest,.rd s.ver 0 [],q.p⟩) else (s,⟨rest,.idle,q.p⟩))
 | none::rest,.rd v j acc=>if j<D.n then some ((((1:Nat):Int),((1+j:Nat):Int)),fun s=>(s,⟨none::rest,.rd v (j+1) (acc++[s.ws j]),q.p⟩))
   else some ((((1:Nat):Int),((0:Nat):Int)),fun s=>if s.ver=v then ({ s with z:=(D.onR acc v q.p s.z).1 },⟨D.skip rest,.idle,(D.onR acc v q.p s.z).2⟩) else (s,⟨rest,.idle,q.p⟩))
 | none::_,_=>none
def slfW (D:Slf) (s:SlfS D.ζ) (i:Nat):Nat:=if i=0 then s.ver else s.ws (i-1)
def slfG (D:Slf) (Pv:SlfQ D.π→HProp) (up:∀ q h,Star [Pv q] h→Pv q h):WGm where
 σ:=SlfS D.ζ
 θ:=SlfQ D.π
 ζ:=Unit
 wf:=slfW D
 zf:=fun _=>()
 Z:=fun _ _=>True
 plan:=slfPlan D
 ok:=fun _=>True
 Pv:=Pv
 up:=up
section
variable {D:Slf} {Pv:SlfQ D.π→HProp} {up:∀ q h,Star [Pv q] h→Pv q h} {r wg:Nat} {Cf:HProp}
theorem s_apart0 (r n:Nat):Apart (sAddr r) (n+1) []:=⟨(s_apart r n).inj,fun w hw k hk=>by simp at hk⟩
abbrev slfAcc (D:Slf) (Pv:SlfQ D.π→HProp) (up:∀ q h,Star [Pv q] h→Pv q h) (r wg:Nat) (Cf:HProp):Acc fH .nilIface:=freAcc (slfG D Pv up) (sAddr r) (D.n+1) [] (s_apart0 r D.n) wg Cf
theorem slf_at (h1:1≤D.n) (h2:D.n≤16) (hC:Rd [Cf] r 1 (.int .i64 (D.n:Nat))):SeqAt (slfAcc D Pv up r wg Cf) r D.n:=⟨h1,h2,fun s=>hC,rfl,fun i _=>s_addr⟩
theorem slfW_succ {s:SlfS D.ζ} {i:Nat}:slfW D s (1+i)=s.ws i:=by unfold slfW;rw [if_neg (by omega),show 1+i-1=i by omega]
theorem slfW_ver {s:SlfS D.ζ} {v:Nat} {xs:List Nat} {z:D.ζ} (j:Nat):slfW D ⟨v,s.ws,xs,z⟩ j=upd (slfW D s) 0 v j:=by
 unfold slfW
 by_cases h0:j=0
 ·subst h0;rw [upd_same];rfl
 ·rw [upd_other h0,if_neg h0,if_neg h0]
theorem slfW_word {s:SlfS D.ζ} {i w:Nat} (j:Nat):slfW D { s with ws:=upd s.ws i w } j=upd (slfW D s) (1+i) w j:=by
 unfold slfW
 by_cases h0:j=0
 ·subst h0;rw [upd_other (by omega)];rfl
 ·rw [if_neg h0]
  by_cases h1:j=1+i
  ·subst h1
   rw [upd_same,show 1+i-1=i by omega]
   exact upd_same
  ·rw [upd_other h1,if_neg h0]
   exact upd_other (by omega)
theorem slf_wloop {x v:Nat} {rest:List (Option Nat)} {p:D.π} {R:FrS (slfG D Pv up)→Prop}:∀ (k i:Nat) (s:FrS (slfG D Pv up)),i+k=D.n→s.q=(⟨some x::rest,.wr v i,p⟩:SlfQ D.π)→(∀ s:FrS (slfG D Pv up),s.q=(⟨some x::rest,.wr v D.n,p⟩:SlfQ D.π)→R s)→WLoop (slfAcc D Pv up r wg Cf) R ((List.range' i k).map (D.W x)) i s
 | 0,i,s,hi,hs,hR=>by
  obtain rfl:i=D.n:=by omega
  exact hR s hs
 | k+1,i,s,hi,hs,hR=>by
  rw [List.range'_succ,List.map_cons]
  obtain ⟨sq,sn⟩:=s
  replace hs:sq=(⟨some x::rest,.wr v i,p⟩:SlfQ D.π):=hs
  subst hs
  have hp:slfPlan D ⟨some x::rest,.wr v i,p⟩=some (_,_):=if_pos (by omega)
  refine ⟨by omega,_,_,hp,fun (st:SlfS D.ζ) _=>⟨fun j hj=>slfW_word j,rfl⟩,fun (st:SlfS D.ζ) m hm _=>slf_wloop k (i+1) _ (by omega) rfl hR⟩
theorem slf_write {x:Nat} {rest:List (Option Nat)} {p:D.π} {s:FrS (slfG D Pv up)} (hs:s.q=(⟨some x::rest,.idle,p⟩:SlfQ D.π)) :
  WriteT (slfAcc D Pv up r wg Cf) (D.words x) s fun o s'=>match o with
   | none=>s'.q=(⟨rest,.idle,p⟩:SlfQ D.π)
   | some v=>∃ z,s'.q=(⟨rest,.idle,(D.onW x v p z).2⟩:SlfQ D.π):=by
 obtain ⟨sq,sn⟩:=s
 replace hs:sq=(⟨some x::rest,.idle,p⟩:SlfQ D.π):=hs
 subst hs
 refine ⟨by omega,_,_,rfl,fun (st:SlfS D.ζ) _=>⟨fun j hj=>?_,rfl⟩,fun (st:SlfS D.ζ) m hm _=>?_⟩
 ·dsimp only
  split <;> rfl
 show if st.ver%2=0 then _ else _
 by_cases c:st.ver%2=0
 ·rw [if_pos c]
  simp only [if_pos c]
  refine ⟨by omega,_,_,rfl,fun (st2:SlfS D.ζ) _=>?_,fun (st2:SlfS D.ζ) m2 hm2 _=>?_⟩
  ·by_cases e:st2.ver=st.ver
   ·have e':slfW D st2 0=slfW D st 0:=e
    refine ⟨fun j hj=>?_,rfl⟩
    simp only [if_pos e]
    show _=(if slfW D st2 0=slfW D st 0 then upd (slfW D st2) 0 _ else slfW D st2) j
    rw [if_pos e']
    exact slfW_ver j
   ·have e':¬ slfW D st2 0=slfW D st 0:=e
    refine ⟨fun j hj=>?_,rfl⟩
    simp only [if_neg e]
    show _=(if slfW D st2 0=slfW D st 0 then upd (slfW D st2) 0 _ else slfW D st2) j
    rw [if_neg e']
    rfl
  show if decide (st2.ver=st.ver)=true then _ else _
  by_cases e:st2.ver=st.ver
  ·rw [if_pos (decide_eq_true e)]
   simp only [if_pos e]
   have hr:D.words x=(List.range' 0 D.n).map (D.W x):=by unfold Slf.words;rw [List.range_eq_range']
   rw [hr]
   refine slf_wloop D.n 0 _ (by omega) rfl fun s3 h3=>?_
   obtain ⟨sq3,sn3⟩:=s3
   replace h3:sq3=(⟨some x::rest,.wr st.ver D.n,p⟩:SlfQ D.π):=h3
   subst h3
   have hp:slfPlan D ⟨some x::rest,.wr st.ver D.n,p⟩=some (_,_):=if_neg (Nat.lt_irrefl _)
   refine ⟨by omega,_,_,hp,fun (st4:SlfS D.ζ) _=>⟨fun j hj=>slfW_ver j,rfl⟩,fun (st4:SlfS D.ζ) m4 hm4 _=>⟨_,rfl⟩⟩
  ·rw [if_neg (by simpa using e)]
   simp only [if_neg e]
   rfl
 ·rw [if_neg c]
  simp only [if_neg c]
  rfl
theorem slf_rloop {v:Nat} {rest:List (Option Nat)} {p:D.π} {K:List Nat→FrS (slfG D Pv up)→Prop}:∀ (k:Nat) (acc:List Nat) (s:FrS (slfG D Pv up)),acc.length+k=D.n→s.q=(⟨none::rest,.rd v acc.length acc,p⟩:SlfQ D.π)→(∀ acc (s:FrS (slfG D Pv up)),s.q=(⟨none::rest,.rd v D.n acc,p⟩:SlfQ D.π)→K acc s)→RLoop (slfAcc D Pv up r wg Cf) K k acc s
 | 0,acc,s,hi,hs,hK=>by
  have hl:acc.length=D.n:=by omega
  rw [hl] at hs
  exact hK acc s hs
 | k+1,acc,s,hi,hs,hK=>by
  obtain ⟨sq,sn⟩:=s
  replace hs:sq=(⟨none::rest,.rd v acc.length acc,p⟩:SlfQ D.π):=hs
  subst hs
  have hp:slfPlan D ⟨none::rest,.rd v acc.length acc,p⟩=some (_,_):=if_pos (by omega)
  refine ⟨by omega,_,_,hp,fun (st:SlfS D.ζ) _=>⟨fun j hj=>rfl,rfl⟩,fun (st:SlfS D.ζ) m hm _=>?_⟩
  have hw:slfW D st (1+acc.length)=st.ws acc.length:=slfW_succ
  show RLoop (slfAcc D Pv up r wg Cf) K k (acc++[slfW D st (1+acc.length)]) _
  rw [hw]
  refine slf_rloop k (acc++[st.ws acc.length]) _ (by simp;omega) ?_ hK
  show (⟨none::rest,.rd v (acc.length+1) (acc++[st.ws acc.length]),p⟩:SlfQ D.π)=_
  rw [List.length_append];rfl
theorem slf_read {rest:List (Option Nat)} {p:D.π} {s:FrS (slfG D Pv up)} {Q:Option (List Nat × Nat)→FrS (slfG D Pv up)→Prop} (hs:s.q=(⟨none::rest,.idle,p⟩:SlfQ D.π))
  (hN:∀ s':FrS (slfG D Pv up),s'.q=(⟨rest,.idle,p⟩:SlfQ D.π)→Q none s') (hS:∀ y z (s':FrS (slfG D Pv up)),s'.q=(⟨D.skip rest,.idle,(D.onR y.1 y.2 p z).2⟩:SlfQ D.π)→Q (some y) s') :
  ReadT (slfAcc D Pv up r wg Cf) D.n s Q:=by
 obtain ⟨sq,sn⟩:=s
 replace hs:sq=(⟨none::rest,.idle,p⟩:SlfQ D.π):=hs
 subst hs
 refine ⟨by omega,_,_,rfl,fun (st:SlfS D.ζ) _=>⟨fun j hj=>?_,rfl⟩,fun (st:SlfS D.ζ) m hm _=>?_⟩
 ·dsimp only
  split <;> rfl
 show if st.ver%2=0 then _ else _
 by_cases c:st.ver%2=0
 ·rw [if_pos c]
  simp only [if_pos c]
  refine slf_rloop D.n [] _ (by simp) rfl fun acc s3 h3=>?_
  obtain ⟨sq3,sn3⟩:=s3
  replace h3:sq3=(⟨none::rest,.rd st.ver D.n acc,p⟩:SlfQ D.π):=h3
  subst h3
  have hp:slfPlan D ⟨none::rest,.rd st.ver D.n acc,p⟩=some (_,_):=if_neg (Nat.lt_irrefl _)
  refine ⟨by omega,_,_,hp,fun (st4:SlfS D.ζ) _=>⟨fun j hj=>?_,rfl⟩,fun (st4:SlfS D.ζ) m4 hm4 _=>?_⟩
  ·dsimp only
   split <;> rfl
  show if st4.ver=st.ver then _ else _
  by_cases e:st4.ver=st.ver
  ·rw [if_pos e]
   simp only [if_pos e]
   exact hS (acc,st.ver) st4.z _ rfl
  ·rw [if_neg e]
   simp only [if_neg e]
   exact hN _ rfl
 ·rw [if_neg c]
  simp only [if_neg c]
  exact hN _ rfl
theorem slf_wait {rest:List (Option Nat)} {p:D.π} {s:FrS (slfG D Pv up)} (hsk:D.skip rest=rest) (hsk2:D.skip (none::rest)=rest) (hsk3:D.skip (none::none::rest)=rest) (hs:s.q=(⟨none::none::none::rest,.idle,p⟩:SlfQ D.π)) :
  WaitT (slfAcc D Pv up r wg Cf) D.n (fun o s'=>match o with
   | none=>s'.q=(⟨rest,.idle,p⟩:SlfQ D.π)
   | some y=>∃ z,s'.q=(⟨rest,.idle,(D.onR y.1 y.2 p z).2⟩:SlfQ D.π)) 2 s:=by
 refine slf_read hs (fun s1 h1=>?_) (fun y z s1 h1=>?_)
 ·rw [if_neg (by decide)]
  refine slf_read h1 (fun s2 h2=>?_) (fun y z s2 h2=>?_)
  ·rw [if_neg (by decide)]
   exact slf_read h2 (fun s3 h3=>h3) fun y z s3 h3=>by rw [hsk] at h3;exact ⟨z,h3⟩
  ·simp only [Option.isSome_some,if_true]
   rw [hsk2] at h2
   exact ⟨z,h2⟩
 ·simp only [Option.isSome_some,if_true]
  rw [hsk3] at h1
  exact ⟨z,h1⟩
end
def SlfQ.writes {π:Type} (q:SlfQ π):Bool:=match q.st with | .wr _ _=>true | _=>false
def slfLast (xs:List Nat):Nat:=xs.getLast?.getD 0
def SlfT (D:Slf) (X:Nat→Prop) (s:SlfS D.ζ) (q:SlfQ D.π):Prop :=
 (∀ x,some x∈q.ops→X x)∧match q.st with
 | .idle=>True
 | .cas v=>v%2=0
 | .wr v j=>j≤D.n
 | .rd v j acc=>j≤D.n∧v%2=0∧v≤2*(s.xs.length-1)∧(s.ver=v→acc=(List.range j).map (D.W (slfLast s.xs)))
def SlfV (D:Slf) (s:SlfS D.ζ) (qs:List (SlfQ D.π)):Prop :=
 (s.ver=2*(s.xs.length-1)∧(∀ j,j<D.n→s.ws j=D.W (slfLast s.xs) j)∧∀ (k:Nat) q,qs[k]?=some q→q.writes=false) ∨
 (s.ver=2*(s.xs.length-1)+1∧∃ (k:Nat) (x:Nat) (rest:List (Option Nat)) (j:Nat) (p:D.π),qs[k]?=some ⟨some x::rest,.wr (2*(s.xs.length-1)) j,p⟩∧(∀ i,i<j→s.ws i=D.W x i)∧∀ (k':Nat) q,qs[k']?=some q→k'≠k→q.writes=false)
structure SlfI (D:Slf) (X:Nat→Prop) (J:Nat→List Nat→D.ζ→List D.π→Prop) (m:Nat) (s:SlfS D.ζ) (qs:List (SlfQ D.π)):Prop where
 lo:1≤s.xs.length
 hi:s.xs.length≤m+1
 V:SlfV D s qs
 T:∀ (k:Nat) q,qs[k]?=some q→SlfT D X s q
 J:J m s.xs s.z (qs.map (·.p))
def slfφ (n:Nat) {π:Type} (q:SlfQ π):Nat:=q.ops.length*(n+4)-match q.st with | .idle=>0 | .cas _=>1 | .wr _ j=>2+j | .rd _ j _=>1+j
theorem set_getF {α:Type} {l:List α} {k:Nat} {a b:α} (h:l[k]?=some a):(l.set k b)[k]?=some b:=by
 rw [List.getElem?_set_self (List.getElem?_eq_some_iff.1 h).1]
theorem set_casesF {α:Type} {l:List α} {k j:Nat} {b c:α} (h:(l.set k b)[j]?=some c):(j=k∧c=b)∨(j≠k∧l[j]?=some c):=by
 rw [List.getElem?_set] at h
 split at h
 ·split at h
  ·cases h;exact .inl ⟨by omega,rfl⟩
  ·cases h
 ·exact .inr ⟨by omega,h⟩
section
variable {D:Slf} {X:Nat→Prop} {s s':SlfS D.ζ} {qs:List (SlfQ D.π)} {k:Nat} {q q':SlfQ D.π}
theorem slfV_keep (h:SlfV D s qs) (hq:qs[k]?=some q) (h1:q.writes=false) (h2:q'.writes=false) (e1:s'.ver=s.ver) (e2:s'.ws=s.ws) (e3:s'.xs=s.xs):SlfV D s' (qs.set k q'):=by
 rcases h with ⟨a,b,c⟩ | ⟨a,kw,x,rest,j,p,b,c,d⟩
 ·refine .inl ⟨by rw [e1,e3];exact a,fun j hj=>by rw [e2,e3];exact b j hj,fun j q hj=>?_⟩
  rcases set_casesF hj with ⟨_,rfl⟩ | ⟨_,h⟩
  ·exact h2
  ·exact c j q h
 ·have hne:kw≠k:=fun e=>by subst e;rw [hq] at b;cases b;cases h1
  refine .inr ⟨by rw [e1,e3];exact a,kw,x,rest,j,p,?_,fun i hi=>by rw [e2];exact c i hi,fun j q hj hj2=>?_⟩
  ·rw [List.getElem?_set_ne hne.symm,e3];exact b
  ·rcases set_casesF hj with ⟨_,rfl⟩ | ⟨_,h⟩
   ·exact h2
   ·exact d j q h hj2
theorem slfT_set (h:∀ (k:Nat) q,qs[k]?=some q→SlfT D X s q) (hs:∀ q,SlfT D X s q→SlfT D X s' q) (h':SlfT D X s' q'):∀ (j:Nat) q,(qs.set k q')[j]?=some q→SlfT D X s' q:=fun j q hj=>by
 rcases set_casesF hj with ⟨_,rfl⟩ | ⟨_,h2⟩
 ·exact h'
 ·exact hs q (h j q h2)
theorem slfT_of (hx:s'.xs.length≥s.xs.length) (hv:∀ v,v%2=0→v≤2*(s.xs.length-1)→s'.ver=v→s'.ver=s.ver∧s'.xs=s.xs):SlfT D X s q→SlfT D X s' q:=by
 rintro ⟨h0,h⟩
 refine ⟨h0,?_⟩
 split
 ·trivial
 ·rename_i v e;rw [e] at h;exact h
 ·rename_i v j e;rw [e] at h;exact h
 ·rename_i v j acc e
  rw [e] at h
  obtain ⟨a,b,c,d⟩:=h
  refine ⟨a,b,by omega,fun hv'=>?_⟩
  obtain ⟨e1,e2⟩:=hv v b c hv'
  rw [e2]
  exact d (by rw [← e1];exact hv')
end
set_option maxHeartbeats 1000000 in
theorem slf_step {D:Slf} {X:Nat→Prop} {J:Nat→List Nat→D.ζ→List D.π→Prop} {m:Nat} (hm:m<1000000000)
  (hM:∀ xs z πs,J m xs z πs→J (m+1) xs z πs)
  (hW:∀ (xs:List Nat) z πs (k:Nat) p x,J m xs z πs→πs[k]?=some p→1≤xs.length→xs.length≤m+1→X x→J (m+1) (xs++[x]) (D.onW x (2*xs.length) p z).1 (πs.set k (D.onW x (2*xs.length) p z).2))
  (hR:∀ (xs:List Nat) z πs (k:Nat) p x,J m xs z πs→πs[k]?=some p→1≤xs.length→xs.length≤m+1→xs.getLast?=some x→J (m+1) xs (D.onR (D.words x) (2*(xs.length-1)) p z).1 (πs.set k (D.onR (D.words x) (2*(xs.length-1)) p z).2))
  {s:SlfS D.ζ} {qs:List (SlfQ D.π)} (I:SlfI D X J m s qs) {k:Nat} {q:SlfQ D.π} (hq:qs[k]?=some q) {mk:Int × Int} {f:SlfS D.ζ→SlfS D.ζ × SlfQ D.π} (hp:slfPlan D q=some (mk,f)) :
  SlfI D X J (m+1) (f s).1 (qs.set k (f s).2)∧sumN ((qs.set k (f s).2).map (slfφ D.n))+1≤sumN (qs.map (slfφ D.n)):=by
 obtain ⟨lo,hi,V,T,hJ⟩:=I
 have hT:=T k q hq
 have hpk:(qs.map (·.p))[k]?=some q.p:=by rw [List.getElem?_map,hq];rfl
 have hJk:∀ q':SlfQ D.π,q'.p=q.p→J (m+1) s.xs s.z ((qs.set k q').map (·.p)):=fun q' e=>by
  have:(qs.set k q').map (·.p)=qs.map (·.p):=by
   rw [List.map_set,e]
   apply List.ext_getElem?
   intro i
   rw [List.getElem?_set]
   split
   ·rename_i h;subst h
    rw [hpk]
    have:=(List.getElem?_eq_some_iff.1 hq).1
    simp [this]
   ·rfl
  rw [this];exact hM _ _ _ hJ
 have same:∀ q,SlfT D X s q→SlfT D X s q:=fun q h=>h
 obtain ⟨ops,st,p⟩:=q
 obtain ⟨hX,hst⟩:=hT
 unfold slfPlan at hp
 cases ops with
 | nil=>cases hp
 | cons o rest =>
  have hXr:∀ x,some x∈rest→X x:=fun x hx=>hX x (List.mem_cons_of_mem _ hx)
  have hlen:((o::rest:List (Option Nat)).length)*(D.n+4)=rest.length*(D.n+4)+(D.n+4):=by rw [List.length_cons,Nat.add_mul];omega
  cases o with
  | some x =>
   cases st with
   | idle =>
    simp only [Option.some.injEq,Prod.mk.injEq] at hp
    obtain ⟨_,rfl⟩:=hp
    by_cases c:s.ver%2=0
    ·simp only [if_pos c]
     refine ⟨⟨lo,by omega,slfV_keep V hq rfl rfl rfl rfl rfl,slfT_set T same ⟨hX,c⟩,hJk _ rfl⟩,sum_step (fun _=>Nat.le_refl _) hq ?_⟩
     simp only [slfφ];omega
    ·simp only [if_neg c]
     refine ⟨⟨lo,by omega,slfV_keep V hq rfl rfl rfl rfl rfl,slfT_set T same ⟨hXr,trivial⟩,hJk _ rfl⟩,sum_step (fun _=>Nat.le_refl _) hq ?_⟩
     simp only [slfφ];omega
   | cas v =>
    simp only [Option.some.injEq,Prod.mk.injEq] at hp
    obtain ⟨_,rfl⟩:=hp
    replace hst:v%2=0:=hst
    by_cases c:s.ver=v
    ·simp only [if_pos c]
     have hev:s.ver=2*(s.xs.length-1)∧∀ (k:Nat) q,qs[k]?=some q→q.writes=false:=by
      rcases V with ⟨a,_,b⟩ | ⟨a,_⟩
      ·exact ⟨a,b⟩
      ·omega
     have hmod:(v+1)%18446744073709551616=v+1:=Nat.mod_eq_of_lt (by omega)
     rw [hmod]
     refine ⟨⟨lo,by show s.xs.length≤m+1+1;omega,?_,slfT_set T (fun q=>slfT_of (Nat.le_refl _) fun u h1 h2 h3=>by simp only at h3;omega) ⟨hX,Nat.zero_le _⟩,hJk _ rfl⟩,sum_step (fun _=>Nat.le_refl _) hq ?_⟩
     ·refine .inr ⟨by show v+1=2*(s.xs.length-1)+1;omega,k,x,rest,0,p,?_,fun i hi=>by omega,fun k' q' h1 h2=>?_⟩
      ·rw [set_getF hq]
       have:v=2*(s.xs.length-1):=by omega
       rw [this]
      ·rcases set_casesF h1 with ⟨e,_⟩ | ⟨_,h⟩
       ·exact absurd e h2
       ·exact hev.2 k' q' h
     ·simp only [slfφ];omega
    ·simp only [if_neg c]
     refine ⟨⟨lo,by omega,slfV_keep V hq rfl rfl rfl rfl rfl,slfT_set T same ⟨hXr,trivial⟩,hJk _ rfl⟩,sum_step (fun _=>Nat.le_refl _) hq ?_⟩
     simp only [slfφ];omega
   | wr v j =>
    replace hst:j≤D.n:=hst
    have hodd:s.ver=2*(s.xs.length-1)+1∧v=2*(s.xs.length-1)∧(∀ i,i<j→s.ws i=D.W x i)∧∀ (k':Nat) q,qs[k']?=some q→k'≠k→q.writes=false:=by
     rcases V with ⟨_,_,b⟩ | ⟨a,kw,x',rest',j',p',b,c,d⟩
     ·have:=b k _ hq;cases this
     ·by_cases e:kw=k
      ·subst e
       rw [hq] at b
       cases b
       exact ⟨a,rfl,c,d⟩
      ·have:=d k _ hq fun h=>e h.symm
       cases this
    obtain ⟨h1,h2,h3,h4⟩:=hodd
    by_cases c:j<D.n
    ·simp only [if_pos c,Option.some.injEq,Prod.mk.injEq] at hp
     obtain ⟨_,rfl⟩:=hp
     refine ⟨⟨lo,by show s.xs.length≤m+1+1;omega,.inr ⟨h1,k,x,rest,j+1,p,?_,fun i hi=>?_,fun k' q' h5 h6=>?_⟩,slfT_set T (fun q=>slfT_of (Nat.le_refl _) fun u h5 h6 h7=>by simp only at h7;omega) ⟨hX,by show j+1≤D.n;omega⟩,hJk _ rfl⟩,sum_step (fun _=>Nat.le_refl _) hq ?_⟩
     ·rw [set_getF hq,h2]
     ·show upd s.ws j (D.W x j) i=_
      by_cases e:i=j
      ·subst e;exact upd_same
      ·rw [upd_other e];exact h3 i (by omega)
     ·rcases set_casesF h5 with ⟨e,_⟩ | ⟨_,h⟩
      ·exact absurd e h6
      ·exact h4 k' q' h h6
     ·simp only [slfφ];omega
    ·obtain rfl:j=D.n:=by omega
     simp only [if_neg c,Option.some.injEq,Prod.mk.injEq] at hp
     obtain ⟨_,rfl⟩:=hp
     have hmod:(v+2)%18446744073709551616=2*s.xs.length:=by rw [Nat.mod_eq_of_lt (by omega)];omega
     have hlast:slfLast (s.xs++[x])=x:=by simp [slfLast]
     simp only [hmod]
     refine ⟨⟨by show 1≤(s.xs++[x]).length;simp,by show (s.xs++[x]).length≤m+1+1;simp;omega,.inl ⟨by show 2*s.xs.length=2*((s.xs++[x]).length-1);simp,fun i hi=>?_,fun k' q' h5=>?_⟩,slfT_set T (fun q=>slfT_of (by show (s.xs++[x]).length≥_;simp) fun u h5 h6 h7=>by simp only at h7;omega) ⟨hXr,trivial⟩,?_⟩,sum_step (fun _=>Nat.le_refl _) hq ?_⟩
     ·show s.ws i=D.W (slfLast (s.xs++[x])) i
      rw [hlast];exact h3 i hi
     ·rcases set_casesF h5 with ⟨_,rfl⟩ | ⟨h6,h⟩
      ·rfl
      ·exact h4 k' q' h h6
     ·show J (m+1) (s.xs++[x]) _ _
      rw [List.map_set]
      exact hW s.xs s.z _ k p x hJ hpk lo hi (hX x (by simp))
     ·simp only [slfφ];omega
   | rd v j acc=>cases hp
  | none =>
   cases st with
   | idle =>
    simp only [Option.some.injEq,Prod.mk.injEq] at hp
    obtain ⟨_,rfl⟩:=hp
    by_cases c:s.ver%2=0
    ·simp only [if_pos c]
     have hle:s.ver≤2*(s.xs.length-1):=by
      rcases V with ⟨a,_⟩ | ⟨a,_⟩ <;> omega
     refine ⟨⟨lo,by omega,slfV_keep V hq rfl rfl rfl rfl rfl,slfT_set T same ⟨hX,Nat.zero_le _,c,hle,fun _=>rfl⟩,hJk _ rfl⟩,sum_step (fun _=>Nat.le_refl _) hq ?_⟩
     simp only [slfφ];omega
    ·simp only [if_neg c]
     refine ⟨⟨lo,by omega,slfV_keep V hq rfl rfl rfl rfl rfl,slfT_set T same ⟨hXr,trivial⟩,hJk _ rfl⟩,sum_step (fun _=>Nat.le_refl _) hq ?_⟩
     simp only [slfφ];omega
   | rd v j acc =>
    obtain ⟨t1,t2,t3,t4⟩:j≤D.n∧v%2=0∧v≤2*(s.xs.length-1)∧(s.ver=v→acc=(List.range j).map (D.W (slfLast s.xs))):=hst
    by_cases c:j<D.n
    ·simp only [if_pos c,Option.some.injEq,Prod.mk.injEq] at hp
     obtain ⟨_,rfl⟩:=hp
     refine ⟨⟨lo,by show s.xs.length≤m+1+1;omega,slfV_keep V hq rfl rfl rfl rfl rfl,slfT_set T same ⟨hX,by show j+1≤D.n;omega,t2,t3,fun hv=>?_⟩,hJk _ rfl⟩,sum_step (fun _=>Nat.le_refl _) hq ?_⟩
     ·replace hv:s.ver=v:=hv
      have hw:s.ws j=D.W (slfLast s.xs) j:=by
       rcases V with ⟨_,a,_⟩ | ⟨a,_⟩
       ·exact a j c
       ·omega
      rw [t4 hv,hw,List.range_succ,List.map_append];rfl
     ·simp only [slfφ];omega
    ·obtain rfl:j=D.n:=by omega
     simp only [if_neg c,Option.some.injEq,Prod.mk.injEq] at hp
     obtain ⟨_,rfl⟩:=hp
     by_cases e:s.ver=v
     ·simp only [if_pos e]
      have hev:s.ver=2*(s.xs.length-1):=by
       rcases V with ⟨a,_⟩ | ⟨a,_⟩ <;> omega
      obtain ⟨x,hx⟩:∃ x,s.xs.getLast?=some x:=by
       cases h:s.xs.getLast? with
       | none=>rw [List.getLast?_eq_none_iff] at h;rw [h] at lo;simp at lo
       | some x=>exact ⟨x,rfl⟩
      have hacc:acc=D.words x:=by rw [t4 e];unfold slfLast Slf.words;rw [hx];rfl
      have hv2:v=2*(s.xs.length-1):=by omega
      refine ⟨⟨lo,by show s.xs.length≤m+1+1;omega,slfV_keep V hq rfl rfl rfl rfl rfl,slfT_set T (fun q h=>h) ⟨fun x hx=>hXr x (D.sub rest _ hx),trivial⟩,?_⟩,sum_step (fun _=>Nat.le_refl _) hq ?_⟩
      ·show J (m+1) s.xs _ _
       rw [List.map_set,hacc,hv2]
       exact hR s.xs s.z _ k p x hJ hpk lo hi hx
      ·have:=Nat.mul_le_mul_right (D.n+4) (D.len rest)
       simp only [slfφ];omega
     ·simp only [if_neg e]
      refine ⟨⟨lo,by omega,slfV_keep V hq rfl rfl rfl rfl rfl,slfT_set T same ⟨hXr,trivial⟩,hJk _ rfl⟩,sum_step (fun _=>Nat.le_refl _) hq ?_⟩
      simp only [slfφ];omega
   | cas v=>cases hp
   | wr v j=>cases hp
end
end Go.Proofs.Ytodgemainhokjaa
namespace Go.PB.Mach
section
structure In where
 op:Nat
 on:Nat:=0
 a:Nat:=0
 b:Nat:=0
 c:Nat:=0
 d:Nat:=0
 n:Nat:=0
structure Cl where
 code:List In
 data:List Nat:=[]
structure Wd where
 words:List (List Nat)
 nl:Nat
structure Th where
 calls:List Cl
 call:Nat:=0
 pc:Nat:=0
 r:Nat→Nat:=fun _=>0
 ans:List (Bool × List Nat):=[]
 over:Bool:=false
def fin:In:={ op:=23 }
def Th.cl (t:Th):Cl:=t.calls.getD t.call { code:=[] }
def Th.next (t:Th):In:=t.cl.code.getD t.pc fin
def Th.put (t:Th) (i v:Nat):Th:={ t with r:=upd t.r i (v%18446744073709551616) }
def Th.tell (t:Th) (v:Nat):Th:={ t with ans:=t.ans.modify t.call fun y=>(y.1,y.2++[v]) }
structure Wd.ok (w:Wd):Prop where
 n:w.words.length<1000000
 nl:w.nl<1000000
 len:∀ l∈w.words,l.length<1000000
 lt:∀ l∈w.words,∀ v∈l,v<18446744073709551616
def own (t0:Th) (x:In):Th :=
 let t:={ t0 with pc:=t0.pc+1 }
 match x.op with
 | 6=>t.put x.a x.n
 | 7=>t.put x.a (t.r x.b)
 | 8=>t.put x.a (t.r x.b+t.r x.c+x.n)
 | 9=>t.put x.a (t.r x.b+18446744073709551616-t.r x.c)
 | 10=>t.put x.a (t.r x.b*t.r x.c)
 | 11=>t.put x.a (if t.r x.c=0 then 0 else t.r x.b/t.r x.c)
 | 12=>t.put x.a (t.r x.b &&& t.r x.c)
 | 13=>t.put x.a (t.r x.b ||| t.r x.c)
 | 14=>t.put x.a (t.r x.b*2^x.n)
 | 15=>t.put x.a (t.r x.b/2^x.n)
 | 16=>t.put x.a (max (t.r x.b) (t.r x.c))
 | 17=>t.put x.a (t.cl.data.getD ((t.r x.b+x.n)%18446744073709551616) 0)
 | 18=>{ t with pc:=x.n }
 | 19=>if t.r x.a=t.r x.b then { t with pc:=x.n } else t
 | 20=>if t.r x.a<t.r x.b then { t with pc:=x.n } else t
 | 21=>if 9223372036854775808≤t.r x.a then { t with pc:=x.n } else t
 | 22=>t.tell (t.r x.a)
 | _=>t
def told (op:Nat):Bool:=1≤op&&op≤5
def Th.begun (t:Th):Th:=if t.ans.length=t.call then { t with ans:=t.ans++[(false,[])] } else t
def Th.done (t:Th):Th:={ t with ans:=t.ans.modify t.call fun y=>(true,y.2),call:=t.call+1,pc:=0,r:=fun _=>0 }
def onF:Nat→Th→Option Th
 | 0,_=>none
 | f+1,t =>
  if t.over=true then some t
  else if t.calls.length≤t.call then some { t with over:=true }
  else if told t.begun.next.op=true then some t.begun
  else if t.begun.next.op=23 then onF f t.begun.done
  else onF f (own t.begun t.begun.next)
def Th.place (t:Th):Nat:=(t.r t.next.b+t.next.n)%18446744073709551616
def op1 (x:In) (l:List Nat) (p:Nat) (r:Nat→Nat):List Nat × (Nat→Nat) :=
 let v:=l.getD p 0
 match x.op with
 | 1=>(l,upd r x.a v)
 | 2=>(l.set p (r x.a),r)
 | 3=>(l.set p ((v+r x.c)%18446744073709551616),upd r x.a ((v+r x.c)%18446744073709551616))
 | 4=>(l.set p (r x.c),upd r x.a v)
 | _=>if v=r x.c then (l.set p (r x.d),upd r x.a 1) else (l,upd r x.a 0)
def Wd.row (w:Wd) (on:Nat):List Nat:=w.words.getD on []
def opF (f:Nat) (w:Wd) (t:Th):Option (Wd × Th) :=
 if t.place<(w.row t.next.on).length then
  let y:=op1 t.next (w.row t.next.on) t.place t.r
  (onF f { t with pc:=t.pc+1,r:=y.2 }).map fun t'=>({ w with words:=w.words.set t.next.on y.1 },t')
 else none
def Th.mark (t:Th):Nat × Nat:=(t.next.op,t.place)
structure St where
 w:Wd
 l:List Th
 tr:List (Nat × Nat × Nat):=[]
def turn (f:Nat) (s:St) (k:Nat):Option St :=
 match s.l[k]? with
 | some t=>(opF f s.w t).map fun y=>⟨y.1,s.l.set k y.2,s.tr++[(k,t.mark)]⟩
 | none=>some s
def may (s:St) (k:Nat):Bool:=s.tr.length<16384&&(match s.l[k]? with | some t=>!t.over | none=>false)
def byOrder (f:Nat):St→List (Option Nat)→Option St
 | s,[]=>some s
 | s,none::o=>byOrder f s o
 | s,some k::o=>if may s k=true then (turn f s k).bind fun s=>byOrder f s o else byOrder f s o
def round (f:Nat):Nat→Nat→St→Bool→Option (St × Bool)
 | 0,_,s,q=>some (s,q)
 | m+1,k,s,q=>if may s k=true then (turn f s k).bind fun s=>round f m (k+1) s true else round f m (k+1) s q
def rounds (f:Nat):Nat→St→Option St
 | 0,_=>none
 | g+1,s=>(round f s.l.length 0 s false).bind fun y=>if y.2=true then rounds f g y.1 else some y.1
def begin_ (f:Nat):List Th→Option (List Th)
 | []=>some []
 | t::l=>(onF f t).bind fun t=>(begin_ f l).map fun l=>t::l
def play (f g:Nat) (w:Wd) (o:List (Option Nat)) (l:List (List Cl)):Option St :=
 (begin_ f (l.map fun c=>{ calls:=c })).bind fun l=>(byOrder f ⟨w,l,[]⟩ o).bind fun s=>rounds f g s
def In.ok (x:In):Bool:=1≤x.op&&x.op≤23&&x.a<24&&x.b<24&&x.c<24&&x.d<24&&x.on<1000&&x.n<18446744073709551616&&(!(18≤x.op&&x.op≤21)||x.n<1000000)&&(!(x.op=17)||!(x.a=x.b))&&(!(x.op=14||x.op=15)||x.n<64)
def Cl.ok (c:Cl):Bool:=c.code.all In.ok&&c.data.all (fun v=>v<18446744073709551616)&&c.code.length<1000000&&c.data.length<1000000
end
end Go.PB.Mach
namespace Go.Proofs.Ytodgemainhokjaa
open Go Go.PB
section
structure Wds where
 W:(Nat→Nat)→Mach.Wd
 un:Mach.Wd→(Nat→Nat)
 ok:(Nat→Nat)→Prop
 fu:Nat
 back:∀ f,W (un (W f))=W f
 okun:∀ f,ok f→ok (un (W f))
def mF (D:Wds) (q:Nat × Mach.Th) (f:Nat→Nat):(Nat→Nat) × (Nat × Mach.Th) :=
 match Mach.opF D.fu (D.W f) q.2 with
 | some y=>(D.un y.1,(q.1,y.2))
 | none=>(f,(q.1,{ q.2 with over:=true }))
def mkII (m:Nat × Nat):Int × Int:=(((m.1:Nat):Int),((m.2:Nat):Int))
def mPlan (D:Wds) (q:Nat × Mach.Th):Option ((Int × Int) × ((Nat→Nat)→(Nat→Nat) × (Nat × Mach.Th))) :=
 if q.2.over=true then none else some (mkII q.2.mark,mF D q)
def mG (D:Wds) (U:(Nat→Nat)→HProp) (Pv:Nat × Mach.Th→HProp):Game where
 σ:=Nat→Nat
 θ:=Nat × Mach.Th
 U:=U
 plan:=mPlan D
 ok:=D.ok
 Pv:=Pv
 Fin:=Pv
def GoodN (D:Wds):Nat→Mach.Th→Prop
 | 0,_=>True
 | n+1,t=>t.over=true∨t.over=false∧∀ f,D.ok f→∃ f' t',Mach.opF D.fu (D.W f) t=some (D.W f',t')∧D.ok f'∧GoodN D n t'
def GoodT (D:Wds) (t:Mach.Th):Prop:=∀ n,GoodN D n t
section
variable {D:Wds} {U:(Nat→Nat)→HProp} {Pv:Nat × Mach.Th→HProp}
structure Rel (p:PS (mG D U Pv)) (st:Mach.St):Prop where
 w:st.w=D.W p.s
 len:p.qs.length=st.l.length
 qs:∀ k:Nat,p.qs[k]?=(st.l[k]?).map fun t=>(k,t)
 tr:p.tr=st.tr.map fun e=>(e.1,mkII e.2)
 le:st.tr.length≤16384
 good:∀ t∈st.l,GoodT D t
 ok:D.ok p.s
structure Begins (D:Wds) (U:(Nat→Nat)→HProp) (Pv:Nat × Mach.Th→HProp) (k0:Nat) (ts:List (Thr (mG D U Pv))) (cc:List (List Mach.Cl)):Prop where
 len:ts.length=cc.length
 ini:∀ (k:Nat) t c,ts[k]?=some t→cc[k]?=some c→∃ u,Mach.onF D.fu { calls:=c }=some u∧GoodT D u∧∀ s:(mG D U Pv).σ,t.ini s=(s,((k0+k,u):Nat × Mach.Th))
end
end
end Go.Proofs.Ytodgemainhokjaa
namespace Go.Proofs.Ytodgemainhokjaa
open Go Go.PB
attribute [local irreducible] Mo Bin Eql Tr Wo Ap Wle
section
structure PlS where
 f:Nat→Nat
 g:Nat→Nat
 t:Mach.Th
 n:Nat
section
variable {D:Wds} {addr:Nat→Nat × Nat} {N:Nat} {K:List (Nat × Nat × Value)} {Z:HProp} {Pv:Nat × Mach.Th→HProp} {sb says turn fin wg:Nat}
end
end
section
structure GaS (G:WGm) where
 f:Nat→Nat
 c:G.ζ
 s:G.σ
 q:G.θ
 n:Nat
section
variable {G:WGm} {addr:Nat→Nat × Nat} {N:Nat} {K:List (Nat × Nat × Value)} {sb says turn fin wg:Nat}
def gaC (G:WGm) (addr:Nat→Nat × Nat) (N:Nat) (K:List (Nat × Nat × Value)) (sb says turn fin:Nat) (Pm:HProp) (f:Nat→Nat) (c:G.ζ):HProp:=all [wds addr N K f,G.Z c,seatR sb says turn fin,Pm]
def GaStep (G:WGm) (N:Nat) (Pm:HProp) (op:Int) (w:Nat) (s:GaS G) (R:GaS G→Prop):Prop :=
 ∃ F,G.plan s.q=some ((op,((w:Nat):Int)),F)∧(∀ i,i<N→s.f i=G.wf s.s i)∧s.c=G.zf s.s∧(∀ h,Pm h→G.Pv s.q h)∧∀ s' n,n<s.n→G.ok s'→R ⟨G.wf s',G.zf s',(F s').1,(F s').2,n⟩
theorem ga_step {Pm:HProp} {op:Int} {w:Nat} {s:GaS G} {R:GaS G→Prop} {L F:List HProp} (hs:GaStep G N Pm op w s R) (hh:Has L (gaC G addr N K sb says turn fin Pm s.f s.c) F) :
  Tr Try.prog tH 111 [.pointer (some ⟨sb,0,none⟩),.agg #[.int .u8 op,.int .i64 (w:Nat)]] L (tx (G.g addr N K) says turn fin wg (.busy s.s s.q s.n)) fun v L' x' =>
   ∃ s',R s'∧v=.tuple #[]∧L'=gaC G addr N K sb says turn fin Pm s'.f s'.c::F∧x'=tx (G.g addr N K) says turn fin wg (.busy s'.s s'.q s'.n):=by
 obtain ⟨FF,hp,hfg,hc,hpm,hR⟩:=hs
 refine tr_star ((G.g addr N K).U s.s::seatR sb says turn fin::Pm::F) (fun h st=>?_) ?_
 ·have s1:Star (wds addr N K s.f::G.Z s.c::seatR sb says turn fin::Pm::F) h:=star_open (M:=[_,_,_,_]) (hh.star st)
  rw [hc] at s1
  exact star_shut (M:=[_,_]) (star_map s1 (wds_congr hfg) fun _ z=>z)
 ·refine (seat_tr (g:=G.g addr N K) (mk:=(op,((w:Nat):Int))) (f:=FF) hp .here .here fun h st=>G.up _ _ ?_).post ?_
  ·exact star_map (star_drop st) hpm fun _ z=>trivial
  ·rintro v L' x' ⟨m',s',hm,hok,rfl,rfl,rfl⟩
   refine ⟨_,⟨⟨G.wf s',G.zf s',(FF s').1,(FF s').2,m'⟩,hR s' m' (by omega) hok,rfl,rfl,rfl⟩,fun h st=>?_⟩
   exact star_shut (M:=[_,_,_,_]) (star_open (M:=[_,_]) st)
def gamAcc (G:WGm) (addr:Nat→Nat × Nat) (N:Nat) (K:List (Nat × Nat × Value)) (A:Apart addr N K) (sb says turn fin wg:Nat) (Pm:HProp):Acc tH (gateV sb) where
 S:=GaS G
 C:=fun s=>gaC G addr N K sb says turn fin Pm s.f s.c
 x:=fun s=>tx (G.g addr N K) says turn fin wg (.busy s.s s.q s.n)
 step:=GaStep G N Pm
 addr:=addr
 load:=fun w s R=>w<N∧R (s.f w) s
 store:=fun w n s R=>w<N∧R { s with f:=upd s.f w n }
 cas:=fun w a n s R=>w<N∧if s.f w=a then R true { s with f:=upd s.f w n } else R false s
 add:=fun w n s R=>w<N∧R ((s.f w+n)%18446744073709551616) { s with f:=upd s.f w ((s.f w+n)%18446744073709551616) }
 swap:=fun w n s R=>w<N∧R (s.f w) { s with f:=upd s.f w n }
 gate:=.inr ⟨_,_,111,rfl,inferInstance,inferInstance,fun op w s R L F hs hh=>ga_step hs hh⟩
 load_ok:=fun w s R L F b o ha hl hh=>tr_star _ (fun h st=>star_open (hh.star st)) (tr_pure (of_has .here fun h hc=>(hc.1 w hl.1).1) fun hs =>
  (load_lone (rd_wds .here hl.1 ha)).post fun v L' x' ⟨h1,h2,h3⟩=>⟨_,⟨s.f w,s,hs,hl.2,h1,rfl,h3⟩,fun h st=>star_shut (M:=[_,_,_,_]) (by rw [h2] at st;exact st)⟩)
 store_ok:=fun w n s R L F b o ha hn hl hh=>tr_star _ (fun h st=>star_open (hh.star st))
  ((store_lone (wt_wds A .here hl.1 ha hn)).post fun v L' x' ⟨h1,h2,h3⟩=>⟨_,⟨{ s with f:=upd s.f w n },hl.2,h1,rfl,h3⟩,fun h st=>star_shut (M:=[_,_,_,_]) (by rw [h2] at st;exact st)⟩)
 cas_ok:=fun w m n s R L F b o ha hn hl hh=>tr_star _ (fun h st=>star_open (hh.star st))
  ((cas_lone (rd_wds .here hl.1 ha) (wt_wds A .here hl.1 ha hn)).post fun v L' x' ⟨h1,h2,h3⟩=>by
   obtain ⟨h4,h5⟩:=hl
   by_cases e:s.f w=m
   ·rw [if_pos e] at h5;rw [if_pos (by omega)] at h2;exact ⟨_,⟨true,_,h5,by rw [h1];simp [e],rfl,h3⟩,fun h st=>star_shut (M:=[_,_,_,_]) (by rw [h2] at st;exact st)⟩
   ·rw [if_neg e] at h5;rw [if_neg (by omega)] at h2;exact ⟨_,⟨false,_,h5,by rw [h1];simp;omega,rfl,h3⟩,fun h st=>star_shut (M:=[_,_,_,_]) (by rw [h2] at st;exact st)⟩)
 add_ok:=fun w n s R L F b o ha hn hl hh=>tr_star _ (fun h st=>star_open (hh.star st))
  ((add_lone (r:=((s.f w+n)%18446744073709551616:Nat)) (rd_wds .here hl.1 ha) (by rw [wrap_u64_mod];omega) (wt_wds A .here hl.1 ha (Nat.mod_lt _ (by decide)))).post fun v L' x' ⟨h1,h2,h3⟩=>⟨_,⟨_,{ s with f:=_ },Nat.mod_lt _ (by decide),hl.2,h1,rfl,h3⟩,fun h st=>star_shut (M:=[_,_,_,_]) (by rw [h2] at st;exact st)⟩)
theorem ga_go {A:Apart addr N K} {Pm:HProp} {op w:Nat} {o:Int} {s:GaS G} {R:GaS G→Prop} {F:G.σ→G.σ × G.θ} (ho:((op:Nat):Int)=o) (hp:G.plan s.q=some ((((op:Nat):Int),((w:Nat):Int)),F)) (hf:∀ i,i<N→s.f i=G.wf s.s i) (hc:s.c=G.zf s.s) (hpm:∀ h,Pm h→G.Pv s.q h)
  (hR:∀ s' n,n<s.n→G.ok s'→R ⟨G.wf s',G.zf s',(F s').1,(F s').2,n⟩):(gamAcc G addr N K A sb says turn fin wg Pm).step o w s R:=by
 subst ho
 exact ⟨F,hp,hf,hc,hpm,hR⟩
end
section
variable {g:Game}
end
end
section
structure Slk where
 n:Nat
 W:Nat→Nat→Nat
 ζ:Type
 π:Type
 onW:Nat→Nat→π→ζ→ζ × π
 onR:List Nat→Nat→π→ζ→ζ × π
inductive SlkSt where
 | idle
 | cas (v:Nat)
 | wr (v j:Nat)
 | rd (v j:Nat) (acc:List Nat)
structure SlkS (ζ:Type) where
 ver:Nat
 ws:Nat→Nat
 xs:List Nat
 z:ζ
structure SlkQ (π:Type) where
 ops:List (Option Nat)
 st:SlkSt
 p:π
def Slk.words (D:Slk) (x:Nat):List Nat:=(List.range D.n).map (D.W x)
def slkPlan (D:Slk) (q:SlkQ D.π):Option ((Int × Int) × (SlkS D.ζ→SlkS D.ζ × SlkQ D.π)) :=
 match q.ops,q.st with
 | [],_=>none
 | some x::rest,.idle=>some ((((1:Nat):Int),((0:Nat):Int)),fun s=>if s.ver%2=0 then (s,⟨some x::rest,.cas s.ver,q.p⟩) else (s,⟨rest,.idle,q.p⟩))
 | some x::rest,.cas v=>some ((((5:Nat):Int),((0:Nat):Int)),fun s=>if s.ver=v then ({ s with ver:=(v+1)%18446744073709551616 },⟨some x::rest,.wr v 0,q.p⟩) else (s,⟨rest,.idle,q.p⟩))
 | some x::rest,.wr v j=>if j<D.n then some ((((2:Nat):Int),((1+j:Nat):Int)),fun s=>({ s with ws:=upd s.ws j (D.W x j) },⟨some x::rest,.wr v (j+1),q.p⟩))
   else some ((((2:Nat):Int),((0:Nat):Int)),fun s=>({ s with ver:=(v+2)%18446744073709551616,xs:=s.xs++[x],z:=(D.onW x ((v+2)%18446744073709551616) q.p s.z).1 },⟨rest,.idle,(D.onW x ((v+2)%18446744073709551616) q.p s.z).2⟩))
 | some _::_,.rd _ _ _=>none
 | none::rest,.idle=>some ((((1:Nat):Int),((0:Nat):Int)),fun s=>if s.ver%2=0 then (s,⟨none::rest,.rd s.ver 0 [],q.p⟩) else (s,⟨rest,.idle,q.p⟩))
 | none::rest,.rd v j acc=>if j<D.n then some ((((1:Nat):Int),((1+j:Nat):Int)),fun s=>(s,⟨none::rest,.rd v (j+1) (acc++[s.ws j]),q.p⟩))
   else some ((((1:Nat):Int),((0:Nat):Int)),fun s=>if s.ver=v then ({ s with z:=(D.onR acc v q.p s.z).1 },⟨rest,.idle,(D.onR acc v q.p s.z).2⟩) else (s,⟨rest,.idle,q.p⟩))
 | none::_,_=>none
def slkW (D:Slk) (s:SlkS D.ζ) (i:Nat):Nat:=if i=0 then s.ver else s.ws (i-1)
def slkG (D:Slk) (Z:D.ζ→HProp) (ok:SlkS D.ζ→Prop):WGm where
 σ:=SlkS D.ζ
 θ:=SlkQ D.π
 ζ:=D.ζ
 wf:=slkW D
 zf:=fun s=>s.z
 Z:=Z
 plan:=slkPlan D
 ok:=ok
 Pv:=fun _ _=>True
 up:=fun _ _ _=>trivial
section
variable {D:Slk} {Z:D.ζ→HProp} {ok:SlkS D.ζ→Prop} {r sb says turn fin wg:Nat} {Pm:HProp}
structure SlkAt (D:Slk) (Z:D.ζ→HProp) (ok:SlkS D.ζ→Prop) (q:SlkQ D.π) (s:GaS (slkG D Z ok)):Prop where
 q:s.q=q
 f:∀ j,j<D.n+1→s.f j=slkW D s.s j
 c:s.c=(show SlkS D.ζ from s.s).z
end
end
end Go.Proofs.Ytodgemainhokjaa
namespace Go.Proofs.Ytodgemainhokjaa
open Go Go.PB
section
def SlkQ.writes {π:Type} (q:SlkQ π):Bool:=match q.st with | .wr _ _=>true | _=>false
def slkLast (xs:List Nat):Nat:=xs.getLast?.getD 0
def SlkT (D:Slk) (X:Nat→Prop) (s:SlkS D.ζ) (q:SlkQ D.π):Prop :=
 (∀ x,some x∈q.ops→X x)∧match q.st with
 | .idle=>True
 | .cas v=>v%2=0
 | .wr v j=>j≤D.n
 | .rd v j acc=>j≤D.n∧v%2=0∧v≤2*(s.xs.length-1)∧(s.ver=v→acc=(List.range j).map (D.W (slkLast s.xs)))
def SlkV (D:Slk) (s:SlkS D.ζ) (qs:List (SlkQ D.π)):Prop :=
 (s.ver=2*(s.xs.length-1)∧(∀ j,j<D.n→s.ws j=D.W (slkLast s.xs) j)∧∀ (k:Nat) q,qs[k]?=some q→q.writes=false) ∨
 (s.ver=2*(s.xs.length-1)+1∧∃ (k:Nat) (x:Nat) (rest:List (Option Nat)) (j:Nat) (p:D.π),qs[k]?=some ⟨some x::rest,.wr (2*(s.xs.length-1)) j,p⟩∧(∀ i,i<j→s.ws i=D.W x i)∧∀ (k':Nat) q,qs[k']?=some q→k'≠k→q.writes=false)
structure SlkI (D:Slk) (X:Nat→Prop) (J:Nat→List Nat→D.ζ→List D.π→Prop) (m:Nat) (s:SlkS D.ζ) (qs:List (SlkQ D.π)):Prop where
 lo:1≤s.xs.length
 hi:s.xs.length≤m+1
 V:SlkV D s qs
 T:∀ (k:Nat) q,qs[k]?=some q→SlkT D X s q
 J:J m s.xs s.z (qs.map (·.p))
section
variable {D:Slk} {X:Nat→Prop} {s s':SlkS D.ζ} {qs:List (SlkQ D.π)} {k:Nat} {q q':SlkQ D.π}
end
end
end Go.Proofs.Ytodgemainhokjaa
namespace Go.PB
open Go.Conc
section
def mIdx:List (Int × Value)→Int→Nat→Option (Nat × Value)
 | [],_,_=>none
 | e::l,k,i=>if k=e.1 then some (i,e.2) else mIdx l k (i+1)
def mGet:List (Int × Value)→Int→Option Value
 | [],_=>none
 | e::l,k=>if k=e.1 then some e.2 else mGet l k
def mPut:List (Int × Value)→Int→Value→List (Int × Value)
 | [],k,v=>[(k,v)]
 | e::l,k,v=>if k=e.1 then (k,v)::l else e::mPut l k v
def mDel:List (Int × Value)→Int→List (Int × Value)
 | [],_=>[]
 | e::l,k=>if k=e.1 then l else e::mDel l k
theorem mIdx_get:∀ (l:List (Int × Value)) (k:Int) (i:Nat),(mIdx l k i).map (·.2)=mGet l k
 | [],_,_=>rfl
 | e::l,k,i=>by
  unfold mIdx mGet
  split
  ·rfl
  ·exact mIdx_get l k (i+1)
structure EsOk (ki:IntKind) (es:List MapEntry) (clock:Nat) (l:List (Int × Value)):Prop where
 eq:es.map (fun e=>(e.key,e.val))=l.map fun y=>(Value.int ki y.1,y.2)
 lt:∀ e∈es,e.born<clock
 nd:(es.map (·.born)).Nodup
section
variable {ki:IntKind} {es:List MapEntry} {clock:Nat} {l:List (Int × Value)}
theorem EsOk.nil:EsOk ki [] clock []:=⟨rfl,fun e h=>by simp at h,by simp⟩
theorem EsOk.len (h:EsOk ki es clock l):es.length=l.length:=by have:=congrArg List.length h.eq;simpa using this
theorem EsOk.get (h:EsOk ki es clock l) {i:Nat} {y:Int × Value} (hy:l[i]?=some y):∃ e,es[i]?=some e∧e.key=.int ki y.1∧e.val=y.2:=by
 have:=congrArg (fun x=>x[i]?) h.eq
 simp only [List.getElem?_map,hy,Option.map_some] at this
 obtain ⟨e,h1,h2⟩:=Option.map_eq_some_iff.1 this
 simp only [Prod.mk.injEq] at h2
 exact ⟨e,h1,h2.1,h2.2⟩
theorem findNow_eq {kk:IntKind} {k:Int}:∀ {es:List MapEntry} {l:List (Int × Value)} (i:Nat),es.map (fun e=>(e.key,e.val))=l.map (fun y=>(Value.int ki y.1,y.2))→Instr.findNow (.int kk) (.int ki k) es i=some (mIdx l k i)
 | [],[],_,_=>rfl
 | [],_::_,_,h=>by simp at h
 | _::_,[],_,h=>by simp at h
 | e::es,y::l,i,h=>by
  simp only [List.map_cons,List.cons.injEq,Prod.mk.injEq] at h
  obtain ⟨⟨h1,h2⟩,h3⟩:=h
  unfold Instr.findNow mIdx
  rw [h1]
  by_cases hk:k=y.1
  ·rw [if_pos hk]
   have:Instr.sameNow (.int kk) (.int ki k) (.int ki y.1)=some true:=by simp [Instr.sameNow,hk]
   rw [this,h2]
  ·rw [if_neg hk]
   have:Instr.sameNow (.int kk) (.int ki k) (.int ki y.1)=some false:=by simp [Instr.sameNow,hk]
   rw [this]
   exact findNow_eq (i+1) h3
theorem mIdx_none:∀ {l:List (Int × Value)} {k:Int} {i:Nat},mIdx l k i=none→∀ v,mPut l k v=l++[(k,v)]
 | [],_,_,_,_=>rfl
 | e::l,k,i,h,v=>by
  unfold mIdx at h
  split at h
  ·cases h
  ·rename_i hk
   unfold mPut
   rw [if_neg hk,mIdx_none h v];rfl
theorem mIdx_some:∀ {l:List (Int × Value)} {k:Int} {i j:Nat} {u:Value},mIdx l k i=some (j,u)→∃ q,j=i+q∧q<l.length∧l[q]?=some (k,u)∧(∀ v,mPut l k v=l.set q (k,v))∧mDel l k=l.eraseIdx q
 | [],_,_,_,_,h=>by cases h
 | e::l,k,i,j,u,h=>by
  unfold mIdx at h
  split at h
  ·rename_i hk
   cases h
   exact ⟨0,rfl,Nat.succ_pos _,by rw [hk];rfl,fun v=>by unfold mPut;rw [if_pos hk];rfl,by unfold mDel;rw [if_pos hk];rfl⟩
  ·rename_i hk
   obtain ⟨q,h1,h2,h3,h4,h5⟩:=mIdx_some h
   exact ⟨q+1,by omega,by simp;omega,by simpa using h3,fun v=>by unfold mPut;rw [if_neg hk,h4];rfl,by unfold mDel;rw [if_neg hk,h5];rfl⟩
theorem EsOk.push {k:Int} {v:Value} (h:EsOk ki es clock l):EsOk ki (es++[⟨.int ki k,v,clock⟩]) (clock+1) (l++[(k,v)]):=⟨by
  simp [h.eq],fun e he=>by
  rcases List.mem_append.1 he with he | he
  ·exact Nat.lt_succ_of_lt (h.lt e he)
  ·cases List.mem_singleton.1 he;exact Nat.lt_succ_self _,by
  rw [List.map_append,List.nodup_append]
  refine ⟨h.nd,by simp,fun a ha b hb=>?_⟩
  obtain ⟨e,he,rfl⟩:=List.mem_map.1 ha
  simp only [List.map_cons,List.map_nil,List.mem_singleton] at hb
  have:=h.lt e he
  omega⟩
theorem EsOk.set {k:Int} {v:Value} {q:Nat} {e:MapEntry} (h:EsOk ki es clock l) (he:es[q]?=some e):EsOk ki (es.set q { e with key:=.int ki k,val:=v }) clock (l.set q (k,v)) where
 eq:=by rw [List.map_set,List.map_set,h.eq]
 lt:=fun e' he'=>by
  rcases List.mem_or_eq_of_mem_set he' with h1 | rfl
  ·exact h.lt _ h1
  ·exact h.lt e (List.mem_of_getElem? he)
 nd:=by
  rw [List.map_set]
  have:(es.map (·.born)).set q e.born=es.map (·.born):=by
   apply List.ext_getElem?
   intro i
   rw [List.getElem?_set]
   split
   ·rename_i hi;subst hi
    rw [List.getElem?_map,he]
    have:=(List.getElem?_eq_some_iff.1 he).1
    simp [this]
   ·rfl
  rw [this];exact h.nd
end
theorem modify_set {α:Type} (f:α→α):∀ {l:List α} {i:Nat} {a:α},l[i]?=some a→l.modify i f=l.set i (f a)
 | [],_,_,h=>by simp at h
 | b::l,0,a,h=>by simp at h;subst h;rfl
 | b::l,i+1,a,h=>by
  simp only [List.getElem?_cons_succ] at h
  simp [modify_set f h]
def mapC (ki:IntKind) (b:Nat) (l:List (Int × Value)):HProp:=fun h=>∃ es clock,EsOk ki es clock l∧h.obj b=some (.map es.toArray clock)
section
variable {P:Program} {e:Env} {ty:TypeId} {L F:List HProp} {ki:IntKind} {b:Nat} {l:List (Int × Value)}
theorem mapC_new {h:Hp} (f:h.fresh b) (s:Star L h):Star (mapC ki b []::L) (h.setObj b (.map #[] 0)) :=
 star_map (star_newObj f s) (fun h ho=>⟨[],0,.nil,ho⟩) fun _ z=>z
theorem mapC_obj {h:Hp} (s:Star (mapC ki b l::L) h):∃ es clock,EsOk ki es clock l∧Star (ob b (.map es.toArray clock)::L) h:=by
 obtain ⟨h1,h2,s1,⟨es,clock,he,ho⟩,hL⟩:=s
 exact ⟨es,clock,he,h1,h2,s1,ho,hL⟩
theorem mapC_of {h:Hp} {es:List MapEntry} {clock:Nat} (he:EsOk ki es clock l) (s:Star (ob b (.map es.toArray clock)::L) h):Star (mapC ki b l::L) h :=
 star_map s (fun h ho=>⟨es,clock,he,ho⟩) fun _ z=>z
theorem wpS_checkKey {M:Mark→Prop} {empty:Bool} {n key:Nat} {kk:IntKind} {k:Int} {h:Hp} {Q:Unit→Hp→Prop} {X:Value→Hp→Prop} (hk:P.underlying key=some (.int kk)) (q:Q () h):wpS P M (Instr.checkKey empty (n+1) key (.int ki k)) h Q X:=by
 unfold Instr.checkKey
 exact wpS_underlying hk q
theorem wpS_findKey {M:Mark→Prop} {key:Nat} {kk:IntKind} {k:Int} {es:List MapEntry} {clock:Nat} {h:Hp} {Q:Option (Nat × Value)→Hp→Prop} {X:Value→Hp→Prop} (hk:P.underlying key=some (.int kk)) (he:EsOk ki es clock l) (q:Q (mIdx l k 0) h):wpS P M (Instr.findKey key (.int ki k) es) h Q X:=by
 unfold Instr.findKey
 refine wpS_underlying hk ?_
 rw [findNow_eq 0 he.eq]
 exact q
theorem mo_makeMap {t:TypeId} (ki:IntKind):Mo P e (.makeMap t none) ty L fun v' L'=>∃ b,v'=.map (some b)∧L'=mapC ki b []::L:=by
 intro M _ _ tt h Q X ag s q
 show wpS P M (Sem.bind (Instr.makeMap t none) fun v=>pure (.value v)) h Q X
 intro b hf
 exact q _ _ _ _ (.inl rfl) ⟨b,rfl,rfl⟩ (mapC_new hf s)
theorem wpS_mapUpdate {M:Mark→Prop} {t key el:Nat} {kk:IntKind} {k:Int} {v:Value} {h:Hp} {Q:Unit→Hp→Prop} {X:Value→Hp→Prop} (ht:P.underlying t=some (.map key el)) (hk:P.underlying key=some (.int kk)) (s:Star (mapC ki b l::L) h)
  (q:∀ h',Star (mapC ki b (mPut l k v)::L) h'→Q () h'):wpS P M (Instr.mapUpdate t (.map (some b)) (.int ki k) v) h Q X:=by
 obtain ⟨es,clock,he,s'⟩:=mapC_obj s
 unfold Instr.mapUpdate
 refine wpS_underlying ht ?_
 refine ⟨_,(star_setObj (o':=.map #[] 0) s').1,?_⟩
 refine wpS_bind _ _ ?_
 change wpS P M (Sem.bind (Instr.checkKey _ 10000 _ _) _) _ _ _
 refine wpS_bind _ _ (wpS_checkKey (n:=9999) hk ?_)
 refine wpS_bind _ _ (wpS_findKey hk (l:=l) (by simpa using he) ?_)
 cases hm:mIdx l k 0 with
 | none =>
  obtain ⟨h1,h2⟩:=star_setObj (o':=.map (es++[({ key:=.int ki k,val:=v,born:=clock }:MapEntry)]).toArray (clock+1)) s'
  refine ⟨by rw [h1];rfl,rfl,?_⟩
  rw [show es.toArray.push ({ key:=.int ki k,val:=v,born:=clock }:MapEntry)=(es++[({ key:=.int ki k,val:=v,born:=clock }:MapEntry)]).toArray by simp]
  refine q _ (mapC_of ?_ h2)
  rw [mIdx_none hm v]
  exact he.push
 | some y =>
  obtain ⟨j,u⟩:=y
  obtain ⟨i,h1,h2,h3,h4,_⟩:=mIdx_some hm
  obtain rfl:j=i:=by omega
  obtain ⟨en,h5,h6,h7⟩:=he.get h3
  have hb:Instr.sameBits 10000 (((es.toArray[j]?).map (·.key)).getD (.int ki k)) (.int ki k)=true:=by
   rw [List.getElem?_toArray,h5,Option.map_some,Option.getD_some,h6]
   show Instr.sameBits (9999+1) _ _=true
   simp [Instr.sameBits]
  show wpS P M (Sem.bind (Instr.keyThatStays _ _) _) h Q X
  unfold Instr.keyThatStays
  rw [if_pos hb]
  obtain ⟨k1,k2⟩:=star_setObj (o':=.map (es.set j { en with key:=.int ki k,val:=v }).toArray clock) s'
  refine ⟨by rw [k1];rfl,rfl,?_⟩
  rw [show (es.toArray.modify j fun e=>{ e with key:=.int ki k,val:=v })=(es.set j { en with key:=.int ki k,val:=v }).toArray by
   apply Array.ext'
   simp only [Array.toList_modify]
   exact modify_set _ h5]
  refine q _ (mapC_of ?_ k2)
  rw [h4]
  exact he.set h5
theorem mo_mapUpdate {t key el:Nat} {kk:IntKind} {m ko x:Operand} {k:Int} {v:Value} [p:Und P t (.map key el)] [pk:InT P key kk] (hm:ev e m=some (.map (some b))) (hk:ev e ko=some (.int ki k)) (hx:ev e x=some v) (hh:Has L (mapC ki b l) F) :
  Mo P e (.mapUpdate t m ko x) ty L fun v' L'=>v'=undef∧L'=mapC ki b (mPut l k v)::F:=by
 intro M _ _ tt h Q X ag s q
 show wpS P M (Sem.bind (Instr.mapUpdate t (evT tt m) (evT tt ko) (evT tt x)) fun _=>pure .skip) h Q X
 rw [ag.ev hm,ag.ev hk,ag.ev hx]
 exact wpS_bind _ _ (wpS_mapUpdate p.ok pk.ok (hh.star s) fun h' s'=>q undef _ _ _ (.inr ⟨rfl,rfl⟩) ⟨rfl,rfl⟩ s')
theorem wpS_lookup {M:Mark→Prop} {t key el:Nat} {kk:IntKind} {zv:Value} {k:Int} {ok:Bool} {h:Hp} {Q:Value→Hp→Prop} {X:Value→Hp→Prop} (ht:P.underlying t=some (.map key el)) (hk:P.underlying key=some (.int kk)) (hz:zeroOf P el=some zv) (s:Star (mapC ki b l::L) h)
  (q:Q (if ok=true then .tuple #[(mGet l k).getD zv,.bool (mGet l k).isSome] else (mGet l k).getD zv) h):wpS P M (Instr.lookup t (.map (some b)) (.int ki k) ok) h Q X:=by
 obtain ⟨es,clock,he,s'⟩:=mapC_obj s
 unfold Instr.lookup
 refine wpS_underlying ht ?_
 refine ⟨_,(star_setObj (o':=.map #[] 0) s').1,?_⟩
 refine wpS_bind _ _ ?_
 change wpS P M (Sem.bind (Instr.checkKey _ 10000 _ _) _) _ _ _
 refine wpS_bind _ _ (wpS_checkKey (n:=9999) hk ?_)
 refine wpS_bind _ _ (wpS_findKey hk (l:=l) (by simpa using he) ?_)
 have hg:=mIdx_get l k 0
 cases hm:mIdx l k 0 with
 | none =>
  rw [hm] at hg
  rw [← hg] at q
  refine wpS_zeroValue hz ?_
  cases ok <;> exact q
 | some y =>
  rw [hm] at hg
  rw [← hg] at q
  cases ok <;> exact q
theorem mo_lookup {t key el:Nat} {kk:IntKind} {zv:Value} {m ko:Operand} {k:Int} {ok:Bool} [p:Und P t (.map key el)] [pk:InT P key kk] [z:Zer P el zv] (hm:ev e m=some (.map (some b))) (hk:ev e ko=some (.int ki k)) (hh:Has L (mapC ki b l) F) :
  Mo P e (.lookup t m ko ok) ty L fun v' L'=>v'=(if ok=true then .tuple #[(mGet l k).getD zv,.bool (mGet l k).isSome] else (mGet l k).getD zv)∧L'=L:=by
 intro M _ _ tt h Q X ag s q
 show wpS P M (Sem.bind (Instr.lookup t (evT tt m) (evT tt ko) ok) fun v=>pure (.value v)) h Q X
 rw [ag.ev hm,ag.ev hk]
 exact wpS_bind _ _ (wpS_lookup p.ok pk.ok z.ok (hh.star s) (q _ L _ _ (.inl rfl) ⟨rfl,rfl⟩ s))
theorem mo_lookup2 {t key el:Nat} {kk:IntKind} {zv:Value} {m ko:Operand} {k:Int} [p:Und P t (.map key el)] [pk:InT P key kk] [z:Zer P el zv] (hm:ev e m=some (.map (some b))) (hk:ev e ko=some (.int ki k)) (hh:Has L (mapC ki b l) F) :
  Mo P e (.lookup t m ko true) ty L fun v' L'=>v'=.tuple #[(mGet l k).getD zv,.bool (mGet l k).isSome]∧L'=L:=by
 have h:=mo_lookup (P:=P) (e:=e) (ty:=ty) (L:=L) (F:=F) (t:=t) (ki:=ki) (b:=b) (l:=l) (m:=m) (ko:=ko) (k:=k) (ok:=true) (el:=el) (key:=key) (kk:=kk) (zv:=zv) hm hk hh
 rw [if_pos rfl] at h
 exact h
theorem mo_mapLen {t key el:Nat} {m:Operand} [p:Und P t (.map key el)] (hm:ev e m=some (.map (some b))) (hh:Has L (mapC ki b l) F) :
  Mo P e (.call ⟨.builtin .len,#[m],#[t]⟩) ty L fun v' L'=>v'=.int .i64 (l.length:Nat)∧L'=L:=by
 intro M _ _ tt h Q X ag s q
 show wpS P M (Sem.bind (Builtin.len_ #[t] ty (#[m].map (evT tt))) fun v=>pure (.value v)) h Q X
 rw [show #[m].map (evT tt)=#[evT tt m] by simp,ag.ev hm]
 obtain ⟨es,clock,he,s'⟩:=mapC_obj (hh.star s)
 refine wpS_bind _ _ ?_
 refine wpS_underlying p.ok ?_
 refine ⟨_,(star_setObj (o':=.map #[] 0) s').1,?_⟩
 show Q (.value (goInt es.toArray.size)) h
 rw [List.size_toArray,he.len]
 exact q _ L _ _ (.inl rfl) ⟨rfl,rfl⟩ s
end
end
section
def ranC (ki:IntKind) (b r:Nat) (l:List (Int × Value)) (n:Nat) (cur:Option (Int × Value)):HProp:=fun h =>
 ∃ es clock,∃ seen:Array Nat,(EsOk ki es clock l∧(es.filter fun e=>!seen.contains e.born).length=n∧∀ y,cur=some y→∃ e∈es,seen.back?=some e.born∧e.key=.int ki y.1∧e.val=y.2) ∧
  all [ob b (.map es.toArray clock),ob r (.mapIter (some b) clock seen clock)] h
section
variable {P:Program} {e:Env} {ty:TypeId} {L F:List HProp} {ki:IntKind} {b r n:Nat} {l:List (Int × Value)} {cur:Option (Int × Value)}
theorem ranC_obj {h:Hp} (s:Star (ranC ki b r l n cur::L) h):∃ es clock,∃ seen:Array Nat,(EsOk ki es clock l∧(es.filter fun e=>!seen.contains e.born).length=n∧∀ y,cur=some y→∃ e∈es,seen.back?=some e.born∧e.key=.int ki y.1∧e.val=y.2) ∧
  Star (ob b (.map es.toArray clock)::ob r (.mapIter (some b) clock seen clock)::L) h:=by
 obtain ⟨h1,h2,s1,⟨es,clock,seen,hf,hz⟩,hL⟩:=s
 exact ⟨es,clock,seen,hf,star_open (M:=[_,_]) ⟨h1,h2,s1,hz,hL⟩⟩
theorem ranC_of {h:Hp} {es:List MapEntry} {clock:Nat} {seen:Array Nat} (hf:EsOk ki es clock l∧(es.filter fun e=>!seen.contains e.born).length=n∧∀ y,cur=some y→∃ e∈es,seen.back?=some e.born∧e.key=.int ki y.1∧e.val=y.2)
  (s:Star (ob b (.map es.toArray clock)::ob r (.mapIter (some b) clock seen clock)::L) h):Star (ranC ki b r l n cur::L) h :=
 star_map (star_shut (M:=[_,_]) s) (fun h z=>⟨es,clock,seen,hf,z⟩) fun _ z=>z
theorem ranC_map {h:Hp} (s:Star (ranC ki b r l n cur::L) h):Star (mapC ki b l::L) h:=by
 obtain ⟨es,clock,seen,hf,s'⟩:=ranC_obj s
 exact mapC_of hf.1 (star_drop (star_swap s'))
theorem mo_range {t key el:Nat} {o:Operand} [p:Und P t (.map key el)] (hm:ev e o=some (.map (some b))) (hh:Has L (mapC ki b l) F) :
  Mo P e (.range t o) ty L fun v' L'=>∃ r,v'=.pointer (some ⟨r,0,none⟩)∧L'=ranC ki b r l l.length none::F:=by
 intro M _ _ tt h Q X ag s q
 show wpS P M (Sem.bind (Instr.range t (evT tt o)) fun v=>pure (.value v)) h Q X
 rw [ag.ev hm]
 obtain ⟨es,clock,he,s'⟩:=mapC_obj (hh.star s)
 refine wpS_bind _ _ ?_
 unfold Instr.range
 refine wpS_underlying p.ok ?_
 refine ⟨_,(star_setObj (o':=.map #[] 0) s').1,?_⟩
 intro r hf
 have s2:=star_newObj (o:=.mapIter (some b) clock #[] clock) hf s'
 refine q _ _ _ _ (.inl rfl) ⟨r,rfl,rfl⟩ (ranC_of (es:=es) (clock:=clock) (seen:=#[]) ⟨he,?_,fun y hy=>by cases hy⟩ (star_swap s2))
 rw [← he.len,List.filter_eq_self.2 fun e _=>by simp]
theorem wpS_mapNext {M:Mark→Prop} {α:Type} {n:Nat} {k:Nat→Sem α} {h:Hp} {Q:α→Hp→Prop} {X:Value→Hp→Prop} (hn:0<n) (w:∀ i,i<n→wpS P M (k i) h Q X):wpS P M (Sem.bind (choose (.mapNext n)) k) h Q X:=by
 show wpS P M (.choose (.mapNext n) fun i=>k i) h Q X
 unfold wpS
 split
 ·exact w 0 hn
 ·exact fun t=>w _ (Nat.mod_lt _ hn)
theorem filter_lt {α:Type} {p q:α→Bool} {l:List α} {a:α} (hpq:∀ x,q x=true→p x=true) (ha:a∈l) (hp:p a=true) (hq:q a=false):(l.filter q).length<(l.filter p).length:=by
 have e:l.filter q=(l.filter p).filter q:=by
  rw [List.filter_filter]
  congr 1
  funext x
  cases h:q x
  ·rfl
  ·rw [hpq x h];rfl
 rw [e]
 refine List.length_filter_lt_length_iff_exists.2 ⟨a,List.mem_filter.2 ⟨ha,hp⟩,by rw [hq];simp⟩
set_option maxHeartbeats 1000000 in
theorem mo_next {o:Operand} (hm:ev e o=some (.pointer (some ⟨r,0,none⟩))) (hh:Has L (ranC ki b r l n cur) F) :
  Mo P e (.next o false) ty L fun v' L'=>(v'=.tuple #[.bool false]∧L'=ranC ki b r l n cur::F) ∨
   ∃ k v n',(k,v)∈l∧n'<n∧v'=.tuple #[.bool true,.int ki k,v]∧L'=ranC ki b r l n' (some (k,v))::F:=by
 intro M _ _ tt h Q X ag s q
 show wpS P M (Sem.bind (Instr.next (evT tt o) false ty) fun v=>pure (.value v)) h Q X
 rw [ag.ev hm]
 obtain ⟨es,clock,seen,⟨he,hn,hc⟩,s'⟩:=ranC_obj (hh.star s)
 have sw:=star_swap s'
 refine wpS_bind _ _ ?_
 unfold Instr.next
 refine ⟨_,(star_setObj (o':=.map #[] 0) sw).1,?_⟩
 refine ⟨_,(star_setObj (o':=.map #[] 0) s').1,?_⟩
 have hall:(!seen.isEmpty&&!es.toArray.isEmpty&&es.toArray.all fun x=>decide (x.born≥clock))=false:=by
  cases es with
  | nil=>simp
  | cons x es =>
   have:=he.lt x (by simp)
   simp [show ¬ clock≤x.born by omega]
 have hsz:∀ (old new:Array MapEntry),0<((if old.isEmpty=true then #[none] else #[])++(old++new).map some:Array (Option MapEntry)).size:=fun old new=>by
  by_cases ho:old.isEmpty=true
  ·rw [if_pos ho,Array.size_append];show 0<1+_;omega
  ·rw [if_neg ho]
   have:0<old.size:=by
    rcases Nat.eq_zero_or_pos old.size with h0 | h0
    ·exact absurd (by simpa using h0) ho
    ·exact h0
   simp;omega
 show wpS P M (if (!seen.isEmpty&&!es.toArray.isEmpty&&es.toArray.all fun x=>decide (x.born≥clock))=true then _ else _) h _ X
 rw [if_neg (by rw [hall];simp)]
 obtain ⟨lf,hlf⟩:∃ lf,(es.toArray.filter fun e=>!seen.contains e.born)=lf:=⟨_,rfl⟩
 rw [hlf]
 refine wpS_mapNext (hsz _ _) fun i hi=>?_
 obtain ⟨cds,hcd⟩:∃ cds:Array (Option MapEntry),((if (lf.filter fun x=>decide (x.born<clock)).isEmpty=true then #[none] else #[])++((lf.filter fun x=>decide (x.born<clock))++lf.filter fun x=>decide (x.born≥clock)).map some)=cds:=⟨_,rfl⟩
 rw [hcd] at hi ⊢
 obtain ⟨c,hci⟩:∃ c,cds[i]?=some c:=⟨cds[i],Array.getElem?_eq_getElem hi⟩
 rw [hci]
 cases c with
 | none=>exact q _ _ _ _ (.inl rfl) (.inl ⟨rfl,rfl⟩) (ranC_of ⟨he,hn,hc⟩ s')
 | some y =>
  have hmem:y∈lf:=by
   have h1:=Array.mem_of_getElem? hci
   rw [← hcd] at h1
   rcases Array.mem_append.1 h1 with h1 | h1
   ·split at h1 <;> simp at h1
   ·obtain ⟨z,hz,ez⟩:=Array.mem_map.1 h1
    cases ez
    rcases Array.mem_append.1 hz with h2 | h2 <;> exact (Array.mem_filter.1 h2).1
  rw [← hlf] at hmem
  obtain ⟨hy1,hy2⟩:=Array.mem_filter.1 hmem
  replace hy1:y∈es:=by simpa using hy1
  obtain ⟨j,hj⟩:=List.mem_iff_getElem?.1 hy1
  have hlt:j<l.length:=by rw [← he.len];exact (List.getElem?_eq_some_iff.1 hj).1
  obtain ⟨e',h5,h6,h7⟩:=he.get (List.getElem?_eq_getElem hlt)
  rw [hj] at h5;cases h5
  obtain ⟨k1,k2⟩:=star_setObj (o':=.mapIter (some b) clock (seen.push y.born) clock) sw
  refine ⟨by rw [k1];rfl,rfl,?_⟩
  refine q _ _ _ _ (.inl rfl) (.inr ⟨l[j].1,l[j].2,(es.filter fun e=>!(seen.push y.born).contains e.born).length,List.getElem_mem hlt,?_,?_,rfl⟩) (ranC_of ⟨he,rfl,fun z hz=>?_⟩ (star_swap k2))
  ·rw [← hn]
   refine filter_lt (a:=y) (fun x hx=>?_) hy1 hy2 (by simp)
   simp at hx ⊢
   exact hx.1
  ·rw [h6,h7]
  ·cases hz
   exact ⟨y,hy1,by simp,h6,h7⟩
theorem mo_entry {o:Operand} {y:Int × Value} (hm:ev e o=some (.pointer (some ⟨r,0,none⟩))) (hh:Has L (ranC ki b r l n (some y)) F) :
  Mo P e (.entry o) ty L fun v' L'=>v'=.tuple #[.int ki y.1,y.2]∧L'=L:=by
 intro M _ _ tt h Q X ag s q
 show wpS P M (Sem.bind (Instr.entry (evT tt o)) fun v=>pure (.value v)) h Q X
 rw [ag.ev hm]
 obtain ⟨es,clock,seen,⟨he,hn,hc⟩,s'⟩:=ranC_obj (hh.star s)
 obtain ⟨e',h1,h2,h3,h4⟩:=hc y rfl
 have sw:=star_swap s'
 refine wpS_bind _ _ ?_
 unfold Instr.entry
 refine ⟨_,(star_setObj (o':=.map #[] 0) sw).1,?_⟩
 show wpS P M (match seen.back? with | some stamp=>_ | _=>_) h _ X
 rw [h2]
 refine ⟨_,(star_setObj (o':=.map #[] 0) s').1,?_⟩
 show wpS P M (if (clock != clock)=true then _ else _) h _ X
 rw [if_neg (by simp)]
 have hf:es.toArray.find? (fun x=>x.born == e'.born)=some e':=by
  rw [List.find?_toArray]
  obtain ⟨z,hz⟩:∃ z,es.find? (fun x=>x.born == e'.born)=some z:=by
   cases hz:es.find? (fun x=>x.born == e'.born) with
   | none=>have:=List.find?_eq_none.1 hz e' h1;simp at this
   | some z=>exact ⟨z,rfl⟩
  have hz1:=List.mem_of_find?_eq_some hz
  have hz2:=List.find?_some hz
  simp only [beq_iff_eq] at hz2
  rw [hz]
  congr 1
  obtain ⟨i,hi⟩:=List.mem_iff_getElem?.1 hz1
  obtain ⟨j,hj⟩:=List.mem_iff_getElem?.1 h1
  have hnd:=he.nd
  obtain ⟨hil,hie⟩:=List.getElem?_eq_some_iff.1 hi
  obtain ⟨hjl,hje⟩:=List.getElem?_eq_some_iff.1 hj
  have:i=j:=by
   refine (List.getElem_inj (xs:=es.map (·.born)) (h₀:=by simpa using hil) (h₁:=by simpa using hjl) hnd).1 ?_
   simp [hie,hje,hz2]
  subst this
  rw [← hie,← hje]
 rw [hf]
 refine q _ L _ _ (.inl rfl) ⟨?_,rfl⟩ s
 rw [h3,h4]
end
end
end Go.PB
namespace Go.Proofs.Ytodgemainhokjaa
open Go Go.PB
attribute [local irreducible] Mo Bin Eql Tr Wo
section
variable {B:Hand} [Lets B]
def mark2 (m:Int × Nat):List Value:=[.int .u8 m.1,.int .i64 (m.2:Nat)]
def notesC (nb:Nat) (marks:List (Int × Nat)):HProp:=fun h=>∃ mv,all [arr nb 0 [.bool true,mv],vec 2 mv (marks.map mark2).flatten] h
section
variable {L F:List HProp} {x:B.X} {nb:Nat} {marks:List (Int × Nat)}
theorem flat2 (marks:List (Int × Nat)):(marks.map mark2).flatten.length=marks.length*2:=by
 induction marks with
 | nil=>rfl
 | cons m l ih=>simp only [List.map_cons,List.flatten_cons,List.length_append,ih,mark2,List.length_cons,List.length_nil];omega
theorem notes_step_tr {op:Int} {w:Nat} (hl:marks.length<1000000) (hh:Has L (notesC nb marks) F) :
  Tr Try.prog B 110 [.pointer (some ⟨nb,0,none⟩),.agg #[.int .u8 op,.int .i64 (w:Nat)]] L x fun v L' x'=>v=.tuple #[]∧L'=notesC nb (marks++[(op,w)])::F∧x'=x:=by
 refine tr_ex hh fun mv=>tr_star _ (fun h st=>star_open st) ?_
 refine Tr.post (R:=fun v L' x'=>v=.tuple #[]∧x'=x∧∃ v',∀ h,Star L' h→Star (arr nb 0 [.bool true,v']::vec 2 v' ((marks++[(op,w)]).map mark2).flatten::F) h) ?_
  (by
   rintro v L' x' ⟨rfl,rfl,v',hs⟩
   refine ⟨_,⟨rfl,rfl,rfl⟩,fun h st=>?_⟩
   exact star_map (star_shut (M:=[_,_]) (hs h st)) (fun _ y=>⟨v',y⟩) (fun _ y=>y))
 refine tr_pure (of_has (.there .here) (vec_shape (by omega))) ?_
 rintro ⟨ra,rl,rc,rfl,hlen,hrc,hra,hra2⟩
 rw [flat2] at hlen
 have hrl:rl=marks.length:=by omega
 subst hrl
 simp only [List.cons_append,List.nil_append]
 refine tr_of_body Try.func110 rfl Try.ntmps110 (by simp) fun um Q _ hQ=>?_
 simp only [argE,Nat.zero_add,Nat.reduceAdd]
 have hr0:∀ {c:HProp},Rd (c::arr nb 0 [.bool true,.slice ra marks.length rc]::vec 2 (.slice ra marks.length rc) (marks.map mark2).flatten::F) nb 0 (.bool true):=fun {c}=>Rd.there (Rd.row (k:=0) rfl rfl)
 have hr1:∀ {c:HProp},Rd (c::arr nb 0 [.bool true,.slice ra marks.length rc]::vec 2 (.slice ra marks.length rc) (marks.map mark2).flatten::F) nb 1 (.slice ra marks.length rc):=fun {c}=>Rd.there (Rd.row (k:=1) rfl rfl)
 repeat (first | (apply wo_mo;apply mo_box;exact rfl;exact trivial) | refine we_seq ?_ | (refine wR ?_;try simp only [oS]))
 rintro v' L' ⟨pb,rfl,rfl⟩
 have hrds:Rds (arr pb 0 (mark2 (op,w))::arr nb 0 [.bool true,.slice ra marks.length rc]::vec 2 (.slice ra marks.length rc) (marks.map mark2).flatten::F) pb 0 [.int .u8 op,.int .i64 (w:Nat)]:=Rds.all (vs:=mark2 (op,w)) .here
 refine wo_ent (arr pb 0 (mark2 (op,w))::arr nb 0 [.bool true,.slice ra marks.length rc]::vec 2 (.slice ra marks.length rc) (marks.map mark2).flatten::F) .refl ?_
 repeat (first | (apply wo_po;apply mo_load;exact rfl;exact hr0;exact gY) | refine we_seq ?_ | (refine wR ?_;try simp only [oS]) | refine wo_nil ?_ | refine wM ?_ | refine wK ?_ | refine wN ?_ | refine wD ?_ | (apply wo_po;apply mo_bin;exact rfl;exact rfl;apply bin_ne;apply eql_ptr_nil;exact gY) | refine wT ?_)
 have hr2:∀ {c d:HProp},Rd (c::d::arr nb 0 [.bool true,.slice ra marks.length rc]::vec 2 (.slice ra marks.length rc) (marks.map mark2).flatten::F) nb 1 (.slice ra marks.length rc):=fun {c d}=>Rd.there hr1
 refine we_draw [0,1,2,3,4,5,6,7,8,9,10] (by kernel_rfl) ?_
 repeat (first | (apply ap_read;exact rfl;exact rfl;exact trivial;apply mo_load;exact rfl;exact hr1) | (apply ap_read;exact rfl;exact rfl;exact trivial;apply mo_loadA (vs:=[.int .u8 op,.int .i64 (w:Nat)]);exact rfl;exact rfl;exact hrds) | refine aM ?_ | refine aN ?_ | refine aD ?_)
 refine ap_loudR rfl rfl rfl rfl trivial (mo_buildSlice (sz:=2) (vs:=[.agg #[.int .u8 op,.int .i64 (w:Nat)]]) rfl (.cons rfl .nil) rfl (by intro v hv;cases (List.mem_singleton.1 hv);exact rfl) (by omega)) ?_ ?_
 ·rintro v L' ⟨sb,rfl,rfl⟩ p hp
  replace hp:=(List.mem_filter.1 hp).1
  simp only [List.mem_cons,List.not_mem_nil,or_false] at hp
  rcases hp with rfl | rfl | rfl | rfl | rfl | rfl <;> first | exact .inl rfl | exact .inr ⟨_,rfl,trivial,mo_load rfl hr2⟩ | exact .inr ⟨_,rfl,trivial,mo_loadA (vs:=[.int .u8 op,.int .i64 (w:Nat)]) rfl rfl (fun i v hi=>Rd.there (hrds i v hi))⟩
 rintro v L' ⟨sb,rfl,rfl⟩
 refine ap_loud rfl rfl rfl rfl rfl trivial (mo_append (sz:=2) (new:=mark2 (op,w)) rfl rfl rfl rfl (.there (.there (.there .here))) rfl (.inr ⟨_,_,rfl,Rds.all .here⟩) (by intro v hv;simp [mark2] at hv;rcases hv with rfl | rfl <;> rfl) (by simp only [sliceLen];omega)) ?_
 rintro v' L' rfl
 refine ap_know (of_has .here (vec_shape (by omega))) ?_
 rintro ⟨qa,ql,qc,rfl,_⟩
 repeat (first | refine aN ?_ | refine aD ?_)
 refine ap_loud rfl rfl rfl rfl rfl trivial (mo_store rfl rfl rfl (Wt.row (k:=1) (vs:=[.bool true,.slice ra marks.length rc]) (Nat.lt_succ_self 1) rfl (.there (.there (.there .here))))) ?_
 rintro v' L' ⟨rfl,rfl⟩
 refine ap_end ?_
 (first | refine or0 Try.func110 Try.results110 hQ ?_ | refine on0 Try.func110 Try.results110 hQ ?_)
 refine ⟨rfl,rfl,.slice qa ql qc,fun h st=>?_⟩
 rw [show ((marks++[(op,w)]).map mark2).flatten=(marks.map mark2).flatten++mark2 (op,w) by simp]
 exact (Ent.take (.there (.there (.there .here))) (.take .here (.drop (.drop .refl)))).star st
end
def notesAcc (x:B.X) (addr:Nat→Nat × Nat) (N:Nat) (K:List (Nat × Nat × Value)) (A:Apart addr N K) (nb:Nat):Acc B (.iface 89 (.pointer (some ⟨nb,0,none⟩))) where
 S:=(Nat→Nat) × List (Int × Nat)
 C:=fun s=>all [wds addr N K s.1,notesC nb s.2]
 x:=fun _=>x
 step:=fun op w s R=>s.2.length<1000000∧R (s.1,s.2++[(op,w)])
 addr:=addr
 load:=fun w s R=>w<N∧R (s.1 w) s
 store:=fun w n s R=>w<N∧R (upd s.1 w n,s.2)
 cas:=fun w a n s R=>w<N∧if s.1 w=a then R true (upd s.1 w n,s.2) else R false s
 add:=fun w n s R=>w<N∧R ((s.1 w+n)%18446744073709551616) (upd s.1 w ((s.1 w+n)%18446744073709551616),s.2)
 swap:=fun w n s R=>w<N∧R (s.1 w) (upd s.1 w n,s.2)
 gate:=.inr ⟨_,_,110,rfl,inferInstance,inferInstance,fun op w s R L F hs hh =>
  tr_star _ (fun h st=>star_open (hh.star st)) ((notes_step_tr hs.1 (.there .here)).post fun v L' x' ⟨h1,h2,h3⟩=>⟨_,⟨_,hs.2,h1,rfl,h3⟩,fun h st=>star_shut (M:=[_,_]) (by
   rw [h2] at st
   exact star_swap st)⟩)⟩
 load_ok:=fun w s R L F b o ha hl hh=>tr_star _ (fun h st=>star_open (hh.star st)) (tr_pure (of_has .here fun h hc=>(hc.1 w hl.1).1) fun hs =>
  (load_lone (rd_wds .here hl.1 ha)).post fun v L' x' ⟨h1,h2,h3⟩=>⟨_,⟨s.1 w,s,hs,hl.2,h1,rfl,h3⟩,fun h st=>star_shut (M:=[_,_]) (by rw [h2] at st;exact st)⟩)
 store_ok:=fun w n s R L F b o ha hn hl hh=>tr_star _ (fun h st=>star_open (hh.star st))
  ((store_lone (wt_wds A .here hl.1 ha hn)).post fun v L' x' ⟨h1,h2,h3⟩=>⟨_,⟨(upd s.1 w n,s.2),hl.2,h1,rfl,h3⟩,fun h st=>star_shut (M:=[_,_]) (by rw [h2] at st;exact st)⟩)
 cas_ok:=fun w m n s R L F b o ha hn hl hh=>tr_star _ (fun h st=>star_open (hh.star st))
  ((cas_lone (rd_wds .here hl.1 ha) (wt_wds A .here hl.1 ha hn)).post fun v L' x' ⟨h1,h2,h3⟩=>by
   obtain ⟨h4,h5⟩:=hl
   by_cases e:s.1 w=m
   ·rw [if_pos e] at h5;rw [if_pos (by omega)] at h2;exact ⟨_,⟨true,_,h5,by rw [h1];simp [e],rfl,h3⟩,fun h st=>star_shut (M:=[_,_]) (by rw [h2] at st;exact st)⟩
   ·rw [if_neg e] at h5;rw [if_neg (by omega)] at h2;exact ⟨_,⟨false,_,h5,by rw [h1];simp;omega,rfl,h3⟩,fun h st=>star_shut (M:=[_,_]) (by rw [h2] at st;exact st)⟩)
 add_ok:=fun w n s R L F b o ha hn hl hh=>tr_star _ (fun h st=>star_open (hh.star st))
  ((add_lone (r:=((s.1 w+n)%18446744073709551616:Nat)) (rd_wds .here hl.1 ha) (by rw [wrap_u64_mod];omega) (wt_wds A .here hl.1 ha (Nat.mod_lt _ (by decide)))).post fun v L' x' ⟨h1,h2,h3⟩=>⟨_,⟨_,(_,s.2),Nat.mod_lt _ (by decide),hl.2,h1,rfl,h3⟩,fun h st=>star_shut (M:=[_,_]) (by rw [h2] at st;exact st)⟩)
end
end Go.Proofs.Ytodgemainhokjaa
namespace Go.Proofs.Ytodgemainhokjaa
open Go Go.PB
attribute [local irreducible] Mo Bin Eql Tr Wo Ap
section
variable {B:Hand} [Lets B] {L F:List HProp} {x:B.X} {nb:Nat} {marks:List (Int × Nat)}
theorem new_notes_tr:Tr Try.prog B 36 [] L x fun v L' x'=>∃ nb,v=.pointer (some ⟨nb,0,none⟩)∧L'=notesC nb []::L∧x'=x:=by
 refine Tr.post (R:=fun v L' x'=>∃ nb,v=.pointer (some ⟨nb,0,none⟩)∧L'=arr nb 0 [.bool true,.slice none 0 0]::L∧x'=x) ?_
  (by
   rintro v L' x' ⟨nb,rfl,rfl,rfl⟩
   refine ⟨_,⟨nb,rfl,rfl,rfl⟩,fun h st=>?_⟩
   have st2:Star ([arr nb 0 [.bool true,.slice none 0 0],vec 2 (.slice none 0 0) []]++L) h:=star_map st (fun _ y=>y) (fun _ y=>vec_nil y)
   exact star_map (star_shut st2) (fun _ y=>⟨_,y⟩) (fun _ y=>y))
 refine tr_of_body Try.func36 rfl Try.ntmps36 (by simp) fun um Q _ hQ=>?_
 simp only [argE,Nat.zero_add,Nat.reduceAdd]
 repeat (first | (apply wo_po;apply mo_build (pv:=[(0,_)]);exact rfl;exact .cons rfl .nil;exact rfl;exact trivial) | (apply wo_mo;apply mo_box;exact rfl;exact trivial) | refine we_seq ?_ | (refine wR ?_;try simp only [oS]) | refine wo_nil ?_ | refine wA ?_)
 rintro v' L' ⟨r,rfl,rfl⟩
 repeat (first | refine wo_nil ?_ | refine wA ?_ | refine we_ret ?_)
 (first | refine or1 Try.func36 Try.results36 hQ rfl ?_ | refine on1 Try.func36 Try.results36 hQ rfl ?_)
 exact ⟨r,rfl,rfl,rfl⟩
theorem clone_tr {a:Option Addr} {n c:Nat} (hl:marks.length<1000000) (hn:n=marks.length) (ha:(a=none∧n=0)∨∃ b o,a=some ⟨b,o,none⟩∧Rds L b o (marks.map mark2).flatten) :
  Tr Try.prog B 59 [.slice a n c] L x fun v L' x'=>L'=vec 2 v (marks.map mark2).flatten::L∧x'=x:=by
 subst hn
 rcases ha with ⟨rfl,h0⟩ | ⟨b,o,rfl,hr⟩
 ·refine tr_of_body Try.func59 rfl Try.ntmps59 (by simp) fun um Q _ hQ=>?_
  simp only [argE,Nat.zero_add,Nat.reduceAdd]
  repeat (first | refine we_seq ?_ | (refine wR ?_;try simp only [oS]) | refine wo_nil ?_ | refine wM ?_ | refine wA ?_ | (apply wo_po;apply mo_bin;exact rfl;exact rfl;apply bin_eq;apply eql_slice_nil;exact gY) | refine wT ?_ | refine we_ret ?_)
  have hm:marks=[]:=List.length_eq_zero_iff.1 h0
  refine at_star (vec 2 (.slice none 0 0) (marks.map mark2).flatten::L) (fun h st=>by rw [hm];exact vec_nil st) ?_
  (first | refine or1 Try.func59 Try.results59 hQ rfl ?_ | refine on1 Try.func59 Try.results59 hQ rfl ?_)
  exact ⟨rfl,rfl⟩
 ·have h1:∀ w∈(marks.map mark2).flatten,one w=true:=by
   intro w hw
   simp only [List.mem_flatten,List.mem_map] at hw
   obtain ⟨l,⟨m,_,rfl⟩,hw⟩:=hw
   simp only [mark2,List.mem_cons,List.not_mem_nil,or_false] at hw
   rcases hw with rfl | rfl <;> rfl
  refine tr_of_body Try.func59 rfl Try.ntmps59 (by simp) fun um Q _ hQ=>?_
  simp only [argE,Nat.zero_add,Nat.reduceAdd]
  repeat (first | (apply wo_mo;apply mo_buildSlice (sz:=2) (vs:=[]);exact rfl;exact .nil;exact rfl;(intro v hv;cases hv);omega;exact trivial) | refine we_seq ?_ | (refine wR ?_;try simp only [oS]) | refine wo_nil ?_ | refine wM ?_ | refine wA ?_ | (apply wo_po;apply mo_bin;exact rfl;exact rfl;apply bin_eq;apply eql_slice_nil;exact gY) | refine wF ?_ | refine we_skip ?_)
  rintro v' L' ⟨nb,rfl,rfl⟩
  refine wo_star (vec 2 (.slice (some ⟨nb,0,none⟩) 0 0) []::L) (fun h st=>vec_new (cs:=[]) rfl st) ?_
  repeat (first | (apply wo_mo;apply mo_append (sz:=2) (new:=(marks.map mark2).flatten);exact rfl;exact rfl;exact rfl;exact rfl;exact .here;exact flat2 _;exact .inr ⟨_,_,rfl,fun i v hi=>Rd.there (hr i v hi)⟩;exact h1;(simp only [sliceLen];omega);exact trivial) | refine wM ?_)
  rintro v' L' rfl
  repeat (first | refine wo_nil ?_ | refine wA ?_ | refine we_ret ?_)
  (first | refine or1 Try.func59 Try.results59 hQ rfl ?_ | refine on1 Try.func59 Try.results59 hQ rfl ?_)
  exact ⟨rfl,rfl⟩
theorem marks_tr (hl:marks.length<1000000) (hh:Has L (notesC nb marks) F) :
  Tr Try.prog B 38 [.pointer (some ⟨nb,0,none⟩)] L x fun v L' x'=>L'=vec 2 v (marks.map mark2).flatten::notesC nb marks::F∧x'=x:=by
 refine tr_ex hh fun mv=>tr_star _ (fun h st=>star_open st) ?_
 simp only [List.cons_append,List.nil_append]
 refine Tr.post (R:=fun v L' x'=>L'=vec 2 v (marks.map mark2).flatten::arr nb 0 [.bool true,mv]::vec 2 mv (marks.map mark2).flatten::F∧x'=x) ?_
  (by
   rintro v L' x' ⟨rfl,rfl⟩
   exact ⟨_,⟨rfl,rfl⟩,fun h st=>star_map st (fun _ y=>y) (fun _ y=>star_map (star_shut (M:=[_,_]) y) (fun _ z=>⟨mv,z⟩) (fun _ z=>z))⟩)
 refine tr_pure (of_has (.there .here) (vec_shape (by omega))) ?_
 rintro ⟨ra,rl,rc,rfl,hlen,hrc,hra,hra2⟩
 rw [flat2] at hlen
 have hrl:rl=marks.length:=by omega
 subst hrl
 have hr0:Rd (arr nb 0 [.bool true,.slice ra marks.length rc]::vec 2 (.slice ra marks.length rc) (marks.map mark2).flatten::F) nb 0 (.bool true):=Rd.row (k:=0) rfl rfl
 have hr1:Rd (arr nb 0 [.bool true,.slice ra marks.length rc]::vec 2 (.slice ra marks.length rc) (marks.map mark2).flatten::F) nb 1 (.slice ra marks.length rc):=Rd.row (k:=1) rfl rfl
 have ha:(ra=none∧marks.length=0)∨∃ b o,ra=some ⟨b,o,none⟩∧Rds (arr nb 0 [.bool true,.slice ra marks.length rc]::vec 2 (.slice ra marks.length rc) (marks.map mark2).flatten::F) b o (marks.map mark2).flatten:=by
  cases ra with
  | none=>exact .inl ⟨rfl,hra rfl⟩
  | some y =>
   obtain ⟨b,o,sp⟩:=y
   cases hra2 _ rfl
   exact .inr ⟨b,o,rfl,fun i v hi=>rd_vec (.there .here) hi⟩
 refine tr_of_body Try.func38 rfl Try.ntmps38 (by simp) fun um Q _ hQ=>?_
 simp only [argE,Nat.zero_add,Nat.reduceAdd]
 repeat (first | (apply wo_po;apply mo_load;exact rfl;exact hr0;exact gY) | (apply wo_po;apply mo_load;exact rfl;exact hr1;exact trivial) | refine we_seq ?_ | (refine wR ?_;try simp only [oS]) | refine wo_nil ?_ | refine wM ?_ | refine wA ?_ | refine wJ ?_ | refine wN ?_ | refine wD ?_ | (apply wo_po;apply mo_not;exact rfl;exact gY) | (apply wo_po;apply mo_bin;exact rfl;exact rfl;apply bin_eq;apply eql_ptr_nil;exact gY) | refine wF ?_ | refine we_skip ?_)
 refine wo_call (.cons rfl .nil) trivial (clone_tr hl rfl ha) ?_
 rintro v L' x' ⟨rfl,rfl⟩
 repeat (first | refine wo_nil ?_ | refine wA ?_ | refine we_ret ?_)
 (first | refine or1 Try.func38 Try.results38 hQ rfl ?_ | refine on1 Try.func38 Try.results38 hQ rfl ?_)
 exact ⟨rfl,rfl⟩
end
end Go.Proofs.Ytodgemainhokjaa
namespace Go.Proofs.Ytodgemainhokjaa
open Go Go.PB
attribute [local irreducible] Mo Bin Eql Tr Wo Ap Wle
section
section
variable {B:Hand} [Lets B] {x:B.X} {r n nb:Nat} {L F:List HProp} {h:Hp} {ws ws':List Nat} {ms:List (Int × Nat)} {v:Nat} {f f':Nat→Nat}
def sNotes (x:B.X) (r n nb:Nat):Acc B (.iface 89 (.pointer (some ⟨nb,0,none⟩))):=notesAcc x (sAddr r) (n+1) (sK r n) (s_apart r n) nb
theorem sn_at (h1:1≤n) (h2:n≤16):SeqAt (sNotes x r n nb) r n:=⟨h1,h2,fun s=>rd_in1 (Rd.of .here sC_rd),rfl,fun i _=>s_addr⟩
def wMarks:Nat→Nat→List (Int × Nat)
 | 0,_=>[]
 | k+1,i=>(2,1+i)::wMarks k (i+1)
theorem wMarks_len:∀ k i,(wMarks k i).length=k
 | 0,_=>rfl
 | k+1,i=>by simp [wMarks,wMarks_len k]
theorem wloop_notes {K:(Nat→Nat) × List (Int × Nat)→Prop}:∀ (l:List Nat) (i:Nat) (s:Nat→Nat) (ms:List (Int × Nat)),i+l.length≤n→ms.length+l.length<1000000→K (updL s l i,ms++wMarks l.length i)→WLoop (sNotes x r n nb) K l i (s,ms)
 | [],i,s,ms,_,_,hk=>by
  show K (s,ms)
  simpa [wMarks,updL] using hk
 | w::l,i,s,ms,hl,hm,hk=>⟨by simp at hm;show ms.length<1000000;omega,by simp at hl;show 1+i<n+1;omega,wloop_notes l (i+1) _ _ (by simp at hl;omega) (by simp at hm ⊢;omega) (by
   simpa [wMarks,updL] using hk)⟩
def writeMs (n:Nat):List (Int × Nat):=(1,0)::(5,0)::(wMarks n 0++[(2,0)])
theorem write_note (h1:1≤n) (h2:n≤16) {wa:Option Addr} {wc:Nat} (hlen:ws'.length=n) (hb:∀ w∈ws',w<18446744073709551616) (hv:v%2=0) (hv2:v+2<18446744073709551616) (hm:ms.length<100000) (hh:Has L (all [sC r n (recF ws v),notesC nb ms]) F) (hw:RdsO F wa n (ws'.map num)) :
  Tr Try.prog B 14 [.pointer (some ⟨r,0,none⟩),.iface 89 (.pointer (some ⟨nb,0,none⟩)),.slice wa n wc] L x fun v' L' x'=>v'=.tuple #[.int .u64 ((v+2:Nat):Int),.int .i64 0]∧L'=sC r n (recF ws' (v+2))::notesC nb (ms++writeMs n)::F∧x'=x:=by
 refine (write_tr (A:=sNotes x r n nb) (sn_at h1 h2) (ws:=ws') hlen hb (s:=(recF ws v,ms)) (Q:=fun o s=>o=some (v+2)∧(∀ i,i<n+1→s.1 i=recF ws' (v+2) i)∧s.2=ms++writeMs n) ?_ hh hw).post ?_
 ·refine ⟨by show ms.length<1000000;omega,by show 0<n+1;omega,?_⟩
  show if v%2=0 then _ else _
  rw [if_pos hv]
  refine ⟨by show (ms++[_]).length<1000000;simp;omega,by show 0<n+1;omega,?_⟩
  show if v=v then _ else _
  rw [if_pos rfl]
  show if true=true then _ else _
  rw [if_pos rfl]
  dsimp only
  rw [show (recF ws v) 0=v from rfl,Nat.mod_eq_of_lt (by omega),Nat.mod_eq_of_lt (by omega)]
  refine wloop_notes ws' 0 _ _ (by omega) (by simp;omega) ⟨by show List.length _<1000000;simp [wMarks_len];omega,by show 0<n+1;omega,rfl,upd_rec hlen,?_⟩
  simp [writeMs,hlen]
 ·rintro v' L' x' ⟨o,⟨s1,s2⟩,⟨rfl,he,rfl⟩,rfl,rfl,rfl⟩
  exact ⟨_,⟨rfl,rfl,rfl⟩,fun h st=>star_map (star_open (M:=[_,_]) st) (sC_congr he) fun _ z=>z⟩
end
end
end Go.Proofs.Ytodgemainhokjaa
namespace Go.Proofs.Ytodgemainhokjaa
open Go Go.PB
attribute [local irreducible] Mo Bin Eql Tr Wo
section
variable {B:Hand} [Lets B] {L:List HProp} {x:B.X}
theorem tmod_emod {n k:Int} (hk:0<k):(n.tmod k<0→n.tmod k+k=n%k)∧(¬ n.tmod k<0→n.tmod k=n%k):=by
 have h1:=Int.emod_nonneg n (by omega:k≠0)
 have h2:=Int.emod_lt_of_pos n hk
 have h3:n.tmod k=n%k-((if 0≤n∨k ∣ n then 0 else k.natAbs:Nat):Int):=Int.tmod_eq_emod
 have h4:=Int.tmod_lt_of_pos n hk
 split at h3
 ·constructor <;> intro h5 <;> omega
 ·rename_i hn
  have h6:n%k≠0:=fun h=>hn (.inr (Int.dvd_of_emod_eq_zero h))
  constructor <;> intro h5 <;> omega
theorem within_tr {n k:Int} (hn:-9223372036854775808≤n∧n≤9223372036854775807) (hk:0<k∧k≤1000000) :
  Tr Try.prog B 10 [.int .i64 n,.int .i64 k] L x fun v L' x'=>v=.int .i64 (n%k)∧L'=L∧x'=x:=by
 have ht:=tmod_emod (n:=n) hk.1
 have h1:=Int.emod_nonneg n (by omega:k≠0)
 have h2:=Int.emod_lt_of_pos n hk.1
 have hlt:=Int.tmod_lt_of_pos n hk.1
 obtain ⟨m,hm⟩:∃ m,n%k=m:=⟨_,rfl⟩
 obtain ⟨t,hte⟩:∃ t,n.tmod k=t:=⟨_,rfl⟩
 rw [hm] at ht h1 h2
 rw [hte] at ht hlt
 rw [hm]
 by_cases hneg:t<0
 ·have e:=ht.1 hneg
  refine tr_of_body Try.func10 rfl Try.ntmps10 (by simp) fun um Q _ hQ=>?_
  simp only [argE,Nat.zero_add,Nat.reduceAdd]
  repeat (first | (apply wo_po;apply mo_bin;exact rfl;exact rfl;apply bin_rem;omega;exact hte;exact trivial) | refine wlssT ?_ | refine we_seq ?_ | (refine wR ?_;try simp only [oS]) | refine wo_nil ?_ | refine wM ?_ | refine wA ?_ | refine wadd ?_ | refine wT ?_ | refine we_ret ?_)
  (first | refine or1 Try.func10 Try.results10 hQ rfl ?_ | refine on1 Try.func10 Try.results10 hQ rfl ?_)
  exact ⟨by rw [e],rfl,rfl⟩
 ·have e:=ht.2 hneg
  refine tr_of_body Try.func10 rfl Try.ntmps10 (by simp) fun um Q _ hQ=>?_
  simp only [argE,Nat.zero_add,Nat.reduceAdd]
  repeat (first | (apply wo_po;apply mo_bin;exact rfl;exact rfl;apply bin_rem;omega;exact hte;exact trivial) | refine wlssF ?_ | refine we_seq ?_ | (refine wR ?_;try simp only [oS]) | refine wo_nil ?_ | refine wM ?_ | refine wA ?_ | refine wF ?_ | refine we_ret ?_ | refine we_skip ?_)
  (first | refine or1 Try.func10 Try.results10 hQ rfl ?_ | refine on1 Try.func10 Try.results10 hQ rfl ?_)
  exact ⟨by rw [e],rfl,rfl⟩
def sameInv (x:B.X) (L:List HProp) (a a':Option Addr) (n c c':Nat) (l l':List Nat):Inv Nat B.X where
 e:=fun i=>[(0,.slice a n c),(1,.slice a' n c'),(5,.int .i64 i)]
 L:=fun _=>L
 x:=fun _=>x
 ok:=fun i=>i≤n∧l.take i=l'.take i
theorem same_words_tr {a a':Option Addr} {n n' c c':Nat} {l l':List Nat} (hn:n=l.length) (hn':n'=l'.length) (hl:n<1000000000000000) (h1:RdV L a l) (h2:RdV L a' l') :
  Tr Try.prog B 22 [.slice a n c,.slice a' n' c'] L x fun v L' x'=>v=.bool (decide (l=l'))∧L'=L∧x'=x:=by
 by_cases hlen:n=n'
 ·subst hlen
  refine tr_of_body Try.func22 rfl Try.ntmps22 (by simp) fun um Q _ hQ=>?_
  simp only [argE,Nat.zero_add,Nat.reduceAdd]
  repeat (first | refine wneqF ?_ | refine we_seq ?_ | (refine wR ?_;try simp only [oS]) | refine wo_nil ?_ | refine wM ?_ | refine wA ?_ | refine wE ?_ | refine wF ?_ | refine we_skip ?_ | refine we_block ?_)
  refine we_loopN (sameInv x L a a' n c c' l l') (fun i=>n-i) 0 ⟨by omega,by simp⟩ ⟨rfl,rfl,rfl,trivial⟩ .refl rfl ?_
  rintro i ⟨hi,ht⟩
  dsimp only [sameInv] at hi ht ⊢
  by_cases hc:i<n
  ·obtain ⟨v,hv⟩:∃ v,l[i]?=some v:=⟨l[i]'(by omega),by simp⟩
   obtain ⟨v',hv'⟩:∃ v,l'[i]?=some v:=⟨l'[i]'(by omega),by simp⟩
   obtain ⟨b1,o1,rfl,r1⟩:=h1 i v hv
   obtain ⟨b2,o2,rfl,r2⟩:=h2 i v' hv'
   by_cases he:v=v'
   ·have he':(v:Int)=v':=by omega
    repeat (first | refine wlssT ?_ | refine we_seq ?_ | (refine wR ?_;try simp only [oS]) | refine wo_nil ?_ | refine wM ?_ | refine wE ?_ | refine wT ?_ | refine we_skip ?_ | refine we_block ?_)
    refine we_draw [0,1,2,3,4,5,6,7,8] (by kernel_rfl) ?_
    repeat (first | (apply ap_pure;exact rfl;exact rfl;exact trivial;intro L;apply mo_indexAddr (r:=o1+i);exact rfl;exact rfl;omega;omega;omega) | (apply ap_pure;exact rfl;exact rfl;exact trivial;intro L;apply mo_indexAddr (r:=o2+i);exact rfl;exact rfl;omega;omega;omega) | (apply ap_read;exact rfl;exact rfl;exact trivial;apply mo_load;exact rfl;exact r1) | (apply ap_read;exact rfl;exact rfl;exact trivial;apply mo_load;exact rfl;exact r2) | (apply ap_pure;exact rfl;exact rfl;exact trivial;intro L;apply mo_bin;exact rfl;exact rfl;apply bin_neqF;omega) | refine aM ?_ | refine ap_end ?_)
    repeat (first | (refine wR ?_;try simp only [oS]) | refine wo_nil ?_ | refine wM ?_ | refine wA ?_ | refine wadd ?_ | refine wF ?_ | refine we_skip ?_)
    refine at_round (I:=sameInv x L _ _ n c c' l l') (R:=fun i'=>n-i'<n-i) (i+1) (by omega) ⟨by omega,?_⟩ ⟨rfl,rfl,rfl,trivial⟩ .refl rfl
    rw [List.take_add_one,List.take_add_one,ht,hv,hv',he]
   ·have he':¬ (v:Int)=v':=by omega
    repeat (first | refine wlssT ?_ | refine we_seq ?_ | (refine wR ?_;try simp only [oS]) | refine wo_nil ?_ | refine wM ?_ | refine wE ?_ | refine wT ?_ | refine we_skip ?_ | refine we_block ?_)
    refine we_draw [0,1,2,3,4,5,6,7,8] (by kernel_rfl) ?_
    repeat (first | (apply ap_pure;exact rfl;exact rfl;exact trivial;intro L;apply mo_indexAddr (r:=o1+i);exact rfl;exact rfl;omega;omega;omega) | (apply ap_pure;exact rfl;exact rfl;exact trivial;intro L;apply mo_indexAddr (r:=o2+i);exact rfl;exact rfl;omega;omega;omega) | (apply ap_read;exact rfl;exact rfl;exact trivial;apply mo_load;exact rfl;exact r1) | (apply ap_read;exact rfl;exact rfl;exact trivial;apply mo_load;exact rfl;exact r2) | (apply ap_pure;exact rfl;exact rfl;exact trivial;intro L;apply mo_bin;exact rfl;exact rfl;apply bin_neqT;omega) | refine aM ?_ | refine ap_end ?_)
    repeat (first | refine we_seq ?_ | (refine wR ?_;try simp only [oS]) | refine wo_nil ?_ | refine wA ?_ | refine wT ?_ | refine we_ret ?_)
    (first | refine or1 Try.func22 Try.results22 hQ rfl ?_ | refine on1 Try.func22 Try.results22 hQ rfl ?_)
    have:l≠l':=fun h=>he (by rw [h,hv'] at hv;cases hv;rfl)
    exact ⟨by rw [decide_eq_false this],rfl,rfl⟩
  ·repeat (first | refine wlssF ?_ | refine we_seq ?_ | (refine wR ?_;try simp only [oS]) | refine wo_nil ?_ | refine wM ?_ | refine wA ?_ | refine wE ?_ | refine wF ?_ | refine we_ret ?_ | refine we_exit ?_)
   (first | refine or1 Try.func22 Try.results22 hQ rfl ?_ | refine on1 Try.func22 Try.results22 hQ rfl ?_)
   have:l=l':=by
    rw [List.take_of_length_le (by omega),List.take_of_length_le (by omega)] at ht
    exact ht
   exact ⟨by rw [decide_eq_true this],rfl,rfl⟩
 ·have hne:¬ (n:Int)=n':=by omega
  refine tr_of_body Try.func22 rfl Try.ntmps22 (by simp) fun um Q _ hQ=>?_
  simp only [argE,Nat.zero_add,Nat.reduceAdd]
  repeat (first | refine wneqT ?_ | refine we_seq ?_ | (refine wR ?_;try simp only [oS]) | refine wo_nil ?_ | refine wM ?_ | refine wA ?_ | refine wE ?_ | refine wT ?_ | refine we_ret ?_)
  (first | refine or1 Try.func22 Try.results22 hQ rfl ?_ | refine on1 Try.func22 Try.results22 hQ rfl ?_)
  have:l≠l':=fun h=>hlen (by rw [hn,hn',h])
  exact ⟨by rw [decide_eq_false this],rfl,rfl⟩
end
end Go.Proofs.Ytodgemainhokjaa
