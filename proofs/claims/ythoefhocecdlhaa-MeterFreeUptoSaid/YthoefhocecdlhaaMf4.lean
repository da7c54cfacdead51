/-
  Part 4 of 6.
-/
import Derived.Test.YthoefhocecdlhaaMf2
import Derived.Test.YthoefhocecdlhaaMf3
import Derived.Lib.Mul64
import Derived.Laws.Externs
set_option linter.unusedVariables false
set_option linter.unusedSimpArgs false
namespace Go.PB.Mach
section
structure In where
 op:Nat
 on:Nat:=0
 a:Nat:=0
 b:Nat:=0
 c:Nat:=0
 d:Nat:=0
 n:Nat:=0
structure Cl where
 code:List In
 data:List Nat:=[]
structure Wd where
 words:List (List Nat)
 nl:Nat
structure Th where
 calls:List Cl
 call:Nat:=0
 pc:Nat:=0
 r:Nat→Nat:=fun _=>0
 ans:List (Bool × List Nat):=[]
 over:Bool:=false
def fin:In:={ op:=23 }
def Th.cl (t:Th):Cl:=t.calls.getD t.call { code:=[] }
def Th.next (t:Th):In:=t.cl.code.getD t.pc fin
def Th.put (t:Th) (i v:Nat):Th:={ t with r:=upd t.r i (v%18446744073709551616) }
def Th.tell (t:Th) (v:Nat):Th:={ t with ans:=t.ans.modify t.call fun y=>(y.1,y.2++[v]) }
structure Wd.ok (w:Wd):Prop where
 n:w.words.length<1000000
 nl:w.nl<1000000
 len:∀ l∈w.words,l.length<1000000
 lt:∀ l∈w.words,∀ v∈l,v<18446744073709551616
def own (t0:Th) (x:In):Th :=
 let t:={ t0 with pc:=t0.pc+1 }
 match x.op with
 | 6=>t.put x.a x.n
 | 7=>t.put x.a (t.r x.b)
 | 8=>t.put x.a (t.r x.b+t.r x.c+x.n)
 | 9=>t.put x.a (t.r x.b+18446744073709551616-t.r x.c)
 | 10=>t.put x.a (t.r x.b*t.r x.c)
 | 11=>t.put x.a (if t.r x.c=0 then 0 else t.r x.b/t.r x.c)
 | 12=>t.put x.a (t.r x.b &&& t.r x.c)
 | 13=>t.put x.a (t.r x.b ||| t.r x.c)
 | 14=>t.put x.a (t.r x.b*2^x.n)
 | 15=>t.put x.a (t.r x.b/2^x.n)
 | 16=>t.put x.a (max (t.r x.b) (t.r x.c))
 | 17=>t.put x.a (t.cl.data.getD ((t.r x.b+x.n)%18446744073709551616) 0)
 | 18=>{ t with pc:=x.n }
 | 19=>if t.r x.a=t.r x.b then { t with pc:=x.n } else t
 | 20=>if t.r x.a<t.r x.b then { t with pc:=x.n } else t
 | 21=>if 9223372036854775808≤t.r x.a then { t with pc:=x.n } else t
 | 22=>t.tell (t.r x.a)
 | _=>t
def told (op:Nat):Bool:=1≤op&&op≤5
def Th.begun (t:Th):Th:=if t.ans.length=t.call then { t with ans:=t.ans++[(false,[])] } else t
def Th.done (t:Th):Th:={ t with ans:=t.ans.modify t.call fun y=>(true,y.2),call:=t.call+1,pc:=0,r:=fun _=>0 }
def onF:Nat→Th→Option Th
 | 0,_=>none
 | f+1,t =>
  if t.over=true then some t
  else if t.calls.length≤t.call then some { t with over:=true }
  else if told t.begun.next.op=true then some t.begun
  else if t.begun.next.op=23 then onF f t.begun.done
  else onF f (own t.begun t.begun.next)
def Th.place (t:Th):Nat:=(t.r t.next.b+t.next.n)%18446744073709551616
def op1 (x:In) (l:List Nat) (p:Nat) (r:Nat→Nat):List Nat × (Nat→Nat) :=
 let v:=l.getD p 0
 match x.op with
 | 1=>(l,upd r x.a v)
 | 2=>(l.set p (r x.a),r)
 | 3=>(l.set p ((v+r x.c)%18446744073709551616),upd r x.a ((v+r x.c)%18446744073709551616))
 | 4=>(l.set p (r x.c),upd r x.a v)
 | _=>if v=r x.c then (l.set p (r x.d),upd r x.a 1) else (l,upd r x.a 0)
def Wd.row (w:Wd) (on:Nat):List Nat:=w.words.getD on []
def opF (f:Nat) (w:Wd) (t:Th):Option (Wd × Th) :=
 if t.place<(w.row t.next.on).length then
  let y:=op1 t.next (w.row t.next.on) t.place t.r
  (onF f { t with pc:=t.pc+1,r:=y.2 }).map fun t'=>({ w with words:=w.words.set t.next.on y.1 },t')
 else none
def Th.mark (t:Th):Nat × Nat:=(t.next.op,t.place)
structure St where
 w:Wd
 l:List Th
 tr:List (Nat × Nat × Nat):=[]
def turn (f:Nat) (s:St) (k:Nat):Option St :=
 match s.l[k]? with
 | some t=>(opF f s.w t).map fun y=>⟨y.1,s.l.set k y.2,s.tr++[(k,t.mark)]⟩
 | none=>some s
def may (s:St) (k:Nat):Bool:=s.tr.length<16384&&(match s.l[k]? with | some t=>!t.over | none=>false)
def byOrder (f:Nat):St→List (Option Nat)→Option St
 | s,[]=>some s
 | s,none::o=>byOrder f s o
 | s,some k::o=>if may s k=true then (turn f s k).bind fun s=>byOrder f s o else byOrder f s o
def round (f:Nat):Nat→Nat→St→Bool→Option (St × Bool)
 | 0,_,s,q=>some (s,q)
 | m+1,k,s,q=>if may s k=true then (turn f s k).bind fun s=>round f m (k+1) s true else round f m (k+1) s q
def rounds (f:Nat):Nat→St→Option St
 | 0,_=>none
 | g+1,s=>(round f s.l.length 0 s false).bind fun y=>if y.2=true then rounds f g y.1 else some y.1
def begin_ (f:Nat):List Th→Option (List Th)
 | []=>some []
 | t::l=>(onF f t).bind fun t=>(begin_ f l).map fun l=>t::l
def play (f g:Nat) (w:Wd) (o:List (Option Nat)) (l:List (List Cl)):Option St :=
 (begin_ f (l.map fun c=>{ calls:=c })).bind fun l=>(byOrder f ⟨w,l,[]⟩ o).bind fun s=>rounds f g s
def In.ok (x:In):Bool:=1≤x.op&&x.op≤23&&x.a<24&&x.b<24&&x.c<24&&x.d<24&&x.on<1000&&x.n<18446744073709551616&&(!(18≤x.op&&x.op≤21)||x.n<1000000)&&(!(x.op=17)||!(x.a=x.b))&&(!(x.op=14||x.op=15)||x.n<64)
def Cl.ok (c:Cl):Bool:=c.code.all In.ok&&c.data.all (fun v=>v<18446744073709551616)&&c.code.length<1000000&&c.data.length<1000000
end
end Go.PB.Mach
namespace Go.Proofs.Ythoefhocecdlhaa
open Go Go.PB
section
structure Wds where
 W:(Nat→Nat)→Mach.Wd
 un:Mach.Wd→(Nat→Nat)
 ok:(Nat→Nat)→Prop
 fu:Nat
 back:∀ f,W (un (W f))=W f
 okun:∀ f,ok f→ok (un (W f))
def mF (D:Wds) (q:Nat × Mach.Th) (f:Nat→Nat):(Nat→Nat) × (Nat × Mach.Th) :=
 match Mach.opF D.fu (D.W f) q.2 with
 | some y=>(D.un y.1,(q.1,y.2))
 | none=>(f,(q.1,{ q.2 with over:=true }))
def mkII (m:Nat × Nat):Int × Int:=(((m.1:Nat):Int),((m.2:Nat):Int))
def mPlan (D:Wds) (q:Nat × Mach.Th):Option ((Int × Int) × ((Nat→Nat)→(Nat→Nat) × (Nat × Mach.Th))) :=
 if q.2.over=true then none else some (mkII q.2.mark,mF D q)
def mG (D:Wds) (U:(Nat→Nat)→HProp) (Pv:Nat × Mach.Th→HProp):Game where
 σ:=Nat→Nat
 θ:=Nat × Mach.Th
 U:=U
 plan:=mPlan D
 ok:=D.ok
 Pv:=Pv
 Fin:=Pv
def GoodN (D:Wds):Nat→Mach.Th→Prop
 | 0,_=>True
 | n+1,t=>t.over=true∨t.over=false∧∀ f,D.ok f→∃ f' t',Mach.opF D.fu (D.W f) t=some (D.W f',t')∧D.ok f'∧GoodN D n t'
def GoodT (D:Wds) (t:Mach.Th):Prop:=∀ n,GoodN D n t
theorem GoodT.over {D:Wds} {t:Mach.Th} (h:t.over=true):GoodT D t
 | 0=>trivial
 | _+1=>.inl h
theorem GoodT.mk {D:Wds} {t:Mach.Th} (ho:t.over=false) (h:∀ f,D.ok f→∃ f' t',Mach.opF D.fu (D.W f) t=some (D.W f',t')∧D.ok f'∧GoodT D t'):GoodT D t
 | 0=>trivial
 | n+1=>.inr ⟨ho,fun f hf=>by
  obtain ⟨f',t',h1,h2,h3⟩:=h f hf
  exact ⟨f',t',h1,h2,h3 n⟩⟩
theorem GoodT.on {D:Wds} {t:Mach.Th} (g:GoodT D t) (ho:t.over=false):∀ f,D.ok f→∃ f' t',Mach.opF D.fu (D.W f) t=some (D.W f',t')∧D.ok f'∧GoodT D t':=by
 have at_:∀ n f,D.ok f→∃ f' t',Mach.opF D.fu (D.W f) t=some (D.W f',t')∧D.ok f'∧GoodN D n t':=fun n f hf=>by
  rcases g (n+1) with h | ⟨_,h⟩
  ·rw [h] at ho;cases ho
  ·exact h f hf
 intro f hf
 obtain ⟨f',t',h1,h2,_⟩:=at_ 0 f hf
 refine ⟨f',t',h1,h2,fun n=>?_⟩
 obtain ⟨g',u',e1,_,e3⟩:=at_ n f hf
 rw [h1] at e1
 simp only [Option.some.injEq,Prod.mk.injEq] at e1
 rw [e1.2]
 exact e3
section
variable {D:Wds} {U:(Nat→Nat)→HProp} {Pv:Nat × Mach.Th→HProp}
structure Rel (p:PS (mG D U Pv)) (st:Mach.St):Prop where
 w:st.w=D.W p.s
 len:p.qs.length=st.l.length
 qs:∀ k:Nat,p.qs[k]?=(st.l[k]?).map fun t=>(k,t)
 tr:p.tr=st.tr.map fun e=>(e.1,mkII e.2)
 le:st.tr.length≤16384
 good:∀ t∈st.l,GoodT D t
 ok:D.ok p.s
structure Begins (D:Wds) (U:(Nat→Nat)→HProp) (Pv:Nat × Mach.Th→HProp) (k0:Nat) (ts:List (Thr (mG D U Pv))) (cc:List (List Mach.Cl)):Prop where
 len:ts.length=cc.length
 ini:∀ (k:Nat) t c,ts[k]?=some t→cc[k]?=some c→∃ u,Mach.onF D.fu { calls:=c }=some u∧GoodT D u∧∀ s:(mG D U Pv).σ,t.ini s=(s,((k0+k,u):Nat × Mach.Th))
end
end
end Go.Proofs.Ythoefhocecdlhaa
namespace Go.Proofs.Ythoefhocecdlhaa
open Go Go.PB
attribute [local irreducible] Mo Bin Eql Tr Wo
section
structure Acc (B:Hand) (gv:Value) where
 S:Type
 C:S→HProp
 x:S→B.X
 step:Int→Nat→S→(S→Prop)→Prop
 addr:Nat→Nat × Nat
 load:Nat→S→(Nat→S→Prop)→Prop
 store:Nat→Nat→S→(S→Prop)→Prop
 cas:Nat→Nat→Nat→S→(Bool→S→Prop)→Prop
 add:Nat→Nat→S→(Nat→S→Prop)→Prop
 swap:Nat→Nat→S→(Nat→S→Prop)→Prop
 gate:(gv=.nilIface∧∀ op w s R,step op w s R→R s) ∨
  ∃ t p f,gv=.iface t p∧Met Try.prog t "Step" f∧Ent' Try.prog f∧∀ op w s R L F,step op w s R→Has L (C s) F →
   Tr Try.prog B f [p,.agg #[.int .u8 op,.int .i64 (w:Nat)]] L (x s) fun v L' x'=>∃ s',R s'∧v=.tuple #[]∧L'=C s'::F∧x'=x s'
 load_ok:∀ w s R L F b o,addr w=(b,o)→load w s R→Has L (C s) F→Tr Try.prog B 38 [.pointer (some ⟨b,o,none⟩)] L (x s) fun v L' x'=>∃ n s',n<18446744073709551616∧R n s'∧v=.int .u64 (n:Nat)∧L'=C s'::F∧x'=x s'
 store_ok:∀ w n s R L F b o,addr w=(b,o)→n<18446744073709551616→store w n s R→Has L (C s) F→Tr Try.prog B 83 [.pointer (some ⟨b,o,none⟩),.int .u64 (n:Nat)] L (x s) fun v L' x'=>∃ s',R s'∧v=.tuple #[]∧L'=C s'::F∧x'=x s'
 cas_ok:∀ w m n s R L F b o,addr w=(b,o)→n<18446744073709551616→cas w m n s R→Has L (C s) F→Tr Try.prog B 40 [.pointer (some ⟨b,o,none⟩),.int .u64 (m:Nat),.int .u64 (n:Nat)] L (x s) fun v L' x'=>∃ q s',R q s'∧v=.bool q∧L'=C s'::F∧x'=x s'
 add_ok:∀ w n s R L F b o,addr w=(b,o)→n<18446744073709551616→add w n s R→Has L (C s) F→Tr Try.prog B 81 [.pointer (some ⟨b,o,none⟩),.int .u64 (n:Nat)] L (x s) fun v L' x'=>∃ m s',m<18446744073709551616∧R m s'∧v=.int .u64 (m:Nat)∧L'=C s'::F∧x'=x s'
section
variable {B:Hand} [Lets B] {L F L1:List HProp}
theorem load_lone {b o:Nat} {n:Int} {x:B.X} (hr:Rd L b o (.int .u64 n)):Tr Try.prog B 38 [.pointer (some ⟨b,o,none⟩)] L x fun v L' x'=>v=.int .u64 n∧L'=L∧x'=x:=by
 refine tr_of_body Try.func38 rfl Try.ntmps38 (by simp) fun um Q _ hQ=>?_
 simp only [argE,Nat.zero_add,Nat.reduceAdd]
 repeat (first | (apply wo_po;apply mo_ext (args:=[_]);exact .cons rfl .nil;exact at_loadI hr;exact trivial) | refine we_seq ?_ | (refine wR ?_;try simp only [oS]) | refine wo_nil ?_ | refine wM ?_ | refine wA ?_ | refine wN ?_ | refine wD ?_ | refine we_ret ?_)
 (first | refine or1 Try.func38 Try.results38 hQ rfl ?_ | refine on1 Try.func38 Try.results38 hQ rfl ?_)
 exact ⟨rfl,rfl,rfl⟩
theorem store_lone {b o:Nat} {n:Int} {x:B.X} (hw:Wt L b o (.int .u64 n) L1):Tr Try.prog B 83 [.pointer (some ⟨b,o,none⟩),.int .u64 n] L x fun v L' x'=>v=.tuple #[]∧L'=L1∧x'=x:=by
 refine tr_of_body Try.func83 rfl Try.ntmps83 (by simp) fun um Q _ hQ=>?_
 simp only [argE,Nat.zero_add,Nat.reduceAdd]
 repeat (first | (apply wo_pm;apply mo_ext (args:=[_,_]);exact .cons rfl (.cons rfl .nil);exact at_storeI rfl hw;exact trivial) | (refine wR ?_;try simp only [oS]) | refine wo_nil ?_ | refine wM ?_ | refine wN ?_ | refine wD ?_)
 (first | refine or0 Try.func83 Try.results83 hQ ?_ | refine on0 Try.func83 Try.results83 hQ ?_)
 exact ⟨rfl,rfl,rfl⟩
theorem cas_lone {b o:Nat} {n m y:Int} {x:B.X} (hr:Rd L b o (.int .u64 n)) (hw:Wt L b o (.int .u64 y) L1):Tr Try.prog B 40 [.pointer (some ⟨b,o,none⟩),.int .u64 m,.int .u64 y] L x fun v L' x'=>v=.bool (decide (n=m))∧L'=(if n=m then L1 else L)∧x'=x:=by
 refine tr_of_body Try.func40 rfl Try.ntmps40 (by simp) fun um Q _ hQ=>?_
 simp only [argE,Nat.zero_add,Nat.reduceAdd]
 repeat (first | (apply wo_pm;apply mo_ext (args:=[_,_,_]);exact .cons rfl (.cons rfl (.cons rfl .nil));exact at_casI hr hw;exact trivial) | refine we_seq ?_ | (refine wR ?_;try simp only [oS]) | refine wo_nil ?_ | refine wM ?_ | refine wA ?_ | refine wN ?_ | refine wD ?_ | refine we_ret ?_)
 (first | refine or1 Try.func40 Try.results40 hQ rfl ?_ | refine on1 Try.func40 Try.results40 hQ rfl ?_)
 exact ⟨rfl,rfl,rfl⟩
theorem add_lone {b o:Nat} {n y r:Int} {x:B.X} (hr:Rd L b o (.int .u64 n)) (hn:IntKind.u64.wrap (n+y)=r) (hw:Wt L b o (.int .u64 r) L1):Tr Try.prog B 81 [.pointer (some ⟨b,o,none⟩),.int .u64 y] L x fun v L' x'=>v=.int .u64 r∧L'=L1∧x'=x:=by
 refine tr_of_body Try.func81 rfl Try.ntmps81 (by simp) fun um Q _ hQ=>?_
 simp only [argE,Nat.zero_add,Nat.reduceAdd]
 repeat (first | (apply wo_pm;apply mo_ext (args:=[_,_]);exact .cons rfl (.cons rfl .nil);exact at_addI hr hn hw;exact trivial) | refine we_seq ?_ | (refine wR ?_;try simp only [oS]) | refine wo_nil ?_ | refine wM ?_ | refine wA ?_ | refine wN ?_ | refine wD ?_ | refine we_ret ?_)
 (first | refine or1 Try.func81 Try.results81 hQ rfl ?_ | refine on1 Try.func81 Try.results81 hQ rfl ?_)
 exact ⟨rfl,rfl,rfl⟩
end
end
section
variable {B:Hand} [Lets B]
def loneAcc (x:B.X) (addr:Nat→Nat × Nat) (N:Nat) (K:List (Nat × Nat × Value)) (A:Apart addr N K):Acc B .nilIface where
 S:=Nat→Nat
 C:=wds addr N K
 x:=fun _=>x
 step:=fun _ _ s R=>R s
 addr:=addr
 load:=fun w s R=>w<N∧R (s w) s
 store:=fun w n s R=>w<N∧R (upd s w n)
 cas:=fun w a n s R=>w<N∧if s w=a then R true (upd s w n) else R false s
 add:=fun w n s R=>w<N∧R ((s w+n)%18446744073709551616) (upd s w ((s w+n)%18446744073709551616))
 swap:=fun w n s R=>w<N∧R (s w) (upd s w n)
 gate:=.inl ⟨rfl,fun _ _ _ _ h=>h⟩
 load_ok:=fun w s R L F b o ha hl hh=>tr_pure (of_has hh fun h hc=>(hc.1 w hl.1).1) fun hs =>
  (load_lone (rd_wds hh hl.1 ha)).post fun v L' x' ⟨h1,h2,h3⟩=>⟨_,⟨s w,s,hs,hl.2,h1,rfl,h3⟩,fun h st=>hh.star (h2▸st)⟩
 store_ok:=fun w n s R L F b o ha hn hl hh =>
  (store_lone (wt_wds A hh hl.1 ha hn)).mono fun v L' x' ⟨h1,h2,h3⟩=>⟨upd s w n,hl.2,h1,h2,h3⟩
 cas_ok:=fun w m n s R L F b o ha hn hl hh =>
  (cas_lone (rd_wds hh hl.1 ha) (wt_wds A hh hl.1 ha hn)).post fun v L' x' ⟨h1,h2,h3⟩=>by
   obtain ⟨h4,h5⟩:=hl
   by_cases e:s w=m
   ·rw [if_pos e] at h5;rw [if_pos (by omega)] at h2;exact ⟨_,⟨true,_,h5,by rw [h1];simp [e],rfl,h3⟩,fun h st=>h2▸st⟩
   ·rw [if_neg e] at h5;rw [if_neg (by omega)] at h2;exact ⟨_,⟨false,_,h5,by rw [h1];simp;omega,rfl,h3⟩,fun h st=>hh.star (h2▸st)⟩
 add_ok:=fun w n s R L F b o ha hn hl hh =>
  (add_lone (r:=((s w+n)%18446744073709551616:Nat)) (rd_wds hh hl.1 ha) (by rw [wrap_u64_mod];omega) (wt_wds A hh hl.1 ha (Nat.mod_lt _ (by decide)))).mono fun v L' x' ⟨h1,h2,h3⟩=>⟨_,_,Nat.mod_lt _ (by decide),hl.2,h1,h2,h3⟩
end
end Go.Proofs.Ythoefhocecdlhaa
namespace Go.Proofs.Ythoefhocecdlhaa
open Go Go.PB
attribute [local irreducible] Mo Bin Eql Tr Wo Ap Wle
section
theorem wds_congr {addr:Nat→Nat × Nat} {N:Nat} {K:List (Nat × Nat × Value)} {f f':Nat→Nat} (e:∀ i,i<N→f i=f' i):∀ h,wds addr N K f h→wds addr N K f' h:=fun h s =>
 ⟨fun w hw=>by rw [← e w hw];exact s.1 w hw,s.2⟩
structure WGm where
 σ:Type
 θ:Type
 ζ:Type
 wf:σ→Nat→Nat
 zf:σ→ζ
 Z:ζ→HProp
 plan:θ→Option ((Int × Int) × (σ→σ × θ))
 ok:σ→Prop
 Pv:θ→HProp
 up:∀ q h,Star [Pv q] h→Pv q h
def WGm.g (G:WGm) (addr:Nat→Nat × Nat) (N:Nat) (K:List (Nat × Nat × Value)):Game where
 σ:=G.σ
 θ:=G.θ
 U:=fun s=>all [wds addr N K (G.wf s),G.Z (G.zf s)]
 plan:=G.plan
 ok:=G.ok
 Pv:=G.Pv
 Fin:=G.Pv
theorem sum_step {α:Type} {φ0 φ1:α→Nat} (h:∀ a,φ1 a≤φ0 a):∀ {l:List α} {k:Nat} {q q':α},l[k]?=some q→φ1 q'+1≤φ0 q→sumN ((l.set k q').map φ1)+1≤sumN (l.map φ0)
 | [],_,_,_,hq,_=>by simp at hq
 | a::l,0,q,q',hq,hl=>by
  simp at hq;subst hq
  have hle:∀ l:List α,sumN (l.map φ1)≤sumN (l.map φ0):=by
   intro l
   induction l with
   | nil=>simp [sumN]
   | cons b l ih=>have:=h b;simp only [List.map_cons,sumN,List.foldr_cons] at ih ⊢;omega
  have:=hle l
  simp only [List.set_cons_zero,List.map_cons,sumN,List.foldr_cons] at this ⊢;omega
 | a::l,k+1,q,q',hq,hl=>by
  have h1:=sum_step h (l:=l) (k:=k) (q:=q) (q':=q') (by simpa using hq) hl
  have h2:=h a
  simp only [List.set_cons_succ,List.map_cons,sumN,List.foldr_cons] at h1 ⊢;omega
theorem sum_set {α:Type} {φ:α→Nat} {l:List α} {k:Nat} {q q':α} (hq:l[k]?=some q):sumN ((l.set k q').map φ)+φ q=sumN (l.map φ)+φ q':=by
 rw [List.map_set]
 exact sumN_set (by rw [List.getElem?_map,hq];rfl)
end
section
structure PlS where
 f:Nat→Nat
 g:Nat→Nat
 t:Mach.Th
 n:Nat
section
variable {D:Wds} {addr:Nat→Nat × Nat} {N:Nat} {K:List (Nat × Nat × Value)} {Z:HProp} {Pv:Nat × Mach.Th→HProp} {sb says turn fin wg:Nat}
end
end
section
structure GaS (G:WGm) where
 f:Nat→Nat
 c:G.ζ
 s:G.σ
 q:G.θ
 n:Nat
section
variable {G:WGm} {addr:Nat→Nat × Nat} {N:Nat} {K:List (Nat × Nat × Value)} {sb says turn fin wg:Nat}
end
section
variable {g:Game}
end
end
section
theorem mulw {u v w:Nat} (h:u*v=w) (hw:w<18446744073709551616):IntKind.u64.wrap ((u:Int)*(v:Int))=(w:Int):=by
 rw [← Int.natCast_mul,h];exact wrap_u64 (by omega) (by omega)
theorem addw {u v w:Nat} (h:u+v=w) (hw:w<18446744073709551616):IntKind.u64.wrap ((u:Int)+(v:Int))=(w:Int):=by
 rw [← Int.natCast_add,h];exact wrap_u64 (by omega) (by omega)
theorem subw {u v w:Nat} (h:v+w=u) (hw:u<18446744073709551616):IntKind.u64.wrap ((u:Int)-(v:Int))=(w:Int):=by
 rw [show (u:Int)-(v:Int)=(w:Int) by omega];exact wrap_u64 (by omega) (by omega)
theorem mulm {u v:Nat}:IntKind.u64.wrap ((u:Int)*(v:Int))=((u*v%18446744073709551616:Nat):Int):=by
 rw [← Int.natCast_mul,wrap_u64_mod];generalize u*v=m;omega
theorem lowm {u:Nat} (h:u<18446744073709551616):IntKind.u64.wrap (BitVec.ofInt IntKind.u64.bits (u:Int) &&& BitVec.ofInt IntKind.u64.bits (4294967295:Int)).toNat=((u%4294967296:Nat):Int):=by
 rw [show (4294967295:Int)=((4294967295:Nat):Int) from rfl,and_u64' h (by omega),show u &&& 4294967295=u%4294967296 from Nat.and_two_pow_sub_one_eq_mod u 32];omega
theorem highm {u:Nat} (h:u<18446744073709551616):(u:Int).fdiv (2^(min (32:Int).toNat IntKind.u64.bits))=((u/4294967296:Nat):Int):=by
 have:=u64_shr (a:=u) (n:=32) (by omega) h
 rw [show ((32:Nat):Int)=32 from rfl] at this
 rw [this];omega
section
variable {B:Hand} [Lets B] {L F:List HProp} {x:B.X} {a b:Nat}
set_option maxHeartbeats 2000000 in
theorem mul64_tr (ha:a<18446744073709551616) (hb:b<18446744073709551616):Tr Try.prog B 97 [.int .u64 (a:Nat),.int .u64 (b:Nat)] L x fun v L' x'=>v=.tuple #[.int .u64 (a*b/18446744073709551616:Nat),.int .u64 (a*b%18446744073709551616:Nat)]∧L'=L∧x'=x:=by
 obtain ⟨k1,k2,k3,k4⟩:=Go.Lib.mul64_hi a b ha hb
 have e1:=lowm ha
 have e2:=lowm hb
 have e3:=highm ha
 have e4:=highm hb
 have hab:a*b/18446744073709551616<18446744073709551616:=Nat.div_lt_of_lt_mul (Nat.mul_lt_mul'' ha hb)
 have e5:=mulm (u:=a) (v:=b)
 generalize a*b/18446744073709551616=hi at *
 generalize a*b%18446744073709551616=lo at *
 generalize a%4294967296=x0 at *
 generalize a/4294967296=x1 at *
 generalize b%4294967296=y0 at *
 generalize b/4294967296=y1 at *
 have m1:IntKind.u64.wrap ((x0:Int)*(y0:Int))=((x0*y0:Nat):Int):=mulw rfl (by omega)
 have m2:IntKind.u64.wrap ((x1:Int)*(y0:Int))=((x1*y0:Nat):Int):=mulw rfl (by omega)
 have m3:IntKind.u64.wrap ((x0:Int)*(y1:Int))=((x0*y1:Nat):Int):=mulw rfl (by omega)
 have m4:IntKind.u64.wrap ((x1:Int)*(y1:Int))=((x1*y1:Nat):Int):=mulw rfl (by omega)
 generalize x0*y0=p00 at *
 generalize x1*y0=p10 at *
 generalize x0*y1=p01 at *
 generalize x1*y1=p11 at *
 have h1:=highm (u:=p00) (by omega)
 have s1:IntKind.u64.wrap ((p10:Int)+((p00/4294967296:Nat):Int))=((p10+p00/4294967296:Nat):Int):=addw rfl (by omega)
 generalize p00/4294967296=c00 at *
 generalize p10+c00=t at *
 have h2:=highm (u:=t) (by omega)
 have l2:=lowm (u:=t) (by omega)
 generalize t/4294967296=w2 at *
 generalize t%4294967296=w1 at *
 have s2:IntKind.u64.wrap ((w1:Int)+(p01:Int))=((w1+p01:Nat):Int):=addw rfl (by omega)
 have s3:IntKind.u64.wrap ((p11:Int)+(w2:Int))=((p11+w2:Nat):Int):=addw rfl (by omega)
 generalize w1+p01=w1' at *
 generalize p11+w2=q at *
 have h3:=highm (u:=w1') (by omega)
 have s4:IntKind.u64.wrap ((q:Int)+((w1'/4294967296:Nat):Int))=(hi:Int):=addw k4 hab
 refine tr_of_body Try.func97 rfl Try.ntmps97 (by simp) fun um Q _ hQ=>?_
 simp only [argE,Nat.zero_add,Nat.reduceAdd]
 repeat (first | (apply wo_po;apply mo_bin;exact rfl;exact rfl;apply bin_and;(first | exact e1 | exact e2 | exact l2);exact gY) | (apply wo_po;apply mo_bin;exact rfl;exact rfl;apply bin_shr;omega;(first | exact e3 | exact e4 | exact h1 | exact h2 | exact h3);exact gY) | (apply wo_po;apply mo_bin;exact rfl;exact rfl;apply bin_mul;(first | exact m1 | exact m2 | exact m3 | exact m4 | exact e5);exact gY) | (apply wo_po;apply mo_bin;exact rfl;exact rfl;apply bin_add;(first | exact s1 | exact s2 | exact s3 | exact s4);exact gY) | refine we_seq ?_ | (refine wR ?_;try simp only [oS]) | refine wo_nil ?_ | refine wM ?_ | refine wA ?_ | refine we_ret ?_)
 (first | refine or2 Try.func97 Try.results97 hQ rfl rfl ?_ | refine on2 Try.func97 Try.results97 hQ rfl rfl ?_)
 exact ⟨rfl,rfl,rfl⟩
end
instance:Exn Try.prog 98 add64Entry:=⟨⟨Try.f98,Try.func98,by kernel_rfl,by kernel_rfl,by kernel_rfl,by kernel_rfl⟩⟩
theorem at_add64 {P:Program} {L:List HProp} {a b:Nat}:∀ (M:Mark→Prop) h (Q:Value→Hp→Prop) X,Star L h→(∀ v L' h',(v=.tuple #[.int .u64 ((a+b)%18446744073709551616:Nat),.int .u64 ((a+b)/18446744073709551616:Nat)]∧L'=L)→Star L' h'→Q v h')→wpS P M (add64Entry [.int .u64 (a:Nat),.int .u64 (b:Nat),.int .u64 0].toArray) h Q X:=by
 intro M h Q X s q
 exact q _ L h ⟨rfl,rfl⟩ s
end
section
def takeN (num den burst s now n:Nat):Option Nat :=
 if burst*den<n*den+(max s (now*num)-now*num) then none else some ((max s (now*num)+n*den)%18446744073709551616)
def takeR (s:Nat):Option Nat→Value
 | none=>.tuple #[.int .u64 (s:Nat),.bool false,.int .i64 0]
 | some t=>.tuple #[.int .u64 (t:Nat),.bool true,.int .i64 0]
structure BOk (num den burst:Nat):Prop where
 n1:1≤num
 n2:num≤65536
 d1:1≤den
 d2:den≤65536
 b1:1≤burst
 b2:burst≤1048576
section
variable {B:Hand} [Lets B] {L F:List HProp} {x:B.X} {num den burst now n s h1 l1 h2 l2 b wb:Nat}
theorem mo_maxN {P:Program} {e:Env} {ty:TypeId} {o o':Operand} {tys:Array TypeId} {k:IntKind} {a b c:Nat} (hx:ev e o=some (.int k a)) (hy:ev e o'=some (.int k b)) (h:max a b=c):Mo P e (.call ⟨.builtin .max,#[o,o'],tys⟩) ty L fun v' L'=>v'=.int k c∧L'=L:=by
 have:=mo_max (P:=P) (ty:=ty) (L:=L) (tys:=tys) hx hy
 rw [show max (a:Int) (b:Int)=(c:Int) by omega] at this
 exact this
theorem check_ok (O:BOk num den burst):Tr Try.prog B 43 [.agg #[.int .u64 (num:Nat),.int .u64 (den:Nat),.int .u64 (burst:Nat)]] L x fun v L' x'=>v=.int .i64 0∧L'=L∧x'=x:=by
 obtain ⟨n1,n2,d1,d2,b1,b2⟩:=O
 refine Tr.post (R:=fun v L' x'=>v=.int .i64 0∧x'=x∧∀ h,Star L' h→Star L h) ?_ (by rintro v L' x' ⟨h0,rfl,hs⟩;exact ⟨L,⟨h0,rfl,rfl⟩,hs⟩)
 refine tr_of_body Try.func43 rfl Try.ntmps43 (by simp) fun um Q _ hQ=>?_
 simp only [argE,Nat.zero_add,Nat.reduceAdd]
 repeat (first | (apply wo_mo;apply mo_box;exact rfl;exact trivial) | refine we_seq ?_ | (refine wR ?_;try simp only [oS]))
 rintro v' L' ⟨bb,rfl,rfl⟩
 refine wo_ent (arr bb 0 [.int .u64 (num:Nat),.int .u64 (den:Nat),.int .u64 (burst:Nat)]::L) .refl ?_
 repeat (first | refine wlssF ?_ | refine wgtrF ?_ | refine we_seq ?_ | (refine wR ?_;try simp only [oS]) | refine wo_nil ?_ | refine wM ?_ | refine wA ?_ | refine wJ ?_ | refine wD ?_ | refine wL ?_ | refine wF ?_ | refine we_ret ?_ | refine we_skip ?_)
 (first | refine or1 Try.func43 Try.results43 hQ rfl ?_ | refine on1 Try.func43 Try.results43 hQ rfl ?_)
 exact ⟨rfl,rfl,fun h st=>star_drop st⟩
def mayInv (x:B.X) (L:List HProp) (sb cp:Nat):Inv Nat B.X where
 e:=fun i=>[(13,.slice (some ⟨sb,0,none⟩) 1 cp),(14,.int .i64 1),(15,.int .i64 (i:Nat))]
 L:=fun _=>L
 x:=fun _=>x
 ok:=fun i=>i≤1
theorem may_tr {sb cp:Nat} (O:BOk num den burst) (ht:now≤1099511627776) (hr:Rd L sb 0 (.int .u64 (now:Nat))):Tr Try.prog B 63 [.agg #[.int .u64 (num:Nat),.int .u64 (den:Nat),.int .u64 (burst:Nat)],.slice (some ⟨sb,0,none⟩) 1 cp] L x fun v L' x'=>v=.int .i64 0∧L'=L∧x'=x:=by
 refine Tr.post (R:=fun v L' x'=>v=.int .i64 0∧x'=x∧∀ h,Star L' h→Star L h) ?_ (by rintro v L' x' ⟨h0,rfl,hs⟩;exact ⟨L,⟨h0,rfl,rfl⟩,hs⟩)
 refine tr_of_body Try.func63 rfl Try.ntmps63 (by simp) fun um Q _ hQ=>?_
 simp only [argE,Nat.zero_add,Nat.reduceAdd]
 repeat (first | (apply wo_mo;apply mo_box;exact rfl;exact trivial) | refine we_seq ?_ | (refine wR ?_;try simp only [oS]))
 rintro v' L' ⟨bb,rfl,rfl⟩
 refine wo_ent (arr bb 0 [.int .u64 (num:Nat),.int .u64 (den:Nat),.int .u64 (burst:Nat)]::L) .refl ?_
 repeat (first | (apply wo_po;apply mo_loadA (vs:=[.int .u64 (num:Nat),.int .u64 (den:Nat),.int .u64 (burst:Nat)]);exact rfl;exact rfl;exact Rds.all .here;exact trivial) | refine we_seq ?_ | (refine wR ?_;try simp only [oS]) | refine wo_nil ?_ | refine wA ?_)
 refine wo_call (.cons rfl .nil) trivial (check_ok O) ?_
 rintro v L' x' ⟨rfl,rfl,rfl⟩
 repeat (first | refine wneqF ?_ | refine we_seq ?_ | (refine wR ?_;try simp only [oS]) | refine wo_nil ?_ | refine wM ?_ | refine wA ?_ | refine wE ?_ | refine wF ?_ | refine we_skip ?_ | refine we_block ?_)
 refine we_loopN (mayInv x' (arr bb 0 [.int .u64 (num:Nat),.int .u64 (den:Nat),.int .u64 (burst:Nat)]::L) sb cp) (fun i=>2-i) 0 (by show 0≤1;omega) ⟨rfl,rfl,rfl,trivial⟩ .refl rfl ?_
 intro i hi
 dsimp only [mayInv] at hi ⊢
 by_cases c:i<1
 ·have:i=0:=by omega
  subst this
  repeat (first | (apply wo_po;apply mo_indexAddr (r:=0);exact rfl;exact rfl;omega;omega;omega;exact trivial) | (apply wo_po;apply mo_load;exact rfl;exact (Rd.there hr);exact trivial) | refine wlssT ?_ | refine wgtrF ?_ | refine we_seq ?_ | (refine wR ?_;try simp only [oS]) | refine wo_nil ?_ | refine wM ?_ | refine wA ?_ | refine wadd ?_ | refine wT ?_ | refine wF ?_ | refine we_skip ?_ | refine we_block ?_)
  exact at_round (I:=mayInv _ _ sb cp) (R:=fun i'=>2-i'<2-0) 1 (by omega) (by show 1≤1;omega) ⟨rfl,rfl,rfl,trivial⟩ .refl rfl
 ·repeat (first | refine wlssF ?_ | refine we_seq ?_ | (refine wR ?_;try simp only [oS]) | refine wo_nil ?_ | refine wA ?_ | refine wF ?_ | refine we_ret ?_ | refine we_exit ?_)
  (first | refine or1 Try.func63 Try.results63 hQ rfl ?_ | refine on1 Try.func63 Try.results63 hQ rfl ?_)
  exact ⟨rfl,rfl,fun h st=>star_drop st⟩
theorem ahead_tr (O:BOk num den burst) (ht:now≤1099511627776) (hs:s<18446744073709551616):Tr Try.prog B 64 [.agg #[.int .u64 (num:Nat),.int .u64 (den:Nat),.int .u64 (burst:Nat)],.int .u64 (s:Nat),.int .u64 (now:Nat)] L x fun v L' x'=>v=.tuple #[.int .u64 (max s (now*num):Nat),.int .u64 (max s (now*num)-now*num:Nat)]∧L'=L∧x'=x:=by
 have hm:now*num≤1099511627776*65536:=Nat.mul_le_mul ht O.n2
 have m1:IntKind.u64.wrap ((now:Int)*(num:Int))=((now*num:Nat):Int):=mulw rfl (by omega)
 generalize now*num=ck at *
 have s1:IntKind.u64.wrap (((max s ck:Nat):Int)-(ck:Int))=((max s ck-ck:Nat):Int):=subw (by omega) (by omega)
 refine Tr.post (R:=fun v L' x'=>v=.tuple #[.int .u64 (max s ck:Nat),.int .u64 (max s ck-ck:Nat)]∧x'=x∧∀ h,Star L' h→Star L h) ?_ (by rintro v L' x' ⟨h0,rfl,hs⟩;exact ⟨L,⟨h0,rfl,rfl⟩,hs⟩)
 refine tr_of_body Try.func64 rfl Try.ntmps64 (by simp) fun um Q _ hQ=>?_
 simp only [argE,Nat.zero_add,Nat.reduceAdd]
 repeat (first | (apply wo_mo;apply mo_box;exact rfl;exact trivial) | refine we_seq ?_ | (refine wR ?_;try simp only [oS]))
 rintro v' L' ⟨bb,rfl,rfl⟩
 refine wo_ent (arr bb 0 [.int .u64 (num:Nat),.int .u64 (den:Nat),.int .u64 (burst:Nat)]::L) .refl ?_
 repeat (first | (apply wo_po;apply mo_bin;exact rfl;exact rfl;apply bin_mul;(first | exact m1);exact gY) | (apply wo_po;apply mo_bin;exact rfl;exact rfl;apply bin_sub;(first | exact s1);exact gY) | (apply wo_po;apply mo_maxN (c:=max s ck);exact rfl;exact rfl;exact rfl;exact trivial) | refine we_seq ?_ | (refine wR ?_;try simp only [oS]) | refine wo_nil ?_ | refine wM ?_ | refine wA ?_ | refine wD ?_ | refine wL ?_ | refine we_ret ?_)
 (first | refine or2 Try.func64 Try.results64 hQ rfl rfl ?_ | refine on2 Try.func64 Try.results64 hQ rfl rfl ?_)
 exact ⟨rfl,rfl,fun h st=>star_drop st⟩
theorem times_tr {a b:Nat} (ha:a<18446744073709551616) (hb:b<18446744073709551616):Tr Try.prog B 65 [.int .u64 (a:Nat),.int .u64 (b:Nat)] L x fun v L' x'=>v=.agg #[.int .u64 (a*b/18446744073709551616:Nat),.int .u64 (a*b%18446744073709551616:Nat)]∧L'=L∧x'=x:=by
 refine Tr.post (R:=fun v L' x'=>v=.agg #[.int .u64 (a*b/18446744073709551616:Nat),.int .u64 (a*b%18446744073709551616:Nat)]∧x'=x∧∀ h,Star L' h→Star L h) ?_ (by rintro v L' x' ⟨h0,rfl,hs⟩;exact ⟨L,⟨h0,rfl,rfl⟩,hs⟩)
 refine tr_of_body Try.func65 rfl Try.ntmps65 (by simp) fun um Q _ hQ=>?_
 simp only [argE,Nat.zero_add,Nat.reduceAdd]
 repeat (first | (apply wo_mo;apply mo_alloc;exact trivial) | refine we_seq ?_ | (refine wR ?_;try simp only [oS]))
 rintro v' L' ⟨cb,rfl,rfl⟩
 repeat (first | refine we_seq ?_ | (refine wR ?_;try simp only [oS]) | refine wo_nil ?_ | refine wM ?_)
 refine wo_call (.cons rfl (.cons rfl .nil)) trivial (mul64_tr ha hb) ?_
 rintro v' L' x' ⟨rfl,rfl,rfl⟩
 repeat (first | (apply wo_po;apply mo_build (pv:=[(0,_),(1,_)]);exact rfl;exact .cons rfl (.cons rfl .nil);exact rfl;exact trivial) | (apply wo_pm;apply mo_storeA (b:=cb) (c:=0) (k:=0) (a:=0) (vs:=[.int .u64 0,.int .u64 0]);exact rfl;exact rfl;exact rfl;(intro w hw;simp [Value.cells] at hw;rcases hw with rfl | rfl <;> rfl);exact rfl;exact Nat.le_refl 2;exact .here;exact trivial) | refine we_seq ?_ | (refine wR ?_;try simp only [oS]) | refine wo_nil ?_ | refine wM ?_ | refine wA ?_ | (apply wo_po;apply mo_extract;exact rfl;exact rfl;exact gY) | refine we_ret ?_)
 refine at_leaveM (rs:=[.cell 4 163]) Try.func65 Try.results65 hQ (.inl rfl) (.cons (.cell (vs:=[.int .u64 (a*b/18446744073709551616:Nat),.int .u64 (a*b%18446744073709551616:Nat)]) rfl rfl (Rds.all .here)) .nil) ?_
 exact ⟨rfl,rfl,fun h st=>star_drop st⟩
theorem wadd_tr (e1:h1<18446744073709551616) (e2:l1<18446744073709551616) (e3:l2<18446744073709551616) (e4:h1+1<18446744073709551616) (hh:Has L (arr wb 0 [.int .u64 (h1:Nat),.int .u64 (l1:Nat)]) F):Tr Try.prog B 66 [.pointer (some ⟨wb,0,none⟩),.agg #[.int .u64 0,.int .u64 (l2:Nat)]] L x fun v L' x'=>v=.tuple #[]∧L'=arr wb 0 [.int .u64 (h1+(l1+l2)/18446744073709551616:Nat),.int .u64 ((l1+l2)%18446744073709551616:Nat)]::F∧x'=x:=by
 refine Tr.post (R:=fun v L' x'=>v=.tuple #[]∧x'=x∧∀ h,Star L' h→Star (arr wb 0 [.int .u64 (h1+(l1+l2)/18446744073709551616:Nat),.int .u64 ((l1+l2)%18446744073709551616:Nat)]::F) h) ?_ (by rintro v L' x' ⟨h0,rfl,hs⟩;exact ⟨_,⟨h0,rfl,rfl⟩,hs⟩)
 refine tr_star (arr wb 0 [.int .u64 (h1:Nat),.int .u64 (l1:Nat)]::F) (fun h st=>hh.star st) ?_
 have s1:IntKind.u64.wrap ((h1:Int)+(0:Int))=(h1:Int):=wrap_u64 (by omega) (by omega)
 have hc:(l1+l2)/18446744073709551616≤1:=by omega
 have s2:IntKind.u64.wrap ((h1:Int)+(((l1+l2)/18446744073709551616:Nat):Int))=((h1+(l1+l2)/18446744073709551616:Nat):Int):=addw rfl (by omega)
 have hadd:=fun (L:List HProp)=>at_add64 (P:=Try.prog) (L:=L) (a:=l1) (b:=l2)
 generalize (l1+l2)/18446744073709551616=cy at *
 generalize (l1+l2)%18446744073709551616=lo at *
 refine tr_of_body Try.func66 rfl Try.ntmps66 (by simp) fun um Q _ hQ=>?_
 simp only [argE,Nat.zero_add,Nat.reduceAdd]
 repeat (first | (apply wo_mo;apply mo_box;exact rfl;exact trivial) | refine we_seq ?_ | (refine wR ?_;try simp only [oS]))
 rintro v' L' ⟨vb,rfl,rfl⟩
 refine wo_ent (arr vb 0 [.int .u64 0,.int .u64 (l2:Nat)]::arr wb 0 [.int .u64 (h1:Nat),.int .u64 (l1:Nat)]::F) .refl ?_
 repeat (first | refine we_seq ?_ | (refine wR ?_;try simp only [oS]) | refine wo_nil ?_ | refine wA ?_)
 refine we_draw (List.range' 0 15) (by kernel_rfl) ?_
 repeat (first | refine aM ?_ | refine aN ?_ | refine aD ?_ | refine aL ?_)
 refine ap_loud rfl rfl rfl rfl rfl trivial (mo_ext (args:=[_,_,_]) (.cons rfl (.cons rfl (.cons rfl .nil))) (hadd _)) ?_
 rintro v' L' ⟨rfl,rfl⟩
 repeat (first | refine aM ?_ | refine aN ?_ | refine aD ?_ | (apply ap_pure;exact rfl;exact rfl;exact gY;intro L;apply mo_extract;exact rfl;exact rfl))
 refine ap_loud rfl rfl rfl rfl rfl trivial (mo_store rfl rfl rfl (Wt.row (k:=1) (vs:=[.int .u64 (h1:Nat),.int .u64 (l1:Nat)]) (Nat.lt_succ_self 1) rfl (.there .here))) ?_
 rintro v' L' ⟨rfl,rfl⟩
 repeat (first | refine aA ?_ | refine ap_end ?_)
 repeat (first | refine we_seq ?_)
 refine we_draw (List.range' 0 10) (by kernel_rfl) ?_
 repeat (first | (apply ap_pure;exact rfl;exact rfl;exact gY;intro L;apply mo_bin;exact rfl;exact rfl;apply bin_add;exact s1) | refine aM ?_ | refine aN ?_ | refine aD ?_ | refine aL ?_)
 refine ap_loud rfl rfl rfl rfl rfl trivial (mo_store rfl rfl rfl (Wt.row0 (k:=0) (.there .here) (by simp))) ?_
 rintro v' L' ⟨rfl,rfl⟩
 repeat (first | refine ap_end ?_)
 repeat (first | (apply wo_po;apply mo_bin;exact rfl;exact rfl;apply bin_add;(first | exact s2);exact gY) | refine wS ?_ | (refine wR ?_;try simp only [oS]) | refine wo_nil ?_ | refine wM ?_ | refine wN ?_ | refine wD ?_ | refine wL ?_)
 (first | refine or0 Try.func66 Try.results66 hQ ?_ | refine on0 Try.func66 Try.results66 hQ ?_)
 exact ⟨rfl,rfl,fun h st=>Ent.star (.take (.there .here) (.drop .refl)) st⟩
theorem above_tr (e1:l1<18446744073709551616) (e2:l2<18446744073709551616) {q:Bool} (hq:q=decide (h2*18446744073709551616+l2<h1*18446744073709551616+l1)):Tr Try.prog B 67 [.agg #[.int .u64 (h1:Nat),.int .u64 (l1:Nat)],.agg #[.int .u64 (h2:Nat),.int .u64 (l2:Nat)]] L x fun v L' x'=>v=.bool q∧L'=L∧x'=x:=by
 refine Tr.post (R:=fun v L' x'=>v=.bool q∧x'=x∧∀ h,Star L' h→Star L h) ?_ (by rintro v L' x' ⟨h0,rfl,hs⟩;exact ⟨L,⟨h0,rfl,rfl⟩,hs⟩)
 have hc:(h2<h1∧q=true)∨(h1=h2∧l2<l1∧q=true)∨(h1=h2∧l1≤l2∧q=false)∨(h1<h2∧q=false):=by
  rcases Nat.lt_trichotomy h1 h2 with c | c | c
  ·exact .inr (.inr (.inr ⟨c,by rw [hq];exact decide_eq_false (by omega)⟩))
  ·by_cases d:l2<l1
   ·exact .inr (.inl ⟨c,d,by rw [hq];exact decide_eq_true (by omega)⟩)
   ·exact .inr (.inr (.inl ⟨c,by omega,by rw [hq];exact decide_eq_false (by omega)⟩))
  ·exact .inl ⟨c,by rw [hq];exact decide_eq_true (by omega)⟩
 clear hq
 refine tr_of_body Try.func67 rfl Try.ntmps67 (by simp) fun um Q _ hQ=>?_
 simp only [argE,Nat.zero_add,Nat.reduceAdd]
 repeat (first | (apply wo_mo;apply mo_box;exact rfl;exact trivial) | refine we_seq ?_ | (refine wR ?_;try simp only [oS]))
 rintro v' L' ⟨ab,rfl,rfl⟩
 refine wo_ent (arr ab 0 [.int .u64 (h1:Nat),.int .u64 (l1:Nat)]::L) .refl ?_
 repeat (first | (apply wo_mo;apply mo_box;exact rfl;exact trivial))
 rintro v' L' ⟨cb,rfl,rfl⟩
 refine wo_ent (arr cb 0 [.int .u64 (h2:Nat),.int .u64 (l2:Nat)]::arr ab 0 [.int .u64 (h1:Nat),.int .u64 (l1:Nat)]::L) .refl ?_
 rcases hc with ⟨c,rfl⟩ | ⟨c,d,rfl⟩ | ⟨c,d,rfl⟩ | ⟨c,rfl⟩
 all_goals
  repeat (first | refine wgtrT ?_ | refine wgtrF ?_ | refine weqlT ?_ | refine weqlF ?_ | refine we_seq ?_ | (refine wR ?_;try simp only [oS]) | refine wo_nil ?_ | refine wM ?_ | refine wA ?_ | (apply wo_no;exact rfl) | (apply wo_nu;exact rfl) | refine wK ?_ | refine wJ ?_ | refine wD ?_ | refine wL ?_ | refine we_ret ?_)
  (first | refine or1 Try.func67 Try.results67 hQ rfl ?_ | refine on1 Try.func67 Try.results67 hQ rfl ?_)
  exact ⟨rfl,rfl,fun h st=>star_drop (star_drop st)⟩
set_option maxHeartbeats 2000000 in
theorem btake_tr (O:BOk num den burst) (ht:now≤1099511627776) (hs:s<18446744073709551616) (hn:n<18446744073709551616) {r:Option Nat} (hr:takeN num den burst s now n=r):Tr Try.prog B 39 [.agg #[.int .u64 (num:Nat),.int .u64 (den:Nat),.int .u64 (burst:Nat)],.int .u64 (s:Nat),.int .u64 (now:Nat),.int .u64 (n:Nat)] L x fun v L' x'=>v=takeR s r∧L'=L∧x'=x:=by
 refine Tr.post (R:=fun v L' x'=>v=takeR s r∧x'=x∧∀ h,Star L' h→Star L h) ?_ (by rintro v L' x' ⟨h0,rfl,hs⟩;exact ⟨L,⟨h0,rfl,rfl⟩,hs⟩)
 refine tr_of_body Try.func39 rfl Try.ntmps39 (by simp) fun um Q _ hQ=>?_
 simp only [argE,Nat.zero_add,Nat.reduceAdd]
 repeat (first | (apply wo_mo;apply mo_box;exact rfl;exact trivial) | refine we_seq ?_ | (refine wR ?_;try simp only [oS]))
 rintro v' L' ⟨bb,rfl,rfl⟩
 refine wo_ent (arr bb 0 [.int .u64 (num:Nat),.int .u64 (den:Nat),.int .u64 (burst:Nat)]::L) .refl ?_
 repeat (first | (apply wo_po;apply mo_loadA (vs:=[.int .u64 (num:Nat),.int .u64 (den:Nat),.int .u64 (burst:Nat)]);exact rfl;exact rfl;exact Rds.all .here;exact trivial) | (apply wo_mo;apply mo_buildSlice (sz:=1) (vs:=[_]);exact rfl;exact .cons rfl .nil;exact rfl;(intro v hv;cases (List.mem_singleton.1 hv);exact rfl);omega;exact trivial) | refine we_seq ?_ | (refine wR ?_;try simp only [oS]) | refine wo_nil ?_ | refine wM ?_ | refine wA ?_)
 rintro v' L' ⟨sb,rfl,rfl⟩
 refine wo_ent (arr sb 0 [.int .u64 (now:Nat)]::arr bb 0 [.int .u64 (num:Nat),.int .u64 (den:Nat),.int .u64 (burst:Nat)]::L) .refl ?_
 skip
 refine wo_call (.cons rfl (.cons rfl .nil)) trivial (may_tr O ht (Rd.row (k:=0) rfl rfl)) ?_
 rintro v' L' x' ⟨rfl,rfl,rfl⟩
 repeat (first | (apply wo_po;apply mo_loadA (vs:=[.int .u64 (num:Nat),.int .u64 (den:Nat),.int .u64 (burst:Nat)]);exact rfl;exact rfl;exact Rds.all (.there .here);exact trivial) | refine wneqF ?_ | refine we_seq ?_ | (refine wR ?_;try simp only [oS]) | refine wo_nil ?_ | refine wM ?_ | refine wA ?_ | refine wF ?_ | refine we_skip ?_)
 refine wo_call (.cons rfl (.cons rfl (.cons rfl .nil))) trivial (ahead_tr O ht hs) ?_
 rintro v' L' x' ⟨rfl,rfl,rfl⟩
 have hm:now*num≤1099511627776*65536:=Nat.mul_le_mul ht O.n2
 have hbd:burst*den≤1048576*65536:=Nat.mul_le_mul O.b2 O.d2
 have hnd:n*den≤18446744073709551615*65536:=Nat.mul_le_mul (by omega) O.d2
 have hd1:=O.d1
 have hd2:=O.d2
 have m1:IntKind.u64.wrap ((burst:Int)*(den:Int))=((burst*den:Nat):Int):=mulw rfl (by omega)
 unfold takeN at hr
 have hT:=times_tr (B:=B) (x:=x') (L:=arr sb 0 [.int .u64 (now:Nat)]::arr bb 0 [.int .u64 (num:Nat),.int .u64 (den:Nat),.int .u64 (burst:Nat)]::L) (a:=n) (b:=den) hn (by omega)
 generalize burst*den=bd at *
 generalize hck:now*num=ck at *
 generalize n*den=nd at *
 obtain ⟨hi,hhi⟩:∃ hi,nd/18446744073709551616=hi:=⟨_,rfl⟩
 obtain ⟨lo,hlo⟩:∃ lo,nd%18446744073709551616=lo:=⟨_,rfl⟩
 obtain ⟨t,htt⟩:∃ t,max s ck=t:=⟨_,rfl⟩
 rw [htt] at hr ⊢
 rw [hhi,hlo] at hT
 have ht64:t<18446744073709551616:=by omega
 have hsum:nd=hi*18446744073709551616+lo:=by omega
 repeat (first | refine we_seq ?_ | (refine wR ?_;try simp only [oS]) | refine wo_nil ?_ | refine wM ?_ | refine wA ?_ | refine wD ?_ | (apply wo_po;apply mo_extract;exact rfl;exact rfl;exact gY) | refine wL ?_)
 refine wo_call (.cons rfl (.cons rfl .nil)) trivial hT ?_
 rintro v' L' x2 ⟨rfl,rfl,rfl⟩
 repeat (first | (apply wo_mo;apply mo_alloc;exact trivial))
 rintro v' L' ⟨nb,rfl,rfl⟩
 repeat (first | (apply wo_pm;apply mo_storeA (c:=0) (k:=0) (a:=0) (vs:=[.int .u64 0,.int .u64 0]);exact rfl;exact rfl;exact rfl;(intro w hw;simp [Value.cells] at hw;rcases hw with rfl | rfl <;> rfl);exact rfl;exact Nat.le_refl 2;exact .here;exact trivial) | refine we_seq ?_ | (refine wR ?_;try simp only [oS]) | refine wo_nil ?_)
 refine wo_ent (arr nb 0 [.int .u64 (hi:Nat),.int .u64 (lo:Nat)]::arr sb 0 [.int .u64 (now:Nat)]::arr bb 0 [.int .u64 (num:Nat),.int .u64 (den:Nat),.int .u64 (burst:Nat)]::L) .refl ?_
 repeat (first | (apply wo_po;apply mo_loadA (vs:=[.int .u64 (hi:Nat),.int .u64 (lo:Nat)]);exact rfl;exact rfl;exact Rds.all .here;exact trivial) | (apply wo_mo;apply mo_alloc;exact trivial))
 rintro v' L' ⟨ab,rfl,rfl⟩
 repeat (first | (apply wo_pm;apply mo_storeA (c:=0) (k:=0) (a:=0) (vs:=[.int .u64 0,.int .u64 0]);exact rfl;exact rfl;exact rfl;(intro w hw;simp [Value.cells] at hw;rcases hw with rfl | rfl <;> rfl);exact rfl;exact Nat.le_refl 2;exact .here;exact trivial) | refine we_seq ?_ | (refine wR ?_;try simp only [oS]) | refine wo_nil ?_ | refine wM ?_)
 refine wo_ent (arr ab 0 [.int .u64 (hi:Nat),.int .u64 (lo:Nat)]::arr nb 0 [.int .u64 (hi:Nat),.int .u64 (lo:Nat)]::arr sb 0 [.int .u64 (now:Nat)]::arr bb 0 [.int .u64 (num:Nat),.int .u64 (den:Nat),.int .u64 (burst:Nat)]::L) .refl ?_
 repeat (first | (apply wo_po;apply mo_build (pv:=[(0,_),(1,_)]);exact rfl;exact .cons rfl (.cons rfl .nil);exact rfl;exact trivial))
 refine wo_call (.cons rfl (.cons rfl .nil)) trivial (wadd_tr (by omega) (by omega) (by omega) (by omega) .here) ?_
 rintro v' L' x3 ⟨rfl,rfl,rfl⟩
 obtain ⟨hi2,hhi2⟩:∃ hi2,hi+(lo+(t-ck))/18446744073709551616=hi2:=⟨_,rfl⟩
 obtain ⟨lo2,hlo2⟩:∃ lo2,(lo+(t-ck))%18446744073709551616=lo2:=⟨_,rfl⟩
 rw [hhi2,hlo2]
 repeat (first | (apply wo_po;apply mo_loadA (vs:=[.int .u64 (hi2:Nat),.int .u64 (lo2:Nat)]);exact rfl;exact rfl;exact Rds.all .here;exact trivial) | (apply wo_po;apply mo_bin;exact rfl;exact rfl;apply bin_mul;(first | exact m1);exact gY) | (apply wo_po;apply mo_build (pv:=[(0,_),(1,_)]);exact rfl;exact .cons rfl (.cons rfl .nil);exact rfl;exact trivial) | refine we_seq ?_ | (refine wR ?_;try simp only [oS]) | refine wo_nil ?_ | refine wD ?_ | refine wL ?_)
 refine wo_call (.cons rfl (.cons rfl .nil)) trivial (above_tr (h1:=hi2) (l1:=lo2) (h2:=0) (l2:=bd) (by omega) (by omega) (q:=decide (bd<nd+(t-ck))) (by congr 1;apply propext;omega)) ?_
 rintro v' L' x4 ⟨rfl,rfl,rfl⟩
 by_cases c:bd<nd+(t-ck)
 ·rw [if_pos c] at hr
  subst hr
  rw [decide_eq_true c]
  repeat (first | refine we_seq ?_ | (refine wR ?_;try simp only [oS]) | refine wo_nil ?_ | refine wM ?_ | refine wA ?_ | refine wT ?_ | refine we_ret ?_)
  (first | refine or3 Try.func39 Try.results39 hQ rfl rfl rfl ?_ | refine on3 Try.func39 Try.results39 hQ rfl rfl rfl ?_)
  exact ⟨rfl,rfl,fun h st=>Ent.star (.drop (.drop (.drop (.drop .refl)))) st⟩
 ·rw [if_neg c] at hr
  subst hr
  rw [decide_eq_false c]
  have a1:IntKind.u64.wrap ((t:Int)+(lo:Int))=(((t+nd)%18446744073709551616:Nat):Int):=(wrap_u64_mod _).trans (by omega)
  repeat (first | (apply wo_po;apply mo_bin;exact rfl;exact rfl;apply bin_add;(first | exact a1);exact gY) | refine we_seq ?_ | (refine wR ?_;try simp only [oS]) | refine wo_nil ?_ | refine wM ?_ | refine wA ?_ | refine wD ?_ | refine wL ?_ | refine wF ?_ | refine we_ret ?_ | refine we_skip ?_)
  (first | refine or3 Try.func39 Try.results39 hQ rfl rfl rfl ?_ | refine on3 Try.func39 Try.results39 hQ rfl rfl rfl ?_)
  exact ⟨rfl,rfl,fun h st=>Ent.star (.drop (.drop (.drop (.drop .refl)))) st⟩
end
end
section
structure MeterAt {B:Hand} {gv:Value} (A:Acc B gv) (r num den burst:Nat):Prop where
 ok:BOk num den burst
 hdr:∀ s,Rds [A.C s] r 0 [.int .u64 (num:Nat),.int .u64 (den:Nat),.int .u64 (burst:Nat)]
 a:A.addr 0=(r,3)
theorem takeN_lt {num den burst s now n t:Nat} (h:takeN num den burst s now n=some t):t<18446744073709551616:=by
 unfold takeN at h
 split at h
 ·cases h
 ·cases h;exact Nat.mod_lt _ (by decide)
section
variable {B:Hand} [Lets B] {gv:Value} {A:Acc B gv} {r num den burst now n:Nat} {L F:List HProp}
omit [Lets B] in
theorem MeterAt.rds (R:MeterAt A r num den burst) {s:A.S} (hh:Has L (A.C s) F):Rds L r 0 [.int .u64 (num:Nat),.int .u64 (den:Nat),.int .u64 (burst:Nat)]:=fun i v hv=>Rd.of hh (R.hdr s i v hv)
theorem step_tr {op:Int} {s:A.S} {T:A.S→Prop} (hs:A.step op 0 s T) (hh:Has L (A.C s) F) :
  Tr Try.prog B 37 [gv,.int .u8 op] L (A.x s) fun v L' x'=>∃ s',T s'∧v=.tuple #[]∧L'=A.C s'::F∧x'=A.x s':=by
 rcases A.gate with ⟨rfl,hg⟩ | ⟨t,p,f,rfl,hm,he,hg⟩
 ·refine tr_of_body Try.func37 rfl Try.ntmps37 (by simp) fun um Q _ hQ=>?_
  simp only [argE,Nat.zero_add,Nat.reduceAdd]
  repeat (first | refine we_seq ?_ | (refine wR ?_;try simp only [oS]) | refine wo_nil ?_ | refine wM ?_ | (apply wo_po;apply mo_bin;exact rfl;exact rfl;apply bin_ne;apply eql_nil_nil;exact gY) | refine wF ?_ | refine we_skip ?_)
  refine at_ent _ (Ent.take hh .refl) ?_
  (first | refine or0 Try.func37 Try.results37 hQ ?_ | refine on0 Try.func37 Try.results37 hQ ?_)
  exact ⟨s,hg _ _ _ _ hs,rfl,rfl,rfl⟩
 ·refine tr_of_body Try.func37 rfl Try.ntmps37 (by simp) fun um Q _ hQ=>?_
  simp only [argE,Nat.zero_add,Nat.reduceAdd]
  repeat (first | (apply wo_po;apply mo_build (pv:=[(0,_)]);exact rfl;exact .cons rfl .nil;exact rfl;exact trivial) | refine we_seq ?_ | (refine wR ?_;try simp only [oS]) | refine wo_nil ?_ | refine wM ?_ | (apply wo_po;apply mo_bin;exact rfl;exact rfl;apply bin_ne;apply eql_iface_nil;exact gY) | refine wT ?_)
  refine wo_invoke (args:=[_]) rfl (.cons rfl .nil) trivial (hg op 0 s T L F hs hh) ?_
  rintro v L' x' ⟨s',h1,rfl,rfl,rfl⟩
  repeat (first | refine wo_nil ?_)
  (first | refine or0 Try.func37 Try.results37 hQ ?_ | refine on0 Try.func37 Try.results37 hQ ?_)
  exact ⟨s',h1,rfl,rfl,rfl⟩
theorem there_tr {x:B.X} (O:BOk num den burst) (hr:Rds L r 0 [.int .u64 (num:Nat),.int .u64 (den:Nat),.int .u64 (burst:Nat)]):Tr Try.prog B 42 [.pointer (some ⟨r,0,none⟩)] L x fun v L' x'=>v=.bool true∧L'=L∧x'=x:=by
 have hr2:=hr 2 _ rfl
 have hb:=O.b1
 refine tr_of_body Try.func42 rfl Try.ntmps42 (by simp) fun um Q _ hQ=>?_
 simp only [argE,Nat.zero_add,Nat.reduceAdd]
 repeat (first | (apply wo_po;apply mo_load;exact rfl;exact hr2;exact rfl) | refine wgtrT ?_ | refine we_seq ?_ | (refine wR ?_;try simp only [oS]) | refine wo_nil ?_ | refine wM ?_ | refine wA ?_ | refine wK ?_ | refine wN ?_ | refine wD ?_ | (apply wo_po;apply mo_bin;exact rfl;exact rfl;apply bin_ne;apply eql_ptr_nil;exact gY) | refine we_ret ?_)
 (first | refine or1 Try.func42 Try.results42 hQ rfl ?_ | refine on1 Try.func42 Try.results42 hQ rfl ?_)
 exact ⟨rfl,rfl,rfl⟩
theorem mmay_tr {x:B.X} (O:BOk num den burst) (ht:now≤1099511627776) (hr:Rds L r 0 [.int .u64 (num:Nat),.int .u64 (den:Nat),.int .u64 (burst:Nat)]):Tr Try.prog B 36 [.pointer (some ⟨r,0,none⟩),.int .u64 (now:Nat)] L x fun v L' x'=>v=.int .i64 0∧L'=L∧x'=x:=by
 refine tr_of_body Try.func36 rfl Try.ntmps36 (by simp) fun um Q _ hQ=>?_
 simp only [argE,Nat.zero_add,Nat.reduceAdd]
 repeat (first | refine we_seq ?_ | (refine wR ?_;try simp only [oS]) | refine wo_nil ?_ | refine wM ?_ | refine wA ?_ | refine we_block ?_)
 refine wo_call (.cons rfl .nil) trivial (there_tr O hr) ?_
 rintro v L1 x1 ⟨rfl,rfl,rfl⟩
 repeat (first | refine wgtrF ?_ | refine we_seq ?_ | (refine wR ?_;try simp only [oS]) | refine wo_nil ?_ | refine wM ?_ | refine wA ?_ | (apply wo_po;apply mo_not;exact rfl;exact gY) | refine wF ?_ | refine we_ret ?_ | refine we_skip ?_)
 (first | refine or1 Try.func36 Try.results36 hQ rfl ?_ | refine on1 Try.func36 Try.results36 hQ rfl ?_)
 exact ⟨rfl,rfl,rfl⟩
def MTakeF (A:Acc B gv) (num den burst now n:Nat) (Q:Bool→A.S→Prop) (X:A.S→Prop) (s:A.S):Prop :=
 A.step 1 0 s fun s=>A.load 0 s fun o s=>match takeN num den burst o now n with
  | none=>Q false s
  | some t=>A.step 5 0 s fun s=>A.cas 0 o t s fun c s=>if c then Q true s else X s
def MTakeT (A:Acc B gv) (num den burst now n:Nat) (s:A.S) (Q:Bool→A.S→Prop):Prop:=∀ X:A.S→Prop,(∀ s,MTakeF A num den burst now n Q X s→X s)→X s
theorem mtake_tr (R:MeterAt A r num den burst) (ht:now≤1099511627776) (hn:n<18446744073709551616) {s:A.S} {G:Bool→A.S→Prop} (hs:MTakeT A num den burst now n s G) (hh:Has L (A.C s) F) :
  Tr Try.prog B 9 [.pointer (some ⟨r,0,none⟩),gv,.int .u64 (now:Nat),.int .u64 (n:Nat)] L (A.x s) fun v L' x'=>∃ q s',G q s'∧v=.tuple #[.bool q,.int .i64 0]∧L'=A.C s'::F∧x'=A.x s':=by
 refine tr_of_body Try.func9 rfl Try.ntmps9 (by simp) fun um Q _ hQ=>?_
 simp only [argE,Nat.zero_add,Nat.reduceAdd]
 repeat (first | refine we_seq ?_ | (refine wR ?_;try simp only [oS]) | refine wo_nil ?_ | refine wM ?_ | refine wA ?_)
 refine wo_call (.cons rfl (.cons rfl .nil)) trivial (mmay_tr R.ok ht (R.rds hh)) ?_
 rintro v1 L1 x1 ⟨rfl,rfl,rfl⟩
 repeat (first | refine wneqF ?_ | refine we_seq ?_ | (refine wR ?_;try simp only [oS]) | refine wo_nil ?_ | refine wM ?_ | refine wA ?_ | refine wF ?_ | refine we_skip ?_ | refine we_block ?_)
 refine we_lfp (MTakeF A num den burst now n G) (fun s=>A.C s::F) A.x s hs [(0,.pointer (some ⟨r,0,none⟩)),(1,gv),(2,.int .u64 (now:Nat)),(3,.int .u64 (n:Nat))] ⟨rfl,rfl,rfl,rfl,trivial⟩ (.take hh .refl) rfl ?_
 clear hs hh
 intro s hs
 repeat (first | refine we_seq ?_ | (refine wR ?_;try simp only [oS]) | refine wM ?_ | refine we_block ?_)
 refine wo_call (.cons rfl (.cons rfl .nil)) trivial (step_tr hs .here) ?_
 rintro v1 L1 x1 ⟨s1,h1,rfl,rfl,rfl⟩
 repeat (first | refine we_seq ?_ | (refine wR ?_;try simp only [oS]) | refine wo_nil ?_ | refine wM ?_ | refine wN ?_ | refine wD ?_)
 refine wo_call (.cons rfl .nil) trivial (A.load_ok _ _ _ _ _ _ _ R.a h1 .here) ?_
 rintro v1 L1 x1 ⟨o,s2,ho,h2,rfl,rfl,rfl⟩
 have hrd:Rds (A.C s2::F) r 0 [.int .u64 (num:Nat),.int .u64 (den:Nat),.int .u64 (burst:Nat)]:=R.rds .here
 obtain ⟨tk,htk⟩:∃ tk,takeN num den burst o now n=tk:=⟨_,rfl⟩
 rw [htk] at h2
 repeat (first | (apply wo_po;apply mo_loadA (vs:=[.int .u64 (num:Nat),.int .u64 (den:Nat),.int .u64 (burst:Nat)]);exact rfl;exact rfl;exact hrd;exact trivial) | refine we_seq ?_ | (refine wR ?_;try simp only [oS]) | refine wo_nil ?_ | refine wM ?_ | refine wA ?_ | refine wN ?_ | refine wD ?_)
 refine wo_call (.cons rfl (.cons rfl (.cons rfl (.cons rfl .nil)))) trivial (btake_tr R.ok ht ho hn htk) ?_
 rintro v1 L1 x1 ⟨rfl,rfl,rfl⟩
 cases tk with
 | none =>
  unfold takeR
  repeat (first | refine we_seq ?_ | (refine wR ?_;try simp only [oS]) | refine wo_nil ?_ | refine wM ?_ | refine wA ?_ | (apply wo_po;apply mo_extract;exact rfl;exact rfl;exact gY) | (apply wo_po;apply mo_not;exact rfl;exact gY) | refine wT ?_ | refine we_ret ?_)
  (first | refine or2 Try.func9 Try.results9 hQ rfl rfl ?_ | refine on2 Try.func9 Try.results9 hQ rfl rfl ?_)
  exact ⟨false,s2,h2,rfl,rfl,rfl⟩
 | some t =>
  unfold takeR
  dsimp only at h2
  repeat (first | refine we_seq ?_ | (refine wR ?_;try simp only [oS]) | refine wo_nil ?_ | refine wM ?_ | refine wA ?_ | (apply wo_po;apply mo_extract;exact rfl;exact rfl;exact gY) | (apply wo_po;apply mo_not;exact rfl;exact gY) | refine wF ?_ | refine we_skip ?_)
  refine wo_call (.cons rfl (.cons rfl .nil)) trivial (step_tr h2 .here) ?_
  rintro v1 L1 x1 ⟨s3,h3,rfl,rfl,rfl⟩
  repeat (first | refine we_seq ?_ | (refine wR ?_;try simp only [oS]) | refine wo_nil ?_ | refine wM ?_ | refine wN ?_ | refine wD ?_)
  refine wo_call (.cons rfl (.cons rfl (.cons rfl .nil))) trivial (A.cas_ok _ _ _ _ _ _ _ _ _ R.a (takeN_lt htk) h3 .here) ?_
  rintro v1 L1 x1 ⟨q,s4,h4,rfl,rfl,rfl⟩
  cases q
  ·simp only [Bool.false_eq_true,if_false] at h4
   repeat (first | refine wo_nil ?_ | refine wF ?_ | refine we_skip ?_)
   exact at_again h4 ⟨rfl,rfl,rfl,rfl,trivial⟩ .refl
  ·simp only [if_true] at h4
   repeat (first | refine we_seq ?_ | (refine wR ?_;try simp only [oS]) | refine wo_nil ?_ | refine wA ?_ | refine wT ?_ | refine we_ret ?_)
   (first | refine or2 Try.func9 Try.results9 hQ rfl rfl ?_ | refine on2 Try.func9 Try.results9 hQ rfl rfl ?_)
   exact ⟨true,s4,h4,rfl,rfl,rfl⟩
def MLoadT (A:Acc B gv) (s:A.S) (Q:Nat→A.S→Prop):Prop:=A.step 1 0 s fun s=>A.load 0 s fun o s=>Q o s
theorem mstate_tr (R:MeterAt A r num den burst) {s:A.S} {G:Nat→A.S→Prop} (hs:MLoadT A s G) (hh:Has L (A.C s) F) :
  Tr Try.prog B 11 [.pointer (some ⟨r,0,none⟩),gv] L (A.x s) fun v L' x'=>∃ o s',o<18446744073709551616∧G o s'∧v=.tuple #[.int .u64 (o:Nat),.int .i64 0]∧L'=A.C s'::F∧x'=A.x s':=by
 refine tr_of_body Try.func11 rfl Try.ntmps11 (by simp) fun um Q _ hQ=>?_
 simp only [argE,Nat.zero_add,Nat.reduceAdd]
 repeat (first | refine we_seq ?_ | (refine wR ?_;try simp only [oS]) | refine wo_nil ?_ | refine wM ?_ | refine wA ?_)
 refine wo_call (.cons rfl .nil) trivial (there_tr R.ok (R.rds hh)) ?_
 rintro v1 L1 x1 ⟨rfl,rfl,rfl⟩
 repeat (first | refine we_seq ?_ | (refine wR ?_;try simp only [oS]) | refine wo_nil ?_ | refine wM ?_ | (apply wo_po;apply mo_not;exact rfl;exact gY) | refine wF ?_ | refine we_skip ?_)
 refine wo_call (.cons rfl (.cons rfl .nil)) trivial (step_tr hs hh) ?_
 rintro v1 L1 x1 ⟨s1,h1,rfl,rfl,rfl⟩
 repeat (first | refine we_seq ?_ | (refine wR ?_;try simp only [oS]) | refine wo_nil ?_ | refine wM ?_ | refine wN ?_ | refine wD ?_)
 refine wo_call (.cons rfl .nil) trivial (A.load_ok _ _ _ _ _ _ _ R.a h1 .here) ?_
 rintro v1 L1 x1 ⟨o,s2,ho,h2,rfl,rfl,rfl⟩
 repeat (first | refine wo_nil ?_ | refine wA ?_ | refine we_ret ?_)
 (first | refine or2 Try.func11 Try.results11 hQ rfl rfl ?_ | refine on2 Try.func11 Try.results11 hQ rfl rfl ?_)
 exact ⟨o,s2,ho,h2,rfl,rfl,rfl⟩
theorem mnew_tr {x:B.X} (O:BOk num den burst):Tr Try.prog B 13 [.agg #[.int .u64 (num:Nat),.int .u64 (den:Nat),.int .u64 (burst:Nat)]] L x fun v L' x'=>∃ r,v=.tuple #[.pointer (some ⟨r,0,none⟩),.int .i64 0]∧L'=arr r 0 [.int .u64 (num:Nat),.int .u64 (den:Nat),.int .u64 (burst:Nat),.int .u64 0]::L∧x'=x:=by
 refine Tr.post (R:=fun v L' x'=>∃ r,v=.tuple #[.pointer (some ⟨r,0,none⟩),.int .i64 0]∧x'=x∧∀ h,Star L' h→Star (arr r 0 [.int .u64 (num:Nat),.int .u64 (den:Nat),.int .u64 (burst:Nat),.int .u64 0]::L) h) ?_ (by rintro v L' x' ⟨r,h0,rfl,hs⟩;exact ⟨_,⟨r,h0,rfl,rfl⟩,hs⟩)
 refine tr_of_body Try.func13 rfl Try.ntmps13 (by simp) fun um Q _ hQ=>?_
 simp only [argE,Nat.zero_add,Nat.reduceAdd]
 repeat (first | (apply wo_mo;apply mo_box;exact rfl;exact trivial) | refine we_seq ?_ | (refine wR ?_;try simp only [oS]))
 rintro v' L' ⟨bb,rfl,rfl⟩
 refine wo_ent (arr bb 0 [.int .u64 (num:Nat),.int .u64 (den:Nat),.int .u64 (burst:Nat)]::L) .refl ?_
 repeat (first | (apply wo_po;apply mo_loadA (vs:=[.int .u64 (num:Nat),.int .u64 (den:Nat),.int .u64 (burst:Nat)]);exact rfl;exact rfl;exact Rds.all .here;exact trivial) | refine we_seq ?_ | (refine wR ?_;try simp only [oS]) | refine wo_nil ?_ | refine wA ?_)
 refine wo_call (.cons rfl .nil) trivial (check_ok O) ?_
 rintro v1 L1 x1 ⟨rfl,rfl,rfl⟩
 repeat (first | (apply wo_po;apply mo_loadA (vs:=[.int .u64 (num:Nat),.int .u64 (den:Nat),.int .u64 (burst:Nat)]);exact rfl;exact rfl;exact Rds.all .here;exact trivial) | (apply wo_po;apply mo_build (pv:=[(0,_)]);exact rfl;exact .cons rfl .nil;exact rfl;exact trivial) | (apply wo_mo;apply mo_box;exact rfl;exact trivial) | refine wneqF ?_ | refine we_seq ?_ | (refine wR ?_;try simp only [oS]) | refine wo_nil ?_ | refine wM ?_ | refine wA ?_ | refine wF ?_ | refine we_skip ?_)
 rintro v' L' ⟨r,rfl,rfl⟩
 repeat (first | refine wo_nil ?_ | refine wA ?_ | refine we_ret ?_)
 (first | refine or2 Try.func13 Try.results13 hQ rfl rfl ?_ | refine on2 Try.func13 Try.results13 hQ rfl rfl ?_)
 exact ⟨r,rfl,rfl,fun h st=>Ent.star (.take .here (.drop .refl)) st⟩
variable {v0:Option Addr} {x:B.X}
end
end
section
def mAddr (r:Nat) (_:Nat):Nat × Nat:=(r,3)
def mK (r num den burst:Nat):List (Nat × Nat × Value):=[(r,0,.int .u64 (num:Nat)),(r,1,.int .u64 (den:Nat)),(r,2,.int .u64 (burst:Nat))]
theorem m_apart (r num den burst:Nat):Apart (mAddr r) 1 (mK r num den burst) where
 inj:=fun i j hi hj _=>by omega
 fix:=fun i _ k hk=>by simp only [mK,List.mem_cons,List.not_mem_nil,or_false] at hk;rcases hk with rfl | rfl | rfl <;> simp [mAddr]
section
variable {B:Hand} [Lets B] {x:B.X} {r num den burst now n:Nat} {L F:List HProp} {h:Hp} {s:Nat→Nat}
def mC (r num den burst:Nat) (s:Nat→Nat):HProp:=wds (mAddr r) 1 (mK r num den burst) s
omit [Lets B] in
theorem m_wds (st:Star (arr r 0 [.int .u64 (num:Nat),.int .u64 (den:Nat),.int .u64 (burst:Nat),.int .u64 0]::L) h):Star (mC r num den burst (fun _=>0)::L) h:=by
 refine star_map st (fun h a=>⟨fun w hw=>⟨by show 0<18446744073709551616;decide,a 3 _ rfl⟩,fun k hk=>?_⟩) (fun _ y=>y)
 simp only [mK,List.mem_cons,List.not_mem_nil,or_false] at hk
 rcases hk with rfl | rfl | rfl
 ·exact a 0 _ rfl
 ·exact a 1 _ rfl
 ·exact a 2 _ rfl
omit [Lets B] in
theorem mC_rd:Rds [mC r num den burst s] r 0 [.int .u64 (num:Nat),.int .u64 (den:Nat),.int .u64 (burst:Nat)]:=fun i v hv h hs=>by
 obtain ⟨h1,h2,s1,hc,_⟩:=hs
 match i,hv with
 | 0,hv=>cases hv;exact ⟨rfl,.inl (s1.o1 _ _ _ (hc.2 (r,0,.int .u64 (num:Nat)) (by simp [mK])))⟩
 | 1,hv=>cases hv;exact ⟨rfl,.inl (s1.o1 _ _ _ (hc.2 (r,1,.int .u64 (den:Nat)) (by simp [mK])))⟩
 | 2,hv=>cases hv;exact ⟨rfl,.inl (s1.o1 _ _ _ (hc.2 (r,2,.int .u64 (burst:Nat)) (by simp [mK])))⟩
def mLone (x:B.X) (r num den burst:Nat):Acc B .nilIface:=loneAcc x (mAddr r) 1 (mK r num den burst) (m_apart r num den burst)
theorem m_at (O:BOk num den burst):MeterAt (mLone x r num den burst) r num den burst:=⟨O,fun s=>mC_rd,rfl⟩
theorem mtake_lone (O:BOk num den burst) (ht:now≤1099511627776) (hn:n<18446744073709551616) {u:Nat} {k:Option Nat} (hs:s 0=u) (hk:takeN num den burst u now n=k) (hh:Has L (mC r num den burst s) F) :
  Tr Try.prog B 9 [.pointer (some ⟨r,0,none⟩),.nilIface,.int .u64 (now:Nat),.int .u64 (n:Nat)] L x fun v L' x'=>∃ s',v=.tuple #[.bool k.isSome,.int .i64 0]∧s' 0=k.getD u∧L'=mC r num den burst s'::F∧x'=x:=by
 refine (mtake_tr (A:=mLone x r num den burst) (m_at O) ht hn (s:=s) (G:=fun q s'=>q=k.isSome∧s' 0=k.getD u) ?_ hh).mono ?_
 ·intro X hX
  refine hX _ ⟨by show 0<1;omega,?_⟩
  show match takeN num den burst (s 0) now n with | none=>_ | some t=>_
  rw [hs,hk]
  cases k with
  | none=>exact ⟨rfl,hs⟩
  | some t =>
   refine ⟨by show 0<1;omega,?_⟩
   rw [if_pos hs]
   simp only [if_true]
   exact ⟨rfl,upd_same⟩
 ·rintro v L' x' ⟨q,s',⟨rfl,h1⟩,rfl,rfl,rfl⟩
  exact ⟨s',rfl,h1,rfl,rfl⟩
end
end
end Go.Proofs.Ythoefhocecdlhaa
namespace Go.Proofs.Ythoefhocecdlhaa
open Go Go.PB
section
inductive MtSt where
 | tL
 | tC (o:Nat)
 | sL (is:Bool)
structure MtQ where
 rl:List (Nat × Nat)
 good:Bool
 last:Nat
 gr:List (Nat × Nat)
 st:MtSt
 k:Nat
def mtPlan (num den burst:Nat) (q:MtQ):Option ((Int × Int) × (Nat→Nat × MtQ)) :=
 match q.rl with
 | []=>none
 | y::rest=>some (match q.st with
  | .tL=>((((1:Nat):Int),((0:Nat):Int)),fun s=>match takeN num den burst s y.1 y.2 with
   | none=>(s,{ q with st:=.sL false })
   | some _=>(s,{ q with st:=.tC s }))
  | .tC o=>((((5:Nat):Int),((0:Nat):Int)),fun s=>if s=o then ((takeN num den burst o y.1 y.2).getD 0,{ q with st:=.sL true }) else (s,{ q with st:=.tL }))
  | .sL is=>((((1:Nat):Int),((0:Nat):Int)),fun s=>(s,{ q with rl:=rest,good:=q.good&&decide (q.last≤s),last:=s,gr:=if is=true then q.gr++[y] else q.gr,st:=.tL })))
def gsum (f t:Nat) (l:List (Nat × Nat)):Nat:=sumN (l.map fun y=>if f≤y.1∧y.1≤t then y.2 else 0)
theorem sumN_app {a b:List Nat}:sumN (a++b)=sumN a+sumN b:=by
 induction a with
 | nil=>simp [sumN]
 | cons x a ih=>simp only [sumN,List.cons_append,List.foldr_cons] at ih ⊢;omega
theorem gsum_app {f t:Nat} {a b:List (Nat × Nat)}:gsum f t (a++b)=gsum f t a+gsum f t b:=by
 unfold gsum;rw [List.map_append,sumN_app]
theorem gsum_one {f t:Nat} {y:Nat × Nat}:gsum f t [y]=if f≤y.1∧y.1≤t then y.2 else 0:=by simp [gsum,sumN]
def mtPend (q:MtQ):List (Nat × Nat):=match q.st,q.rl with | .sL true,y::_=>[y] | _,_=>[]
def mtW (f t:Nat) (q:MtQ):Nat:=gsum f t (q.gr++mtPend q)
def mtAct (q:MtQ):Nat:=if q.rl=[] then 0 else 1
def mtP (y:Nat × Nat):Prop:=y.1≤1099511627776∧y.2<64
structure MtT (num den burst s:Nat) (q:MtQ):Prop where
 good:q.good=true
 last:q.last≤s
 sw:∀ o y rest,q.st=.tC o→q.rl=y::rest→(takeN num den burst o y.1 y.2).isSome=true
 b1:∀ y∈q.rl,mtP y
 b2:∀ y∈q.gr,mtP y
 cnt:q.gr.length+q.rl.length≤12
 ov:q.rl=[]→q.st=.tL
structure MtI (num den burst M s:Nat) (qs:List MtQ):Prop where
 len:qs.length≤6
 act:sumN (qs.map mtAct)≤M
 th:∀ (k:Nat) q,qs[k]?=some q→MtT num den burst s q
 W:∀ f t,sumN (qs.map (mtW f t))=0∨f*num+sumN (qs.map (mtW f t))*den≤s∧f*num+sumN (qs.map (mtW f t))*den≤t*num+burst*den
theorem take_some {num den burst s now n t:Nat} (O:BOk num den burst) (hn:now≤1099511627776) (h:takeN num den burst s now n=some t):t=max s (now*num)+n*den∧t≤now*num+burst*den:=by
 obtain ⟨n1,n2,d1,d2,b1,b2⟩:=O
 have e1:now*num≤1099511627776*65536:=Nat.mul_le_mul hn n2
 have e2:burst*den≤1048576*65536:=Nat.mul_le_mul b2 d2
 unfold takeN at h
 generalize now*num=c at h e1 ⊢
 generalize burst*den=bd at h e2 ⊢
 generalize n*den=nd at h ⊢
 split at h
 ·cases h
 ·cases h
  rw [Nat.mod_eq_of_lt (by omega)]
  omega
theorem mt_th {num den burst s s':Nat} {qs:List MtQ} {k:Nat} {q':MtQ} (h:∀ (k:Nat) q,qs[k]?=some q→MtT num den burst s q) (hs:s≤s') (h':MtT num den burst s' q'):∀ (j:Nat) q,(qs.set k q')[j]?=some q→MtT num den burst s' q:=fun j q hj=>by
 rw [List.getElem?_set] at hj
 split at hj
 ·split at hj
  ·cases hj;exact h'
  ·cases hj
 ·obtain ⟨a,b,c,d,e,f,g⟩:=h j q hj
  exact ⟨a,Nat.le_trans b hs,c,d,e,f,g⟩
theorem mt_keep {num den burst M s:Nat} {qs:List MtQ} {k:Nat} {q q':MtQ} (I:MtI num den burst M s qs) (hq:qs[k]?=some q) (hact:mtAct q'≤mtAct q) (hW:∀ f t,mtW f t q'=mtW f t q) (hth:MtT num den burst s q'):MtI num den burst M s (qs.set k q'):=by
 have h1:=sum_set (φ:=mtAct) (q':=q') hq
 refine ⟨by rw [List.length_set];exact I.len,by have:=I.act;omega,mt_th I.th (Nat.le_refl _) hth,fun f t=>?_⟩
 have h2:=sum_set (φ:=mtW f t) (q':=q') hq
 rw [hW f t] at h2
 rw [show sumN ((qs.set k q').map (mtW f t))=sumN (qs.map (mtW f t)) by omega]
 exact I.W f t
theorem mt_grant {num den burst M s s':Nat} {qs:List MtQ} {k:Nat} {q q':MtQ} {y:Nat × Nat} (O:BOk num den burst) (hy:mtP y) (I:MtI num den burst M s qs) (hq:qs[k]?=some q) (hact:mtAct q'≤mtAct q) (hW:∀ f t,mtW f t q'=mtW f t q+gsum f t [y]) (ht:takeN num den burst s y.1 y.2=some s') (hth:MtT num den burst s' q'):MtI num den burst M s' (qs.set k q'):=by
 obtain ⟨t1,t2⟩:=take_some O hy.1 ht
 have h1:=sum_set (φ:=mtAct) (q':=q') hq
 refine ⟨by rw [List.length_set];exact I.len,by have:=I.act;omega,mt_th I.th (by omega) hth,fun f t=>?_⟩
 have h2:=sum_set (φ:=mtW f t) (q':=q') hq
 rw [hW f t,gsum_one] at h2
 have hI:=I.W f t
 by_cases c:f≤y.1∧y.1≤t
 ·rw [if_pos c] at h2
  have e1:sumN ((qs.set k q').map (mtW f t))=sumN (qs.map (mtW f t))+y.2:=by omega
  rw [e1,Nat.add_mul]
  have e2:f*num≤y.1*num:=Nat.mul_le_mul_right _ c.1
  have e3:y.1*num≤t*num:=Nat.mul_le_mul_right _ c.2
  right
  generalize sumN (qs.map (mtW f t))=w at hI ⊢
  rcases hI with rfl | ⟨h3,h4⟩
  ·rw [Nat.zero_mul];omega
  ·omega
 ·rw [if_neg c] at h2
  rw [show sumN ((qs.set k q').map (mtW f t))=sumN (qs.map (mtW f t)) by omega]
  rcases hI with h3 | ⟨h3,h4⟩
  ·exact .inl h3
  ·exact .inr ⟨by omega,h4⟩
def mtφ (M s:Nat) (q:MtQ):Nat:=match q.rl with
 | []=>0
 | _::rest=>(2*M+1)*rest.length+match q.st with
  | .tL=>2*M+1
  | .tC o=>if s=o then 2*M else 2*M+2
  | .sL _=>1
theorem mtφ_le (M s s':Nat) (q:MtQ):mtφ M s' q≤mtφ M s q+2*mtAct q:=by
 unfold mtφ mtAct
 split
 ·omega
 ·rename_i h
  rw [h,if_neg (by simp)]
  split <;> (try split) <;> (try split) <;> omega
theorem sum_act {M s s':Nat}:∀ qs:List MtQ,sumN (qs.map (mtφ M s'))≤sumN (qs.map (mtφ M s))+2*sumN (qs.map mtAct)
 | []=>by simp [sumN]
 | q::qs=>by
  have h1:=sum_act (M:=M) (s:=s) (s':=s') qs
  have h2:=mtφ_le M s s' q
  simp only [List.map_cons,sumN,List.foldr_cons,Nat.mul_add] at h1 ⊢;omega
theorem sum_act1 {qs:List MtQ} {k:Nat} {q:MtQ} (hq:qs[k]?=some q):mtAct q≤sumN (qs.map mtAct):=by
 induction qs generalizing k with
 | nil=>simp at hq
 | cons a l ih =>
  cases k with
  | zero=>simp at hq;subst hq;simp only [List.map_cons,sumN,List.foldr_cons];omega
  | succ k =>
   have:=ih (k:=k) (by simpa using hq)
   simp only [List.map_cons,sumN,List.foldr_cons] at this ⊢;omega
set_option maxHeartbeats 2000000 in
theorem mt_step {num den burst M s:Nat} {qs:List MtQ} (O:BOk num den burst) (I:MtI num den burst M s qs) {k:Nat} {q:MtQ} (hq:qs[k]?=some q) {m:Int × Int} {f:Nat→Nat × MtQ} (hp:mtPlan num den burst q=some (m,f)) :
  MtI num den burst M (f s).1 (qs.set k (f s).2)∧sumN ((qs.set k (f s).2).map (mtφ M (f s).1))+1≤sumN (qs.map (mtφ M s)):=by
 have T:=I.th k q hq
 have hact:=I.act
 have ha1:=sum_act1 hq
 obtain ⟨rl,good,last,gr,st,kk⟩:=q
 cases rl with
 | nil=>cases hp
 | cons y rest =>
  obtain ⟨tg,tl,ts,t1,t2,tc,_⟩:=T
  simp only at tg tl t1 t2 tc
  subst tg
  have hy:mtP y:=t1 y (by simp)
  have hM:1≤M:=by simp only [mtAct,if_neg (List.cons_ne_nil _ _)] at ha1;omega
  simp only [mtPlan,Option.some.injEq,Prod.mk.injEq] at hp
  cases st with
  | tL =>
   obtain ⟨_,rfl⟩:=hp
   cases hG:takeN num den burst s y.1 y.2 with
   | none =>
    simp only [hG]
    exact ⟨mt_keep I hq (by simp [mtAct]) (fun f t=>by simp [mtW,mtPend]) ⟨rfl,tl,fun o y r h=>(by cases h),t1,t2,tc,fun h=>(by cases h)⟩,sum_step (fun _=>Nat.le_refl _) hq (by simp [mtφ];omega)⟩
   | some z =>
    simp only [hG]
    exact ⟨mt_keep I hq (by simp [mtAct]) (fun f t=>by simp [mtW,mtPend]) ⟨rfl,tl,fun o y' r h h'=>(by cases h;cases h';rw [hG];rfl),t1,t2,tc,fun h=>(by cases h)⟩,sum_step (fun _=>Nat.le_refl _) hq (by simp only [mtφ,if_true];omega)⟩
  | tC o =>
   obtain ⟨_,rfl⟩:=hp
   by_cases c:s=o
   ·subst c
    simp only [if_true]
    obtain ⟨z,hz⟩:=Option.isSome_iff_exists.1 (ts s y rest rfl rfl)
    rw [hz]
    simp only [Option.getD_some]
    obtain ⟨z1,z2⟩:=take_some O hy.1 hz
    refine ⟨mt_grant (y:=y) O hy I hq (by simp [mtAct]) (fun f t=>by simp [mtW,mtPend,gsum_app]) hz ⟨rfl,by show last≤z;omega,fun o y r h=>(by cases h),t1,t2,tc,fun h=>(by cases h)⟩,?_⟩
    by_cases e:z=s
    ·subst e
     exact sum_step (fun _=>Nat.le_refl _) hq (by simp [mtφ];omega)
    ·have h1:=sum_set (φ:=mtφ M z) (q':=⟨y::rest,true,last,gr,.sL true,kk⟩) hq
     have h2:=sum_act (M:=M) (s:=s) (s':=z) qs
     have h3:mtφ M z ⟨y::rest,true,last,gr,.tC s,kk⟩=(2*M+1)*rest.length+(2*M+2):=by simp [mtφ,e]
     have h4:mtφ M z ⟨y::rest,true,last,gr,.sL true,kk⟩=(2*M+1)*rest.length+1:=by simp [mtφ]
     rw [h3,h4] at h1
     omega
   ·simp only [if_neg c]
    exact ⟨mt_keep I hq (by simp [mtAct]) (fun f t=>by simp [mtW,mtPend]) ⟨rfl,tl,fun o y r h=>(by cases h),t1,t2,tc,fun h=>(by cases h)⟩,sum_step (fun _=>Nat.le_refl _) hq (by simp only [mtφ,if_neg c];omega)⟩
  | sL is =>
   obtain ⟨_,rfl⟩:=hp
   have hg:(true&&decide (last≤s))=true:=by simp [tl]
   simp only [hg]
   simp only [List.length_cons] at tc
   refine ⟨mt_keep I hq (by simp [mtAct];split <;> omega) (fun f t=>?_) ⟨rfl,Nat.le_refl _,fun o y r h=>(by cases h),fun y' hy'=>t1 y' (by simp [hy']),fun y' hy'=>?_,?_,fun h=>rfl⟩,sum_step (fun _=>Nat.le_refl _) hq ?_⟩
   ·cases is <;> simp [mtW,mtPend]
   ·cases is
    ·exact t2 y' hy'
    ·rcases List.mem_append.1 hy' with h | h
     ·exact t2 y' h
     ·cases List.mem_singleton.1 h;exact hy
   ·cases is
    ·show gr.length+rest.length≤12;omega
    ·show (gr++[y]).length+rest.length≤12;simp;omega
   ·cases rest with
    | nil=>simp [mtφ]
    | cons a l=>simp [mtφ,Nat.mul_add]
theorem mt_k {num den burst:Nat} {q:MtQ} {m:Int × Int} {f:Nat→Nat × MtQ} (hp:mtPlan num den burst q=some (m,f)) (s:Nat):(f s).2.k=q.k:=by
 obtain ⟨rl,good,last,gr,st,k⟩:=q
 cases rl with
 | nil=>cases hp
 | cons a rest =>
  simp only [mtPlan,Option.some.injEq,Prod.mk.injEq] at hp
  cases st <;> obtain ⟨_,rfl⟩:=hp <;> dsimp only <;> (try split) <;> (try rfl)
theorem fits_of {num den burst f t w:Nat} (O:BOk num den burst) (hft:f≤t) (h:w=0∨f*num+w*den≤t*num+burst*den):w≤burst+(t-f)*num/den:=by
 rcases h with rfl | h
 ·exact Nat.zero_le _
 ·have e:(t-f)*num=t*num-f*num:=Nat.sub_mul _ _ _
  have e1:f*num≤t*num:=Nat.mul_le_mul_right _ hft
  by_cases hw:w≤burst
  ·exact Nat.le_trans hw (Nat.le_add_right _ _)
  ·have h2:(w-burst)*den≤(t-f)*num:=by rw [Nat.sub_mul,e];omega
   have h3:=(Nat.le_div_iff_mul_le (show 0<den from O.d1)).2 h2
   generalize (t-f)*num/den=z at h3 ⊢
   omega
end
section
structure DoAt (L:List HProp) (a:Option Addr) (l:List (Int × Nat × Nat)):Prop where
 rng:∀ y∈l,(-9223372036854775808≤y.1∧y.1≤9223372036854775807)∧y.2.1<18446744073709551616∧y.2.2<18446744073709551616
 at_:∀ i y,l[i]?=some y→∃ b o,a=some ⟨b,o,none⟩∧Rd L b (o+3*i) (.int .i64 y.1)∧Rd L b (o+3*i+1) (.int .u64 y.2.1)∧Rd L b (o+3*i+2) (.int .u64 y.2.2)
end
end Go.Proofs.Ythoefhocecdlhaa
namespace Go.PB.Mach
section
def T (cs:List Cl) (c p:Nat) (r:Nat→Nat) (pre:List (Bool × List Nat)) (said:List Nat):Th:={ calls:=cs,call:=c,pc:=p,r:=r,ans:=pre++[(false,said)],over:=false }
def Goes (k:Nat) (t t':Th):Prop:=∀ f,onF (f+k) t=onF f t'
theorem Goes.trans {k k':Nat} {t t' t'':Th} (a:Goes k t t') (b:Goes k' t' t''):Goes (k'+k) t t'':=fun f=>by
 rw [← Nat.add_assoc,a,b]
theorem Goes.on {k f:Nat} {t t' t'':Th} (a:Goes k t t') (h:onF f t'=some t''):onF (f+k) t=some t'':=by rw [a,h]
theorem Goes.on1 {f:Nat} {t t' t'':Th} (a:Goes 1 t t') (h:onF f t'=some t''):onF (f+1) t=some t'':=a.on h
section
variable {cs:List Cl} {cl:Cl} {c p:Nat} {r:Nat→Nat} {pre:List (Bool × List Nat)} {said:List Nat} {x:In}
variable {on a b cc d n:Nat}
end
section
variable {cs:List Cl} {cl:Cl} {c p:Nat} {r:Nat→Nat} {pre:List (Bool × List Nat)} {said:List Nat} {x:In} {on a b cc d n vb vc v:Nat}
variable {f:Nat} {w:Wd} {l:List Nat} {q:Nat} {ws:List (List Nat)} {t':Th}
structure Op (f:Nat) (w:Wd) (t:Th) (m:Nat × Nat) (w':Wd) (t':Th):Prop where
 over:t.over=false
 on:opF f w t=some (w',t')
 mark:t.mark=m
end
inductive Runs (f:Nat):Wd→Th→List (Nat × Nat)→Wd→Th→Prop
 | nil {w:Wd} {t:Th}:Runs f w t [] w t
 | cons {w w1 w2:Wd} {t t1 t2:Th} {m:Nat × Nat} {ms:List (Nat × Nat)}:Op f w t m w1 t1→Runs f w1 t1 ms w2 t2→Runs f w t (m::ms) w2 t2
theorem Runs.trans {f:Nat} {w w1 w2:Wd} {t t1 t2:Th} {ms ms':List (Nat × Nat)} (a:Runs f w t ms w1 t1) (b:Runs f w1 t1 ms' w2 t2):Runs f w t (ms++ms') w2 t2:=by
 induction a with
 | nil=>exact b
 | cons h _ ih=>exact .cons h (ih b)
end
end Go.PB.Mach
namespace Go.Proofs.Ythoefhocecdlhaa
open Go Go.PB
attribute [local irreducible] Mo Bin Eql Tr Wo Ap
section
variable {B:Hand} [Lets B] {L F:List HProp} {x:B.X}
def inC (x:Mach.In):List Value:=[.int .i64 (x.op:Nat),.int .i64 (x.on:Nat),.int .i64 (x.a:Nat),.int .i64 (x.b:Nat),.int .i64 (x.c:Nat),.int .i64 (x.d:Nat),.int .u64 (x.n:Nat)]
end
section
variable {B:Hand} [Lets B] {L F G:List HProp} {x:B.X}
structure CW where
 a:Option Addr
 c:Nat
 k:Nat→Option Addr × Nat
 d:Nat→Option Addr × Nat
def CW.v (w:CW) (n:Nat):Value:=.slice w.a n w.c
def codeC (w:CW) (cs:List Mach.Cl):HProp:=fun h=>∀ i cl,cs[i]?=some cl→∃ cb co,w.a=some ⟨cb,co,none⟩ ∧
 h.can ⟨cb,co+2*i,none⟩ (.slice (w.k i).1 cl.code.length (w.k i).2)∧h.can ⟨cb,co+2*i+1,none⟩ (.slice (w.d i).1 cl.data.length (w.d i).2) ∧
 (∀ j y,cl.code[j]?=some y→∃ kb ko,(w.k i).1=some ⟨kb,ko,none⟩∧∀ m v,(inC y)[m]?=some v→h.can ⟨kb,ko+7*j+m,none⟩ v) ∧
 (∀ j v,cl.data[j]?=some v→∃ db dq,(w.d i).1=some ⟨db,dq,none⟩∧h.can ⟨db,dq+j,none⟩ (num v))
section
variable {w:CW} {cs:List Mach.Cl} {cl:Mach.Cl} {i:Nat}
theorem can_mono {h h1 h2:Hp} (s:Split h h1 h2) {a:Addr} {v:Value} (c:h1.can a v):h.can a v:=⟨c.1,c.2.elim (fun e=>.inl (s.o1 _ _ _ e)) (fun e=>.inr (s.r1 _ _ _ e))⟩
def Obs (L:List HProp) (c:HProp):Prop:=∀ h,Star L h→c h
theorem code_mono {h h1 h2:Hp} (s:Split h h1 h2) (c:codeC w cs h1):codeC w cs h:=by
 intro i cl hi
 obtain ⟨cb,co,q1,q2,q3,q4,q5⟩:=c i cl hi
 refine ⟨cb,co,q1,can_mono s q2,can_mono s q3,fun j y hj=>?_,fun j v hj=>?_⟩
 ·obtain ⟨kb,ko,q6,q7⟩:=q4 j y hj
  exact ⟨kb,ko,q6,fun m v hm=>can_mono s (q7 m v hm)⟩
 ·obtain ⟨db,dq,q6,q7⟩:=q5 j v hj
  exact ⟨db,dq,q6,can_mono s q7⟩
theorem Obs.there {d:HProp} (o:Obs L (codeC w cs)):Obs (d::L) (codeC w cs):=fun h s=>by
 obtain ⟨h1,h2,s1,_,hL⟩:=s
 exact code_mono s1.swap (o h2 hL)
end
theorem own_calls {t:Mach.Th} {i:Mach.In}:(Mach.own t i).calls=t.calls∧(Mach.own t i).call=t.call∧(Mach.own t i).over=t.over:=by
 unfold Mach.own Mach.Th.put Mach.Th.tell
 dsimp only
 split <;> (try split) <;> exact ⟨rfl,rfl,rfl⟩
theorem own_ans {t:Mach.Th} {i:Mach.In} (h:i.op≠22):(Mach.own t i).ans=t.ans:=by
 unfold Mach.own Mach.Th.put Mach.Th.tell
 dsimp only
 split <;> (try split) <;> first | rfl | exact absurd (by assumption) h
end
section
structure Good (cs:List Mach.Cl) (t:Mach.Th) (k:Nat):Prop where
 calls:t.calls=cs
 ok:(cs.all Mach.Cl.ok)=true
 len:cs.length<1000000
 pc:t.pc<1000000
 call:t.call≤cs.length
 ans1:t.call≤t.ans.length
 ans2:t.ans.length≤t.call+1
 room:∀ y∈t.ans,y.2.length+k<1000000000
theorem Good.begun {cs:List Mach.Cl} {t:Mach.Th} {k:Nat} (g:Good cs t k) (hk:k<1000000000):Good cs t.begun k:=by
 unfold Mach.Th.begun
 split
 ·refine ⟨g.calls,g.ok,g.len,g.pc,g.call,by simp;omega,by simp;omega,fun y hy=>?_⟩
  rcases List.mem_append.1 hy with hy | hy
  ·exact g.room y hy
  ·cases List.mem_singleton.1 hy;simpa using hk
 ·exact g
theorem begun_ans {cs:List Mach.Cl} {t:Mach.Th} {k:Nat} (g:Good cs t k):t.begun.call=t.call∧t.call<t.begun.ans.length:=by
 unfold Mach.Th.begun
 split
 ·exact ⟨rfl,by simp;omega⟩
 ·exact ⟨rfl,by have:=g.ans1;omega⟩
theorem mem_modify {α:Type} {f:α→α}:∀ {l:List α} {i:Nat} {y:α},y∈l.modify i f→y∈l∨∃ z∈l,y=f z:=by
 intro l
 induction l with
 | nil=>intro i y h;simp at h
 | cons a l ih =>
  intro i y h
  cases i with
  | zero =>
   simp only [List.modify_zero_cons,List.mem_cons] at h
   rcases h with h | h
   ·exact .inr ⟨a,by simp,h⟩
   ·exact .inl (by simp [h])
  | succ i =>
   simp only [List.modify_succ_cons,List.mem_cons] at h
   rcases h with h | h
   ·exact .inl (by simp [h])
   ·rcases ih h with h | ⟨z,h1,h2⟩
    ·exact .inl (by simp [h])
    ·exact .inr ⟨z,by simp [h1],h2⟩
theorem Good.done {cs:List Mach.Cl} {t:Mach.Th} {k:Nat} (g:Good cs t k) (h:t.call<t.ans.length) (hl:t.call<cs.length):Good cs t.done k:=by
 refine ⟨g.calls,g.ok,g.len,by show 0<1000000;omega,by show t.call+1≤_;omega,?_,?_,fun y hy=>?_⟩
 ·show t.call+1≤(t.ans.modify _ _).length;rw [List.length_modify];omega
 ·show (t.ans.modify _ _).length≤t.call+1+1;rw [List.length_modify];have:=g.ans2;omega
 ·rcases mem_modify hy with h | ⟨z,h1,rfl⟩
  ·exact g.room y h
  ·exact g.room z h1
theorem own_pc {t:Mach.Th} {i:Mach.In}:(Mach.own t i).pc=t.pc+1∨(Mach.own t i).pc=i.n∧18≤i.op∧i.op≤21:=by
 obtain ⟨op,on,a,b,c,d,n⟩:=i
 unfold Mach.own Mach.Th.put Mach.Th.tell
 dsimp only
 split <;> (try split) <;> first | exact .inl rfl | exact .inr ⟨rfl,by omega,by omega⟩
theorem own_told {t:Mach.Th} {i:Mach.In} {k:Nat} (h:∀ y∈t.ans,y.2.length+(k+1)<1000000000):∀ y∈(Mach.own t i).ans,y.2.length+k<1000000000:=by
 intro y hy
 by_cases e:i.op=22
 ·have e2:(Mach.own t i).ans=(t.tell (t.r i.a)).ans:=by
   obtain ⟨op,on,a,b,c,dd,n⟩:=i
   simp only at e
   subst e
   rfl
  rw [e2] at hy
  rcases mem_modify hy with h1 | ⟨z,h1,rfl⟩
  ·have:=h y h1;omega
  ·have:=h z h1
   simp only [List.length_append,List.length_cons,List.length_nil];omega
 ·rw [own_ans e] at hy
  have:=h y hy;omega
theorem own_len {t:Mach.Th} {i:Mach.In}:(Mach.own t i).ans.length=t.ans.length:=by
 by_cases e:i.op=22
 ·have e2:(Mach.own t i).ans=(t.tell (t.r i.a)).ans:=by
   obtain ⟨op,on,a,b,c,dd,n⟩:=i
   simp only at e
   subst e
   rfl
  rw [e2]
  show (t.ans.modify _ _).length=_
  rw [List.length_modify]
 ·rw [own_ans e]
theorem Good.next {cs:List Mach.Cl} {t:Mach.Th} {k:Nat} (g:Good cs t k) (hl:t.call<cs.length):t.next=Mach.fin∨t.next.ok=true∧t.pc+1<1000000:=by
 unfold Mach.Th.next Mach.Th.cl
 obtain ⟨cl,hcl⟩:∃ cl,t.calls[t.call]?=some cl:=⟨t.calls[t.call]'(by rw [g.calls];omega),by simp⟩
 rw [List.getD_eq_getElem?_getD,List.getD_eq_getElem?_getD,hcl,Option.getD_some]
 have hok:=List.all_eq_true.1 g.ok cl (by rw [← g.calls];exact List.mem_of_getElem? hcl)
 simp only [Mach.Cl.ok,Bool.and_eq_true,decide_eq_true_eq] at hok
 cases hp:cl.code[t.pc]? with
 | none=>exact .inl rfl
 | some y =>
  have:=(List.getElem?_eq_some_iff.1 hp).1
  exact .inr ⟨List.all_eq_true.1 hok.1.1.1 y (List.mem_of_getElem? hp),by omega⟩
theorem Good.own {cs:List Mach.Cl} {t:Mach.Th} {k:Nat} (g:Good cs t (k+1)) (hl:t.call<cs.length) (hn:t.next.op≠23):Good cs (Mach.own t t.next) k:=by
 obtain ⟨o1,o2,o3⟩:=own_calls (t:=t) (i:=t.next)
 rcases g.next hl with hf | ⟨hok,hpc⟩
 ·rw [hf] at hn;exact absurd rfl hn
 refine ⟨o1.trans g.calls,g.ok,g.len,?_,by rw [o2];exact g.call,by rw [o2,own_len];exact g.ans1,by rw [o2,own_len];exact g.ans2,own_told g.room⟩
 rcases own_pc (t:=t) (i:=t.next) with h | ⟨h,h2,h3⟩
 ·rw [h];exact hpc
 ·rw [h]
  simp only [Mach.In.ok,Bool.and_eq_true,decide_eq_true_eq,Bool.or_eq_true,Bool.not_eq_true',decide_eq_false_iff_not] at hok
  obtain ⟨⟨⟨_,hj⟩,_⟩,_⟩:=hok
  rcases hj with hj | hj
  ·simp at hj;omega
  ·exact hj
theorem Good.onF {cs:List Mach.Cl}:∀ {f:Nat} {t t':Mach.Th} {k:Nat},Good cs t (k+f)→k+f<1000000000→Mach.onF f t=some t'→Good cs t' k:=by
 intro f
 induction f with
 | zero=>intro t t' k g hk h;cases h
 | succ f ih =>
  intro t t' k g hk h
  have weak:∀ {t:Mach.Th} {m:Nat},Good cs t m→k≤m→Good cs t k:=fun g hm=>⟨g.calls,g.ok,g.len,g.pc,g.call,g.ans1,g.ans2,fun y hy=>by have:=g.room y hy;omega⟩
  unfold Mach.onF at h
  split at h
  ·cases h;exact weak g (by omega)
  split at h
  ·cases h;exact ⟨g.calls,g.ok,g.len,g.pc,g.call,g.ans1,g.ans2,fun y hy=>by have:=g.room y hy;omega⟩
  rename_i h1 h2
  have hl:t.call<cs.length:=by rw [← g.calls];omega
  have gb:=g.begun hk
  obtain ⟨b1,b2⟩:=begun_ans g
  split at h
  ·cases h;exact weak gb (by omega)
  split at h
  ·exact ih (k:=k) ⟨(gb.done (by rw [b1];exact b2) (by rw [b1];exact hl)).calls,g.ok,g.len,by show 0<1000000;omega,(gb.done (by rw [b1];exact b2) (by rw [b1];exact hl)).call,(gb.done (by rw [b1];exact b2) (by rw [b1];exact hl)).ans1,(gb.done (by rw [b1];exact b2) (by rw [b1];exact hl)).ans2,fun y hy=>by have:=(gb.done (by rw [b1];exact b2) (by rw [b1];exact hl)).room y hy;omega⟩ (by omega) h
  ·rename_i h3
   exact ih (k:=k) (Good.own (k:=k+f) gb (by rw [b1];exact hl) h3) (by omega) h
variable {B:Hand} [Lets B] {L F G:List HProp} {x:B.X}
end
section
structure PT where
 tb:Nat
 cw:CW
 cs:List Mach.Cl
def PT.cv (p:PT):Value:=p.cw.v p.cs.length
abbrev Calls:=List (CW × List Mach.Cl)
structure CallsOk (F:List HProp) (cc:Calls):Prop where
 n:cc.length<1000
 obs:∀ y∈cc,Obs F (codeC y.1 y.2)
 ok:∀ y∈cc,(y.2.all Mach.Cl.ok)=true
 len:∀ y∈cc,y.2.length<1000000
theorem CallsOk.there {F:List HProp} {cc:Calls} {d:HProp} (c:CallsOk F cc):CallsOk (d::F) cc:=⟨c.n,fun y hy=>(c.obs y hy).there,c.ok,c.len⟩
variable {B:Hand} [Lets B] {L F G:List HProp} {x:B.X}
end
section
def Stands (t:Mach.Th):Prop:=t.over=true∨Mach.told t.next.op=true∧t.call<t.calls.length
structure PlayOk (f:Nat) (s:Mach.St) (q:List (PT × Mach.Th)):Prop where
 l:q.map (·.2)=s.l
 tr:s.tr.length≤16384
 good:∀ y∈q,Good y.1.cs y.2 ((16384-s.tr.length)*(f+1))
 st:∀ y∈q,Stands y.2
variable {B:Hand} [Lets B] {L F G:List HProp} {x:B.X}
end
end Go.Proofs.Ythoefhocecdlhaa
namespace Go.PB.Mach
def St.cut (s:St):List Nat:=(List.range s.l.length).filter fun k=>match s.l[k]? with | some t=>!t.over | none=>false
end Go.PB.Mach
namespace Go.Proofs.Ythoefhocecdlhaa
open Go Go.PB
attribute [local irreducible] Mo Bin Eql Tr Wo Ap
variable {B:Hand} [Lets B] {L F G:List HProp} {x:B.X}
end Go.Proofs.Ythoefhocecdlhaa
namespace Go.Proofs.Ythoefhocecdlhaa
open Go Go.PB
attribute [local irreducible] Mo Bin Eql Tr Wo Ap
section
section
variable {B:Hand} [Lets B] {L F G:List HProp} {x:B.X} {n k v:Nat}
def yes (q:Bool):Nat:=if q then 1 else 0
end
end
section
def RdTr (L:List HProp) (a:Option Addr) (l:List (Nat × (Int × Int))):Prop:=∀ (i:Nat) t,l[i]?=some t→∃ b o,a=some ⟨b,o,none⟩∧Rds L b (o+3*i) [.int .i64 (t.1:Nat),.int .u8 t.2.1,.int .i64 t.2.2]
def RdI (L:List HProp) (a:Option Addr) (l:List Nat):Prop:=∀ (i:Nat) k,l[i]?=some k→∃ b o,a=some ⟨b,o,none⟩∧Rd L b (o+i) (.int .i64 (k:Nat))
theorem RdTr.there {L:List HProp} {a:Option Addr} {l:List (Nat × (Int × Int))} {d:HProp} (h:RdTr L a l):RdTr (d::L) a l:=fun i t hi=>by
 obtain ⟨b,o,e,r⟩:=h i t hi
 exact ⟨b,o,e,fun j v hj=>.there (r j v hj)⟩
theorem RdI.there {L:List HProp} {a:Option Addr} {l:List Nat} {d:HProp} (h:RdI L a l):RdI (d::L) a l:=fun i t hi=>by
 obtain ⟨b,o,e,r⟩:=h i t hi
 exact ⟨b,o,e,.there r⟩
section
variable {B:Hand} [Lets B] {L F:List HProp} {x:B.X}
end
end
end Go.Proofs.Ythoefhocecdlhaa
namespace Go.PB
open Go
section
def Dup (c:HProp):Prop:=∀ (L:List HProp) (h:Hp),Star (c::L) h→Star (c::c::L) h
theorem dup_fro {b o:Nat} {vs:List Value}:Dup (fro b o vs):=fun L h s=>fro_two s
theorem dup_base {W:World}:Dup (base W):=fun L h s=>by
 obtain ⟨h1,h2,s1,ha,hL⟩:=s
 exact ⟨⟨fun _ _=>none,h1.ro,fun _=>none,fun _=>none⟩,h,⟨fun _ _ _ e=>s1.r1 _ _ _ e,fun _ _ _ e=>e,fun _ _ _ e=>by simp at e,fun _ _ _ e=>e,fun _ _=>.inl rfl,fun _ _ e=>by simp at e,fun _ _ e=>e,fun _=>.inl rfl,fun _ _ e=>by simp at e,fun _ _ e=>e⟩,ha,h1,h2,s1,ha,hL⟩
theorem all_cons {c:HProp} {M L:List HProp} {h:Hp} (s:Star (all (c::M)::L) h):Star (c::all M::L) h :=
 star_map (star_open (M:=c::M) s) (fun _ z=>z) fun _ z=>star_shut z
theorem cons_all {c:HProp} {M L:List HProp} {h:Hp} (s:Star (c::all M::L) h):Star (all (c::M)::L) h :=
 star_shut (M:=c::M) (star_map s (fun _ z=>z) fun _ z=>star_open z)
theorem dup_all:∀ {M:List HProp},(∀ c∈M,Dup c)→Dup (all M)
 | [],_=>fun L h s=>star_shut (M:=[]) s
 | c::M,hM=>fun L h s=>by
  have s1:=hM c (by simp) _ _ (all_cons s)
  have s2:Star (all M::c::c::L) h:=Ent.star (.take (.there (.there .here)) (.take .here (.take .here .refl))) s1
  have s3:=dup_all (fun d hd=>hM d (by simp [hd])) _ _ s2
  have s4:Star (c::all M::c::all M::L) h:=Ent.star (.take (.there (.there .here)) (.take .here (.take (.there .here) (.take .here .refl)))) s3
  exact cons_all (star_map s4 (fun _ z=>z) fun _ z=>star_map z (fun _ z=>z) fun _ z=>cons_all z)
theorem dup_many {c:HProp} (hc:Dup c) {L:List HProp} {h:Hp} (s:Star (c::L) h):∀ n,Star (all (List.replicate n c)::c::L) h
 | 0=>star_shut (M:=[]) s
 | n+1=>by
  have s1:=dup_many hc s n
  have s2:=hc _ _ (star_swap s1)
  have s3:Star (c::all (List.replicate n c)::c::L) h:=Ent.star (.take .here (.take (.there .here) (.take .here .refl))) s2
  rw [List.replicate_succ]
  exact cons_all s3
theorem star_zip:∀ {As Bs L:List HProp} {h:Hp},As.length=Bs.length→Star (all As::all Bs::L) h→Star (all (List.zipWith (fun a b=>all [a,b]) As Bs)::L) h
 | [],[],L,h,_,s=>star_shut (M:=[]) (star_drop (star_drop s))
 | [],b::Bs,L,h,e,s=>by simp at e
 | a::As,[],L,h,e,s=>by simp at e
 | a::As,b::Bs,L,h,e,s=>by
  have s1:=all_cons s
  have s2:Star (all (b::Bs)::a::all As::L) h:=Ent.star (.take (.there (.there .here)) (.take .here (.take .here .refl))) s1
  have s3:=all_cons s2
  have s4:Star (all As::all Bs::a::b::L) h:=Ent.star (.take (.there (.there (.there .here))) (.take (.there .here) (.take (.there .here) (.take .here .refl)))) s3
  have s5:=star_zip (by simpa using e) s4
  have s6:Star (a::b::all (List.zipWith (fun a b=>all [a,b]) As Bs)::L) h:=Ent.star (.take (.there .here) (.take (.there .here) (.take .here .refl))) s5
  exact cons_all (star_shut (M:=[_,_]) s6)
theorem star_tail:∀ {M L:List HProp} {h:Hp},Star (M++L) h→Star (all L::M) h
 | [],L,h,s=>star_shut (L:=[]) (by rw [List.append_nil];exact s)
 | c::M,L,h,s=>star_swap (star_map (L:=M++L) s (fun _ z=>z) fun _ z=>star_tail z)
theorem zeros_rep {n:Nat} {v:Value}:zeros n [v]=List.replicate n v:=by
 unfold zeros
 induction n with
 | zero=>rfl
 | succ n ih=>rw [List.replicate_succ,List.flatten_cons,ih,List.replicate_succ];rfl
theorem alls_ex {Y:Type}:∀ {M:List HProp} {C:Nat→Y→HProp} {Q:Nat→Y→Prop} (hM:∀ (k:Nat) c,M[k]?=some c→∀ h,c h→∃ y,Q k y∧C k y h) {L:List HProp} {h:Hp},Star (all M::L) h →
  ∃ ys:List Y,(ys.length=M.length∧∀ (k:Nat) y,ys[k]?=some y→Q k y)∧Star (all (ys.mapIdx C)::L) h
 | [],C,Q,hM,L,h,s=>⟨[],⟨rfl,fun k y hy=>by simp at hy⟩,s⟩
 | c::M,C,Q,hM,L,h,s=>by
  obtain ⟨h1,h2,sp,hc,hr⟩:=all_cons s
  obtain ⟨y,hq,hy⟩:=hM 0 c rfl h1 hc
  obtain ⟨ys,⟨hl,hQ⟩,hs⟩:=alls_ex (C:=fun k=>C (k+1)) (Q:=fun k=>Q (k+1)) (fun k c hk=>hM (k+1) c hk) hr
  refine ⟨y::ys,⟨by simp [hl],fun k z hz=>?_⟩,?_⟩
  ·cases k with
   | zero=>cases hz;exact hq
   | succ k=>exact hQ k z hz
  ·rw [List.mapIdx_cons]
   exact cons_all ⟨h1,h2,sp,hy,hs⟩
theorem rd_item {M L:List HProp} {c:HProp} {k b o:Nat} {v:Value} (e:M[k]?=some c) (r:Rd [c] b o v):Rd (all M::L) b o v:=fun h s=>by
 obtain ⟨h1,h2,sp,hc,hr⟩:=PB.star_pick e s
 exact (Rd.of (R:=all (M.eraseIdx k)::L) .here r) h ⟨h1,h2,sp,hc,hr⟩
end
end Go.PB
namespace Go.Proofs.Ythoefhocecdlhaa
open Go Go.PB
attribute [local irreducible] Mo Bin Eql Tr Wo Ap Wle
section
theorem rd_all {M L:List HProp} {b o:Nat} {v:Value} (r:Rd M b o v):Rd (all M::L) b o v:=fun h s =>
 r h (star_drop (star_tail (star_open s)))
theorem rdso_vec {L F:List HProp} {a:Option Addr} {n c:Nat} {cs:List Value} (hh:Has L (vec 1 (.slice a n c) cs) F) (hn:cs.length=n*1) (hz:a=none→n=0) (hy:∀ y,a=some y→y=⟨y.block,y.off,none⟩):RdsO L a n cs:=by
 refine ⟨by omega,?_⟩
 cases a with
 | none=>exact .inl (hz rfl)
 | some y =>
  obtain ⟨b,o,sp⟩:=y
  cases hy _ rfl
  exact .inr ⟨b,o,rfl,fun i v hi=>rd_vec hh hi⟩
theorem Rd.deep {M L F:List HProp} {c:HProp} {k b o:Nat} {v:Value} (hh:Has L (all M) F) (e:M[k]?=some c) (r:Rd [c] b o v):Rd L b o v:=Rd.of hh (rd_item e r)
theorem star_exs {ι:Type} {P:ι→Prop} {c:ι→HProp} {L:List HProp} {h:Hp} (s:∃ y,P y∧Star (c y::L) h):Star ((fun h=>∃ y,P y∧c y h)::L) h:=by
 obtain ⟨y,hp,h1,h2,sp,hc,hr⟩:=s
 exact ⟨h1,h2,sp,⟨y,hp,hc⟩,hr⟩
end
section
def mgC (y:Nat × Nat):List Value:=[.int .u64 (y.1:Nat),.int .u64 (y.2:Nat)]
def mtPx (gb db k:Nat) (gr:List (Nat × Nat)) (good:Bool):HProp:=fun h=>∃ sv,all [arr gb k [sv],vec 2 sv (gr.map mgC).flatten,arr db k [.bool good]] h
def mtPv (gb db k:Nat) (gr:List (Nat × Nat)) (good:Bool):HProp:=all [mtPx gb db k gr good]
def mtG (gb db num den burst:Nat):WGm where
 σ:=Nat
 θ:=MtQ
 ζ:=Unit
 wf:=fun s _=>s
 zf:=fun _=>()
 Z:=fun _=>all []
 plan:=mtPlan num den burst
 ok:=fun _=>True
 Pv:=fun q=>mtPv gb db q.k q.gr q.good
 up:=fun q h st=>star_open (M:=[_]) st
section
variable {gb db k num den burst r sb says turn fin wg:Nat} {Pm:HProp} {gr:List (Nat × Nat)} {good:Bool} {last:Nat}
structure MtS (q:MtQ) (s:GaS (mtG gb db num den burst)):Prop where
 q:s.q=q
 f:s.f 0=(show Nat from s.s)
end
structure MtRo (Ro:HProp) (g6 ib p8 mb g5 db gb qb qo nt qc k r:Nat) (a:Option Addr) (c:Nat) (l:List (Int × Nat × Nat)):Prop where
 h1:Rd [Ro] g6 0 (.slice (some ⟨db,0,none⟩) nt nt)
 h2:Rd [Ro] ib 0 (.int .i64 (k:Nat))
 h3:Rd [Ro] p8 0 (.slice (some ⟨qb,qo,none⟩) nt qc)
 h4:Rd [Ro] qb (qo+k) (.slice a l.length c)
 h5:∀ (i:Nat) y,l[i]?=some y→∃ b o,a=some ⟨b,o,none⟩∧Rds [Ro] b (o+3*i) [.int .i64 y.1,.int .u64 (y.2.1:Nat),.int .u64 (y.2.2:Nat)]
 h6:Rd [Ro] mb 0 (.pointer (some ⟨r,0,none⟩))
 h7:Rd [Ro] g5 0 (.slice (some ⟨gb,0,none⟩) nt nt)
 hk:k<nt
 hl:l.length≤12
 ok:∀ y∈l,y.2.1<18446744073709551616∧y.2.2<18446744073709551616
def mtL (l:List (Int × Nat × Nat)):List (Nat × Nat):=l.map fun y=>(y.2.1%1099511627776,y.2.2%64)
def mtM0 (gb db k:Nat):HProp:=all [arr gb k [.slice none 0 0],arr db k [.bool false]]
abbrev mtF (g6 ib p8 mb g5:Nat):Value:=.func (.func 50) #[] #[.pointer (some ⟨g6,0,none⟩),.pointer (some ⟨ib,0,none⟩),.pointer (some ⟨p8,0,none⟩),.pointer (some ⟨mb,0,none⟩),.pointer (some ⟨g5,0,none⟩)]
section
variable {gb db k num den burst r:Nat}
end
end
end Go.Proofs.Ythoefhocecdlhaa
namespace Go.PB
open Go
attribute [local irreducible] Mo Bin Eql Tr Wo
section
inductive ResW (P:Program) (e:Env) (L:List HProp):ResultVar→Value→Prop
 | old {r:ResultVar} {v:Value}:ResV P e L r v→ResW P e L r v
 | one {a ty b o:Nat} {v:Value} [p:Scal P ty]:lk e a=some (.pointer (some ⟨b,o,none⟩))→Rd L b o v→ResW P e L (.cell a ty) v
inductive ResM (P:Program) (e:Env) (L:List HProp):List ResultVar→List Value→Prop
 | nil:ResM P e L [] []
 | cons {r:ResultVar} {v:Value} {rs:List ResultVar} {vs:List Value}:ResW P e L r v→ResM P e L rs vs→ResM P e L (r::rs) (v::vs)
variable {P:Program} {B:Hand} {kd:CallKind} {n:Nat} {e:Env} {L:List HProp} {x:B.X}
theorem ResW.load {r:ResultVar} {v:Value} {t:Array Value} {M:Mark→Prop} {h:Hp} {Q:Value→Hp→Prop} {X:Value→Hp→Prop} (rv:ResW P e L r v) (ag:Agree e t) (s:Star L h) (q:Q v h) :
  wpS P M (loadR t r) h Q X:=by
 cases rv with
 | old h=>exact h.load ag s q
 | @one a ty b o v p ha hr =>
  have:t.getD a undef=_:=ag.ev (o:=.tmp a) ha
  show wpS P M (Sem.bind (asAddr (t.getD a undef)) fun y=>loadVar ty y) h Q X
  rw [this]
  show wpS P M (loadVar ty ⟨b,o,none⟩) h Q X
  show wpS P M (Sem.bind (isAgg ty) _) h _ X
  refine wpS_isAgg p.ok ?_
  exact wpS_load (hr h s) q
theorem at_leaveW {f:FuncId} {fn:Func} {rs:List ResultVar} {vs:List Value} {um:FrameMode} {Q:PB.End→FrameMode→Hp→B.X→Prop} {R:Value→List HProp→B.X→Prop} {ex:Ex} (hf:P.funcs[f]?=some fn) (hr:fn.results=rs.toArray)
  (q:∀ v L' x' h',R v L' x'→Star L' h'→Q (.ret v) um h' x') (hex:ex=.ret∨ex=.normal) (hv:ResM P e L rs vs) (hR:R (packR vs) L x) :
  At n e L fun t h=>leave P B f kd Q ex t ⟨[],um⟩ h x:=by
 intro t h a1 a2 a3
 have hw:Wd P B f kd .returning t ⟨[],um⟩ h x Q:=by
  refine wd_ret (packR vs) hf rfl ?_ (q _ L x h hR a3)
  have key:∀ {rs:List ResultVar} {vs:List Value},ResM P e L rs vs→∀ (acc:Array Value) (M:Mark→Prop) (Q:Array Value→Hp→Prop) (X:Value→Hp→Prop),Q (acc++vs.toArray) h →
    wpS P M (List.foldlM (fun (bs:Array Value) (r:ResultVar)=>bs.push <$> loadR t r) acc rs) h Q X:=by
   intro rs vs hv
   induction hv with
   | nil=>exact fun acc M Q X hq=>(show Q acc h from by simpa using hq)
   | @cons r v rs vs h1 _ ih =>
    intro acc M Q X hq
    rw [List.foldlM_cons,map_eq_pure_bind]
    refine wpS_bind _ _ (wpS_bind _ _ (h1.load a2 a3 ?_))
    show wpS P M (List.foldlM _ (acc.push v) rs) h Q X
    refine ih (acc.push v) M Q X ?_
    simpa using hq
  unfold results
  rw [hr,Array.mapM_eq_foldlM,← Array.foldlM_toList]
  refine wpS_bind _ _ ?_
  have e1:(fun (bs:Array Value) (r:ResultVar)=>(bs.push <$> (match r with | .tmp i=>pure (t.getD i undef) | .cell a ty=>do loadVar ty (← asAddr (t.getD a undef)):Sem Value):Sem (Array Value)))=fun bs r=>bs.push <$> loadR t r:=by
   funext bs r;cases r <;> rfl
  show wpS P _ (List.foldlM (fun (bs:Array Value) (r:ResultVar)=>(bs.push <$> (match r with | .tmp i=>pure (t.getD i undef) | .cell a ty=>do loadVar ty (← asAddr (t.getD a undef)):Sem Value):Sem (Array Value))) #[] rs) h _ _
  rw [e1]
  refine key hv #[] _ _ _ ?_
  rw [show (#[]++vs.toArray:Array Value)=vs.toArray by simp]
  refine ⟨?_,rfl⟩
  cases vs with
  | nil=>rfl
  | cons a l=>cases l <;> rfl
 rcases hex with rfl | rfl
 ·exact hw
 ·exact hw
end
end Go.PB
namespace Go.Proofs.Ythoefhocecdlhaa
open Go Go.PB
attribute [local irreducible] Mo Bin Eql Tr Wo Ap Wle
attribute [local instance] Pass.of_no
section
def boxesM (ts:List Nat):List HProp:=ts.mapIdx fun i b=>arr b 0 [.int .i64 (i:Nat)]
theorem boxesM_snoc {ts:List Nat} {t:Nat}:boxesM (ts++[t])=boxesM ts++[arr t 0 [.int .i64 (ts.length:Nat)]]:=by
 unfold boxesM
 rw [List.mapIdx_append]
 simp
theorem rd_lift5 {a b c d e:HProp} {L:List HProp} {b1 o:Nat} {v:Value} (h:Rd L b1 o v):Rd (a::b::c::d::e::L) b1 o v:=.there (.there (.there (.there (.there h))))
def tkInv (mb p8 g5 g6 gb db r qb qo n qc:Nat) (L:List HProp):PB.Inv (Nat × Nat × Value × List Nat) MX where
 e:=fun i=>[(2,.pointer (some ⟨mb,0,none⟩)),(3,.pointer (some ⟨p8,0,none⟩)),(4,i.2.2.1),(5,.pointer (some ⟨g5,0,none⟩)),(6,.pointer (some ⟨g6,0,none⟩)),(7,.pointer (some ⟨i.2.1,0,none⟩))]
 L:=fun i=>arr i.2.1 0 [.int .i64 (i.1:Nat)]::vec 1 i.2.2.1 (i.2.2.2.map fun b=>mtF g6 b p8 mb g5)::all (boxesM i.2.2.2)::arr mb 0 [.pointer (some ⟨r,0,none⟩)]::arr p8 0 [.slice (some ⟨qb,qo,none⟩) n qc]::arr g5 0 [.slice (some ⟨gb,0,none⟩) n n]::arr g6 0 [.slice (some ⟨db,0,none⟩) n n]::arr gb 0 (List.replicate n (.slice none 0 0))::arr db 0 (List.replicate n (.bool false))::L
 x:=fun _=>.idle
 ok:=fun i=>i.1≤n∧i.2.2.2.length=i.1
set_option maxHeartbeats 4000000 in
theorem mtakes_tr {L:List HProp} {r qb qo n qc:Nat} (hn:n≤6) :
  Tr Try.prog mT 25 [.pointer (some ⟨r,0,none⟩),.slice (some ⟨qb,qo,none⟩) n qc] L .idle fun v L' x'=>∃ mb p8 g5 g6 gb db tv ts,v=.tuple #[tv,.slice (some ⟨gb,0,none⟩) n n,.slice (some ⟨db,0,none⟩) n n]∧ts.length=n∧x'=.idle∧L'=vec 1 tv (ts.map fun b=>mtF g6 b p8 mb g5)::all (boxesM ts)::arr mb 0 [.pointer (some ⟨r,0,none⟩)]::arr p8 0 [.slice (some ⟨qb,qo,none⟩) n qc]::arr g5 0 [.slice (some ⟨gb,0,none⟩) n n]::arr g6 0 [.slice (some ⟨db,0,none⟩) n n]::arr gb 0 (List.replicate n (.slice none 0 0))::arr db 0 (List.replicate n (.bool false))::L:=by
 refine Tr.post (R:=fun v L' x'=>∃ mb p8 g5 g6 gb db tv ts,v=.tuple #[tv,.slice (some ⟨gb,0,none⟩) n n,.slice (some ⟨db,0,none⟩) n n]∧ts.length=n∧x'=MX.idle∧∀ h,Star L' h→Star (vec 1 tv (ts.map fun b=>mtF g6 b p8 mb g5)::all (boxesM ts)::arr mb 0 [.pointer (some ⟨r,0,none⟩)]::arr p8 0 [.slice (some ⟨qb,qo,none⟩) n qc]::arr g5 0 [.slice (some ⟨gb,0,none⟩) n n]::arr g6 0 [.slice (some ⟨db,0,none⟩) n n]::arr gb 0 (List.replicate n (.slice none 0 0))::arr db 0 (List.replicate n (.bool false))::L) h) ?_
  (by rintro v L' x' ⟨mb,p8,g5,g6,gb,db,tv,ts,h1,h2,rfl,h3⟩;exact ⟨_,⟨mb,p8,g5,g6,gb,db,tv,ts,h1,h2,rfl,rfl⟩,h3⟩)
 refine tr_of_body Try.func25 rfl Try.ntmps25 (by simp) fun um Q _ hQ=>?_
 simp only [argE,Nat.zero_add,Nat.reduceAdd]
 repeat (first | (apply wo_mo;apply mo_box;exact rfl;exact trivial) | refine we_seq ?_ | (refine wR ?_;try simp only [oS]))
 rintro v' L' ⟨mb,rfl,rfl⟩
 repeat (first | (apply wo_mo;apply mo_box;exact rfl;exact trivial))
 rintro v' L' ⟨p8,rfl,rfl⟩
 repeat (first | (apply wo_mo;apply mo_alloc;exact trivial) | refine wA ?_)
 rintro v' L' ⟨g5,rfl,rfl⟩
 repeat (first | (apply wo_mo;apply mo_alloc;exact trivial))
 rintro v' L' ⟨g6,rfl,rfl⟩
 refine wo_star (arr g6 0 [.slice none 0 0]::arr g5 0 [.slice none 0 0]::arr p8 0 [.slice (some ⟨qb,qo,none⟩) n qc]::arr mb 0 [.pointer (some ⟨r,0,none⟩)]::L) (fun h st=>st) ?_
 repeat (first | (apply wo_mo;apply mo_make (n:=n);exact rfl;exact rfl;exact rfl;omega;omega;exact trivial) | refine we_seq ?_ | (refine wR ?_;try simp only [oS]) | refine wo_nil ?_ | refine wL ?_ | refine wE ?_)
 rintro v' L' ⟨gb,rfl,rfl⟩
 repeat (first | refine wS ?_ | (apply wo_mo;apply mo_make (n:=n);exact rfl;exact rfl;exact rfl;omega;omega;exact trivial) | refine we_seq ?_ | (refine wR ?_;try simp only [oS]) | refine wo_nil ?_ | refine wL ?_ | refine wE ?_)
 rintro v' L' ⟨db,rfl,rfl⟩
 repeat (first | refine wS ?_ | (apply wo_mo;apply mo_alloc;exact trivial) | refine we_seq ?_ | (refine wR ?_;try simp only [oS]) | refine wo_nil ?_)
 rintro v' L' ⟨ib,rfl,rfl⟩
 repeat (first | refine wS ?_ | refine wo_nil ?_ | refine we_block ?_)
 refine we_star ((tkInv mb p8 g5 g6 gb db r qb qo n qc L).L (0,ib,.slice none 0 0,[])) (fun h st=>?_) ?_
 ·have s1:Star (arr ib 0 [.int .i64 (0:Nat)]::arr db 0 (zeros n [.bool false])::arr gb 0 (zeros n [.slice none 0 0])::arr g6 0 [.slice (some ⟨db,0,none⟩) n n]::arr g5 0 [.slice (some ⟨gb,0,none⟩) n n]::arr p8 0 [.slice (some ⟨qb,qo,none⟩) n qc]::arr mb 0 [.pointer (some ⟨r,0,none⟩)]::L) h:=by first | exact st | exact Ent.star (.take .here (.take .here (.take (.there .here) (.take .here (.take .here .refl))))) st
  rw [zeros_rep,zeros_rep] at s1
  have s3:Star (all []::vec 1 (.slice none 0 0) []::_) h:=star_shut (M:=[]) (vec_nil s1)
  exact Ent.star (.take (.there (.there .here)) (.take (.there .here) (.take .here (.take (.there (.there (.there (.there (.there .here))))) (.take (.there (.there (.there (.there .here)))) (.take (.there (.there (.there .here))) (.take (.there (.there .here)) (.take (.there .here) (.take .here .refl))))))))) s3
 refine we_loopN (tkInv mb p8 g5 g6 gb db r qb qo n qc L) (fun i=>n-i.1) (0,ib,.slice none 0 0,[]) ⟨Nat.zero_le _,rfl⟩ ⟨rfl,rfl,rfl,rfl,rfl,rfl,trivial⟩ .refl rfl ?_
 rintro ⟨i,ib,tv,ts⟩ ⟨hi,hts⟩
 dsimp only at hi hts
 simp only [tkInv]
 refine we_pure (of_has (.there .here) (vec_shape (by omega))) ?_
 rintro ⟨tva,tvn,tvc,rfl,htvn,_⟩
 have htvn:tvn=i:=by simp at htvn;omega
 subst htvn
 by_cases hlt:tvn<n
 ·repeat (first | (apply wo_po;apply mo_makeFunc (first:=[]) (cap:=[_,_,_,_,_]) (vf:=[]);exact .nil;exact .cons rfl (.cons rfl (.cons rfl (.cons rfl (.cons rfl .nil))));exact trivial) | (apply wo_mo;apply mo_buildSlice (sz:=1) (vs:=[mtF g6 ib p8 mb g5]);exact rfl;exact .cons rfl .nil;exact rfl;(intro v hv;cases (List.mem_singleton.1 hv);exact rfl);omega;exact trivial) | refine wlssT ?_ | refine we_seq ?_ | (refine wR ?_;try simp only [oS]) | refine wo_nil ?_ | refine wM ?_ | refine wL ?_ | refine wE ?_ | refine wT ?_ | refine we_skip ?_ | refine we_block ?_)
  rintro v' L' ⟨nb2,rfl,rfl⟩
  repeat (first | (apply wo_mo;apply mo_append (sz:=1) (new:=[mtF g6 ib p8 mb g5]);exact rfl;exact rfl;exact rfl;exact rfl;exact (.there (.there .here));exact rfl;exact .inr ⟨_,_,rfl,Rds.all .here⟩;(intro v hv;cases (List.mem_singleton.1 hv);exact rfl);(simp only [sliceLen];omega);exact trivial))
  rintro tv' L' rfl
  repeat (first | (apply wo_mo;apply mo_alloc;exact trivial) | refine we_seq ?_ | (refine wR ?_;try simp only [oS]) | refine wo_nil ?_ | refine wA ?_ | refine wL ?_)
  rintro v' L' ⟨ib2,rfl,rfl⟩
  repeat (first | refine wS ?_ | (refine wR ?_;try simp only [oS]) | refine wo_nil ?_ | refine wL ?_ | refine wadd ?_)
  refine at_roundS (B:=mT) (I:=tkInv mb p8 g5 g6 gb db r qb qo n qc L) (R:=fun q=>n-q.1<n-tvn) (tvn+1,ib2,tv',ts++[ib]) (by show n-(tvn+1)<n-tvn;omega) ⟨by show tvn+1≤n;omega,by simp [hts]⟩ ?_ (fun hp st=>?_) rfl
  ·exact ⟨rfl,rfl,rfl,rfl,rfl,rfl,trivial⟩
  ·have s1:=star_open (Ent.star (.take (.there (.there (.there (.there .here)))) (.take (.there (.there (.there .here))) (.take .here (.take .here (.drop .refl))))) st)
   have s2:Star (all (boxesM (ts++[ib]))::_) hp:=star_shut (by
    rw [boxesM_snoc,List.append_assoc,hts]
    exact s1)
   have e1:(ts++[ib]).map (fun b=>mtF g6 b p8 mb g5)=ts.map (fun b=>mtF g6 b p8 mb g5)++[mtF g6 ib p8 mb g5]:=by rw [List.map_append];rfl
   show Star (_::vec 1 tv' ((ts++[ib]).map fun b=>mtF g6 b p8 mb g5)::_) hp
   rw [e1]
   exact Ent.star (.take (.there .here) (.take (.there .here) (.take .here .refl))) s2
 obtain rfl:tvn=n:=by omega
 repeat (first | refine wlssF ?_ | refine we_seq ?_ | (refine wR ?_;try simp only [oS]) | refine wo_nil ?_ | refine wL ?_ | refine wE ?_ | refine wF ?_ | refine we_exit ?_)
 refine we_draw (List.range' 0 6) (by kernel_rfl) ?_
 repeat (first | refine aM ?_ | refine aA ?_ | refine aL ?_)
 refine ap_loudR rfl rfl rfl rfl trivial (mo_store rfl rfl rfl (Wt.row0 (k:=0) (vs:=[.slice (some ⟨gb,0,none⟩) tvn tvn]) (.there (.there (.there (.there (.there .here))))) (Nat.lt_succ_self 0))) ?_ ?_
 ·rintro v' L' ⟨rfl,rfl⟩ p hp
  replace hp:=(List.mem_filter.1 hp).1
  simp only [List.mem_cons,List.not_mem_nil,or_false] at hp
  repeat (rcases hp with rfl | hp;· first | exact .inl rfl | exact .inr ⟨_,rfl,trivial,mo_load rfl (by first | exact .there (.there (.there (.there (.there (.there (.row0 rfl)))))) | exact .there (.there (.there (.there (.there (.row0 rfl))))))⟩)
  all_goals (subst hp;first | exact .inl rfl | exact .inr ⟨_,rfl,trivial,mo_load rfl (by first | exact .there (.there (.there (.there (.there (.there (.row0 rfl)))))) | exact .there (.there (.there (.there (.there (.row0 rfl))))))⟩)
 rintro v' L' ⟨rfl,rfl⟩
 skip
 refine ap_loud rfl rfl rfl rfl rfl trivial (mo_store rfl rfl rfl (Wt.row0 (k:=0) (vs:=[.slice (some ⟨db,0,none⟩) tvn tvn]) (.there (.there (.there (.there (.there (.there .here)))))) (Nat.lt_succ_self 0))) ?_
 rintro v' L' ⟨rfl,rfl⟩
 repeat (first | refine ap_end ?_)
 repeat (first | refine we_ret ?_)
 refine at_leaveW (rs:=[.tmp 4,.cell 5 70,.cell 6 71]) Try.func25 Try.results25 hQ (.inl rfl) (.cons (.old (.tmp rfl)) (.cons (.one (v:=.slice (some ⟨gb,0,none⟩) tvn tvn) rfl (rd_lift5 (.row0 rfl))) (.cons (.one (v:=.slice (some ⟨db,0,none⟩) tvn tvn) rfl (.there (rd_lift5 (.row0 rfl)))) .nil))) ?_
 exact ⟨mb,p8,g5,g6,gb,db,_,ts,rfl,hts,rfl,fun h st=>Ent.star (.drop .refl) st⟩
end
end Go.Proofs.Ythoefhocecdlhaa
namespace Go.Proofs.Ythoefhocecdlhaa
open Go Go.PB
attribute [local irreducible] Mo Bin Eql Tr Wo Ap Wle
section
section
variable {B:Hand} [Lets B] {x:B.X} {L F:List HProp} {num den burst:Nat}
def ftA (x:B.X) (a:Option Addr) (n c bx num den burst:Nat) (L:List HProp):PB.Inv Nat B.X where
 e:=fun i=>[(1,.slice a n c),(2,.pointer (some ⟨bx,0,none⟩)),(5,.int .i64 (i:Nat))]
 L:=fun _=>arr bx 0 [.int .u64 (num:Nat),.int .u64 (den:Nat),.int .u64 (burst:Nat)]::L
 x:=fun _=>x
 ok:=fun i=>i≤n
def ftB (x:B.X) (a:Option Addr) (n c bx num den burst:Nat) (L:List HProp) (i:Nat):PB.Inv Nat B.X where
 e:=fun k=>[(1,.slice a n c),(2,.pointer (some ⟨bx,0,none⟩)),(5,.int .i64 (i:Nat)),(6,.int .i64 (k:Nat))]
 L:=fun _=>arr bx 0 [.int .u64 (num:Nat),.int .u64 (den:Nat),.int .u64 (burst:Nat)]::L
 x:=fun _=>x
 ok:=fun k=>k≤n
def ftC (x:B.X) (a:Option Addr) (n c bx num den burst:Nat) (L:List HProp) (l:List (Nat × Nat)) (i k f t:Nat):PB.Inv Nat B.X where
 e:=fun j=>[(1,.slice a n c),(2,.pointer (some ⟨bx,0,none⟩)),(5,.int .i64 (i:Nat)),(6,.int .i64 (k:Nat)),(7,.int .u64 (f:Nat)),(8,.int .u64 (t:Nat)),(9,.int .u64 (gsum f t (l.take j):Nat)),(10,.int .i64 (j:Nat))]
 L:=fun _=>arr bx 0 [.int .u64 (num:Nat),.int .u64 (den:Nat),.int .u64 (burst:Nat)]::L
 x:=fun _=>x
 ok:=fun j=>j≤n
theorem gsum_le {f t:Nat} {l:List (Nat × Nat)} (h:∀ y∈l,mtP y):gsum f t l≤64*l.length:=by
 induction l with
 | nil=>simp [gsum,sumN]
 | cons y l ih =>
  have h1:=ih fun z hz=>h z (by simp [hz])
  have h2:=(h y (by simp)).2
  unfold gsum at h1 ⊢
  simp only [List.map_cons,sumN,List.foldr_cons,List.length_cons] at h1 ⊢
  split <;> omega
set_option maxHeartbeats 4000000 in
theorem fits_tr {a:Option Addr} {n c:Nat} {l:List (Nat × Nat)} (hn:l.length=n) (hn72:n≤72) (hrd:n=0∨∃ b o,a=some ⟨b,o,none⟩∧Rds L b o (l.map mgC).flatten) (hP:∀ y∈l,mtP y) (O:BOk num den burst) (hfit:∀ f t,f≤t→gsum f t l≤burst+(t-f)*num/den) :
  Tr Try.prog B 56 [.agg #[.int .u64 (num:Nat),.int .u64 (den:Nat),.int .u64 (burst:Nat)],.slice a n c] L x fun v L' x'=>v=.bool true∧x'=x:=by
 subst hn
 have hO:=O
 obtain ⟨n1,n2,d1,d2,b1,b2⟩:=hO
 refine tr_of_body Try.func56 rfl Try.ntmps56 (by simp) fun um Q _ hQ=>?_
 simp only [argE,Nat.zero_add,Nat.reduceAdd]
 repeat (first | (apply wo_mo;apply mo_box;exact rfl;exact trivial) | refine we_seq ?_ | (refine wR ?_;try simp only [oS]))
 rintro v' L' ⟨bx,rfl,rfl⟩
 refine wo_ent (arr bx 0 [.int .u64 (num:Nat),.int .u64 (den:Nat),.int .u64 (burst:Nat)]::L) .refl ?_
 repeat (first | refine we_seq ?_ | (refine wR ?_;try simp only [oS]) | refine wo_nil ?_ | refine wA ?_ | refine we_block ?_)
 refine we_loopN (ftA x a l.length c bx num den burst L) (fun i=>l.length-i) 0 (Nat.zero_le _) ⟨rfl,rfl,rfl,trivial⟩ .refl rfl ?_
 intro i hi
 replace hi:i≤l.length:=hi
 simp only [ftA]
 by_cases hlt:i<l.length
 ·obtain ⟨b,o,rfl,hr⟩:=hrd.resolve_left (by omega)
  have rd0:∀ {j:Nat} {y:Nat × Nat},l[j]?=some y→Rd (arr bx 0 [.int .u64 (num:Nat),.int .u64 (den:Nat),.int .u64 (burst:Nat)]::L) b (o+2*j+0) (.int .u64 (y.1:Nat)):=fun {j y} hy=>.there (by
   have:=hr (2*j+0) (.int .u64 (y.1:Nat)) (by rw [flat_get (k:=2) (fun _=>rfl) l j 0 _ hy (by omega)];rfl)
   rwa [← Nat.add_assoc] at this)
  have rd1:∀ {j:Nat} {y:Nat × Nat},l[j]?=some y→Rd (arr bx 0 [.int .u64 (num:Nat),.int .u64 (den:Nat),.int .u64 (burst:Nat)]::L) b (o+2*j+1) (.int .u64 (y.2:Nat)):=fun {j y} hy=>.there (by
   have:=hr (2*j+1) (.int .u64 (y.2:Nat)) (by rw [flat_get (k:=2) (fun _=>rfl) l j 1 _ hy (by omega)];rfl)
   rwa [← Nat.add_assoc] at this)
  obtain ⟨yi,hyi⟩:∃ y,l[i]?=some y:=⟨l[i],List.getElem?_eq_getElem hlt⟩
  obtain ⟨f,hf⟩:∃ f,yi.1=f:=⟨_,rfl⟩
  have ri:=rd0 hyi
  rw [hf] at ri
  have hfm:=(hP yi (List.mem_of_getElem? hyi)).1
  rw [hf] at hfm
  repeat (first | refine wlssT ?_ | refine we_seq ?_ | (refine wR ?_;try simp only [oS]) | refine wo_nil ?_ | refine wM ?_ | refine wA ?_ | refine wE ?_ | refine wT ?_ | refine we_skip ?_ | refine we_block ?_)
  refine we_loopN (ftB x (some ⟨b,o,none⟩) l.length c bx num den burst L i) (fun k=>l.length-k) 0 (Nat.zero_le _) ⟨rfl,rfl,rfl,rfl,trivial⟩ .refl rfl ?_
  intro k hk
  replace hk:k≤l.length:=hk
  simp only [ftB]
  by_cases hlk:k<l.length
  ·obtain ⟨yk,hyk⟩:∃ y,l[k]?=some y:=⟨l[k],List.getElem?_eq_getElem hlk⟩
   obtain ⟨t,ht⟩:∃ t,yk.1=t:=⟨_,rfl⟩
   have rk:=rd0 hyk
   rw [ht] at rk
   have htm:=(hP yk (List.mem_of_getElem? hyk)).1
   rw [ht] at htm
   repeat (first | refine wlssT ?_ | refine we_seq ?_ | (refine wR ?_;try simp only [oS]) | refine wo_nil ?_ | refine wM ?_ | refine wE ?_ | refine wT ?_ | refine we_skip ?_ | refine we_block ?_)
   refine we_draw (List.range' 0 12) (by kernel_rfl) ?_
   repeat (first | (apply ap_pure;exact rfl;exact rfl;exact trivial;intro L;apply mo_indexAddr (r:=o+2*i);exact rfl;exact rfl;omega;omega;omega) | (apply ap_pure;exact rfl;exact rfl;exact trivial;intro L;apply mo_indexAddr (r:=o+2*k);exact rfl;exact rfl;omega;omega;omega) | (apply ap_read;exact rfl;exact rfl;exact trivial;apply mo_load;exact rfl;(first | exact ri | exact rk)) | refine aM ?_ | refine aA ?_ | refine aD ?_ | refine ap_end ?_)
   by_cases hft:t<f
   ·repeat (first | refine wlssT ?_ | refine we_seq ?_ | (refine wR ?_;try simp only [oS]) | refine wo_nil ?_ | refine wM ?_ | refine wA ?_ | refine wadd ?_ | refine wT ?_ | refine we_exit ?_)
    refine at_round (B:=B) (I:=ftB x (some ⟨b,o,none⟩) l.length c bx num den burst L i) (R:=fun j=>l.length-j<l.length-k) (k+1) (by show l.length-(k+1)<l.length-k;omega) (by show k+1≤l.length;omega) ⟨rfl,rfl,rfl,rfl,trivial⟩ .refl rfl
   ·repeat (first | refine wlssF ?_ | refine we_seq ?_ | (refine wR ?_;try simp only [oS]) | refine wo_nil ?_ | refine wM ?_ | refine wA ?_ | refine wF ?_ | refine we_skip ?_ | refine we_block ?_)
    refine we_loopN (ftC x (some ⟨b,o,none⟩) l.length c bx num den burst L l i k f t) (fun j=>l.length-j) 0 (Nat.zero_le _) ⟨rfl,rfl,rfl,rfl,rfl,rfl,rfl,rfl,trivial⟩ .refl rfl ?_
    intro j hj
    replace hj:j≤l.length:=hj
    simp only [ftC]
    by_cases hlj:j<l.length
    ·obtain ⟨yj,hyj⟩:∃ y,l[j]?=some y:=⟨l[j],List.getElem?_eq_getElem hlj⟩
     have r0:=rd0 hyj
     have r1:=rd1 hyj
     have hPj:=hP yj (List.mem_of_getElem? hyj)
     have hs1:gsum f t (l.take (j+1))=gsum f t (l.take j)+gsum f t [yj]:=by rw [List.take_add_one,hyj,Option.toList_some,gsum_app]
     rw [gsum_one] at hs1
     have hs2:=gsum_le (f:=f) (t:=t) (l:=l.take j) fun y hy=>hP y (List.mem_of_mem_take hy)
     rw [List.length_take] at hs2
     obtain ⟨s0,hs0⟩:∃ s,gsum f t (l.take j)=s:=⟨_,rfl⟩
     obtain ⟨s1,hs1'⟩:∃ s,gsum f t (l.take (j+1))=s:=⟨_,rfl⟩
     rw [hs0,hs1'] at hs1
     rw [hs0] at hs2 ⊢
     obtain ⟨yj1,yj2⟩:=yj
     simp only at r0 r1 hPj hs1
     obtain ⟨hp1,hp2⟩:=hPj
     simp only at hp1 hp2
     by_cases c1:f≤yj1
     ·by_cases c2:yj1≤t
      ·rw [if_pos ⟨c1,c2⟩] at hs1
       have hadd:IntKind.u64.wrap ((s0:Int)+(yj2:Nat))=((s1:Nat):Int):=(wrap_u64 (by omega) (by omega)).trans (by omega)
       repeat (first | (apply wo_po;apply mo_indexAddr (r:=o+2*j);exact rfl;exact rfl;omega;omega;omega;exact gY) | (apply wo_po;apply mo_load;exact rfl;(first | exact r0 | exact r1);exact gY) | (apply wo_po;apply mo_bin;exact rfl;exact rfl;apply bin_add;exact hadd;exact trivial) | refine wlssT ?_ | refine wleqT ?_ | refine wgeqT ?_ | refine we_seq ?_ | (refine wR ?_;try simp only [oS]) | refine wo_nil ?_ | refine wM ?_ | refine wA ?_ | refine wK ?_ | refine wD ?_ | refine wadd ?_ | refine wE ?_ | refine wT ?_ | refine we_skip ?_ | refine we_block ?_)
       refine at_round (B:=B) (I:=ftC x (some ⟨b,o,none⟩) l.length c bx num den burst L l i k f t) (R:=fun q=>l.length-q<l.length-j) (j+1) (by show l.length-(j+1)<l.length-j;omega) (by show j+1≤l.length;omega) ?_ .refl rfl
       refine ⟨rfl,rfl,rfl,rfl,rfl,rfl,?_,rfl,trivial⟩
       show _=some (Value.int .u64 ((gsum f t (l.take (j+1)):Nat):Int))
       rw [hs1'];rfl
      ·rw [if_neg (fun h=>c2 h.2)] at hs1
       repeat (first | (apply wo_po;apply mo_indexAddr (r:=o+2*j);exact rfl;exact rfl;omega;omega;omega;exact gY) | (apply wo_po;apply mo_load;exact rfl;(first | exact r0 | exact r1);exact gY) | refine wlssT ?_ | refine wleqF ?_ | refine wgeqT ?_ | refine we_seq ?_ | (refine wR ?_;try simp only [oS]) | refine wo_nil ?_ | refine wM ?_ | refine wA ?_ | refine wK ?_ | refine wD ?_ | refine wadd ?_ | refine wE ?_ | refine wT ?_ | refine wF ?_ | refine we_skip ?_ | refine we_block ?_)
       refine at_round (B:=B) (I:=ftC x (some ⟨b,o,none⟩) l.length c bx num den burst L l i k f t) (R:=fun q=>l.length-q<l.length-j) (j+1) (by show l.length-(j+1)<l.length-j;omega) (by show j+1≤l.length;omega) ?_ .refl rfl
       refine ⟨rfl,rfl,rfl,rfl,rfl,rfl,?_,rfl,trivial⟩
       show _=some (Value.int .u64 ((gsum f t (l.take (j+1)):Nat):Int))
       rw [hs1',hs1];rfl
     ·rw [if_neg (fun h=>c1 h.1)] at hs1
      repeat (first | (apply wo_po;apply mo_indexAddr (r:=o+2*j);exact rfl;exact rfl;omega;omega;omega;exact gY) | (apply wo_po;apply mo_load;exact rfl;(first | exact r0 | exact r1);exact gY) | refine wlssT ?_ | refine wgeqF ?_ | refine we_seq ?_ | (refine wR ?_;try simp only [oS]) | refine wo_nil ?_ | refine wM ?_ | refine wA ?_ | (apply wo_no;exact rfl) | refine wJ ?_ | refine wD ?_ | refine wadd ?_ | refine wE ?_ | refine wT ?_ | refine wF ?_ | refine we_skip ?_ | refine we_block ?_)
      refine at_round (B:=B) (I:=ftC x (some ⟨b,o,none⟩) l.length c bx num den burst L l i k f t) (R:=fun q=>l.length-q<l.length-j) (j+1) (by show l.length-(j+1)<l.length-j;omega) (by show j+1≤l.length;omega) ?_ .refl rfl
      refine ⟨rfl,rfl,rfl,rfl,rfl,rfl,?_,rfl,trivial⟩
      show _=some (Value.int .u64 ((gsum f t (l.take (j+1)):Nat):Int))
      rw [hs1',hs1];rfl
    ·obtain rfl:j=l.length:=by omega
     rw [List.take_length]
     have hfin:=hfit f t (by omega)
     have hsm:=gsum_le (f:=f) (t:=t) hP
     obtain ⟨w,hw⟩:∃ w,gsum f t l=w:=⟨_,rfl⟩
     rw [hw] at hfin hsm ⊢
     obtain ⟨d,hd⟩:∃ d,t-f=d:=⟨_,rfl⟩
     rw [hd] at hfin
     have hdn:d*num≤1099511627776*65536:=Nat.mul_le_mul (by omega) n2
     obtain ⟨m,hm⟩:∃ m,d*num=m:=⟨_,rfl⟩
     rw [hm] at hfin hdn
     have hqm:m/den≤m:=Nat.div_le_self _ _
     obtain ⟨q,hq⟩:∃ q,m/den=q:=⟨_,rfl⟩
     rw [hq] at hfin hqm
     have e1:IntKind.u64.wrap ((t:Int)-(f:Int))=((d:Nat):Int):=(wrap_u64 (by omega) (by omega)).trans (by omega)
     have e2:IntKind.u64.wrap ((d:Int)*(num:Int))=((m:Nat):Int):=by
      rw [show ((d:Int)*(num:Int))=((d*num:Nat):Int) from (Int.natCast_mul _ _).symm,hm];exact wrap_u64 (by omega) (by omega)
     have e3:IntKind.u64.wrap ((m:Int).tdiv (den:Int))=((q:Nat):Int):=by rw [← Int.ofNat_tdiv,hq];exact wrap_u64 (by omega) (by omega)
     have e4:IntKind.u64.wrap ((burst:Int)+(q:Int))=((burst+q:Nat):Int):=(wrap_u64 (by omega) (by omega)).trans (by omega)
     repeat (first | refine wlssF ?_ | refine we_seq ?_ | (refine wR ?_;try simp only [oS]) | refine wo_nil ?_ | refine wM ?_ | refine wE ?_ | refine wF ?_ | refine we_exit ?_)
     refine we_draw (List.range' 0 14) (by kernel_rfl) ?_
     repeat (first | (apply ap_pure;exact rfl;exact rfl;exact trivial;intro L;apply mo_bin;exact rfl;exact rfl;apply bin_sub;exact e1) | (apply ap_pure;exact rfl;exact rfl;exact trivial;intro L;apply mo_bin;exact rfl;exact rfl;apply bin_mul;exact e2) | (apply ap_pure;exact rfl;exact rfl;exact trivial;intro L;apply mo_bin;exact rfl;exact rfl;apply bin_quo;omega;exact e3) | (apply ap_pure;exact rfl;exact rfl;exact trivial;intro L;apply mo_bin;exact rfl;exact rfl;apply bin_add;exact e4) | (apply ap_pure;exact rfl;exact rfl;exact trivial;intro L;apply mo_bin;exact rfl;exact rfl;apply bin_gtrF;omega) | refine aM ?_ | refine aD ?_ | refine aL ?_ | refine ap_end ?_)
     repeat (first | (refine wR ?_;try simp only [oS]) | refine wo_nil ?_ | refine wM ?_ | refine wA ?_ | refine wadd ?_ | refine wF ?_ | refine we_skip ?_)
     refine at_round (B:=B) (I:=ftB x (some ⟨b,o,none⟩) l.length c bx num den burst L i) (R:=fun j=>l.length-j<l.length-k) (k+1) (by show l.length-(k+1)<l.length-k;omega) (by show k+1≤l.length;omega) ⟨rfl,rfl,rfl,rfl,trivial⟩ .refl rfl
  ·obtain rfl:k=l.length:=by omega
   repeat (first | refine wlssF ?_ | refine we_seq ?_ | (refine wR ?_;try simp only [oS]) | refine wo_nil ?_ | refine wM ?_ | refine wA ?_ | refine wadd ?_ | refine wE ?_ | refine wF ?_ | refine we_exit ?_)
   refine at_round (B:=B) (I:=ftA x (some ⟨b,o,none⟩) l.length c bx num den burst L) (R:=fun j=>l.length-j<l.length-i) (i+1) (by show l.length-(i+1)<l.length-i;omega) (by show i+1≤l.length;omega) ⟨rfl,rfl,rfl,trivial⟩ .refl rfl
 ·obtain rfl:i=l.length:=by omega
  repeat (first | refine wlssF ?_ | refine we_seq ?_ | (refine wR ?_;try simp only [oS]) | refine wo_nil ?_ | refine wM ?_ | refine wA ?_ | refine wE ?_ | refine wF ?_ | refine we_ret ?_ | refine we_exit ?_)
  (first | refine or1 Try.func56 Try.results56 hQ rfl ?_ | refine on1 Try.func56 Try.results56 hQ rfl ?_)
  exact ⟨rfl,rfl⟩
def mtC (gb db k:Nat) (y:Value × List (Nat × Nat)):HProp:=all [arr gb k [y.1],vec 2 y.1 (y.2.map mgC).flatten,arr db k [.bool true]]
def MtY (gs:List (List (Nat × Nat))) (k:Nat) (y:Value × List (Nat × Nat)):Prop:=gs[k]?=some y.2∧∃ ga gc,y.1=.slice ga y.2.length gc∧(ga=none→y.2.length=0)∧∀ z,ga=some z→z=⟨z.block,z.off,none⟩
theorem mts_ex {gb db:Nat} {qs:List MtQ} {L:List HProp} {h:Hp} (hk:∀ (k:Nat) q,qs[k]?=some q→q.k=k∧q.good=true) (s:Star (all (qs.map fun q=>mtPv gb db q.k q.gr q.good)::L) h) :
  ∃ ys:List (Value × List (Nat × Nat)),(ys.length=qs.length∧∀ (k:Nat) y,ys[k]?=some y→MtY (qs.map MtQ.gr) k y)∧Star (all (ys.mapIdx (mtC gb db))::L) h:=by
 obtain ⟨ys,⟨h1,h2⟩,h3⟩:=alls_ex (C:=mtC gb db) (Q:=MtY (qs.map MtQ.gr)) (fun k c hc h hz=>by
  rw [List.getElem?_map,Option.map_eq_some_iff] at hc
  obtain ⟨q,hq,rfl⟩:=hc
  obtain ⟨e1,e2⟩:=hk k q hq
  rw [e1,e2] at hz
  obtain ⟨h1,h2,sp,⟨sv,hz⟩,_⟩:=hz
  have sg:mtC gb db k (sv,q.gr) h1:=hz
  refine ⟨(sv,q.gr),⟨by rw [List.getElem?_map,hq];rfl,?_⟩,?_⟩
  ·obtain ⟨g1,g2,sp1,_,g3,g4,sp2,hv,_⟩:=hz
   obtain ⟨ga,gn,gc,e,hn,_,z1,z2⟩:=vec_shape (by omega) _ hv
   have:gn=q.gr.length:=by rw [flat_len (k:=2) (fun _=>rfl)] at hn;omega
   subst this
   exact ⟨ga,gc,e,z1,z2⟩
  ·have s1:Star (mtC gb db k (sv,q.gr)::[]) h:=⟨h1,h2,sp,sg,‹_›⟩
   exact star_open (M:=[_,_,_]) s1) s
 exact ⟨ys,⟨by simpa using h1,h2⟩,h3⟩
def bdInv (x:B.X) (gb db n bx num den burst:Nat) (gs:List (List (Nat × Nat))) (L:List HProp):PB.Inv (Nat × Value) B.X where
 e:=fun i=>[(1,.slice (some ⟨gb,0,none⟩) n n),(2,.slice (some ⟨db,0,none⟩) n n),(3,.pointer (some ⟨bx,0,none⟩)),(7,i.2),(8,.int .i64 (i.1:Nat))]
 L:=fun i=>vec 2 i.2 (((gs.take i.1).flatten).map mgC).flatten::arr bx 0 [.int .u64 (num:Nat),.int .u64 (den:Nat),.int .u64 (burst:Nat)]::L
 x:=fun _=>x
 ok:=fun i=>i.1≤n
theorem flat_le {l:List (List (Nat × Nat))} (h:∀ g∈l,g.length≤12):l.flatten.length≤12*l.length:=by
 induction l with
 | nil=>simp
 | cons a l ih =>
  have h1:=ih fun g hg=>h g (by simp [hg])
  have h2:=h a (by simp)
  simp only [List.flatten_cons,List.length_append,List.length_cons];omega
set_option maxHeartbeats 4000000 in
theorem bound_tr {gb db n:Nat} {gs:List (List (Nat × Nat))} {ys:List (Value × List (Nat × Nat))} (hh:Has L (all (ys.mapIdx (mtC gb db))) F) (hY:∀ (k:Nat) y,ys[k]?=some y→MtY gs k y) (hl:ys.length=n) (hg:gs.length=n) (hn:n≤6) (h12:∀ g∈gs,g.length≤12) (hP:∀ g∈gs,∀ y∈g,mtP y) (O:BOk num den burst) (hfit:∀ f t,f≤t→gsum f t gs.flatten≤burst+(t-f)*num/den) :
  Tr Try.prog B 28 [.agg #[.int .u64 (num:Nat),.int .u64 (den:Nat),.int .u64 (burst:Nat)],.slice (some ⟨gb,0,none⟩) n n,.slice (some ⟨db,0,none⟩) n n] L x fun v L' x'=>v=.bool true∧x'=x:=by
 refine tr_of_body Try.func28 rfl Try.ntmps28 (by simp) fun um Q _ hQ=>?_
 simp only [argE,Nat.zero_add,Nat.reduceAdd]
 repeat (first | (apply wo_mo;apply mo_box;exact rfl;exact trivial) | refine we_seq ?_ | (refine wR ?_;try simp only [oS]))
 rintro v' L' ⟨bx,rfl,rfl⟩
 refine wo_ent (arr bx 0 [.int .u64 (num:Nat),.int .u64 (den:Nat),.int .u64 (burst:Nat)]::L) .refl ?_
 repeat (first | refine we_seq ?_ | (refine wR ?_;try simp only [oS]) | refine wo_nil ?_ | refine wA ?_ | refine we_block ?_)
 refine we_star (vec 2 (.slice none 0 0) []::arr bx 0 [.int .u64 (num:Nat),.int .u64 (den:Nat),.int .u64 (burst:Nat)]::L) (fun h st=>vec_nil st) ?_
 refine we_loopN (bdInv x gb db n bx num den burst gs L) (fun i=>n-i.1) (0,.slice none 0 0) (Nat.zero_le _) ⟨rfl,rfl,rfl,rfl,rfl,trivial⟩ .refl rfl ?_
 rintro ⟨i,v⟩ hi
 replace hi:i≤n:=hi
 simp only [bdInv]
 have hfl:=flat_le (l:=gs.take i) fun g hg=>h12 g (List.mem_of_mem_take hg)
 rw [List.length_take] at hfl
 refine we_pure (of_has .here (vec_shape (by omega))) ?_
 rintro ⟨va,vn,vc,rfl,hvn,_,hvz,hvy⟩
 have hvn':vn=(gs.take i).flatten.length:=by rw [flat_len (k:=2) (fun _=>rfl)] at hvn;omega
 by_cases hlt:i<n
 ·obtain ⟨y,hy⟩:∃ y,ys[i]?=some y:=⟨ys[i]'(by omega),List.getElem?_eq_getElem (by omega)⟩
  obtain ⟨sv,g⟩:=y
  obtain ⟨hgi,ga,gc,e,z1,z2⟩:=hY i _ hy
  dsimp only at hgi e z1
  subst e
  have h12g:=h12 g (List.mem_of_getElem? hgi)
  have hmi:(ys.mapIdx (mtC gb db))[i]?=some (mtC gb db i (.slice ga g.length gc,g)):=by rw [List.getElem?_mapIdx,hy];rfl
  have r1:Rd L gb (0+i) (.slice ga g.length gc):=Rd.deep hh hmi (rd_all (Rd.row (k:=0) rfl (by omega)))
  have r2:Rd L db (0+i) (.bool true):=Rd.deep hh hmi (rd_all (.there (.there (Rd.row (k:=0) rfl (by omega)))))
  have r3:g.length=0∨∃ b o,ga=some ⟨b,o,none⟩∧Rds (arr bx 0 [.int .u64 (num:Nat),.int .u64 (den:Nat),.int .u64 (burst:Nat)]::L) b o (g.map mgC).flatten:=by
   by_cases h0:g.length=0
   ·exact .inl h0
   ·right
    cases ga with
    | none=>exact absurd (z1 rfl) h0
    | some ad =>
     obtain ⟨b,o,sp⟩:=ad
     have:=z2 _ rfl
     simp only [Addr.mk.injEq,true_and] at this
     subst this
     exact ⟨b,o,rfl,fun j v hj=>.there (Rd.deep hh hmi (rd_all (rd_vec (.there .here) hj)))⟩
  repeat (first | (apply wo_po;apply mo_index1;exact rfl;exact rfl;omega;exact trivial) | (apply wo_po;apply mo_load;exact rfl;(first | exact .there (.there r1) | exact .there (.there r2));exact trivial) | (apply wo_mo;apply mo_append (sz:=2) (new:=(g.map mgC).flatten);exact rfl;exact rfl;exact rfl;exact rfl;exact .here;(rw [flat_len (k:=2) (fun _=>rfl)]);(exact r3.imp id fun ⟨b,o,e,r⟩=>⟨b,o,e,fun j v hj=>.there (r j v hj)⟩);(intro w hw;obtain ⟨ll,hll,hw⟩:=List.mem_flatten.1 hw;obtain ⟨z,_,rfl⟩:=List.mem_map.1 hll;simp [mgC] at hw;rcases hw with rfl | rfl <;> rfl);(simp only [sliceLen];omega);exact trivial) | refine wlssT ?_ | refine we_seq ?_ | (refine wR ?_;try simp only [oS]) | refine wo_nil ?_ | refine wM ?_ | (apply wo_po;apply mo_not;exact rfl;exact gY) | refine wE ?_ | refine wT ?_ | refine wF ?_ | refine we_skip ?_ | refine we_block ?_)
  rintro v' L' rfl
  repeat (first | (refine wR ?_;try simp only [oS]) | refine wo_nil ?_ | refine wM ?_ | refine wA ?_ | refine wadd ?_)
  refine at_round (B:=B) (I:=bdInv x gb db n bx num den burst gs L) (R:=fun j=>n-j.1<n-i) (i+1,v') (by show n-(i+1)<n-i;omega) (by show i+1≤n;omega) ⟨rfl,rfl,rfl,rfl,rfl,trivial⟩ ?_ rfl
  show Ent _ (vec 2 v' (((gs.take (i+1)).flatten).map mgC).flatten::_)
  rw [show (((gs.take (i+1)).flatten).map mgC).flatten=(((gs.take i).flatten).map mgC).flatten++(g.map mgC).flatten by rw [List.take_add_one,hgi,Option.toList_some,List.flatten_append,List.map_append,List.flatten_append];simp]
  exact .refl
 ·obtain rfl:i=n:=by omega
  rw [← hg,List.take_length] at hvn' ⊢
  rw [← hg] at hl hn hi
  repeat (first | (apply wo_po;apply mo_loadA (vs:=[.int .u64 (num:Nat),.int .u64 (den:Nat),.int .u64 (burst:Nat)]);exact rfl;exact rfl;exact Rds.all (.there .here);exact trivial) | refine wlssF ?_ | refine we_seq ?_ | (refine wR ?_;try simp only [oS]) | refine wo_nil ?_ | refine wM ?_ | refine wE ?_ | refine wF ?_ | refine we_exit ?_)
  have hfl':=flat_le h12
  refine wo_call (.cons rfl (.cons rfl .nil)) trivial (fits_tr (l:=gs.flatten) hvn'.symm (by omega) ?_ (fun y hy=>by obtain ⟨g,hg,hy⟩:=List.mem_flatten.1 hy;exact hP g hg y hy) O hfit) ?_
  ·by_cases h0:vn=0
   ·exact .inl h0
   ·right
    cases va with
    | none=>exact absurd (hvz rfl) h0
    | some ad =>
     obtain ⟨b,o,sp⟩:=ad
     have:=hvy _ rfl
     simp only [Addr.mk.injEq,true_and] at this
     subst this
     exact ⟨b,o,rfl,fun j v hj=>rd_vec .here hj⟩
  rintro v1 L1 x1 ⟨rfl,rfl⟩
  repeat (first | refine wo_nil ?_ | refine wA ?_ | refine we_ret ?_)
  (first | refine or1 Try.func28 Try.results28 hQ rfl ?_ | refine on1 Try.func28 Try.results28 hQ rfl ?_)
  exact ⟨rfl,rfl⟩
end
end
section
abbrev MoE:=Nat × Nat × Bool
abbrev MoQ:=List (Nat × Nat) × Option Nat
def moPlan (num den burst:Nat) (q:MoQ):Option ((Int × Int) × (Nat × List MoE→(Nat × List MoE) × MoQ)) :=
 match q.1 with
 | []=>none
 | y::rest=>match q.2 with
  | none=>some ((((1:Nat):Int),((0:Nat):Int)),fun s=>match takeN num den burst s.1 y.1 y.2 with
   | none=>((s.1,s.2++[(y.1,y.2,false)]),(rest,none))
   | some _=>(s,(y::rest,some s.1)))
  | some o=>some ((((5:Nat):Int),((0:Nat):Int)),fun s=>if s.1=o then (((takeN num den burst o y.1 y.2).getD 0,s.2++[(y.1,y.2,true)]),(rest,none)) else (s,(y::rest,none)))
def moC (e:MoE):List Value:=[.int .i64 0,.int .u64 (e.1:Nat),.int .u64 (e.2.1:Nat),.bool e.2.2]
def moZ (lb:Nat) (l:List MoE):HProp:=fun h=>∃ sv,all [arr lb 0 [sv],vec 4 sv (l.map moC).flatten] h
def moW (lb num den burst:Nat):WGm where
 σ:=Nat × List MoE
 θ:=MoQ
 ζ:=List MoE
 wf:=fun s _=>s.1
 zf:=fun s=>s.2
 Z:=moZ lb
 plan:=moPlan num den burst
 ok:=fun s=>s.2.length≤100
 Pv:=fun _ _=>True
 up:=fun _ _ _=>trivial
section
variable {lb num den burst r sb says turn fin wg:Nat} {Pm:HProp}
structure MoS (rl:List (Nat × Nat)) (s:GaS (moW lb num den burst)):Prop where
 q:s.q=((rl,none):MoQ)
 f:s.f 0=(show Nat × List MoE from s.s).1
 c:s.c=(show Nat × List MoE from s.s).2
end
def MoR (num den burst:Nat):Nat→List MoE→Nat→Prop
 | s,[],o=>s=o
 | s,e::l,o=>e.2.2=(takeN num den burst s e.1 e.2.1).isSome∧MoR num den burst ((takeN num den burst s e.1 e.2.1).getD s) l o
section
variable {num den burst:Nat}
def moP (y:Nat × Nat):Prop:=y.1≤1099511627776∧y.2<18446744073709551616
structure MoI (num den burst:Nat) (s:Nat × List MoE) (qs:List MoQ):Prop where
 run:MoR num den burst 0 s.2 s.1
 cnt:s.2.length+sumN (qs.map fun q=>q.1.length)≤72
 len:qs.length≤6
 sw:∀ (k:Nat) q,qs[k]?=some q→∀ y rest o',q.1=y::rest→q.2=some o'→(takeN num den burst o' y.1 y.2).isSome=true
 bl:∀ e∈s.2,moP (e.1,e.2.1)
 bq:∀ (k:Nat) q,qs[k]?=some q→∀ y∈q.1,moP y
end
end
section
structure MoRo (Ro:HProp) (p8 ib mb qb qo nt qc k r:Nat) (a:Option Addr) (c:Nat) (l:List (Int × Nat × Nat)):Prop where
 h1:Rd [Ro] p8 0 (.slice (some ⟨qb,qo,none⟩) nt qc)
 h2:Rd [Ro] qb (qo+k) (.slice a l.length c)
 h3:∀ (i:Nat) y,l[i]?=some y→∃ b o,a=some ⟨b,o,none⟩∧Rds [Ro] b (o+3*i) [.int .i64 y.1,.int .u64 (y.2.1:Nat),.int .u64 (y.2.2:Nat)]
 h4:Rd [Ro] ib 0 (.int .i64 (k:Nat))
 h5:Rd [Ro] mb 0 (.pointer (some ⟨r,0,none⟩))
 hk:k<nt
 hl:l.length≤12
 ok:∀ y∈l,y.2.1<18446744073709551616∧y.2.2<18446744073709551616
section
variable {lb num den burst r:Nat}
end
end
section
structure ThRo (Ro:HProp) (p8 ib rb gt qb qo nt qc gb gc k r:Nat) (a:Option Addr) (c:Nat) (l:List (Int × Nat × Nat)):Prop where
 h1:Rd [Ro] p8 0 (.slice (some ⟨qb,qo,none⟩) nt qc)
 h2:Rd [Ro] qb (qo+k) (.slice a l.length c)
 h3:∀ (i:Nat) y,l[i]?=some y→∃ b o,a=some ⟨b,o,none⟩∧Rds [Ro] b (o+3*i) [.int .i64 y.1,.int .u64 (y.2.1:Nat),.int .u64 (y.2.2:Nat)]
 h4:Rd [Ro] ib 0 (.int .i64 (k:Nat))
 h5:Rd [Ro] rb 0 (.pointer (some ⟨r,0,none⟩))
 h6:Rd [Ro] gt 0 (.slice (some ⟨gb,0,none⟩) nt gc)
 hk:k<nt
 hl:l.length≤12
 ok:∀ y∈l,(-9223372036854775808≤y.1∧y.1≤9223372036854775807)∧y.2.1<18446744073709551616∧y.2.2<18446744073709551616
section
variable {num den burst r gb k:Nat} {sb says turn fin wg:Nat}
end
end
end Go.Proofs.Ythoefhocecdlhaa
namespace Go.Proofs.Ythoefhocecdlhaa
open Go Go.PB
attribute [local irreducible] Mo Bin Eql Tr Wo Ap
section
theorem mo_sliceHd {P:Program} {e:Env} {ty:TypeId} {L:List HProp} {t el sz n c u:Nat} {a:Option Addr} {k:IntKind} {j:Int} {o hi:Operand} [p:SlT P t el] [s:Siz P el sz] (hx:ev e o=some (.slice a n c)) (hh:ev e hi=some (.int k j)) (hj:j=(u:Nat)) (hu:u≤c) :
  Mo P e (.slice t o none (some hi) none) ty L fun v' L'=>v'=.slice a u c∧L'=L:=by
 have h:=mo_slice (P:=P) (e:=e) (ty:=ty) (L:=L) (t:=t) (l:=0) (u:=u) hx .no (.yes hh hj) (Nat.zero_le _) hu
 have e1:(if c=0 then a else a.map (·.add (0*sz)))=a:=by
  split
  ·rfl
  ·cases a with
   | none=>rfl
   | some y=>simp [Addr.add]
 rw [e1] at h
 exact h
abbrev RW:=Option Addr × Nat × List (Int × Nat × Nat)
def rv (y:RW):Value:=.slice y.1 y.2.2.length y.2.1
def ThsAt (L:List HProp) (a:Option Addr) (rs:List RW):Prop:=∀ (i:Nat) y,rs[i]?=some y→∃ b o,a=some ⟨b,o,none⟩∧Rd L b (o+i) (rv y)∧DoAt L y.1 y.2.2∧y.2.2.length≤y.2.1
def cutR (y:RW):RW:=(y.1,y.2.1,y.2.2.take 12)
def fewR (rs:List RW):List RW:=if rs=[] then [(none,0,[])] else (rs.take 6).map cutR
section
variable {B:Hand} [Lets B] {L F:List HProp} {x:B.X}
def fewInv (x:B.X) (a:Option Addr) (c:Nat) (rs:List RW) (L:List HProp):Inv (Nat × Value) B.X where
 e:=fun i=>[(0,.slice a rs.length c),(3,i.2),(4,.int .i64 (i.1:Nat))]
 L:=fun i=>vec 1 i.2 (((rs.take i.1).map cutR).map rv)::L
 x:=fun _=>x
 ok:=fun i=>i.1≤rs.length∧i.1≤6
theorem few_tr {a:Option Addr} {c:Nat} {rs:List RW} (hr:ThsAt L a rs) :
  Tr Try.prog B 26 [.slice a rs.length c] L x fun v L' x'=>L'=vec 1 v ((fewR rs).map rv)::L∧x'=x:=by
 refine Tr.post (R:=fun v L' x'=>x'=x∧∀ h,Star L' h→Star (vec 1 v ((fewR rs).map rv)::L) h) ?_
  (by rintro v L' x' ⟨rfl,h2⟩;exact ⟨_,⟨rfl,rfl⟩,h2⟩)
 refine tr_of_body Try.func26 rfl Try.ntmps26 (by simp) fun um Q _ hQ=>?_
 simp only [argE,Nat.zero_add,Nat.reduceAdd]
 repeat (first | refine we_seq ?_ | (refine wR ?_;try simp only [oS]) | refine wo_nil ?_ | refine wA ?_ | refine we_block ?_)
 refine we_star (vec 1 (.slice none 0 0) (((rs.take 0).map cutR).map rv)::L) (fun h st=>vec_nil st) ?_
 refine we_loopN (fewInv x a c rs L) (fun i=>rs.length-i.1) (0,.slice none 0 0) ⟨Nat.zero_le _,Nat.zero_le _⟩ ⟨rfl,rfl,rfl,trivial⟩ .refl rfl ?_
 rintro ⟨i,v⟩ ⟨hil,hi4⟩
 simp only at hil hi4
 simp only [fewInv]
 refine we_pure (of_has .here (vec_shape (by omega))) ?_
 rintro ⟨va,vn,vc,rfl,hvn,_⟩
 have hvn:vn=i:=by simp at hvn;omega
 subst hvn
 by_cases hgo:vn<rs.length∧vn<6
 ·obtain ⟨hlt,h4⟩:=hgo
  obtain ⟨y,hy⟩:∃ k,rs[vn]?=some k:=⟨rs[vn],List.getElem?_eq_getElem hlt⟩
  obtain ⟨b,o,rfl,hrd,hdo,hcap⟩:=hr vn y hy
  obtain ⟨ya,yc,yl⟩:=y
  simp only [rv] at hrd hdo hcap
  have hrk:∀ {d:HProp},Rd (d::L) b (o+vn) (.slice ya yl.length yc):=fun {d}=>.there hrd
  have hmin:min (yl.length:Int) 12=((yl.take 12).length:Nat):=by rw [List.length_take];omega
  have hle16:(yl.take 12).length≤yc:=by rw [List.length_take];omega
  repeat (first | refine wlssT ?_ | refine we_seq ?_ | (refine wR ?_;try simp only [oS]) | refine wo_nil ?_ | refine wM ?_ | refine wK ?_ | refine wE ?_ | refine wT ?_ | refine we_skip ?_ | refine we_block ?_)
  refine we_draw (List.range' 0 15) (by kernel_rfl) ?_
  repeat (first | (apply ap_pure;exact rfl;exact rfl;exact trivial;intro L;apply mo_index1;exact rfl;exact rfl;omega) | (apply ap_read;exact rfl;exact rfl;exact trivial;apply mo_load;exact rfl;exact hrk) | (apply ap_pure;exact rfl;exact rfl;exact trivial;intro L;apply mo_min;exact rfl;exact rfl) | (apply ap_pure;exact rfl;exact rfl;exact trivial;intro L;apply mo_sliceHd;exact rfl;exact rfl;exact hmin;exact hle16) | refine aM ?_ | (apply ap_pure;exact rfl;exact rfl;exact gY;intro L;apply mo_len;exact rfl))
  refine ap_loudR rfl rfl rfl rfl trivial (mo_buildSlice (sz:=1) (vs:=[.slice ya (yl.take 12).length yc]) rfl (.cons rfl .nil) rfl (by intro v hv;cases (List.mem_singleton.1 hv);exact rfl) (by omega)) ?_ ?_
  ·rintro v L' ⟨sb2,rfl,rfl⟩ p hp
   replace hp:=(List.mem_filter.1 hp).1
   simp only [List.mem_cons,List.not_mem_nil,or_false] at hp
   repeat (rcases hp with rfl | hp;· first | exact .inl rfl | exact .inr ⟨_,rfl,trivial,mo_load rfl (Rd.there hrk)⟩)
   all_goals first | (subst hp;first | exact .inl rfl | exact .inr ⟨_,rfl,trivial,mo_load rfl (Rd.there hrk)⟩)
  rintro v' L' ⟨sb2,rfl,rfl⟩
  refine ap_loud rfl rfl rfl rfl rfl trivial (mo_append (sz:=1) (new:=[.slice ya (yl.take 12).length yc]) rfl rfl rfl rfl (.there .here) rfl (.inr ⟨_,_,rfl,Rds.all .here⟩) (by intro v hv;cases (List.mem_singleton.1 hv);exact rfl) (by simp only [sliceLen];omega)) ?_
  rintro v' L' rfl
  repeat (first | refine aA ?_ | refine ap_end ?_)
  repeat (first | (refine wR ?_;try simp only [oS]) | refine wo_nil ?_ | refine wM ?_ | refine wA ?_ | refine wadd ?_)
  refine at_round (I:=fewInv x (some ⟨b,o,none⟩) c rs L) (R:=fun j=>rs.length-j.1<rs.length-vn) (vn+1,v') (by show rs.length-(vn+1)<rs.length-vn;omega) ⟨by show vn+1≤rs.length;omega,by show vn+1≤6;omega⟩ ?_ ?_ rfl
  exact ⟨rfl,rfl,rfl,trivial⟩
  show Ent _ (vec 1 v' (((rs.take (vn+1)).map cutR).map rv)::_)
  rw [show ((rs.take (vn+1)).map cutR).map rv=((rs.take vn).map cutR).map rv++[.slice ya (yl.take 12).length yc] by rw [List.take_add_one,hy];simp [cutR,rv]]
  exact (.take .here (.drop .refl))
 ·have hend:rs.take vn=rs.take 6:=by
   by_cases h4:vn=6
   ·rw [h4]
   ·have:vn=rs.length:=by omega
    rw [this,List.take_length,List.take_of_length_le (by omega)]
  rw [hend]
  by_cases h0:rs=[]
  ·subst h0
   obtain rfl:vn=0:=by simp at hil;omega
   repeat (first | (apply wo_mo;apply mo_buildSlice (sz:=1) (vs:=[.slice none 0 0]);exact rfl;exact .cons rfl .nil;exact rfl;(intro v hv;cases (List.mem_singleton.1 hv);exact rfl);omega;exact trivial) | refine wlssF ?_ | refine weqlT ?_ | refine we_seq ?_ | (refine wR ?_;try simp only [oS]) | refine wo_nil ?_ | refine wM ?_ | (apply wo_no;exact rfl) | refine wJ ?_ | refine wE ?_ | refine wT ?_ | refine wF ?_ | refine we_exit ?_)
   rintro v' L' ⟨nb,rfl,rfl⟩
   repeat (first | (apply wo_mo;apply mo_append (sz:=1) (new:=[.slice none 0 0]);exact rfl;exact rfl;exact rfl;exact rfl;exact (.there .here);exact rfl;exact .inr ⟨_,_,rfl,Rds.all .here⟩;(intro v hv;cases (List.mem_singleton.1 hv);exact rfl);(simp only [sliceLen];omega);exact trivial))
   rintro v' L' rfl
   repeat (first | refine we_seq ?_ | (refine wR ?_;try simp only [oS]) | refine wo_nil ?_ | refine wM ?_ | refine wA ?_ | refine we_ret ?_)
   (first | refine or1 Try.func26 Try.results26 hQ rfl ?_ | refine on1 Try.func26 Try.results26 hQ rfl ?_)
   exact ⟨rfl,fun h st=>Ent.star (.take .here (.drop .refl)) st⟩
  ·have he:fewR rs=(rs.take 6).map cutR:=if_neg h0
   have hpos:0<rs.length:=List.length_pos_iff.2 h0
   have hvp:0<vn:=by omega
   by_cases hv:vn<rs.length
   ·obtain rfl:vn=6:=by omega
    repeat (first | refine wlssT ?_ | refine wlssF ?_ | refine weqlF ?_ | refine we_seq ?_ | (refine wR ?_;try simp only [oS]) | refine wo_nil ?_ | refine wM ?_ | refine wA ?_ | refine wK ?_ | refine wE ?_ | refine wF ?_ | refine we_ret ?_ | refine we_skip ?_ | refine we_exit ?_)
    (first | refine or1 Try.func26 Try.results26 hQ rfl ?_ | refine on1 Try.func26 Try.results26 hQ rfl ?_)
    exact ⟨rfl,fun h st=>by rw [he];exact st⟩
   ·obtain rfl:vn=rs.length:=by omega
    repeat (first | refine wlssF ?_ | refine weqlF ?_ | refine we_seq ?_ | (refine wR ?_;try simp only [oS]) | refine wo_nil ?_ | refine wM ?_ | refine wA ?_ | (apply wo_no;exact rfl) | refine wJ ?_ | refine wE ?_ | refine wF ?_ | refine we_ret ?_ | refine we_skip ?_ | refine we_exit ?_)
    (first | refine or1 Try.func26 Try.results26 hQ rfl ?_ | refine on1 Try.func26 Try.results26 hQ rfl ?_)
    exact ⟨rfl,fun h st=>by rw [he];exact st⟩
end
end
end Go.Proofs.Ythoefhocecdlhaa
namespace Go.Proofs.Ythoefhocecdlhaa
open Go Go.PB
attribute [local irreducible] Mo Bin Eql Tr Wo Ap Wle
section
theorem row_cells {b:Nat} {v:Value} {L:List HProp}:∀ (n o:Nat) {h:Hp},Star (arr b o (List.replicate n v)::L) h→Star (all ((List.range' o n).map fun i=>arr b i [v])::L) h
 | 0,o,h,s=>star_shut (M:=[]) (star_drop s)
 | n+1,o,h,s=>by
  rw [List.replicate_succ] at s
  have s1:Star (arr b o [v]::arr b (o+1) (List.replicate n v)::L) h:=star_cut (us:=[v]) s
  rw [List.range'_succ,List.map_cons]
  exact cons_all (star_map s1 (fun _ z=>z) fun _ z=>row_cells n (o+1) z)
theorem vec_row {b o n c:Nat} {cs:List Value}:∀ h,vec 1 (.slice (some ⟨b,o,none⟩) n c) cs h→∃ sp,arr b o (cs++sp) h:=fun h z=>by
 rcases z with ⟨e,_⟩ | ⟨b',o',n',c',sp,e,h1,h2,h3,h4⟩
 ·cases e
 ·cases e;exact ⟨sp,h4⟩
end
section
section
variable {B:Hand} [Lets B] {x:B.X} {L F:List HProp}
theorem ok1103:BOk 1 10 3:=⟨by decide,by decide,by decide,by decide,by decide,by decide⟩
theorem works_tr:Tr Try.prog B 14 [] L x fun v L' x'=>v=.bool true∧L'=L∧x'=x:=by
 refine Tr.post (R:=fun v L' x'=>v=.bool true∧x'=x∧∀ h,Star L' h→Star L h) ?_ (by rintro v L' x' ⟨h0,rfl,hs⟩;exact ⟨L,⟨h0,rfl,rfl⟩,hs⟩)
 refine tr_of_body Try.func14 rfl Try.ntmps14 (by simp) fun um Q _ hQ=>?_
 simp only [argE,Nat.zero_add,Nat.reduceAdd]
 repeat (first | (apply wo_po;apply mo_build (pv:=[(0,_),(1,_),(2,_)]);exact rfl;exact .cons rfl (.cons rfl (.cons rfl .nil));exact rfl;exact trivial) | refine we_seq ?_ | (refine wR ?_;try simp only [oS]) | refine wo_nil ?_ | refine wA ?_)
 refine wo_call (.cons rfl .nil) trivial (mnew_tr (num:=1) (den:=10) (burst:=3) ok1103) ?_
 rintro v' L' x' ⟨r,rfl,rfl,rfl⟩
 refine wo_star (mC r 1 10 3 (fun _=>0)::L) (fun h st=>m_wds st) ?_
 repeat (first | refine wneqF ?_ | refine we_seq ?_ | (refine wR ?_;try simp only [oS]) | refine wo_nil ?_ | refine wM ?_ | refine wA ?_ | (apply wo_po;apply mo_extract;exact rfl;exact rfl;exact gY) | refine wF ?_ | refine we_skip ?_)
 refine wo_call (.cons rfl (.cons rfl (.cons rfl (.cons rfl .nil)))) trivial (mtake_lone (num:=1) (den:=10) (burst:=3) (now:=0) (n:=2) ok1103 (by omega) (by omega) (u:=0) (k:=some 20) rfl (by decide) .here) ?_
 rintro v' L' x' ⟨s1,rfl,hs1,rfl,rfl⟩
 replace hs1:s1 0=20:=hs1
 repeat (first | refine we_seq ?_ | (refine wR ?_;try simp only [oS]) | refine wo_nil ?_ | refine wM ?_ | refine wA ?_ | (apply wo_po;apply mo_extract;exact rfl;exact rfl;exact gY))
 refine wo_call (.cons rfl (.cons rfl (.cons rfl (.cons rfl .nil)))) trivial (mtake_lone (num:=1) (den:=10) (burst:=3) (now:=0) (n:=2) ok1103 (by omega) (by omega) (u:=20) (k:=none) hs1 (by decide) .here) ?_
 rintro v' L' x' ⟨s2,rfl,hs2,rfl,rfl⟩
 replace hs2:s2 0=20:=hs2
 repeat (first | refine we_seq ?_ | (refine wR ?_;try simp only [oS]) | refine wo_nil ?_ | refine wM ?_ | refine wA ?_ | (apply wo_po;apply mo_extract;exact rfl;exact rfl;exact gY))
 refine wo_call (.cons rfl (.cons rfl (.cons rfl (.cons rfl .nil)))) trivial (mtake_lone (num:=1) (den:=10) (burst:=3) (now:=0) (n:=1) ok1103 (by omega) (by omega) (u:=20) (k:=some 30) hs2 (by decide) .here) ?_
 rintro v' L' x' ⟨s3,rfl,hs3,rfl,rfl⟩
 replace hs3:s3 0=30:=hs3
 repeat (first | refine weqlT ?_ | refine we_seq ?_ | (refine wR ?_;try simp only [oS]) | refine wo_nil ?_ | refine wM ?_ | refine wA ?_ | refine wK ?_ | (apply wo_po;apply mo_extract;exact rfl;exact rfl;exact gY) | (apply wo_po;apply mo_not;exact rfl;exact gY) | refine we_ret ?_)
 (first | refine or1 Try.func14 Try.results14 hQ rfl ?_ | refine on1 Try.func14 Try.results14 hQ rfl ?_)
 exact ⟨rfl,rfl,fun h st=>star_drop st⟩
end
end
end Go.Proofs.Ythoefhocecdlhaa
namespace Go.Proofs.Ythoefhocecdlhaa
open Go Go.PB
attribute [local irreducible] Mo Bin Eql Tr Wo Ap Wle
attribute [local instance] Pass.of_no
section
theorem rd_lift {L:List HProp}:∀ (M:List HProp) {b o:Nat} {v:Value},Rd L b o v→Rd (M++L) b o v
 | [],b,o,v,h=>h
 | c::M,b,o,v,h=>.there (rd_lift M h)
theorem ths_lift {L:List HProp} (M:List HProp) {a:Option Addr} {rs:List RW} (h:ThsAt L a rs):ThsAt (M++L) a rs:=fun i y hy=>by
 obtain ⟨b,o,e,h1,h2,h3⟩:=h i y hy
 refine ⟨b,o,e,rd_lift M h1,⟨h2.rng,fun j z hz=>?_⟩,h3⟩
 obtain ⟨b',o',e',r1,r2,r3⟩:=h2.at_ j z hz
 exact ⟨b',o',e',rd_lift M r1,rd_lift M r2,rd_lift M r3⟩
theorem few_at {L:List HProp} {a:Option Addr} {rs:List RW} (h:ThsAt L a rs):∀ (i:Nat) y,(fewR rs)[i]?=some y→DoAt L y.1 y.2.2∧y.2.2.length≤12:=by
 intro i y hy
 unfold fewR at hy
 split at hy
 ·have:y=(none,0,[]):=by
   have:=List.mem_of_getElem? hy
   simpa using this
  subst this
  exact ⟨⟨fun z hz=>by simp at hz,fun j z hz=>by simp at hz⟩,by simp⟩
 ·rw [List.getElem?_map,Option.map_eq_some_iff] at hy
  obtain ⟨z,hz,rfl⟩:=hy
  rw [List.getElem?_take] at hz
  split at hz
  ·obtain ⟨b,o,_,_,hd,_⟩:=h i z hz
   refine ⟨⟨fun w hw=>hd.rng w (List.mem_of_mem_take hw),fun j w hw=>?_⟩,by simp only [cutR,List.length_take];omega⟩
   simp only [cutR,List.getElem?_take] at hw
   split at hw
   ·exact hd.at_ j w hw
   ·cases hw
  ·cases hz
section
variable {B:Hand} [Lets B] {L:List HProp} {x:B.X}
theorem fit_tr {na nb nc num den burst:Nat} (h1:na<18446744073709551616) (h2:nb<18446744073709551616) (h3:nc<18446744073709551616) (e1:num=1+na%65536) (e2:den=1+nb%65536) (e3:burst=1+nc%1048576) :
  Tr Try.prog B 24 [.agg #[.int .u64 (na:Nat),.int .u64 (nb:Nat),.int .u64 (nc:Nat)]] L x fun v L' x'=>v=.agg #[.int .u64 (num:Nat),.int .u64 (den:Nat),.int .u64 (burst:Nat)]∧L'=L∧x'=x:=by
 refine Tr.post (R:=fun v L' x'=>v=.agg #[.int .u64 (num:Nat),.int .u64 (den:Nat),.int .u64 (burst:Nat)]∧x'=x∧∀ h,Star L' h→Star L h) ?_ (by rintro v L' x' ⟨h0,rfl,hs⟩;exact ⟨L,⟨h0,rfl,rfl⟩,hs⟩)
 refine tr_of_body Try.func24 rfl Try.ntmps24 (by simp) fun um Q _ hQ=>?_
 simp only [argE,Nat.zero_add,Nat.reduceAdd]
 repeat (first | (apply wo_mo;apply mo_box;exact rfl;exact trivial) | refine we_seq ?_ | (refine wR ?_;try simp only [oS]))
 rintro v' L' ⟨bx,rfl,rfl⟩
 refine wo_ent (arr bx 0 [.int .u64 (na:Nat),.int .u64 (nb:Nat),.int .u64 (nc:Nat)]::L) .refl ?_
 repeat (first | (apply wo_mo;apply mo_alloc;exact trivial))
 rintro v' L' ⟨ab,rfl,rfl⟩
 have q0:∀ {c:HProp},Rd (c::arr bx 0 [.int .u64 (na:Nat),.int .u64 (nb:Nat),.int .u64 (nc:Nat)]::L) bx 0 (.int .u64 (na:Nat)):=.there (.row (k:=0) rfl rfl)
 have q1:∀ {c:HProp},Rd (c::arr bx 0 [.int .u64 (na:Nat),.int .u64 (nb:Nat),.int .u64 (nc:Nat)]::L) bx (0+1) (.int .u64 (nb:Nat)):=.there (.row (k:=1) rfl rfl)
 have q2:∀ {c:HProp},Rd (c::arr bx 0 [.int .u64 (na:Nat),.int .u64 (nb:Nat),.int .u64 (nc:Nat)]::L) bx (0+2) (.int .u64 (nc:Nat)):=.there (.row (k:=2) rfl rfl)
 have d1:((na:Int)).tmod 65536=((na%65536:Nat):Int):=by rw [Int.tmod_eq_emod_of_nonneg (by omega)];omega
 have d2:((nb:Int)).tmod 65536=((nb%65536:Nat):Int):=by rw [Int.tmod_eq_emod_of_nonneg (by omega)];omega
 have d3:((nc:Int)).tmod 1048576=((nc%1048576:Nat):Int):=by rw [Int.tmod_eq_emod_of_nonneg (by omega)];omega
 have a1:IntKind.u64.wrap ((1:Int)+((na%65536:Nat):Int))=((num:Nat):Int):=(wrap_u64 (by omega) (by omega)).trans (by omega)
 have a2:IntKind.u64.wrap ((1:Int)+((nb%65536:Nat):Int))=((den:Nat):Int):=(wrap_u64 (by omega) (by omega)).trans (by omega)
 have a3:IntKind.u64.wrap ((1:Int)+((nc%1048576:Nat):Int))=((burst:Nat):Int):=(wrap_u64 (by omega) (by omega)).trans (by omega)
 repeat (first | (apply wo_po;apply mo_load;exact rfl;(first | exact q0 | exact q1 | exact q2);exact trivial) | (apply wo_po;apply mo_bin;exact rfl;exact rfl;apply bin_rem;omega;(first | exact d1 | exact d2 | exact d3);exact trivial) | (apply wo_po;apply mo_bin;exact rfl;exact rfl;apply bin_add;(first | exact a1 | exact a2 | exact a3);exact trivial) | (apply wo_po;apply mo_build (pv:=[(0,_),(1,_),(2,_)]);exact rfl;exact .cons rfl (.cons rfl (.cons rfl .nil));exact rfl;exact trivial) | (apply wo_pm;apply mo_storeA (b:=ab) (c:=0) (k:=0) (a:=0) (vs:=[.int .u64 0,.int .u64 0,.int .u64 0]);exact rfl;exact rfl;exact rfl;(intro w hw;simp [Value.cells] at hw;rcases hw with rfl | rfl | rfl <;> rfl);exact rfl;exact Nat.le_refl 3;exact .here;exact trivial) | refine we_seq ?_ | (refine wR ?_;try simp only [oS]) | refine wo_nil ?_ | refine wD ?_ | refine we_ret ?_)
 refine at_leaveM (rs:=[.cell 2 25]) Try.func24 Try.results24 hQ (.inl rfl) (.cons (.cell (vs:=[.int .u64 (num:Nat),.int .u64 (den:Nat),.int .u64 (burst:Nat)]) rfl rfl (Rds.all .here)) .nil) ?_
 exact ⟨rfl,rfl,fun h st=>star_drop (star_drop st)⟩
end
end
section
def rowI (rs:List RW) (i:Nat):List (Int × Nat × Nat):=match rs[i]? with | some y=>y.2.2 | none=>[]
section
variable {lb num den burst r p8 mb qb qo qc:Nat} {rs:List RW} {sp:List Value} {L:List HProp} {ts:List Nat}
theorem sumN_le {l:List Nat} {c:Nat} (h:∀ a∈l,a≤c):sumN l≤c*l.length:=by
 induction l with
 | nil=>simp [sumN]
 | cons a l ih =>
  have h1:=ih fun b hb=>h b (by simp [hb])
  have h2:=h a (by simp)
  simp only [sumN,List.foldr_cons,List.length_cons,Nat.mul_add] at h1 ⊢;omega
end
end
section
def mthT (RoS:HProp) (gb db i b:Nat):HProp:=all [all [RoS,arr b 0 [.int .i64 (i:Nat)]],mtM0 gb db i]
theorem dealT {RoS:HProp} (hd:Dup RoS) {gb db:Nat} {ts:List Nat} {L:List HProp} {h:Hp} (s:Star (RoS::all (boxesM ts)::arr gb 0 (List.replicate ts.length (.slice none 0 0))::arr db 0 (List.replicate ts.length (.bool false))::L) h):Star (all (ts.mapIdx (mthT RoS gb db))::RoS::L) h:=by
 have s1:=dup_many hd s ts.length
 have s2:Star (all (List.replicate ts.length RoS)::all (boxesM ts)::arr gb 0 (List.replicate ts.length (.slice none 0 0))::arr db 0 (List.replicate ts.length (.bool false))::RoS::L) h:=Ent.star (.take .here (.take (.there .here) (.take (.there .here) (.take (.there .here) (.take .here .refl))))) s1
 have s3:=star_zip (by simp [boxesM]) s2
 have s4:=row_cells ts.length 0 (star_swap s3)
 have s4':Star (arr db 0 (List.replicate ts.length (.bool false))::_) h:=Ent.star (.take (.there (.there .here)) (.take .here (.take .here .refl))) s4
 have s5:=row_cells ts.length 0 s4'
 have s6:=star_zip (by simp) (star_swap s5)
 have s7:=star_zip (by simp [boxesM]) (star_swap s6)
 have e:List.zipWith (fun a b=>all [a,b]) (List.zipWith (fun a b=>all [a,b]) (List.replicate ts.length RoS) (boxesM ts)) (List.zipWith (fun a b=>all [a,b]) ((List.range' 0 ts.length).map fun i=>arr gb i [.slice none 0 0]) ((List.range' 0 ts.length).map fun i=>arr db i [.bool false]))=ts.mapIdx (mthT RoS gb db):=by
  apply List.ext_getElem?
  intro i
  by_cases hi:i<ts.length
  ·simp [boxesM,mthT,mtM0,hi,List.getElem?_zipWith,List.getElem?_range']
  ·have h1:(ts.mapIdx (mthT RoS gb db))[i]?=none:=List.getElem?_eq_none_iff.2 (by simp;omega)
   rw [h1]
   apply List.getElem?_eq_none_iff.2
   simp [boxesM];omega
 rw [e] at s7
 exact s7
section
variable {gb db num den burst r g6 p8 mb g5 qb qo qc:Nat} {rs:List RW} {sp:List Value} {L:List HProp} {ts:List Nat}
def mtQs (rs:List RW) (ts:List Nat):List MtQ:=ts.mapIdx fun i _=>(⟨mtL (rowI rs i),true,0,[],.tL,i⟩:MtQ)
theorem mtL_ok (hrow:∀ (i:Nat) y,rs[i]?=some y→DoAt L y.1 y.2.2∧y.2.2.length≤12) (i:Nat):(mtL (rowI rs i)).length≤12∧∀ y∈mtL (rowI rs i),mtP y:=by
 unfold rowI
 cases h:rs[i]? with
 | none=>exact ⟨by simp [mtL],fun y hy=>by simp [mtL] at hy⟩
 | some y =>
  obtain ⟨h1,h2⟩:=hrow i y h
  refine ⟨by simpa [mtL] using h2,fun z hz=>?_⟩
  obtain ⟨w,hw,rfl⟩:=List.mem_map.1 hz
  exact ⟨by show w.2.1%1099511627776≤_;omega,by show w.2.2%64<64;omega⟩
def callN (rs:List RW):Nat:=sumN (rs.map fun y=>y.2.2.length)
theorem sumN_nil0 {α:Type} {φ:α→Nat} {l:List α} (h:∀ a∈l,φ a=0):sumN (l.map φ)=0:=by
 induction l with
 | nil=>simp [sumN]
 | cons a l ih =>
  have h1:=ih fun b hb=>h b (by simp [hb])
  have h2:=h a (by simp)
  simp only [List.map_cons,sumN,List.foldr_cons] at h1 ⊢;omega
theorem sumN_mul {α:Type} {φ ψ:α→Nat} {c:Nat} {l:List α} (h:∀ a∈l,φ a=c*ψ a):sumN (l.map φ)=c*sumN (l.map ψ):=by
 induction l with
 | nil=>simp [sumN]
 | cons a l ih =>
  have h1:=ih fun b hb=>h b (by simp [hb])
  have h2:=h a (by simp)
  simp only [List.map_cons,sumN,List.foldr_cons,Nat.mul_add] at h1 ⊢;omega
theorem sumN_mono {α:Type} {φ ψ:α→Nat} {l:List α} (h:∀ a∈l,φ a≤ψ a):sumN (l.map φ)≤sumN (l.map ψ):=by
 induction l with
 | nil=>simp [sumN]
 | cons a l ih =>
  have h1:=ih fun b hb=>h b (by simp [hb])
  have h2:=h a (by simp)
  simp only [List.map_cons,sumN,List.foldr_cons] at h1 ⊢;omega
theorem mt_I0 (hrow:∀ (i:Nat) y,rs[i]?=some y→DoAt L y.1 y.2.2∧y.2.2.length≤12) (hts:ts.length=rs.length) (h6:rs.length≤6):∃ M,M≤callN rs∧MtI num den burst M 0 (mtQs rs ts)∧sumN ((mtQs rs ts).map (mtφ M 0))=(2*M+1)*callN rs∧callN rs≤72:=by
 have hlen:(mtQs rs ts).length=rs.length:=by simp [mtQs,hts]
 have hmem:∀ q∈mtQs rs ts,∃ i,q=(⟨mtL (rowI rs i),true,0,[],.tL,i⟩:MtQ):=fun q hq=>by
  obtain ⟨k,hk⟩:=List.mem_iff_getElem?.1 hq
  simp only [mtQs,List.getElem?_mapIdx,Option.map_eq_some_iff] at hk
  obtain ⟨y,_,rfl⟩:=hk
  exact ⟨k,rfl⟩
 have hC:sumN ((mtQs rs ts).map fun q=>q.rl.length)=callN rs:=by
  unfold callN
  congr 1
  apply List.ext_getElem?
  intro k
  simp only [mtQs,List.getElem?_map,List.getElem?_mapIdx]
  by_cases hk:k<rs.length
  ·rw [List.getElem?_eq_getElem (by omega:k<ts.length),List.getElem?_eq_getElem hk]
   simp [mtL,rowI,List.getElem?_eq_getElem hk]
  ·rw [List.getElem?_eq_none (by omega),List.getElem?_eq_none (by omega)];rfl
 obtain ⟨M,hM⟩:∃ M,sumN ((mtQs rs ts).map mtAct)=M:=⟨_,rfl⟩
 refine ⟨M,?_,⟨by omega,by omega,fun k q hq=>?_,fun f t=>?_⟩,?_,?_⟩
 ·rw [← hM,← hC]
  exact sumN_mono fun q _=>by
   unfold mtAct
   split
   ·exact Nat.zero_le _
   ·rename_i h;exact List.length_pos_iff.2 h
 ·obtain ⟨i,rfl⟩:=hmem q (List.mem_of_getElem? hq)
  obtain ⟨h1,h2⟩:=mtL_ok hrow i
  exact ⟨rfl,Nat.zero_le _,fun o y r h=>(by cases h),h2,fun y hy=>by simp at hy,by simpa using h1,fun _=>rfl⟩
 ·left
  exact sumN_nil0 fun q hq=>by obtain ⟨i,rfl⟩:=hmem q hq;simp [mtW,mtPend,gsum,sumN]
 ·rw [← hC]
  refine sumN_mul fun q hq=>?_
  obtain ⟨i,rfl⟩:=hmem q hq
  simp only [mtφ]
  cases mtL (rowI rs i) with
  | nil=>simp
  | cons a l=>simp only [List.length_cons,Nat.mul_add,Nat.mul_one]
 ·rw [← hC]
  have:=sumN_le (c:=12) (l:=(mtQs rs ts).map fun q=>q.rl.length) fun a ha=>by
   obtain ⟨q,hq,rfl⟩:=List.mem_map.1 ha
   obtain ⟨i,rfl⟩:=hmem q hq
   exact (mtL_ok hrow i).1
  rw [List.length_map] at this
  omega
theorem mk_set {qs:List MtQ} {m:Nat} {q q':MtQ} (hq:qs[m]?=some q) (h:q'.k=q.k):(qs.set m q').map MtQ.k=qs.map MtQ.k:=by
 have hlt:m<qs.length:=(List.getElem?_eq_some_iff.1 hq).1
 rw [List.map_set,h]
 apply List.ext_getElem?
 intro j
 rw [List.getElem?_set]
 split
 ·rename_i hj
  subst hj
  rw [if_pos (by rw [List.length_map];exact hlt),List.getElem?_map,hq];rfl
 ·rfl
theorem gsum_flat {f t:Nat}:∀ {l:List (List (Nat × Nat))},gsum f t l.flatten=sumN (l.map (gsum f t))
 | []=>by simp [gsum,sumN]
 | a::l=>by
  rw [List.flatten_cons,gsum_app,gsum_flat (l:=l)];rfl
theorem mt_still {M s:Nat} {qs:List MtQ} (B:BOk num den burst) (I:MtI num den burst M s qs) (h:∀ q∈qs,q.rl=[]):(∀ q∈qs,q.good=true∧q.gr.length≤12∧∀ y∈q.gr,mtP y)∧∀ f t,f≤t→gsum f t (qs.map MtQ.gr).flatten≤burst+(t-f)*num/den:=by
 have hT:∀ q∈qs,MtT num den burst s q:=fun q hq=>by
  obtain ⟨k,hk⟩:=List.mem_iff_getElem?.1 hq
  exact I.th k q hk
 refine ⟨fun q hq=>⟨(hT q hq).good,by have:=(hT q hq).cnt;omega,(hT q hq).b2⟩,fun f t hft=>?_⟩
 have e:sumN (qs.map (mtW f t))=gsum f t (qs.map MtQ.gr).flatten:=by
  rw [gsum_flat,List.map_map]
  congr 1
  apply List.map_congr_left
  intro q hq
  show gsum f t (q.gr++mtPend q)=gsum f t q.gr
  have:mtPend q=[]:=by unfold mtPend;rw [(hT q hq).ov (h q hq)]
  rw [this,List.append_nil]
 have hW:=I.W f t
 rw [e] at hW
 exact fits_of B hft (hW.imp id fun h=>h.2)
end
end
end Go.Proofs.Ythoefhocecdlhaa
namespace Go.PB
open Go.Conc
section
section
variable {P:Program} {b o:Nat}
theorem atom_load {f:Nat} [x:Exn P f (Extern.Atomic.loadT (.int .u64))] {n:Int}:Atom1 P (callFunc f [Value.pointer (some ⟨b,o,none⟩)].toArray) b o (.int .u64 n) (.int .u64 n) none:=by
 obtain ⟨g,h⟩:=looks_load (P:=P) (f:=f) (a:=⟨b,o,none⟩)
 refine ⟨_,fun e he=>?_,fun w hc _=>h w n hc⟩
 simp at he
 rcases he with rfl | rfl
 ·exact .inl ⟨_,rfl⟩
 ·exact .inr ⟨_,rfl⟩
theorem atom_add {f:Nat} [x:Exn P f (Extern.Atomic.update (Op.intArith .add) .u64 true)] {n d:Int}:Atom1 P (callFunc f [Value.pointer (some ⟨b,o,none⟩),.int .u64 d].toArray) b o (.int .u64 n) (.int .u64 (IntKind.u64.wrap (n+d))) (some (.int .u64 (IntKind.u64.wrap (n+d)))):=by
 obtain ⟨g,h⟩:=adds_add (P:=P) (f:=f) (a:=⟨b,o,none⟩) (d:=d)
 refine ⟨_,fun e he=>?_,fun w hc hf=>h w n hc hf⟩
 simp at he
 rcases he with rfl | rfl | rfl
 ·exact .inl ⟨_,rfl⟩
 ·exact .inr ⟨_,rfl⟩
 ·exact .inr ⟨_,rfl⟩
theorem atom_cas {f:Nat} [x:Exn P f (Extern.Atomic.casT (.int .u64))] {n m y:Int}:Atom1 P (callFunc f [Value.pointer (some ⟨b,o,none⟩),.int .u64 m,.int .u64 y].toArray) b o (.int .u64 n) (.bool (decide (n=m))) (if n=m then some (.int .u64 y) else none):=by
 obtain ⟨g,h⟩:=swaps_cas (P:=P) (f:=f) (a:=⟨b,o,none⟩) (old:=m) (new:=y)
 by_cases hn:n=m
 ·rw [if_pos hn,decide_eq_true hn]
  refine ⟨_,fun e he=>?_,fun w hc hf=>(h w n hc hf).1 hn⟩
  simp at he
  rcases he with rfl | rfl | rfl
  ·exact .inl ⟨_,rfl⟩
  ·exact .inr ⟨_,rfl⟩
  ·exact .inr ⟨_,rfl⟩
 ·rw [if_neg hn,decide_eq_false hn]
  refine ⟨_,fun e he=>?_,fun w hc hf=>(h w n hc hf).2 hn⟩
  simp at he
  rcases he with rfl | rfl
  ·exact .inl ⟨_,rfl⟩
  ·exact .inr ⟨_,rfl⟩
theorem atom_store {f:Nat} [x:Exn P f Extern.Atomic.storeT] {n y:Int}:Atom1 P (callFunc f [Value.pointer (some ⟨b,o,none⟩),.int .u64 y].toArray) b o (.int .u64 n) unit (some (.int .u64 y)):=by
 refine ⟨#[⟨.mark (.extern f),false,true⟩,⟨.cell ⟨b,o,none⟩,true,true⟩],fun e he=>?_,fun w hc hf=>ext_runT (v:=unit) ?_⟩
 ·simp at he
  rcases he with rfl | rfl
  ·exact .inl ⟨_,rfl⟩
  ·exact .inr ⟨_,rfl⟩
 ·show (Sem.bind (store ⟨b,o,none⟩ (.int .u64 y) .atomic) fun _=>(pure unit:Sem Value)).runT P w _=_
  rw [store_runT hc hf rfl]
  rfl
end
theorem wo_atom {P:Program} {cv:Value} {kd:CallKind} {n:Nat} {K:Post (fHand P cv)} {e:Env} {z:Z} {L:List HProp} {l:List OpG} {d:Option Nat} {ty:TypeId} {gd:Option (Nat × Bool)} {op:Op}
  {g:Game} {s1 s2 s3 wg m:Nat} {q:g.θ} {mk:Int × Int} {F:g.σ→g.σ × g.θ} {Rv:g.σ→Value→Prop} (hpl:g.plan q=some (mk,F)) (hg:gYes e gd) (hk:kd≠.early)
  (ha:∀ t,Agree e t→∀ st r,g.ok st→g.U st r→∃ b o old v new,r.own b o=some old∧Atom1 P (execOp (evT t) (opOf op ty)) b o old v new∧g.U (F st).1 (r.lay b o new)∧Rv st v)
  (k:∀ st v m',m=m'+1→g.ok st→Rv st v→Wo P (fHand P cv) kd n l K (setE d v e) z L (⟨g,s1,s2,s3,wg,.free (F st).2 m'⟩:TX)) :
  Wo P (fHand P cv) kd n (⟨d,op,ty,gd⟩::l) K e z L (⟨g,s1,s2,s3,wg,.free q m⟩:TX) :=
 wo_act (R:=fun v L' x'=>∃ st m',m=m'+1∧g.ok st∧Rv st v∧L'=L∧x'=(⟨g,s1,s2,s3,wg,.free (F st).2 m'⟩:TX)) hg hk
  (fun t h O a s qq=>⟨q,m,mk,F,rfl,hpl,fun n' st r e1 h1 h2=>by
   obtain ⟨b,o,old,v,new,c1,c2,c3,c4⟩:=ha t a st r h1 h2
   exact ⟨b,o,old,v,new,c1,c2,c3,qq v L _ h ⟨st,n',e1,h1,c4,rfl,rfl⟩ s⟩⟩)
  (by rintro v L' x' ⟨st,m',h1,h2,h3,rfl,rfl⟩;exact k st v m' h1 h2 h3)
end
end Go.PB
namespace Go.Proofs.Ythoefhocecdlhaa
open Go Go.PB
attribute [local irreducible] Mo Bin Eql Tr Wo Ap Wle
attribute [local instance] Pass.of_no
section
abbrev fH:Hand:=fHand Try.prog cvT
structure ThrT (g:Game) where
 fv:Value
 q0:g.θ
 M:HProp
structure ThrF (g:Game) (N:Nat) (t:ThrT g):Prop where
 run:∃ f first cap,callee? t.fv=some (f,first,cap)∧Ent' Try.prog f∧∀ wg F,Tr Try.prog fH f (first++[.nilIface]++cap) (t.M::F) (tx g 0 0 0 wg (.free t.q0 N)) fun v L' x' =>
  ∃ q' n',x'=tx g 0 0 0 wg (.free q' n')∧g.plan q'=none∧∀ h,Star L' h→Star (g.Fin q'::F) h
section
variable {g:Game}
theorem goesF_tr {N wg tb:Nat} {t:ThrT g} (TO:ThrF g N t) (hfin:∀ q h,g.Pv q h→g.Fin q h) {hc:Hp} (hs:Star [t.M,arr tb 0 [t.fv]] hc) :
  Nonempty (Run Try.prog tH false (tEnd Try.prog 54) (goFr Try.prog { target:=.fn (.func 53) [.pointer (some ⟨wg,0,none⟩),.pointer (some ⟨tb,0,none⟩)].toArray,args:=#[] }) [] hc (tx g 0 0 0 wg (.free t.q0 N))):=by
 obtain ⟨f,first,cap,hcal,en,tr⟩:=TO.run
 have e1:Enterable Try.prog 53:=(inferInstance:Ent' Try.prog 53).ok
 have e3:Enterable Try.prog 54:=(inferInstance:Ent' Try.prog 54).ok
 refine go_runF Try.func53 rfl Try.ntmps53 (by simp) Try.results53 e1 e3 rfl hfin hs ?_
 simp only [argE,Nat.zero_add,Nat.reduceAdd]
 repeat (first | refine we_seq ?_ | (refine wR ?_;try simp only [oS]))
 refine wo_defer (first:=[]) (cap:=[]) (args:=[_]) (vs:=[.pointer (some ⟨wg,0,none⟩)]) rfl (.cons rfl .nil) trivial ?_
 repeat (first | (apply wo_po;apply mo_load;exact rfl;exact .there (Rd.row (k:=0) rfl rfl);exact trivial) | (refine wR ?_;try simp only [oS]) | refine wo_nil ?_)
 refine wo_callv (args:=[_]) rfl hcal (.cons rfl .nil) trivial (tr wg _) ?_
 rintro v L' x' ⟨q',n',rfl,hp,hL⟩
 refine wo_star _ hL ?_
 repeat (first | refine wo_nil ?_)
 exact fun t h _ _ st=>⟨rfl,q',⟨hp,n',rfl⟩,star_map st (fun _ a=>a) (fun _ _=>trivial)⟩
abbrev fx (g:Game) (fd:FreeD g) (wg:Nat) (s:g.σ) (ad nf:Nat):MX:=.game ⟨g,wg,[],some s,0,ad,false,.play,some fd,nf⟩
def freeInv (fd:FreeD g) (ts:List (ThrT g)) (s0:g.σ) (wg:Nat) (tv:Value) (F:List HProp):PB.Inv Nat MX where
 e:=fun i=>[(4,.pointer (some ⟨wg,0,none⟩)),(12,tv),(13,.int .i64 (ts.length:Nat)),(14,.int .i64 (i:Nat))]
 L:=fun i=>all ((ts.drop i).map ThrT.M)::F
 x:=fun i=>fx g fd wg s0 i i
 ok:=fun i=>i≤ts.length
theorem free_tr {fd:FreeD g} {ts:List (ThrT g)} {s0:g.σ} {F:List HProp} {ta:Option Addr} {tn tc:Nat} (hcut:∀ r,g.U s0 r→g.U s0 { r with obj:=fun _=>none }) (hq:fd.q0=ts.map ThrT.q0) (hI:fd.I s0 fd.q0) (hφ:fd.φ s0 fd.q0≤fd.N) (hfin:∀ q h,g.Pv q h→g.Fin q h)
  (hts:∀ t∈ts,ThrF g fd.N t) (h1:0<ts.length) (h16:ts.length≤16) (hrt:RdsO F ta tn (ts.map ThrT.fv)) :
  Tr Try.prog mT 27 [.slice ta tn tc] (g.U s0::all (ts.map ThrT.M)::F) .idle fun v L' x' =>
   ∃ s qs,fd.I s qs∧(∀ q∈qs,g.plan q=none)∧qs.length=ts.length∧v=.int .i64 0∧x'=.idle∧L'=g.U s::all (qs.map g.Fin)::F:=by
 refine Tr.post (R:=fun v L' x'=>∃ s qs,fd.I s qs∧(∀ q∈qs,g.plan q=none)∧qs.length=ts.length∧v=.int .i64 0∧x'=MX.idle∧∀ h,Star L' h→Star (g.U s::all (qs.map g.Fin)::F) h) ?_
  (by rintro v L' x' ⟨s,qs,a1,a2,a3,rfl,rfl,h2⟩;exact ⟨_,⟨s,qs,a1,a2,a3,rfl,rfl,rfl⟩,h2⟩)
 have hfn:∀ v∈ts.map ThrT.fv,isFn v:=by
  intro v hv
  obtain ⟨t,ht,rfl⟩:=List.mem_map.1 hv
  obtain ⟨f,first,cap,hc,_⟩:=(hts t ht).run
  revert hc
  cases t.fv with
  | func a b c=>exact fun _=>⟨a,b,c,rfl⟩
  | _=>intro hc;cases hc
 have htn:tn=ts.length:=by have:=hrt.1;simpa using this
 subst htn
 refine tr_of_body Try.func27 rfl Try.ntmps27 (by simp) fun um Q _ hQ=>?_
 simp only [argE,Nat.zero_add,Nat.reduceAdd]
 repeat (first | refine we_seq ?_ | (refine wR ?_;try simp only [oS]) | refine wo_nil ?_ | refine wM ?_ | refine wA ?_)
 refine wo_call (.cons rfl .nil) trivial (wrong_tr (fun v hv=>.inr (hfn v hv)) hrt.there.there (by omega)) ?_
 rintro v' L' x' ⟨⟨k,rfl,hk⟩,rfl,rfl⟩
 obtain rfl:k=0:=by
  rcases hk with ⟨_,h⟩ | ⟨_,h⟩
  ·obtain ⟨_,_,_,h⟩:=hfn _ h;cases h
  ·rw [h,List.length_map,if_neg (by omega),if_neg (by omega)]
 repeat (first | (apply wo_mo;apply mo_allocS;exact trivial) | refine wneqF ?_ | refine we_seq ?_ | (refine wR ?_;try simp only [oS]) | refine wo_nil ?_ | refine wM ?_ | refine wA ?_ | refine wF ?_ | refine we_skip ?_)
 rintro v' L' ⟨wg,rfl,rfl⟩
 refine wo_beginF g fd s0 (wg:=wg) (R:=all (ts.map ThrT.M)::F) hcut hI hφ (fun h st=>Ent.star (.take (.there (.there .here)) (.take .here (.take .here .refl))) st) ?_
 repeat (first | refine we_seq ?_ | (refine wR ?_;try simp only [oS]) | refine wo_nil ?_ | refine wM ?_ | refine wE ?_ | refine we_block ?_)
 refine we_loopN (freeInv fd ts s0 wg (.slice ta ts.length tc) (shpC wg 131 2::F)) (fun i=>ts.length-i) 0 (Nat.zero_le _) ⟨rfl,rfl,rfl,rfl,trivial⟩ (.take (.there .here) (.take .here .refl)) rfl ?_
 intro j hj
 replace hj:j≤ts.length:=hj
 simp only [freeInv]
 by_cases hlt:j<ts.length
 ·obtain ⟨tb,to,rfl,hrd⟩:=hrt.rds (by omega)
  have ht:ts[j]?=some ts[j]:=List.getElem?_eq_getElem hlt
  have hrj:=hrd j (ts[j].fv) (by simp [ht])
  have hTO:=hts _ (List.getElem_mem hlt)
  have hdrop:ts.drop j=ts[j]::ts.drop (j+1):=List.drop_eq_getElem_cons hlt
  obtain ⟨fa,fb,fc,hfe⟩:=hfn ts[j].fv (List.mem_map.2 ⟨_,List.getElem_mem hlt,rfl⟩)
  rw [hfe] at hrj
  rw [hdrop]
  refine we_star (ts[j].M::all ((ts.drop (j+1)).map ThrT.M)::shpC wg 131 2::F) (fun h st=>star_head st) ?_
  repeat (first | (apply wo_po;apply mo_index1;exact rfl;exact rfl;omega;exact gY) | (apply wo_po;apply mo_load;exact rfl;exact .there (.there (.there hrj));exact trivial) | (apply wo_mo;apply mo_alloc;exact trivial) | refine wlssT ?_ | refine we_seq ?_ | (refine wR ?_;try simp only [oS]) | refine wo_nil ?_ | refine wT ?_ | refine we_skip ?_ | refine we_block ?_)
  rintro v' L' ⟨tb',rfl,rfl⟩
  repeat (first | refine wS ?_ | refine we_seq ?_ | (refine wR ?_;try simp only [oS]) | refine wo_nil ?_)
  refine wo_call (.cons rfl (.cons rfl .nil)) trivial (wgAdd_tr (X:=⟨g,wg,[],some s0,0,j,false,.play,some fd,j⟩) rfl (by show j<1000;omega) (by show j=0+j;omega) rfl rfl (fun h st=>shp_of (.there (.there (.there .here))) st)) ?_
  rintro v1 L1 x1 ⟨rfl,rfl,rfl⟩
  repeat (first | (apply wo_po;apply mo_makeFunc (first:=[]) (cap:=[_,_]) (vf:=[]);exact .nil;exact .cons rfl (.cons rfl .nil);exact trivial) | (refine wR ?_;try simp only [oS]) | refine wo_nil ?_)
  refine wo_startF (X:=⟨g,wg,[],some s0,0,j+1,false,.play,some fd,j⟩) (fd:=fd) (q0:=ts[j].q0) (M:=[ts[j].M,arr tb' 0 [.func fa fb fc]]) (R:=all ((ts.drop (j+1)).map ThrT.M)::shpC wg 131 2::F) (cap:=[_,_]) rfl trivial rfl rfl rfl (by show j+1=0+j+1;omega) (by show fd.q0[j]?=_;rw [hq];simp [ht]) (fun h st=>star_shut (M:=[_,_]) (Ent.star (.take (.there .here) (.take .here (.take .here (.take .here .refl)))) st)) (fun hc st=>goesF_tr (t:=ts[j]) hTO hfin (by rw [hfe];exact st)) ?_
  repeat (first | (refine wR ?_;try simp only [oS]) | refine wo_nil ?_ | refine wM ?_ | refine wadd ?_)
  refine at_round (B:=mT) (I:=freeInv fd ts s0 wg (.slice (some ⟨tb,to,none⟩) ts.length tc) (shpC wg 131 2::F)) (R:=fun i'=>ts.length-i'<ts.length-j) (j+1) (by show ts.length-(j+1)<ts.length-j;omega) (show j+1≤ts.length by omega) ?_ .refl rfl
  exact ⟨rfl,rfl,rfl,rfl,trivial⟩
 ·obtain rfl:j=ts.length:=by omega
  repeat (first | refine wlssF ?_ | refine we_seq ?_ | (refine wR ?_;try simp only [oS]) | refine wo_nil ?_ | refine wF ?_ | refine we_exit ?_)
  refine wo_call (.cons rfl .nil) trivial (wgWait_tr (X:=⟨g,wg,[],some s0,0,ts.length,false,.play,some fd,ts.length⟩) rfl (by show ts.length<1000;omega) (by show ts.length=0+ts.length;omega) (fun s hs=>by cases hs) (fun d hd=>by cases hd;show ts.length=fd.q0.length;rw [hq,List.length_map]) rfl (fun h st=>shp_of (.there .here) st)) ?_
  rintro v' L' x' ⟨rfl,rfl,rfl⟩
  refine wo_star ((fun r=>∃ a:{ p:g.σ × List g.θ // fd.I p.1 p.2∧(∀ q∈p.2,g.plan q=none)∧p.2.length=fd.q0.length },all (g.U a.1.1::a.1.2.map g.Fin) r)::all ((ts.drop ts.length).map ThrT.M)::shpC wg 131 2::F) (fun h st=>star_map st (fun r hr=>?_) fun _ a=>a) ?_
  ·obtain ⟨s,qs,b1,b2,b3,b4⟩:=hr
   exact ⟨⟨(s,qs),b1,b2,b3⟩,b4⟩
  refine wo_ex .here ?_
  rintro ⟨⟨s,qs⟩,b1,b2,b3⟩
  repeat (first | refine we_seq ?_ | (refine wR ?_;try simp only [oS]) | refine wo_nil ?_ | refine wA ?_ | refine we_ret ?_)
  (first | refine or1 Try.func27 Try.results27 hQ rfl ?_ | refine on1 Try.func27 Try.results27 hQ rfl ?_)
  refine ⟨s,qs,b1,b2,by rw [b3,hq,List.length_map],rfl,rfl,fun h st=>?_⟩
  exact Ent.star (.take .here (.take .here (.drop (.drop .refl)))) (star_head st)
end
end
end Go.Proofs.Ythoefhocecdlhaa
namespace Go.PB
open Go.Conc
section
variable {P:Program} {cv:Value} {kd:CallKind} {n:Nat} {K:Post (fHand P cv)} {e:Env} {z:Z} {L:List HProp} {l:List OpG} {d:Option Nat} {ty:TypeId} {gd:Option (Nat × Bool)} {tys:Array TypeId}
 {g:Game} {s1 s2 s3 wg m:Nat} {q:g.θ} {mk:Int × Int} {F:g.σ→g.σ × g.θ} {b o:Nat}
theorem wo_loadF {f:Nat} [x:Exn P f (Extern.Atomic.loadT (.int .u64))] {o1:Operand} (Rv:g.σ→Int→Prop) (hx:ev e o1=some (.pointer (some ⟨b,o,none⟩))) (hpl:g.plan q=some (mk,F)) (hg:gYes e gd) (hk:kd≠.early)
  (ha:∀ st r,g.ok st→g.U st r→∃ v,r.own b o=some (.int .u64 v)∧g.U (F st).1 r∧Rv st v)
  (k:∀ st v m',m=m'+1→g.ok st→Rv st v→Wo P (fHand P cv) kd n l K (setE d (.int .u64 v) e) z L (⟨g,s1,s2,s3,wg,.free (F st).2 m'⟩:TX)) :
  Wo P (fHand P cv) kd n (⟨d,.call ⟨.value (.func f),#[o1],tys⟩,ty,gd⟩::l) K e z L (⟨g,s1,s2,s3,wg,.free q m⟩:TX) :=
 wo_atom (Rv:=fun st v=>∃ w,v=.int .u64 w∧Rv st w) hpl hg hk (fun t a st r h1 h2=>by
  obtain ⟨v,c1,c2,c3⟩:=ha st r h1 h2
  exact ⟨b,o,_,.int .u64 v,none,c1,by rw [exec_call (args:=[o1]) (.cons hx .nil) a];exact atom_load,c2,v,rfl,c3⟩)
  (by rintro st _ m' h1 h2 ⟨w,rfl,h3⟩;exact k st w m' h1 h2 h3)
theorem wo_storeF {f:Nat} [x:Exn P f Extern.Atomic.storeT] {o1 o2:Operand} {y:Int} (hx:ev e o1=some (.pointer (some ⟨b,o,none⟩))) (hy:ev e o2=some (.int .u64 y)) (hpl:g.plan q=some (mk,F)) (hg:gYes e gd) (hk:kd≠.early)
  (ha:∀ st r,g.ok st→g.U st r→∃ v,r.own b o=some (.int .u64 v)∧g.U (F st).1 (r.lay b o (some (.int .u64 y))))
  (k:∀ st m',m=m'+1→g.ok st→Wo P (fHand P cv) kd n l K (setE d unit e) z L (⟨g,s1,s2,s3,wg,.free (F st).2 m'⟩:TX)) :
  Wo P (fHand P cv) kd n (⟨d,.call ⟨.value (.func f),#[o1,o2],tys⟩,ty,gd⟩::l) K e z L (⟨g,s1,s2,s3,wg,.free q m⟩:TX) :=
 wo_atom (Rv:=fun st v=>v=unit) hpl hg hk (fun t a st r h1 h2=>by
  obtain ⟨v,c1,c2⟩:=ha st r h1 h2
  exact ⟨b,o,_,unit,_,c1,by rw [exec_call (args:=[o1,o2]) (.cons hx (.cons hy .nil)) a];exact atom_store,c2,rfl⟩)
  (by rintro st _ m' h1 h2 rfl;exact k st m' h1 h2)
theorem wo_addF {f:Nat} [x:Exn P f (Extern.Atomic.update (Op.intArith .add) .u64 true)] {o1 o2:Operand} {y:Int} (Rv:g.σ→Int→Prop) (hx:ev e o1=some (.pointer (some ⟨b,o,none⟩))) (hy:ev e o2=some (.int .u64 y)) (hpl:g.plan q=some (mk,F)) (hg:gYes e gd) (hk:kd≠.early)
  (ha:∀ st r,g.ok st→g.U st r→∃ v w,r.own b o=some (.int .u64 v)∧IntKind.u64.wrap (v+y)=w∧g.U (F st).1 (r.lay b o (some (.int .u64 w)))∧Rv st w)
  (k:∀ st v m',m=m'+1→g.ok st→Rv st v→Wo P (fHand P cv) kd n l K (setE d (.int .u64 v) e) z L (⟨g,s1,s2,s3,wg,.free (F st).2 m'⟩:TX)) :
  Wo P (fHand P cv) kd n (⟨d,.call ⟨.value (.func f),#[o1,o2],tys⟩,ty,gd⟩::l) K e z L (⟨g,s1,s2,s3,wg,.free q m⟩:TX) :=
 wo_atom (Rv:=fun st v=>∃ w,v=.int .u64 w∧Rv st w) hpl hg hk (fun t a st r h1 h2=>by
  obtain ⟨v,w,c1,rfl,c2,c3⟩:=ha st r h1 h2
  exact ⟨b,o,_,_,_,c1,by rw [exec_call (args:=[o1,o2]) (.cons hx (.cons hy .nil)) a];exact atom_add,c2,_,rfl,c3⟩)
  (by rintro st _ m' h1 h2 ⟨w,rfl,h3⟩;exact k st w m' h1 h2 h3)
theorem wo_casF {f:Nat} [x:Exn P f (Extern.Atomic.casT (.int .u64))] {o1 o2 o3:Operand} {a y:Int} (Rv:g.σ→Bool→Prop) (hx:ev e o1=some (.pointer (some ⟨b,o,none⟩))) (hy:ev e o2=some (.int .u64 a)) (hz:ev e o3=some (.int .u64 y)) (hpl:g.plan q=some (mk,F)) (hg:gYes e gd) (hk:kd≠.early)
  (ha:∀ st r,g.ok st→g.U st r→∃ v,r.own b o=some (.int .u64 v)∧g.U (F st).1 (r.lay b o (if v=a then some (.int .u64 y) else none))∧Rv st (decide (v=a)))
  (k:∀ st v m',m=m'+1→g.ok st→Rv st v→Wo P (fHand P cv) kd n l K (setE d (.bool v) e) z L (⟨g,s1,s2,s3,wg,.free (F st).2 m'⟩:TX)) :
  Wo P (fHand P cv) kd n (⟨d,.call ⟨.value (.func f),#[o1,o2,o3],tys⟩,ty,gd⟩::l) K e z L (⟨g,s1,s2,s3,wg,.free q m⟩:TX) :=
 wo_atom (Rv:=fun st v=>∃ w,v=.bool w∧Rv st w) hpl hg hk (fun t ag st r h1 h2=>by
  obtain ⟨v,c1,c2,c3⟩:=ha st r h1 h2
  exact ⟨b,o,_,_,_,c1,by rw [exec_call (args:=[o1,o2,o3]) (.cons hx (.cons hy (.cons hz .nil))) ag];exact atom_cas,c2,_,rfl,c3⟩)
  (by rintro st _ m' h1 h2 ⟨w,rfl,h3⟩;exact k st w m' h1 h2 h3)
end
end Go.PB
namespace Go.Proofs.Ythoefhocecdlhaa
open Go Go.PB
attribute [local irreducible] Mo Bin Eql Tr Wo Ap Wle
attribute [local instance] Pass.of_no
section
variable {G:WGm} {addr:Nat→Nat × Nat} {N:Nat} {K:List (Nat × Nat × Value)} {wg:Nat} {L F:List HProp} {b o w:Nat}
theorem U_own {s:G.σ} {r:Hp} (hU:(G.g addr N K).U s r) (hw:w<N) (ha:addr w=(b,o)):r.own b o=some (.int .u64 (G.wf s w:Nat))∧G.wf s w<18446744073709551616:=by
 obtain ⟨h1,h2,sp,hc,_⟩:=hU
 have:=hc.1 w hw
 rw [ha] at this
 exact ⟨sp.o1 _ _ _ this.2,this.1⟩
theorem U_keep {s s':G.σ} {r:Hp} (hU:(G.g addr N K).U s r) (hf:∀ i,i<N→G.wf s' i=G.wf s i) (hz:G.zf s'=G.zf s):(G.g addr N K).U s' r:=by
 show Star [_,G.Z (G.zf s')] r
 rw [hz]
 exact star_map hU (wds_congr fun i hi=>(hf i hi).symm) fun _ z=>z
theorem U_lay (A:Apart addr N K) {s s':G.σ} {r:Hp} {n:Nat} (hU:(G.g addr N K).U s r) (hw:w<N) (ha:addr w=(b,o)) (hn:n<18446744073709551616) (hf:∀ i,i<N→G.wf s' i=upd (G.wf s) w n i) (hz:G.zf s'=G.zf s):(G.g addr N K).U s' (r.lay b o (some (.int .u64 (n:Nat)))):=by
 have h1:Star (wds addr N K (upd (G.wf s) w n)::[G.Z (G.zf s)]) (r.set b o (.int .u64 (n:Nat))):=(wt_wds A (.here:Has [wds addr N K (G.wf s),G.Z (G.zf s)] _ _) hw ha hn r hU).2
 show Star [_,G.Z (G.zf s')] _
 rw [hz]
 exact star_map h1 (wds_congr fun i hi=>(hf i hi).symm) fun _ z=>z
structure FrS (G:WGm) where
 q:G.θ
 n:Nat
abbrev frX (G:WGm) (addr:Nat→Nat × Nat) (N:Nat) (K:List (Nat × Nat × Value)) (wg:Nat) (s:FrS G):TX:=tx (G.g addr N K) 0 0 0 wg (.free s.q s.n)
theorem load_free (hw:w<N) (ha:addr w=(b,o)) {q:G.θ} {m:Nat} {mk:Int × Int} {FF:G.σ→G.σ × G.θ} (hpl:G.plan q=some (mk,FF)) (hk:∀ st,G.ok st→(∀ i,i<N→G.wf (FF st).1 i=G.wf st i)∧G.zf (FF st).1=G.zf st) :
  Tr Try.prog fH 38 [.pointer (some ⟨b,o,none⟩)] L (frX G addr N K wg ⟨q,m⟩) fun v L' x'=>∃ st m',m'<m∧G.ok st∧G.wf st w<18446744073709551616∧v=.int .u64 (G.wf st w:Nat)∧L'=L∧x'=frX G addr N K wg ⟨(FF st).2,m'⟩:=by
 refine tr_of_body Try.func38 rfl Try.ntmps38 (by simp) fun um Q _ hQ=>?_
 simp only [argE,Nat.zero_add,Nat.reduceAdd]
 repeat (first | refine we_seq ?_ | (refine wR ?_;try simp only [oS]) | refine wo_nil ?_ | refine wM ?_ | refine wA ?_ | refine wN ?_ | refine wD ?_)
 refine wo_loadF (g:=G.g addr N K) (F:=FF) (b:=b) (o:=o) (fun st v=>v=(G.wf st w:Nat)∧G.wf st w<18446744073709551616) rfl hpl trivial (by decide) (fun st r h1 h2=>⟨_,(U_own h2 hw ha).1,U_keep h2 (hk st h1).1 (hk st h1).2,rfl,(U_own h2 hw ha).2⟩) ?_
 rintro st _ m' hm hok ⟨rfl,hlt⟩
 repeat (first | refine wo_nil ?_ | refine wA ?_ | refine we_ret ?_)
 (first | refine or1 Try.func38 Try.results38 hQ rfl ?_ | refine on1 Try.func38 Try.results38 hQ rfl ?_)
 exact ⟨st,m',(by have h0:m=m'+1:=hm;omega),hok,hlt,rfl,rfl,rfl⟩
theorem store_free (A:Apart addr N K) (hw:w<N) (ha:addr w=(b,o)) {n:Nat} (hn:n<18446744073709551616) {q:G.θ} {m:Nat} {mk:Int × Int} {FF:G.σ→G.σ × G.θ} (hpl:G.plan q=some (mk,FF)) (hk:∀ st,G.ok st→(∀ i,i<N→G.wf (FF st).1 i=upd (G.wf st) w n i)∧G.zf (FF st).1=G.zf st) :
  Tr Try.prog fH 83 [.pointer (some ⟨b,o,none⟩),.int .u64 (n:Nat)] L (frX G addr N K wg ⟨q,m⟩) fun v L' x'=>∃ st m',m'<m∧G.ok st∧v=.tuple #[]∧L'=L∧x'=frX G addr N K wg ⟨(FF st).2,m'⟩:=by
 refine tr_of_body Try.func83 rfl Try.ntmps83 (by simp) fun um Q _ hQ=>?_
 simp only [argE,Nat.zero_add,Nat.reduceAdd]
 repeat (first | (refine wR ?_;try simp only [oS]) | refine wM ?_ | refine wN ?_ | refine wD ?_)
 refine wo_storeF (g:=G.g addr N K) (F:=FF) (b:=b) (o:=o) (y:=(n:Nat)) rfl rfl hpl trivial (by decide) (fun st r h1 h2=>⟨_,(U_own h2 hw ha).1,U_lay A h2 hw ha hn (hk st h1).1 (hk st h1).2⟩) ?_
 rintro st m' hm hok
 repeat (first | refine wo_nil ?_)
 (first | refine or0 Try.func83 Try.results83 hQ ?_ | refine on0 Try.func83 Try.results83 hQ ?_)
 exact ⟨st,m',(by have h0:m=m'+1:=hm;omega),hok,rfl,rfl,rfl⟩
theorem add_free (A:Apart addr N K) (hw:w<N) (ha:addr w=(b,o)) {n:Nat} {q:G.θ} {m:Nat} {mk:Int × Int} {FF:G.σ→G.σ × G.θ} (hpl:G.plan q=some (mk,FF)) (hk:∀ st,G.ok st→(∀ i,i<N→G.wf (FF st).1 i=upd (G.wf st) w ((G.wf st w+n)%18446744073709551616) i)∧G.zf (FF st).1=G.zf st) :
  Tr Try.prog fH 81 [.pointer (some ⟨b,o,none⟩),.int .u64 (n:Nat)] L (frX G addr N K wg ⟨q,m⟩) fun v L' x'=>∃ st m',m'<m∧G.ok st∧v=.int .u64 ((G.wf st w+n)%18446744073709551616:Nat)∧L'=L∧x'=frX G addr N K wg ⟨(FF st).2,m'⟩:=by
 refine tr_of_body Try.func81 rfl Try.ntmps81 (by simp) fun um Q _ hQ=>?_
 simp only [argE,Nat.zero_add,Nat.reduceAdd]
 repeat (first | refine we_seq ?_ | (refine wR ?_;try simp only [oS]) | refine wo_nil ?_ | refine wM ?_ | refine wA ?_ | refine wN ?_ | refine wD ?_)
 refine wo_addF (g:=G.g addr N K) (F:=FF) (b:=b) (o:=o) (y:=(n:Nat)) (fun st v=>v=(((G.wf st w+n)%18446744073709551616:Nat):Int)) rfl rfl hpl trivial (by decide) (fun st r h1 h2=>⟨_,((G.wf st w+n)%18446744073709551616:Nat),(U_own h2 hw ha).1,by rw [wrap_u64_mod];omega,U_lay A h2 hw ha (Nat.mod_lt _ (by decide)) (hk st h1).1 (hk st h1).2,rfl⟩) ?_
 rintro st _ m' hm hok rfl
 repeat (first | refine wo_nil ?_ | refine wA ?_ | refine we_ret ?_)
 (first | refine or1 Try.func81 Try.results81 hQ rfl ?_ | refine on1 Try.func81 Try.results81 hQ rfl ?_)
 exact ⟨st,m',(by have h0:m=m'+1:=hm;omega),hok,rfl,rfl,rfl⟩
theorem cas_free (A:Apart addr N K) (hw:w<N) (ha:addr w=(b,o)) {a n:Nat} (hn:n<18446744073709551616) {q:G.θ} {m:Nat} {mk:Int × Int} {FF:G.σ→G.σ × G.θ} (hpl:G.plan q=some (mk,FF)) (hk:∀ st,G.ok st→(∀ i,i<N→G.wf (FF st).1 i=(if G.wf st w=a then upd (G.wf st) w n else G.wf st) i)∧G.zf (FF st).1=G.zf st) :
  Tr Try.prog fH 40 [.pointer (some ⟨b,o,none⟩),.int .u64 (a:Nat),.int .u64 (n:Nat)] L (frX G addr N K wg ⟨q,m⟩) fun v L' x'=>∃ st m',m'<m∧G.ok st∧v=.bool (decide (G.wf st w=a))∧L'=L∧x'=frX G addr N K wg ⟨(FF st).2,m'⟩:=by
 refine tr_of_body Try.func40 rfl Try.ntmps40 (by simp) fun um Q _ hQ=>?_
 simp only [argE,Nat.zero_add,Nat.reduceAdd]
 repeat (first | refine we_seq ?_ | (refine wR ?_;try simp only [oS]) | refine wo_nil ?_ | refine wM ?_ | refine wA ?_ | refine wN ?_ | refine wD ?_)
 refine wo_casF (g:=G.g addr N K) (F:=FF) (b:=b) (o:=o) (a:=(a:Nat)) (y:=(n:Nat)) (fun st v=>v=decide (G.wf st w=a)) rfl rfl rfl hpl trivial (by decide) (fun st r h1 h2=>⟨_,(U_own h2 hw ha).1,?_,decide_eq_decide.2 (by omega)⟩) ?_
 ·have hk':=hk st h1
  by_cases hw':G.wf st w=a
  ·rw [if_pos hw'] at hk';rw [if_pos (by omega)];exact U_lay A h2 hw ha hn hk'.1 hk'.2
  ·rw [if_neg hw'] at hk';rw [if_neg (by omega)];exact U_keep h2 hk'.1 hk'.2
 rintro st _ m' hm hok rfl
 repeat (first | refine wo_nil ?_ | refine wA ?_ | refine we_ret ?_)
 (first | refine or1 Try.func40 Try.results40 hQ rfl ?_ | refine on1 Try.func40 Try.results40 hQ rfl ?_)
 exact ⟨st,m',(by have h0:m=m'+1:=hm;omega),hok,rfl,rfl,rfl⟩
def FrStep (G:WGm) (N:Nat) (w:Nat) (s:FrS G) (f:G.σ→Nat→Nat) (R:G.σ→FrS G→Prop):Prop :=
 w<N∧∃ mk F,G.plan s.q=some (mk,F)∧(∀ st,G.ok st→(∀ i,i<N→G.wf (F st).1 i=f st i)∧G.zf (F st).1=G.zf st)∧∀ st n,n<s.n→G.ok st→R st ⟨(F st).2,n⟩
def freAcc (G:WGm) (addr:Nat→Nat × Nat) (N:Nat) (K:List (Nat × Nat × Value)) (A:Apart addr N K) (wg:Nat) (Cf:HProp):Acc fH .nilIface where
 S:=FrS G
 C:=fun _=>Cf
 x:=fun s=>frX G addr N K wg s
 step:=fun _ _ s R=>R s
 addr:=addr
 load:=fun w s R=>FrStep G N w s G.wf fun st s'=>R (G.wf st w) s'
 store:=fun w n s R=>FrStep G N w s (fun st=>upd (G.wf st) w n) fun _ s'=>R s'
 cas:=fun w a n s R=>FrStep G N w s (fun st=>if G.wf st w=a then upd (G.wf st) w n else G.wf st) fun st s'=>R (decide (G.wf st w=a)) s'
 add:=fun w n s R=>FrStep G N w s (fun st=>upd (G.wf st) w ((G.wf st w+n)%18446744073709551616)) fun st s'=>R ((G.wf st w+n)%18446744073709551616) s'
 swap:=fun w n s R=>FrStep G N w s (fun st=>upd (G.wf st) w n) fun st s'=>R (G.wf st w) s'
 gate:=.inl ⟨rfl,fun op w s R h=>h⟩
 load_ok:=fun w s R L F b o ha ⟨hw,mk,FF,hpl,hk,hR⟩ hh=>tr_star _ (fun h st=>hh.star st) ((load_free hw ha hpl hk).post fun v L' x' ⟨st,m',h1,h2,h3,h4,h5,h6⟩ =>
  ⟨_,⟨G.wf st w,⟨(FF st).2,m'⟩,h3,hR st m' h1 h2,h4,rfl,h6⟩,fun h st=>by rw [h5] at st;exact st⟩)
 store_ok:=fun w n s R L F b o ha hn ⟨hw,mk,FF,hpl,hk,hR⟩ hh=>tr_star _ (fun h st=>hh.star st) ((store_free A hw ha hn hpl hk).post fun v L' x' ⟨st,m',h1,h2,h4,h5,h6⟩ =>
  ⟨_,⟨⟨(FF st).2,m'⟩,hR st m' h1 h2,h4,rfl,h6⟩,fun h st=>by rw [h5] at st;exact st⟩)
 cas_ok:=fun w a n s R L F b o ha hn ⟨hw,mk,FF,hpl,hk,hR⟩ hh=>tr_star _ (fun h st=>hh.star st) ((cas_free A hw ha hn hpl hk).post fun v L' x' ⟨st,m',h1,h2,h4,h5,h6⟩ =>
  ⟨_,⟨_,⟨(FF st).2,m'⟩,hR st m' h1 h2,h4,rfl,h6⟩,fun h st=>by rw [h5] at st;exact st⟩)
 add_ok:=fun w n s R L F b o ha hn ⟨hw,mk,FF,hpl,hk,hR⟩ hh=>tr_star _ (fun h st=>hh.star st) ((add_free A hw ha hpl hk).post fun v L' x' ⟨st,m',h1,h2,h4,h5,h6⟩ =>
  ⟨_,⟨_,⟨(FF st).2,m'⟩,Nat.mod_lt _ (by decide),hR st m' h1 h2,h4,rfl,h6⟩,fun h st=>by rw [h5] at st;exact st⟩)
end
end Go.Proofs.Ythoefhocecdlhaa
namespace Go.Proofs.Ythoefhocecdlhaa
open Go Go.PB
attribute [local irreducible] Mo Bin Eql Tr Wo Ap Wle
section
def mfG (gb db num den burst:Nat):WGm where
 σ:=Nat
 θ:=MtQ
 ζ:=Unit
 wf:=fun s _=>s
 zf:=fun _=>()
 Z:=fun _ _=>True
 plan:=mtPlan num den burst
 ok:=fun _=>True
 Pv:=fun q=>mtPv gb db q.k q.gr q.good
 up:=fun q h st=>star_open (M:=[_]) st
theorem mf_apart (r:Nat):Apart (mAddr r) 1 [] where
 inj:=fun i j hi hj _=>by omega
 fix:=fun i _ k hk=>by simp at hk
section
variable {gb db k num den burst r wg:Nat} {Cf:HProp} {gr:List (Nat × Nat)} {good:Bool} {last:Nat}
abbrev mfAcc (gb db num den burst r wg:Nat) (Cf:HProp):Acc fH .nilIface:=freAcc (mfG gb db num den burst) (mAddr r) 1 [] (mf_apart r) wg Cf
theorem mf_at (O:BOk num den burst) (hC:Rds [Cf] r 0 [.int .u64 (num:Nat),.int .u64 (den:Nat),.int .u64 (burst:Nat)]):MeterAt (mfAcc gb db num den burst r wg Cf) r num den burst:=⟨O,fun s=>hC,rfl⟩
theorem mf_take {y:Nat × Nat} {rest:List (Nat × Nat)} {m0:Nat}:MTakeT (mfAcc gb db num den burst r wg Cf) num den burst y.1 y.2 ⟨(⟨y::rest,good,last,gr,.tL,k⟩:MtQ),m0⟩ fun is s'=>∃ m,s'=(⟨(⟨y::rest,good,last,gr,.sL is,k⟩:MtQ),m⟩:FrS (mfG gb db num den burst)):=by
 intro X hX
 have key:∀ m,X ⟨(⟨y::rest,good,last,gr,.tL,k⟩:MtQ),m⟩:=by
  intro m
  induction m using Nat.strongRecOn with
  | _ m ih =>
  refine hX _ ?_
  unfold MTakeF
  refine ⟨by show 0<1;omega,_,_,rfl,fun (st:Nat) _=>?_,fun (st:Nat) m1 hm1 _=>?_⟩
  ·cases hG:takeN num den burst st y.1 y.2 <;> simp only [hG] <;> refine ⟨?_,?_⟩ <;> intros <;> first | trivial | rfl
  ·have hm1':m1<m:=hm1
   show match takeN num den burst st y.1 y.2 with | none=>_ | some t=>_
   cases hG:takeN num den burst st y.1 y.2 with
   | none=>simp only [hG];exact ⟨m1,rfl⟩
   | some z =>
    simp only [hG]
    refine ⟨by show 0<1;omega,_,_,rfl,fun (st2:Nat) _=>?_,fun (st2:Nat) m2 hm2 _=>?_⟩
    ·by_cases c:st2=st
     ·subst c
      refine ⟨fun i hi=>?_,rfl⟩
      obtain rfl:i=0:=by omega
      simp only [if_true]
      rw [hG]
      exact upd_same.symm
     ·refine ⟨fun i hi=>?_,rfl⟩
      simp only [if_neg c]
      rw [if_neg (show ¬ (mfG gb db num den burst).wf st2 0=(mfG gb db num den burst).wf st 0 from c)]
    ·have hm2':m2<m1:=hm2
     show if decide (st2=st)=true then _ else _
     by_cases c:st2=st
     ·rw [if_pos (by simpa using c)]
      simp only [if_pos c]
      exact ⟨m2,rfl⟩
     ·rw [if_neg (by simpa using c)]
      simp only [if_neg c]
      exact ih m2 (by omega)
 exact key m0
theorem mf_state {y:Nat × Nat} {rest:List (Nat × Nat)} {is:Bool} {m:Nat}:MLoadT (mfAcc gb db num den burst r wg Cf) ⟨(⟨y::rest,good,last,gr,.sL is,k⟩:MtQ),m⟩ fun o s'=>∃ m',s'=(⟨(⟨rest,good&&decide (last≤o),o,if is=true then gr++[y] else gr,.tL,k⟩:MtQ),m'⟩:FrS (mfG gb db num den burst)):=by
 refine ⟨by show 0<1;omega,_,_,rfl,fun (st:Nat) _=>⟨fun i _=>rfl,rfl⟩,fun (st:Nat) m1 hm1 _=>⟨m1,rfl⟩⟩
def mfInv (gb db k num den burst r wg g6 ib p8 mb g5:Nat) (l:List (Int × Nat × Nat)) (Ro:HProp) (F:List HProp):PB.Inv (Nat × Bool × Nat × List (Nat × Nat) × Value × Nat) TX where
 e:=fun i=>[(0,.nilIface),(1,.pointer (some ⟨g6,0,none⟩)),(2,.pointer (some ⟨ib,0,none⟩)),(3,.pointer (some ⟨p8,0,none⟩)),(4,.pointer (some ⟨mb,0,none⟩)),(5,.pointer (some ⟨g5,0,none⟩)),(7,.int .u64 (i.2.2.1:Nat)),(8,.int .i64 (i.1:Nat))]
 L:=fun i=>Ro::arr gb k [i.2.2.2.2.1]::vec 2 i.2.2.2.2.1 (i.2.2.2.1.map mgC).flatten::arr db k [.bool i.2.1]::F
 x:=fun i=>frX (mfG gb db num den burst) (mAddr r) 1 [] wg ⟨(⟨(mtL l).drop i.1,i.2.1,i.2.2.1,i.2.2.2.1,.tL,k⟩:MtQ),i.2.2.2.2.2⟩
 ok:=fun i=>i.1≤l.length∧i.2.2.2.1.length≤i.1
def mfMid (gb db k num den burst r wg g6 ib p8 mb g5 xb:Nat) (kind:Int) (now0 n0 now n:Nat) (is:Bool) (o i:Nat) (va:Option Addr) (vn vc:Nat) (gr:List (Nat × Nat)) (s2:FrS (mfG gb db num den burst)) (g2:Bool) (Ro:HProp) (F:List HProp):PB.Inv Bool TX where
 e:=fun _=>[(0,.nilIface),(1,.pointer (some ⟨g6,0,none⟩)),(2,.pointer (some ⟨ib,0,none⟩)),(3,.pointer (some ⟨p8,0,none⟩)),(4,.pointer (some ⟨mb,0,none⟩)),(5,.pointer (some ⟨g5,0,none⟩)),(8,.int .i64 (i:Nat)),(10,.int .u64 (now:Nat)),(11,.int .u64 (n:Nat)),(12,.bool is),(14,.int .u64 (o:Nat))]
 L:=fun g=>arr gb k [.slice va vn vc]::vec 2 (.slice va vn vc) (gr.map mgC).flatten::arr db k [.bool g]::arr xb 0 [.int .i64 kind,.int .u64 (now0:Nat),.int .u64 (n0:Nat)]::Ro::F
 x:=fun _=>frX (mfG gb db num den burst) (mAddr r) 1 [] wg s2
 ok:=fun g=>g=g2
set_option maxHeartbeats 4000000 in
theorem mf_ok {N g6 ib p8 mb g5 qb qo nt qc c:Nat} {a:Option Addr} {l:List (Int × Nat × Nat)} {Ro:HProp} (B:BOk num den burst) (O:MtRo Ro g6 ib p8 mb g5 db gb qb qo nt qc k r a c l) (hC:Rds [Ro] r 0 [.int .u64 (num:Nat),.int .u64 (den:Nat),.int .u64 (burst:Nat)]) :
  ThrF ((mfG gb db num den burst).g (mAddr r) 1 []) N ⟨mtF g6 ib p8 mb g5,(⟨mtL l,true,0,[],.tL,k⟩:MtQ),all [Ro,mtM0 gb db k]⟩ where
 run:=by
  refine ⟨_,_,_,rfl,inferInstance,fun wg F=>?_⟩
  show Tr Try.prog fH _ [.nilIface,.pointer (some ⟨g6,0,none⟩),.pointer (some ⟨ib,0,none⟩),.pointer (some ⟨p8,0,none⟩),.pointer (some ⟨mb,0,none⟩),.pointer (some ⟨g5,0,none⟩)] _ (frX (mfG gb db num den burst) (mAddr r) 1 [] wg ⟨(⟨mtL l,true,0,[],.tL,k⟩:MtQ),N⟩) _
  refine tr_star (arr gb k [.slice none 0 0]::vec 2 (.slice none 0 0) []::arr db k [.bool false]::Ro::F) (fun hp st=>?_) ?_
  ·have s3:Star (Ro::mtM0 gb db k::F) hp:=star_open (M:=[_,_]) st
   have s4:Star (arr gb k [.slice none 0 0]::arr db k [.bool false]::Ro::F) hp:=star_open (M:=[_,_]) (star_swap s3)
   have s5:Star (vec 2 (.slice none 0 0) []::_) hp:=vec_nil s4
   exact Ent.star (.take (.there .here) (.take .here (.take .here (.take .here .refl)))) s5
  refine tr_of_body Try.func50 rfl Try.ntmps50 (by simp) fun um Q _ hQ=>?_
  simp only [argE,Nat.zero_add,Nat.reduceAdd]
  have hkn:=O.hk
  have hl12:=O.hl
  repeat (first | (apply wo_po;apply mo_index1;exact rfl;exact rfl;omega;exact trivial) | (apply wo_po;apply mo_load;exact rfl;(first | exact Rd.of (.there (.there (.there .here))) O.h1 | exact Rd.of (.there (.there (.there .here))) O.h2);exact trivial) | (apply wo_pm;apply mo_store;exact rfl;exact rfl;exact rfl;apply Wt.row (k:=0) (o:=k) (vs:=[.bool false]);exact Nat.lt_succ_self 0;omega;exact (.there (.there .here));exact trivial) | refine we_seq ?_ | (refine wR ?_;try simp only [oS]) | refine wo_nil ?_ | refine wA ?_ | refine we_block ?_)
  refine we_star (Ro::arr gb k [.slice none 0 0]::vec 2 (.slice none 0 0) (([]:List (Nat × Nat)).map mgC).flatten::arr db k [.bool true]::F) (fun hp st=>Ent.star (.take (.there (.there (.there .here))) (.take .here (.take .here (.take .here .refl)))) st) ?_
  refine we_loopN (mfInv gb db k num den burst r wg g6 ib p8 mb g5 l Ro F) (fun i=>l.length-i.1) (0,true,0,[],.slice none 0 0,N) ⟨Nat.zero_le _,Nat.le_refl _⟩ ⟨rfl,rfl,rfl,rfl,rfl,rfl,rfl,rfl,trivial⟩ .refl rfl ?_
  rintro ⟨i,good,last,gr,sv,m⟩ ⟨hi,hgr⟩
  dsimp only at hi hgr
  simp only [mfInv]
  have q1:∀ {M:List HProp},Rd (Ro::M) p8 0 (.slice (some ⟨qb,qo,none⟩) nt qc):=Rd.of .here O.h3
  have q2:∀ {M:List HProp},Rd (Ro::M) qb (qo+k) (.slice a l.length c):=Rd.of .here O.h4
  have q4:∀ {M:List HProp},Rd (Ro::M) ib 0 (.int .i64 (k:Nat)):=Rd.of .here O.h2
  have q6:∀ {M:List HProp},Rd (Ro::M) mb 0 (.pointer (some ⟨r,0,none⟩)):=Rd.of .here O.h6
  by_cases hlt:i<l.length
  ·obtain ⟨y,hy⟩:∃ y,l[i]?=some y:=⟨l[i],List.getElem?_eq_getElem hlt⟩
   obtain ⟨b3,o3,rfl,r3⟩:=O.h5 i y hy
   obtain ⟨hy1,hy2⟩:=O.ok y (List.mem_of_getElem? hy)
   obtain ⟨kind,now0,n0⟩:=y
   simp only at hy1 hy2 r3
   have q3:∀ {M:List HProp},Rds (Ro::M) b3 (o3+3*i) [.int .i64 kind,.int .u64 (now0:Nat),.int .u64 (n0:Nat)]:=fun {M} j v hj=>Rd.of .here (r3 j v hj)
   obtain ⟨now,hnow⟩:∃ now,now0%1099511627776=now:=⟨_,rfl⟩
   obtain ⟨n,hn⟩:∃ n,n0%64=n:=⟨_,rfl⟩
   have hrem:(now0:Int).tmod 1099511627776=((now:Nat):Int):=by rw [Int.tmod_eq_emod_of_nonneg (by omega)];omega
   have hrem2:(n0:Int).tmod 64=((n:Nat):Int):=by rw [Int.tmod_eq_emod_of_nonneg (by omega)];omega
   have hml:(mtL l).drop i=(now,n)::(mtL l).drop (i+1):=by
    rw [List.drop_eq_getElem_cons (by simp [mtL];omega)]
    congr 1
    have:(mtL l)[i]?=some (now,n):=by simp only [mtL,List.getElem?_map,hy,Option.map_some,hnow,hn]
    exact (List.getElem?_eq_some_iff.1 this).2
   rw [hml]
   repeat (first | (apply wo_po;apply mo_index1;exact rfl;exact rfl;omega;exact trivial) | (apply wo_po;apply mo_indexAddr (r:=o3+3*i);exact rfl;exact rfl;omega;omega;omega;exact trivial) | (apply wo_po;apply mo_load;exact rfl;(first | exact q1 | exact q2 | exact q4);exact trivial) | (apply wo_po;apply mo_loadA (vs:=[.int .i64 kind,.int .u64 (now0:Nat),.int .u64 (n0:Nat)]);exact rfl;exact rfl;exact q3;exact trivial) | (apply wo_mo;apply mo_alloc;exact trivial) | refine wlssT ?_ | refine we_seq ?_ | (refine wR ?_;try simp only [oS]) | refine wo_nil ?_ | refine wM ?_ | refine wE ?_ | refine wT ?_ | refine we_skip ?_ | refine we_block ?_)
   rintro v' L' ⟨xb,rfl,rfl⟩
   repeat (first | (apply wo_pm;apply mo_storeA (c:=0) (k:=0) (a:=0) (vs:=[.int .i64 0,.int .u64 0,.int .u64 0]);exact rfl;exact rfl;exact rfl;(intro w hw;simp [Value.cells] at hw;rcases hw with rfl | rfl | rfl <;> rfl);exact rfl;exact Nat.le_refl 3;exact .here;exact trivial) | (apply wo_po;apply mo_bin;exact rfl;exact rfl;apply bin_rem;omega;(first | exact hrem | exact hrem2);exact trivial) | (apply wo_po;apply mo_load;exact rfl;(first | exact q6 | exact .there q6);exact trivial) | refine we_seq ?_ | (refine wR ?_;try simp only [oS]) | refine wo_nil ?_ | refine wM ?_ | refine wA ?_ | refine wD ?_ | refine wL ?_)
   refine wo_call (.cons rfl (.cons rfl (.cons rfl (.cons rfl .nil)))) trivial (mtake_tr (A:=mfAcc gb db num den burst r wg Ro) (mf_at B hC) (by omega) (by omega) (mf_take (y:=(now,n))) (.there .here)) ?_
   rintro v' L' x' ⟨is,s1,⟨m1,rfl⟩,rfl,rfl,rfl⟩
   repeat (first | (apply wo_po;apply mo_load;exact rfl;(first | exact q6 | exact .there q6);exact trivial) | refine we_seq ?_ | (refine wR ?_;try simp only [oS]) | refine wo_nil ?_ | refine wM ?_ | refine wA ?_ | (apply wo_po;apply mo_extract;exact rfl;exact rfl;exact gY))
   refine wo_call (.cons rfl (.cons rfl .nil)) trivial (mstate_tr (A:=mfAcc gb db num den burst r wg Ro) (mf_at B hC) mf_state .here) ?_
   rintro v' L' x' ⟨o,s2,ho,⟨m2,rfl⟩,rfl,rfl,rfl⟩
   refine wo_star (arr gb k [sv]::vec 2 sv (gr.map mgC).flatten::arr db k [.bool good]::arr xb 0 [.int .i64 kind,.int .u64 (now0:Nat),.int .u64 (n0:Nat)]::Ro::F) (fun hp st=>Ent.star (.take (.there (.there .here)) (.take (.there (.there .here)) (.take (.there (.there .here)) (.take (.there .here) (.take .here .refl))))) st) ?_
   refine wo_pure (of_has (.there .here) (vec_shape (by omega))) ?_
   rintro ⟨va,vn,vc,rfl,hvn,_⟩
   have hvn':vn=gr.length:=by rw [flat_len (k:=2) (fun _=>rfl)] at hvn;omega
   have rdb:∀ {c d:HProp} {v:Value} {T:List HProp},Rd (c::d::arr db k [v]::T) db (0+k) v:=.there (.there (Rd.row (k:=0) rfl (by omega)))
   have rgb:∀ {v:Value} {T:List HProp},Rd (arr gb k [v]::T) gb (0+k) v:=Rd.row (k:=0) rfl (by omega)
   obtain ⟨S2,hS2⟩:∃ s:FrS (mfG gb db num den burst),s=(⟨(⟨(mtL l).drop (i+1),good&&decide (last≤o),o,if is=true then gr++[(now,n)] else gr,.tL,k⟩:MtQ),m2⟩:FrS (mfG gb db num den burst)):=⟨_,rfl⟩
   repeat (first | refine we_seq ?_ | refine wo_nil ?_ | refine wM ?_ | refine wA ?_ | (apply wo_po;apply mo_extract;exact rfl;exact rfl;exact gY))
   rw [← hS2]
   refine we_join (mfMid gb db k num den burst r wg g6 ib p8 mb g5 xb kind now0 n0 now n is o i va vn vc gr S2 (good&&decide (last≤o)) Ro F) ?_ ?_
   ·refine we_draw (List.range' 0 21) (by kernel_rfl) ?_
    cases good
    ·repeat (first | (apply ap_pure;exact rfl;exact rfl;exact trivial;intro L;apply mo_index1;exact rfl;exact rfl;omega) | (apply ap_read;exact rfl;exact rfl;exact trivial;apply mo_load;exact rfl;(first | exact Rd.of (.there (.there (.there (.there .here)))) O.h1 | exact Rd.of (.there (.there (.there (.there .here)))) O.h2 | exact rdb)) | refine aM ?_ | (apply ap_no;exact rfl;exact rfl;exact rfl;exact rfl) | (apply ap_pure;exact rfl;exact rfl;exact gY;intro L;apply mo_pickF;exact rfl;exact rfl;exact rfl))
     refine ap_loud rfl rfl rfl rfl rfl trivial (mo_store rfl rfl rfl (Wt.row (k:=0) (o:=k) (vs:=[.bool false]) (Nat.lt_succ_self 0) (by omega) (.there (.there .here)))) ?_
     rintro v' L' ⟨rfl,rfl⟩
     repeat (first | refine ap_end ?_)
     refine at_mid (B:=fH) (I:=mfMid gb db k num den burst r wg g6 ib p8 mb g5 xb kind now0 n0 now n is o i va vn vc gr S2 (false&&decide (last≤o)) Ro F) false rfl ⟨rfl,rfl,rfl,rfl,rfl,rfl,rfl,rfl,rfl,rfl,rfl,trivial⟩ .refl rfl
    ·by_cases hlo:last≤o
     ·repeat (first | (apply ap_pure;exact rfl;exact rfl;exact trivial;intro L;apply mo_index1;exact rfl;exact rfl;omega) | (apply ap_read;exact rfl;exact rfl;exact trivial;apply mo_load;exact rfl;(first | exact Rd.of (.there (.there (.there (.there .here)))) O.h1 | exact Rd.of (.there (.there (.there (.there .here)))) O.h2 | exact rdb)) | (apply ap_pure;exact rfl;exact rfl;exact rfl;intro L;apply mo_bin;exact rfl;exact rfl;apply bin_eqlT;omega) | (apply ap_pure;exact rfl;exact rfl;exact rfl;intro L;apply mo_bin;exact rfl;exact rfl;apply bin_geqT;omega) | refine aM ?_ | (apply ap_pure;exact rfl;exact rfl;exact gY;intro L;apply mo_pickT;exact rfl;exact rfl;exact rfl))
      refine ap_loud rfl rfl rfl rfl rfl trivial (mo_store rfl rfl rfl (Wt.row (k:=0) (o:=k) (vs:=[.bool true]) (Nat.lt_succ_self 0) (by omega) (.there (.there .here)))) ?_
      rintro v' L' ⟨rfl,rfl⟩
      repeat (first | refine ap_end ?_)
      refine at_mid (B:=fH) (I:=mfMid gb db k num den burst r wg g6 ib p8 mb g5 xb kind now0 n0 now n is o i va vn vc gr S2 (true&&decide (last≤o)) Ro F) true (by simp [mfMid,hlo]) ⟨rfl,rfl,rfl,rfl,rfl,rfl,rfl,rfl,rfl,rfl,rfl,trivial⟩ .refl rfl
     ·repeat (first | (apply ap_pure;exact rfl;exact rfl;exact trivial;intro L;apply mo_index1;exact rfl;exact rfl;omega) | (apply ap_read;exact rfl;exact rfl;exact trivial;apply mo_load;exact rfl;(first | exact Rd.of (.there (.there (.there (.there .here)))) O.h1 | exact Rd.of (.there (.there (.there (.there .here)))) O.h2 | exact rdb)) | (apply ap_pure;exact rfl;exact rfl;exact rfl;intro L;apply mo_bin;exact rfl;exact rfl;apply bin_eqlT;omega) | (apply ap_pure;exact rfl;exact rfl;exact rfl;intro L;apply mo_bin;exact rfl;exact rfl;apply bin_geqF;omega) | refine aM ?_ | (apply ap_pure;exact rfl;exact rfl;exact gY;intro L;apply mo_pickT;exact rfl;exact rfl;exact rfl))
      refine ap_loud rfl rfl rfl rfl rfl trivial (mo_store rfl rfl rfl (Wt.row (k:=0) (o:=k) (vs:=[.bool true]) (Nat.lt_succ_self 0) (by omega) (.there (.there .here)))) ?_
      rintro v' L' ⟨rfl,rfl⟩
      repeat (first | refine ap_end ?_)
      refine at_mid (B:=fH) (I:=mfMid gb db k num den burst r wg g6 ib p8 mb g5 xb kind now0 n0 now n is o i va vn vc gr S2 (true&&decide (last≤o)) Ro F) false (by simp [mfMid,hlo]) ⟨rfl,rfl,rfl,rfl,rfl,rfl,rfl,rfl,rfl,rfl,rfl,trivial⟩ .refl rfl
   ·intro g2 hg2
    replace hg2:g2=(good&&decide (last≤o)):=hg2
    rw [← hg2] at hS2
    subst hS2
    simp only [mfMid]
    cases is
    ·repeat (first | refine we_seq ?_ | (refine wR ?_;try simp only [oS]) | refine wo_nil ?_ | refine wM ?_ | refine wA ?_ | refine wadd ?_ | refine wF ?_ | refine we_skip ?_)
     refine at_roundS (B:=fH) (I:=mfInv gb db k num den burst r wg g6 ib p8 mb g5 l Ro F) (R:=fun j=>l.length-j.1<l.length-i) (i+1,g2,o,gr,.slice va vn vc,m2) (by show l.length-(i+1)<l.length-i;omega) ⟨by show i+1≤l.length;omega,by show gr.length≤i+1;omega⟩ ⟨rfl,rfl,rfl,rfl,rfl,rfl,rfl,rfl,trivial⟩ (fun hp st=>?_) rfl
     exact Ent.star (.take (.there (.there (.there (.there .here)))) (.take .here (.take .here (.take .here (.drop .refl))))) st
    ·repeat (first | refine we_seq ?_ | (refine wR ?_;try simp only [oS]) | refine wo_nil ?_ | refine wM ?_ | refine wA ?_ | refine wT ?_)
     refine we_draw (List.range' 0 13) (by kernel_rfl) ?_
     repeat (first | (apply ap_pure;exact rfl;exact rfl;exact trivial;intro L;apply mo_index1;exact rfl;exact rfl;omega) | (apply ap_read;exact rfl;exact rfl;exact trivial;apply mo_load;exact rfl;(first | exact Rd.of (.there (.there (.there (.there .here)))) O.h7 | exact Rd.of (.there (.there (.there (.there .here)))) O.h2 | exact rgb)) | (apply ap_pure;exact rfl;exact rfl;exact trivial;intro L;apply mo_build (pv:=[(0,_),(1,_)]);exact rfl;exact .cons rfl (.cons rfl .nil);exact rfl) | refine aM ?_)
     refine ap_loudR rfl rfl rfl rfl trivial (mo_buildSlice (sz:=2) (vs:=[.agg #[.int .u64 (now:Nat),.int .u64 (n:Nat)]]) rfl (.cons rfl .nil) rfl (by intro v hv;cases (List.mem_singleton.1 hv);exact rfl) (by omega)) ?_ ?_
     ·rintro v' L' ⟨sb2,rfl,rfl⟩ p hp
      replace hp:=(List.mem_filter.1 hp).1
      simp only [List.mem_cons,List.not_mem_nil,or_false] at hp
      repeat (rcases hp with rfl | hp;· first | exact .inl rfl | exact .inr ⟨_,rfl,trivial,mo_load rfl (by first | exact Rd.of (.there (.there (.there (.there (.there .here))))) O.h7 | exact Rd.of (.there (.there (.there (.there (.there .here))))) O.h2 | exact .there rgb)⟩)
      all_goals (subst hp;first | exact .inl rfl | exact .inr ⟨_,rfl,trivial,mo_load rfl (by first | exact Rd.of (.there (.there (.there (.there (.there .here))))) O.h7 | exact Rd.of (.there (.there (.there (.there (.there .here))))) O.h2 | exact .there rgb)⟩)
     rintro v' L' ⟨sb2,rfl,rfl⟩
     refine ap_loudR rfl rfl rfl rfl trivial (mo_append (sz:=2) (new:=[.int .u64 (now:Nat),.int .u64 (n:Nat)]) rfl rfl rfl rfl (.there (.there .here)) rfl (.inr ⟨_,_,rfl,Rds.all .here⟩) (by intro v hv;simp at hv;rcases hv with rfl | rfl <;> rfl) (by simp only [sliceLen];omega)) ?_ ?_
     ·rintro v2 L' rfl p hp
      replace hp:=(List.mem_filter.1 hp).1
      replace hp:=(List.mem_filter.1 hp).1
      simp only [List.mem_cons,List.not_mem_nil,or_false] at hp
      repeat (rcases hp with rfl | hp;· first | exact .inl rfl | exact .inr ⟨_,rfl,trivial,mo_load rfl (by first | exact Rd.of (.there (.there (.there (.there (.there .here))))) O.h7 | exact Rd.of (.there (.there (.there (.there (.there .here))))) O.h2 | exact .there (.there rgb))⟩)
      all_goals (subst hp;first | exact .inl rfl | exact .inr ⟨_,rfl,trivial,mo_load rfl (by first | exact Rd.of (.there (.there (.there (.there (.there .here))))) O.h7 | exact Rd.of (.there (.there (.there (.there (.there .here))))) O.h2 | exact .there (.there rgb))⟩)
     rintro v2 L' rfl
     repeat (first | (apply ap_pure;exact rfl;exact rfl;exact trivial;intro L;apply mo_index1;exact rfl;exact rfl;omega))
     refine ap_know (of_has .here (vec_shape (by omega))) ?_
     rintro ⟨wa,wn,wc,rfl,_⟩
     refine ap_loud rfl rfl rfl rfl rfl trivial (mo_store rfl rfl rfl (Wt.row (k:=0) (o:=k) (vs:=[.slice va vn vc]) (Nat.lt_succ_self 0) (by omega) (.there (.there .here)))) ?_
     rintro v' L' ⟨rfl,rfl⟩
     repeat (first | refine ap_end ?_)
     repeat (first | (refine wR ?_;try simp only [oS]) | refine wo_nil ?_ | refine wM ?_ | refine wA ?_ | refine wadd ?_)
     refine at_roundS (B:=fH) (I:=mfInv gb db k num den burst r wg g6 ib p8 mb g5 l Ro F) (R:=fun j=>l.length-j.1<l.length-i) (i+1,g2,o,gr++[(now,n)],.slice wa wn wc,m2) (by show l.length-(i+1)<l.length-i;omega) ⟨by show i+1≤l.length;omega,by show (gr++[(now,n)]).length≤i+1;simp;omega⟩ ⟨rfl,rfl,rfl,rfl,rfl,rfl,rfl,rfl,trivial⟩ (fun hp st=>?_) rfl
     show Star (Ro::arr gb k [.slice wa wn wc]::vec 2 (.slice wa wn wc) ((gr++[(now,n)]).map mgC).flatten::arr db k [.bool g2]::F) hp
     rw [List.map_append,List.flatten_append]
     exact Ent.star (.take (.there (.there (.there (.there (.there .here))))) (.take (.there (.there .here)) (.take .here (.take (.there .here) (.drop (.drop .refl)))))) st
  ·obtain rfl:i=l.length:=by omega
   repeat (first | (apply wo_po;apply mo_index1;exact rfl;exact rfl;omega;exact trivial) | (apply wo_po;apply mo_load;exact rfl;(first | exact q1 | exact q2 | exact q4);exact trivial) | refine wlssF ?_ | refine we_seq ?_ | (refine wR ?_;try simp only [oS]) | refine wo_nil ?_ | refine wM ?_ | refine wE ?_ | refine wF ?_ | refine we_exit ?_)
   (first | refine or0 Try.func50 Try.results50 hQ ?_ | refine on0 Try.func50 Try.results50 hQ ?_)
   refine ⟨(⟨(mtL l).drop l.length,good,last,gr,.tL,k⟩:MtQ),m,rfl,?_,fun hp st=>?_⟩
   ·show mtPlan num den burst _=none
    rw [List.drop_of_length_le (by simp [mtL])];rfl
   ·have s1:Star (arr gb k [sv]::vec 2 sv (gr.map mgC).flatten::arr db k [.bool good]::F) hp:=Ent.star (.drop .refl) st
    have s2:Star (all [arr gb k [sv],vec 2 sv (gr.map mgC).flatten,arr db k [.bool good]]::F) hp:=star_shut (M:=[_,_,_]) s1
    have s3:Star (mtPx gb db k gr good::F) hp:=star_map s2 (fun h z=>⟨sv,z⟩) fun _ z=>z
    exact star_shut (M:=[_]) s3
end
end
section
theorem wds_cut1 {addr:Nat→Nat × Nat} {N r o:Nat} {v:Value} {K:List (Nat × Nat × Value)} {f:Nat→Nat} (A:Apart addr N ((r,o,v)::K)) (hK:∀ k∈K,¬ (k.1=r∧k.2.1=o)) {L:List HProp} {h:Hp} (s:Star (wds addr N ((r,o,v)::K) f::L) h):Star (wds addr N K f::arr r o [v]::L) h:=by
 obtain ⟨h1,h2,sp,hc,hL⟩:=s
 have hk:h1.own r o=some v:=hc.2 (r,o,v) List.mem_cons_self
 let ha:Hp:={ h1 with own:=fun b p=>if b=r∧p=o then none else h1.own b p }
 let hb:Hp:=⟨fun b p=>if b=r∧p=o then some v else none,fun _ _=>none,fun _=>none,fun _=>none⟩
 have s1:Split h1 ha hb:=by
  refine ⟨fun _ _ _ e=>e,fun _ _ _ e=>(by cases e),fun b p u e=>?_,fun b p u e=>?_,fun b p=>?_,fun _ _ e=>e,fun _ _ e=>(by cases e),fun _=>.inr rfl,fun _ _ e=>e,fun _ _ e=>(by cases e)⟩
  ·simp only [ha] at e;split at e
   ·cases e
   ·exact e
  ·simp only [hb] at e;split at e
   ·rename_i hh;cases e;rw [hh.1,hh.2];exact hk
   ·cases e
  ·by_cases hh:b=r∧p=o
   ·left;simp [ha,hh]
   ·right;simp [hb,hh]
 obtain ⟨t1,t2⟩:=sp.swap.assoc s1
 refine ⟨ha,_,t1,⟨fun w hw=>?_,fun k hk=>?_⟩,hb,h2,t2.swap,fun i u hi=>?_,hL⟩
 ·obtain ⟨e1,e2⟩:=hc.1 w hw
  refine ⟨e1,?_⟩
  have hne:=A.fix w hw (r,o,v) List.mem_cons_self
  show (if (addr w).1=r∧(addr w).2=o then none else h1.own (addr w).1 (addr w).2)=_
  rw [if_neg fun hh=>hne (Prod.ext hh.1 hh.2)];exact e2
 ·show (if k.1=r∧k.2.1=o then none else h1.own k.1 k.2.1)=_
  rw [if_neg (hK k hk)];exact hc.2 k (List.mem_cons_of_mem _ hk)
 ·have:i=0:=by have:=(List.getElem?_eq_some_iff.1 hi).1;simp at this;omega
  subst this
  simp at hi;subst hi
  show (if r=r∧o+0=o then some _ else none)=_
  rw [if_pos ⟨rfl,Nat.add_zero o⟩]
theorem apart_tail {addr:Nat→Nat × Nat} {N:Nat} {c:Nat × Nat × Value} {K:List (Nat × Nat × Value)} (A:Apart addr N (c::K)):Apart addr N K:=⟨A.inj,fun w hw k hk=>A.fix w hw k (List.mem_cons_of_mem _ hk)⟩
theorem cut_own2 {A:HProp} (hA:∀ r:Hp,A r→A { r with obj:=fun _=>none }) {r:Hp} (h:Star [A,fun _=>True] r):Star [A,fun _=>True] { r with obj:=fun _=>none }:=by
 obtain ⟨h1,h2,sp,c,h3⟩:=h
 exact ⟨{ h1 with obj:=fun _=>none },{ h2 with obj:=fun _=>none },⟨sp.r1,sp.r2,sp.o1,sp.o2,sp.od,fun _ _ e=>(by cases e),fun _ _ e=>(by cases e),fun _=>.inr rfl,sp.s1,sp.s2⟩,hA _ c,star_one trivial⟩
end
end Go.Proofs.Ythoefhocecdlhaa
