/-
  Part 3 of 9.
-/
import Derived.Test.YtmkkanmkjfnpdaaMq2
import Derived.Conc.CrowdTrace
import Derived.Conc.Deaf
import Derived.Conc.CrowdSel
import Derived.Conc.QuitsD
import Derived.Eval
import Derived.Leaving
import Derived.Handed
import Derived.RowKit3
import Derived.Below
import Derived.Carry
import Derived.Conc.LeavingOf
import Derived.Conc.LoneSelect
import Derived.Deep.Slices
import Derived.ProofKit
import Derived.OpenShut
import Derived.Test.YtmkkanmkjfnpdaaChecked
set_option linter.unusedVariables false
set_option linter.unusedSimpArgs false
namespace Go.PB
section
theorem star_upd {b o:Nat} {v v0:Value} {c c':HProp} {L:List HProp} {h:Hp} (hc:∀ h,c h→h.own b o=some v0) (hu:∀ h,c h→c' (h.set b o v)) (s:Star (c::L) h) :
  (h.own b o).isSome=true∧Star (c'::L) (h.set b o v):=by
 obtain ⟨h1,h2,s1,ha,hL⟩:=s
 have h1k:=hc h1 ha
 have hown:=s1.o1 _ _ _ h1k
 have h2k:h2.own b o=none:=(s1.od b o).resolve_left (by rw [h1k];simp)
 refine ⟨by rw [hown];rfl,h1.set b o v,h2,⟨s1.r1,s1.r2,?_,?_,?_,s1.b1,s1.b2,s1.bd,s1.s1,s1.s2⟩,hu _ ha,hL⟩
 ·intro b' o' v' e
  simp only [Hp.set] at e ⊢
  split at e
  ·rename_i hh;simp [hh,e]
  ·rename_i hh;simp only [hh,if_false];exact s1.o1 _ _ _ e
 ·intro b' o' v' e
  simp only [Hp.set]
  rw [if_neg (by rintro ⟨rfl,rfl⟩;rw [h2k] at e;cases e)]
  exact s1.o2 _ _ _ e
 ·intro b' o'
  simp only [Hp.set]
  split
  ·rename_i hh;obtain ⟨rfl,rfl⟩:=hh;exact .inr h2k
  ·exact s1.od _ _
theorem Wt.upd {b o:Nat} {v v0:Value} {c c':HProp} {L F:List HProp} (hh:Has L c F) (hc:∀ h,c h→h.own b o=some v0) (hu:∀ h,c h→c' (h.set b o v)):Wt L b o v (c'::F) :=
 fun h s=>star_upd hc hu (hh.star s)
def wds (addr:Nat→Nat × Nat) (N:Nat) (K:List (Nat × Nat × Value)) (m:Nat→Nat):HProp:=fun h =>
 (∀ w,w<N→m w<18446744073709551616∧h.own (addr w).1 (addr w).2=some (.int .u64 (m w:Nat)))∧∀ k∈K,h.own k.1 k.2.1=some k.2.2
def upd (m:Nat→Nat) (w n:Nat):Nat→Nat:=fun i=>if i=w then n else m i
theorem upd_same {m:Nat→Nat} {w n:Nat}:upd m w n w=n:=by simp [upd]
theorem upd_other {m:Nat→Nat} {w n i:Nat} (h:i≠w):upd m w n i=m i:=by simp [upd,h]
structure Apart (addr:Nat→Nat × Nat) (N:Nat) (K:List (Nat × Nat × Value)):Prop where
 inj:∀ i j,i<N→j<N→addr i=addr j→i=j
 fix:∀ i,i<N→∀ k∈K,addr i≠(k.1,k.2.1)
variable {addr:Nat→Nat × Nat} {N:Nat} {K:List (Nat × Nat × Value)} {m:Nat→Nat} {L F:List HProp} {b o w:Nat}
theorem rd_wds (hh:Has L (wds addr N K m) F) (hw:w<N) (ha:addr w=(b,o)):Rd L b o (.int .u64 (m w:Nat)) :=
 Rd.of hh fun h s=>by
  obtain ⟨h1,h2,s1,hc,_⟩:=s
  have:=(hc.1 w hw).2
  rw [ha] at this
  exact ⟨rfl,.inl (s1.o1 _ _ _ this)⟩
theorem wt_wds (A:Apart addr N K) (hh:Has L (wds addr N K m) F) (hw:w<N) (ha:addr w=(b,o)) {n:Nat} (hn:n<18446744073709551616):Wt L b o (.int .u64 (n:Nat)) (wds addr N K (upd m w n)::F):=by
 refine Wt.upd (v0:=.int .u64 (m w:Nat)) hh (fun h hc=>?_) (fun h hc=>⟨fun i hi=>?_,fun k hk=>?_⟩)
 ·have:=(hc.1 w hw).2
  rwa [ha] at this
 ·by_cases e:i=w
  ·subst e
   rw [upd_same,ha]
   exact ⟨hn,by simp [Hp.set]⟩
  ·rw [upd_other e]
   refine ⟨(hc.1 i hi).1,?_⟩
   have:¬ ((addr i).1=b∧(addr i).2=o):=fun ⟨h1,h2⟩=>e (A.inj i w hi hw (by rw [ha,← h1,← h2]))
   simp only [Hp.set,if_neg this]
   exact (hc.1 i hi).2
 ·have:¬ (k.1=b∧k.2.1=o):=fun ⟨h1,h2⟩=>A.fix w hw k hk (by rw [ha,← h1,← h2])
  simp only [Hp.set,if_neg this]
  exact hc.2 k hk
section
variable {P:Program} {B:Hand} {x:B.X}
theorem tr_pure {f:FuncId} {args:List Value} {R:Value→List HProp→B.X→Prop} {p:Prop} (h0:∀ h,Star L h→p) (t:p→Tr P B f args L x R):Tr P B f args L x R :=
 fun h um Q hs q pn=>t (h0 h hs) h um Q hs q pn
theorem tr_star {f:FuncId} {args:List Value} {R:Value→List HProp→B.X→Prop} (L':List HProp) (s:∀ h,Star L h→Star L' h) (t:Tr P B f args L' x R):Tr P B f args L x R :=
 fun h um Q hs q pn=>t h um Q (s h hs) q pn
theorem Tr.post {f:FuncId} {args:List Value} {R R':Value→List HProp→B.X→Prop} (t:Tr P B f args L x R) (s:∀ v L' x',R v L' x'→∃ L'',R' v L'' x'∧∀ h,Star L' h→Star L'' h):Tr P B f args L x R' :=
 fun h um Q hs q pn=>t h um Q hs (fun v L' x' h' r st=>by
  obtain ⟨L'',r',s'⟩:=s v L' x' r
  exact q v L'' x' h' r' (s' h' st)) pn
theorem tr_ex {α:Type} {c:α→HProp} {f:FuncId} {args:List Value} {R:Value→List HProp→B.X→Prop} (hh:Has L (fun h=>∃ a,c a h) F) (t:∀ a,Tr P B f args (c a::F) x R):Tr P B f args L x R :=
 fun h um Q hs q pn=>by
  obtain ⟨a,s⟩:=star_ex (hh.star hs)
  exact t a h um Q s q pn
end
theorem we_star {P:Program} {B:Hand} {kd:CallKind} {n:Nat} {K:Post B} {e:Env} {z:Z} {x:B.X} {c:Code} (L':List HProp) (s:∀ h,Star L h→Star L' h) (a:We P B kd n c K e z L' x):We P B kd n c K e z L x:=at_star L' s a
theorem we_pure {P:Program} {B:Hand} {kd:CallKind} {n:Nat} {K:Post B} {e:Env} {z:Z} {x:B.X} {c:Code} {p:Prop} (h0:∀ h,Star L h→p) (a:p→We P B kd n c K e z L x):We P B kd n c K e z L x :=
 fun t h a1 a2 a3=>a (h0 h a3) t h a1 a2 a3
theorem wo_pure {P:Program} {B:Hand} {kd:CallKind} {n:Nat} {K:Post B} {e:Env} {z:Z} {x:B.X} {l:List OpG} {p:Prop} (h0:∀ h,Star L h→p) (a:p→Wo P B kd n l K e z L x):Wo P B kd n l K e z L x :=
 fun ops idx h1 h2 t h a1 a2 a3=>a (h0 h a3) ops idx h1 h2 t h a1 a2 a3
theorem ap_know {P:Program} {B:Hand} {kd:CallKind} {n:Nat} {K:Post B} {e:Env} {z:Z} {x:B.X} {ops:Array Oper} {ord R:List Nat} {Pd:List Pn} {p:Prop} (h0:∀ h,Star L h→p) (k:p→Ap P B kd n ops ord R Pd K e z L x):Ap P B kd n ops ord R Pd K e z L x :=
 fun a b c idx t h i s=>k (h0 h s) a b c idx t h i s
theorem we_lfp {P:Program} {B:Hand} {kd:CallKind} {n:Nat} {K:Post B} {e:Env} {z:Z} {x:B.X} {c:Code} {S:Type} (T:(S→Prop)→S→Prop) (C:S→List HProp) (xs:S→B.X) (s:S) (h:∀ X:S→Prop,(∀ s,T X s→X s)→X s)
  (e0:Env) (he:Sub e0 e) (hL:Ent L (C s)) (hx:xs s=x)
  (round:∀ s,T (fun s=>We P B kd n c (inLp (Wl P B kd c K) K) e0 z (C s) (xs s)) s→We P B kd n c (inLp (Wl P B kd c K) K) e0 z (C s) (xs s)):We P B kd n (.loop c) K e z L x:=by
 subst hx
 exact we_loop1 (we_sub e0 he (we_ent _ hL (h _ round)))
theorem at_again {P:Program} {B:Hand} {kd:CallKind} {n:Nat} {K:Post B} {e e0:Env} {z:Z} {x:B.X} {c:Code} {L':List HProp} (w:We P B kd n c (inLp (Wl P B kd c K) K) e0 z L' x) (he:Sub e0 e) (hL:Ent L L'):At n e L fun t h=>Wl P B kd c K t z h x :=
 at_sub e0 he (at_ent _ hL (wle_step w))
theorem vec_shape {sz:Nat} {v:Value} {cs:List Value} (hz:0<sz):∀ h,vec sz v cs h→∃ a n c,v=.slice a n c∧cs.length=n*sz∧n≤c∧(a=none→n=0)∧∀ y,a=some y→y=⟨y.block,y.off,none⟩:=by
 rintro h (⟨rfl,rfl⟩ | ⟨b,o,n,c,sp,rfl,h1,h2,h3,h4⟩)
 ·exact ⟨none,0,0,rfl,by simp,by omega,fun _=>rfl,fun y hy=>by cases hy⟩
 ·exact ⟨_,n,c,rfl,h1,h2,fun hy=>(by cases hy),fun y hy=>by cases hy;rfl⟩
theorem rd_vec {sz b o n c i:Nat} {cs:List Value} {v:Value} (hh:Has L (vec sz (.slice (some ⟨b,o,none⟩) n c) cs) F) (hi:cs[i]?=some v):Rd L b (o+i) v :=
 Rd.of hh fun h s=>by
  obtain ⟨h1,h2,s1,hc,_⟩:=s
  rcases hc with ⟨e,_⟩ | ⟨b',o',n',c',sp,e,h3,h4,h5,h6⟩
  ·cases e
  ·cases e
   refine ⟨rfl,.inl (s1.o1 _ _ _ (h6 i v ?_))⟩
   rw [List.getElem?_append_left (List.getElem?_eq_some_iff.1 hi).1];exact hi
theorem star_ne {r b:Nat} {v w:Value} {vs ws:List Value} {h:Hp} (s:Star (arr r 0 (v::vs)::arr b 0 (w::ws)::L) h):r≠b:=by
 rintro rfl
 obtain ⟨h1,h2,s1,ha,h3,h4,s2,hb,_⟩:=s
 have e1:=ha 0 v rfl
 have e2:=s2.o1 _ _ _ (hb 0 w rfl)
 rcases s1.od r 0 with e | e
 ·rw [Nat.zero_add] at e1;rw [e1] at e;cases e
 ·rw [Nat.zero_add] at e2;rw [e2] at e;cases e
def num (v:Nat):Value:=.int .u64 (v:Int)
def RdV (L:List HProp) (a:Option Addr) (l:List Nat):Prop:=∀ i v,l[i]?=some v→∃ b o,a=some ⟨b,o,none⟩∧Rd L b (o+i) (num v)
def twoAddr (r b:Nat):Nat→Nat × Nat
 | 0=>(r,0)
 | 1=>(r,1)
 | i+2=>(b,i)
theorem two_apart {r b N:Nat} (h:r≠b) (v:Value):Apart (twoAddr r b) N [(r,2,v)] where
 inj:=by
  rintro (_ | _ | i) (_ | _ | j) _ _ <;> simp [twoAddr] <;> omega
 fix:=by
  rintro (_ | _ | i) _ k hk <;> simp only [List.mem_singleton] at hk <;> subst hk <;> simp [twoAddr] <;> omega
theorem two_wds {r b N:Nat} {v:Value} {ws:List Value} {h:Hp} (hw:∀ i,i<N→ws[i]?=some (.int .u64 0)) (s:Star (arr r 0 [.int .u64 0,.int .u64 0,v]::arr b 0 ws::L) h) :
  Star (wds (twoAddr r b) (N+2) [(r,2,v)] (fun _=>0)::L) h:=by
 have s':=star_shut (M:=[_,_]) s
 refine star_map s' (fun h hh=>?_) (fun _ x=>x)
 obtain ⟨h1,h2,s1,ha,h3,h4,s2,hb,_⟩:=hh
 refine ⟨fun w hlt=>⟨by show 0<18446744073709551616;decide,?_⟩,fun k hk=>?_⟩
 ·match w with
  | 0=>exact s1.o1 _ _ _ (ha 0 _ rfl)
  | 1=>exact s1.o1 _ _ _ (ha 1 _ rfl)
  | i+2 =>
   have:=hb i (.int .u64 0) (hw i (by omega))
   simp only [twoAddr]
   rw [Nat.zero_add] at this
   exact s1.o2 _ _ _ (s2.o1 _ _ _ this)
 ·simp only [List.mem_singleton] at hk
  subst hk
  exact s1.o1 _ _ _ (ha 2 _ rfl)
theorem zeros_two {n i:Nat} {v:Value} (h:i<2*n):(zeros n [v,v])[i]?=some v:=by
 have:zeros n [v,v]=List.replicate (2*n) v:=by
  unfold zeros
  clear h
  induction n with
  | zero=>rfl
  | succ n ih =>
   rw [List.replicate_succ,List.flatten_cons,ih,show 2*(n+1)=2*n+1+1 by omega]
   rfl
 rw [this];simp [h]
theorem of_has {c:HProp} {p:Prop} (hh:Has L c F) (hc:∀ h,c h→p):∀ h,Star L h→p:=fun h s=>by
 obtain ⟨h1,h2,s1,hx,_⟩:=hh.star s
 exact hc h1 hx
end
end Go.PB
namespace Go.PB
theorem wpS_partI {P:Program} {M:Mark→Prop} {α:Type} {t:TypeId} {k:IntKind} {cs:Array Value} {off:Nat} {v:Value} {kk:Value→Sem α} (ht:P.underlying t=some (.int k)) (hc:cs[off]?=some v) {h:Hp} {Q:α→Hp→Prop} {X:Value→Hp→Prop} (q:wpS P M (kk v) h Q X) :
  wpS P M (Sem.bind (part t cs off) kk) h Q X:=by
 refine wpS_bind _ _ ?_
 unfold part
 refine wpS_isAgg (q:=false) (by unfold aggOf;rw [ht];rfl) ?_
 simp only [Bool.false_eq_true,if_false,hc]
 exact q
theorem wpS_equalI {P:Program} {M:Mark→Prop} {α:Type} {d:Nat} {t:TypeId} {k:IntKind} {a b:Int} {kk:Bool→Sem α} (ht:P.underlying t=some (.int k)) {h:Hp} {Q:α→Hp→Prop} {X:Value→Hp→Prop} (q:wpS P M (kk (a == b)) h Q X) :
  wpS P M (Sem.bind (Op.equalIn (d+1) t (.int k a) (.int k b)) kk) h Q X:=by
 refine wpS_bind _ _ ?_
 unfold Op.equalIn
 refine wpS_underlying ht ?_
 simp only [if_true]
 exact q
theorem equalIn_two {P:Program} {M:Mark→Prop} {d:Nat} {t:TypeId} {f0 f1:Field} {k0 k1:IntKind} {a0 b0 a1 b1:Int} (ht:P.underlying t=some (.struct #[f0,f1])) (hs:P.stoodInHeld t=false)
  (n0:f0.name ≠ "_") (n1:f1.name ≠ "_") (o0:f0.offset=0) (o1:f1.offset=1) (t0:P.underlying f0.type=some (.int k0)) (t1:P.underlying f1.type=some (.int k1))
  {h:Hp} {Q:Bool→Hp→Prop} {X:Value→Hp→Prop} (q:Q (decide (a0=b0∧a1=b1)) h) :
  wpS P M (Op.equalIn (d+2) t (.agg #[.int k0 a0,.int k1 a1]) (.agg #[.int k0 b0,.int k1 b1])) h Q X:=by
 unfold Op.equalIn
 refine wpS_underlying ht ?_
 dsimp only
 refine wpS_program (β:=Unit) ?_
 simp only [hs,Bool.false_eq_true,if_false,← Array.forIn_toList,List.forIn_cons,List.forIn_nil,n0,n1,ne_eq,not_false_eq_true,if_true,bind_assoc,pure_bind,o0,o1]
 refine wpS_partI t0 rfl (wpS_partI t0 rfl (wpS_equalI t0 ?_))
 by_cases e0:a0=b0
 ·subst e0
  simp only [beq_self_eq_true,Bool.not_true,Bool.false_eq_true,if_false,pure_bind,bind_assoc]
  refine wpS_partI t1 rfl (wpS_partI t1 rfl (wpS_equalI t1 ?_))
  by_cases e1:a1=b1
  ·subst e1
   simp only [beq_self_eq_true,Bool.not_true,Bool.false_eq_true,if_false,pure_bind,bind_assoc]
   have q':Q true h:=by simpa using q
   exact q'
  ·have:(a1 == b1)=false:=by simp [e1]
   simp only [this,Bool.not_false,if_true,pure_bind,bind_assoc]
   have q':Q false h:=by simpa [e1] using q
   exact q'
 ·have:(a0 == b0)=false:=by simp [e0]
  simp only [this,Bool.not_false,if_true,pure_bind,bind_assoc]
  have q':Q false h:=by simpa [e0] using q
  exact q'
end Go.PB
namespace Go.PB
inductive ResV (P:Program) (e:Env) (L:List HProp):ResultVar→Value→Prop
 | tmp {i:Nat} {v:Value}:lk e i=some v→ResV P e L (.tmp i) v
 | cell {a ty n b o:Nat} {vs:List Value} [p:AggT P ty] [sz:Siz P ty n]:lk e a=some (.pointer (some ⟨b,o,none⟩))→n=vs.length→Rds L b o vs→ResV P e L (.cell a ty) (.agg vs.toArray)
 | cell1 {a ty b o:Nat} {v:Value} [p:Scal P ty]:lk e a=some (.pointer (some ⟨b,o,none⟩))→Rd L b o v→ResV P e L (.cell a ty) v
inductive ResL (P:Program) (e:Env) (L:List HProp):List ResultVar→List Value→Prop
 | nil:ResL P e L [] []
 | cons {r:ResultVar} {v:Value} {rs:List ResultVar} {vs:List Value}:ResV P e L r v→ResL P e L rs vs→ResL P e L (r::rs) (v::vs)
def packR:List Value→Value
 | [a]=>a
 | vs=>.tuple vs.toArray
def loadR (t:Array Value):ResultVar→Sem Value
 | .tmp i=>pure (t.getD i undef)
 | .cell a ty=>do loadVar ty (← asAddr (t.getD a undef))
variable {P:Program} {B:Hand} {kd:CallKind} {n:Nat} {e:Env} {L:List HProp} {x:B.X}
theorem ResV.load {r:ResultVar} {v:Value} {t:Array Value} {M:Mark→Prop} {h:Hp} {Q:Value→Hp→Prop} {X:Value→Hp→Prop} (rv:ResV P e L r v) (ag:Agree e t) (s:Star L h) (q:Q v h) :
  wpS P M (loadR t r) h Q X:=by
 cases rv with
 | @tmp i v hi =>
  have:t.getD i undef=v:=ag.ev (o:=.tmp i) hi
  show Q (t.getD i undef) h
  rw [this];exact q
 | @cell a ty n b o vs p sz ha hn hr =>
  have:t.getD a undef=_:=ag.ev (o:=.tmp a) ha
  show wpS P M (Sem.bind (asAddr (t.getD a undef)) fun y=>loadVar ty y) h Q X
  rw [this]
  show wpS P M (loadVar ty ⟨b,o,none⟩) h Q X
  show wpS P M (Sem.bind (isAgg ty) _) h _ X
  refine wpS_isAgg p.ok ?_
  rw [if_pos rfl]
  show wpS P M (Sem.bind (sizeOf ty) fun n=>Sem.bind (loadCells ⟨b,o,none⟩ n) fun x=>pure (Value.agg x)) h _ X
  exact wpS_sizeOf sz.ok (wpS_bind _ _ (wpS_loadCells hn (fun j v hv=>hr j v hv h s) q))
 | @cell1 a ty b o v p ha hr =>
  have:t.getD a undef=_:=ag.ev (o:=.tmp a) ha
  show wpS P M (Sem.bind (asAddr (t.getD a undef)) fun y=>loadVar ty y) h Q X
  rw [this]
  show wpS P M (loadVar ty ⟨b,o,none⟩) h Q X
  show wpS P M (Sem.bind (isAgg ty) _) h _ X
  refine wpS_isAgg p.ok ?_
  exact wpS_load (hr h s) q
theorem at_leaveM {f:FuncId} {fn:Func} {rs:List ResultVar} {vs:List Value} {um:FrameMode} {Q:PB.End→FrameMode→Hp→B.X→Prop} {R:Value→List HProp→B.X→Prop} {ex:Ex} (hf:P.funcs[f]?=some fn) (hr:fn.results=rs.toArray)
  (q:∀ v L' x' h',R v L' x'→Star L' h'→Q (.ret v) um h' x') (hex:ex=.ret∨ex=.normal) (hv:ResL P e L rs vs) (hR:R (packR vs) L x) :
  At n e L fun t h=>leave P B f kd Q ex t ⟨[],um⟩ h x:=by
 intro t h a1 a2 a3
 have hw:Wd P B f kd .returning t ⟨[],um⟩ h x Q:=by
  refine wd_ret (packR vs) hf rfl ?_ (q _ L x h hR a3)
  have key:∀ {rs:List ResultVar} {vs:List Value},ResL P e L rs vs→∀ (acc:Array Value) (M:Mark→Prop) (Q:Array Value→Hp→Prop) (X:Value→Hp→Prop),Q (acc++vs.toArray) h →
    wpS P M (List.foldlM (fun (bs:Array Value) (r:ResultVar)=>bs.push <$> loadR t r) acc rs) h Q X:=by
   intro rs vs hv
   induction hv with
   | nil=>exact fun acc M Q X hq=>(show Q acc h from by simpa using hq)
   | @cons r v rs vs h1 _ ih =>
    intro acc M Q X hq
    rw [List.foldlM_cons,map_eq_pure_bind]
    refine wpS_bind _ _ (wpS_bind _ _ (h1.load a2 a3 ?_))
    show wpS P M (List.foldlM _ (acc.push v) rs) h Q X
    refine ih (acc.push v) M Q X ?_
    simpa using hq
  unfold results
  rw [hr,Array.mapM_eq_foldlM,← Array.foldlM_toList]
  refine wpS_bind _ _ ?_
  have e1:(fun (bs:Array Value) (r:ResultVar)=>(bs.push <$> (match r with | .tmp i=>pure (t.getD i undef) | .cell a ty=>do loadVar ty (← asAddr (t.getD a undef)):Sem Value):Sem (Array Value)))=fun bs r=>bs.push <$> loadR t r:=by
   funext bs r;cases r <;> rfl
  show wpS P _ (List.foldlM (fun (bs:Array Value) (r:ResultVar)=>(bs.push <$> (match r with | .tmp i=>pure (t.getD i undef) | .cell a ty=>do loadVar ty (← asAddr (t.getD a undef)):Sem Value):Sem (Array Value))) #[] rs) h _ _
  rw [e1]
  refine key hv #[] _ _ _ ?_
  rw [show (#[]++vs.toArray:Array Value)=vs.toArray by simp]
  refine ⟨?_,rfl⟩
  cases vs with
  | nil=>rfl
  | cons a l=>cases l <;> rfl
 rcases hex with rfl | rfl
 ·exact hw
 ·exact hw
end Go.PB
namespace Go.PB
section
variable {L F:List HProp}
theorem ent_eq {L L':List HProp} (h:L=L'):Ent L L':=h▸.refl
theorem wt_vec {sz b o n c i:Nat} {cs:List Value} {v:Value} (hh:Has L (vec sz (.slice (some ⟨b,o,none⟩) n c) cs) F) (hi:i<cs.length):Wt L b (o+i) v (vec sz (.slice (some ⟨b,o,none⟩) n c) (cs.set i v)::F):=by
 intro h s
 rcases vec_out (hh.star s) with ⟨h1,_,_⟩ | ⟨b',o',n',c',sp,h1,h2,h3,h4,h5⟩
 ·cases h1
 ·cases h1
  obtain ⟨a1,a2⟩:=star_store (k:=i) (v:=v) (by simp;omega) h5
  refine ⟨a1,vec_in (sp:=sp) (by simpa using h2) h3 h4 ?_⟩
  rwa [List.set_append_left _ _ hi] at a2
theorem has_get {M:List HProp} {c:HProp}:∀ {i:Nat},M[i]?=some c→Has M c (M.eraseIdx i):=by
 induction M with
 | nil=>intro i h;cases h
 | cons d M ih =>
  intro i h
  cases i with
  | zero=>cases h;exact .here
  | succ i=>exact .there (ih h)
theorem has_app {M:List HProp} {c:HProp} {R:List HProp} (h:Has M c R):Has (M++L) c (R++L):=by
 induction h with
 | here=>exact .here
 | there _ ih=>exact .there ih
theorem star_pick {M:List HProp} {c:HProp} {i:Nat} (e:M[i]?=some c) {h:Hp} (s:Star (all M::L) h):Star (c::all (M.eraseIdx i)::L) h :=
 star_map ((has_app (has_get e)).star (star_open s)) (fun _ x=>x) (fun _ x=>star_shut x)
theorem ent_put {M:List HProp} {c:HProp}:∀ {i:Nat},i<M.length→Has (M.set i c) c (M.eraseIdx i):=by
 intro i hi
 have:=has_get (M:=M.set i c) (c:=c) (i:=i) (by simp [hi])
 rwa [List.eraseIdx_set_eq] at this
theorem has_back {M R:List HProp} {c:HProp} (hh:Has M c R) {h:Hp} (s:Star (c::R) h):Star M h:=by
 induction hh generalizing h with
 | here=>exact s
 | there _ ih=>exact star_map (star_swap s) (fun _ x=>x) (fun _=>ih)
theorem star_put {M:List HProp} {c:HProp} {i:Nat} (hi:i<M.length) {h:Hp} (s:Star (c::all (M.eraseIdx i)::L) h):Star (all (M.set i c)::L) h :=
 star_shut (has_back (has_app (ent_put hi)) (star_map s (fun _ x=>x) (fun _ x=>star_open x)))
theorem star_push {M:List HProp} {c:HProp} {h:Hp} (s:Star (c::all M::L) h):Star (all (M++[c])::L) h:=by
 have s2:Star (c::(M++L)) h:=star_map s (fun _ x=>x) (fun _ x=>star_open x)
 refine star_shut ?_
 have:Has (M++[c]++L) c (M++L):=by
  have h1:Has (M++c::L) c (M++L):=by
   clear s s2
   induction M with
   | nil=>exact .here
   | cons d M ih=>exact .there ih
  simpa using h1
 exact has_back this s2
theorem u64_add {a b:Nat}:IntKind.u64.wrap ((a:Int)+(b:Int))=(((a+b)%18446744073709551616:Nat):Int):=by rw [wrap_u64_mod];omega
theorem u64_sub {a b:Nat} (hb:b<18446744073709551616):IntKind.u64.wrap ((a:Int)-(b:Int))=(((a+18446744073709551616-b)%18446744073709551616:Nat):Int):=by rw [wrap_u64_mod];omega
theorem u64_mul {a b:Nat}:IntKind.u64.wrap ((a:Int)*(b:Int))=(((a*b)%18446744073709551616:Nat):Int):=by rw [wrap_u64_mod,← Int.natCast_mul];omega
theorem u64_quo {a b:Nat}:IntKind.u64.wrap ((a:Int).tdiv (b:Int))=(((a/b)%18446744073709551616:Nat):Int):=by rw [wrap_u64_mod,← Int.ofNat_tdiv];omega
theorem u64_shl {a n:Nat} (h:n<64):IntKind.u64.wrap ((a:Int)*2^(min (n:Int).toNat IntKind.u64.bits))=(((a*2^n)%18446744073709551616:Nat):Int):=by
 have:min (n:Int).toNat IntKind.u64.bits=n:=by show min (n:Int).toNat 64=n;omega
 rw [this,wrap_u64_mod,show (2:Int)^n=((2^n:Nat):Int) by simp,← Int.natCast_mul];omega
theorem u64_shr {a n:Nat} (h:n<64) (ha:a<18446744073709551616):(a:Int).fdiv (2^(min (n:Int).toNat IntKind.u64.bits))=(((a/2^n)%18446744073709551616:Nat):Int):=by
 have:min (n:Int).toNat IntKind.u64.bits=n:=by show min (n:Int).toNat 64=n;omega
 have h2:a/2^n<18446744073709551616:=Nat.lt_of_le_of_lt (Nat.div_le_self _ _) ha
 rw [this,show (2:Int)^n=((2^n:Nat):Int) by simp,Nat.mod_eq_of_lt h2,Int.fdiv_eq_ediv_of_nonneg _ (Int.natCast_nonneg _)];rfl
theorem or_u64 {a b:Nat} (ha:a<18446744073709551616) (hb:b<18446744073709551616):IntKind.u64.wrap (BitVec.ofInt IntKind.u64.bits (a:Int) ||| BitVec.ofInt IntKind.u64.bits (b:Int)).toNat=(((a ||| b)%18446744073709551616:Nat):Int):=by
 have h1:(BitVec.ofInt 64 (a:Int) ||| BitVec.ofInt 64 (b:Int)).toNat=a ||| b:=by
  rw [BitVec.toNat_or,BitVec.ofInt_natCast,BitVec.ofInt_natCast,BitVec.toNat_ofNat,BitVec.toNat_ofNat,Nat.mod_eq_of_lt (by omega),Nat.mod_eq_of_lt (by omega)]
 show IntKind.u64.wrap ((BitVec.ofInt 64 (a:Int) ||| BitVec.ofInt 64 (b:Int)).toNat:Int)=_
 rw [h1,wrap_u64_mod];omega
theorem and_u64' {a b:Nat} (ha:a<18446744073709551616) (hb:b<18446744073709551616):IntKind.u64.wrap (BitVec.ofInt IntKind.u64.bits (a:Int) &&& BitVec.ofInt IntKind.u64.bits (b:Int)).toNat=(((a &&& b)%18446744073709551616:Nat):Int):=by
 rw [and_u64 ha hb,Nat.mod_eq_of_lt (Nat.lt_of_le_of_lt Nat.and_le_left ha)]
end
section
variable {P:Program} {e:Env} {L:List HProp} {ty:TypeId}
theorem parts_pv {parts:Array (Nat × Operand)} {pv:List (Nat × Value)} {tt:Array Value} (hp:parts.toList.map (·.1)=pv.map (·.1)) (h2:(parts.toList.map (·.2)).map (evT tt)=pv.map (·.2)):(parts.map fun (i,x)=>(i,evT tt x))=pv.toArray:=by
 apply Array.ext'
 simp only [Array.toList_map]
 have key:∀ (l:List (Nat × Operand)) (r:List (Nat × Value)),l.map (·.1)=r.map (·.1)→(l.map (·.2)).map (evT tt)=r.map (·.2)→l.map (fun (q:Nat × Operand)=>(q.1,evT tt q.2))=r:=by
  intro l
  induction l with
  | nil=>intro r h1 _;cases r with | nil=>rfl | cons _ _=>cases h1
  | cons a l ih =>
   intro r h1 h2
   cases r with
   | nil=>cases h1
   | cons c r =>
    simp only [List.map_cons,List.cons.injEq] at h1 h2 ⊢
    exact ⟨by rw [h1.1,h2.1],ih r h1.2 h2.2⟩
 exact key _ _ hp h2
theorem mo_buildArr {t n el sz:Nat} {parts:Array (Nat × Operand)} {pv:List (Nat × Value)} {zv:Value} {cells:Array Value} [p:ArT P t n el] [s:Siz P el sz] [zr:Zer P t zv] (hp:parts.toList.map (·.1)=pv.map (·.1)) (hv:EvL e (parts.toList.map (·.2)) (pv.map (·.2))) (hf:Instr.fill (fun i=>some (i*sz,sz)) zv.cells pv=some cells):Mo P e (.build t parts) ty L fun v' L'=>v'=.agg cells∧L'=L:=by
 intro M _ _ tt h Q X ag st q
 show wpS P M (Sem.bind (Instr.build t (parts.map fun (i,x)=>(i,evT tt x))) fun v=>pure (.value v)) h Q X
 rw [parts_pv hp (hv.evT ag)]
 refine wpS_bind _ _ ?_
 show wpS P M (Sem.bind (zeroValue t) fun z0=>Sem.bind (underlying t) fun d=>_) h _ X
 refine wpS_zeroValue zr.ok (wpS_underlying p.ok ?_)
 refine wpS_sizeOf s.ok ?_
 rw [hf]
 exact q (.agg cells) L h (.value (.agg cells)) (.inl rfl) ⟨rfl,rfl⟩ st
theorem mo_indexArr1 {t n el:Nat} {o i:Operand} {b c:Nat} {k:IntKind} {j:Nat} [p:ArT P t n el] [z:Siz P el 1] (hx:ev e o=some (.pointer (some ⟨b,c,none⟩))) (hi:ev e i=some (.int k (j:Nat))) (h1:j<n):Mo P e (.indexAddr t o i) ty L fun v' L'=>v'=.pointer (some ⟨b,c+j,none⟩)∧L'=L :=
 mo_indexArr hx hi (by omega) (by omega) (by omega)
theorem mo_index1 {t el:Nat} {o i:Operand} {b c n cp:Nat} {k:IntKind} {j:Nat} [p:SlT P t el] [z:Siz P el 1] (hx:ev e o=some (.slice (some ⟨b,c,none⟩) n cp)) (hi:ev e i=some (.int k (j:Nat))) (h1:j<n):Mo P e (.indexAddr t o i) ty L fun v' L'=>v'=.pointer (some ⟨b,c+j,none⟩)∧L'=L :=
 mo_indexAddr hx hi (by omega) (by omega) (by omega)
theorem mo_index2 {t el:Nat} {o i:Operand} {b c n cp:Nat} {k:IntKind} {j:Nat} [p:SlT P t el] [z:Siz P el 2] (hx:ev e o=some (.slice (some ⟨b,c,none⟩) n cp)) (hi:ev e i=some (.int k (j:Nat))) (h1:j<n):Mo P e (.indexAddr t o i) ty L fun v' L'=>v'=.pointer (some ⟨b,c+2*j,none⟩)∧L'=L :=
 mo_indexAddr hx hi (by omega) (by omega) (by omega)
theorem mo_max {o o':Operand} {tys:Array TypeId} {k:IntKind} {a b:Int} (hx:ev e o=some (.int k a)) (hy:ev e o'=some (.int k b)):Mo P e (.call ⟨.builtin .max,#[o,o'],tys⟩) ty L fun v' L'=>v'=.int k (max a b)∧L'=L:=by
 intro M _ _ t h Q X ag s q
 show wpS P M (Sem.bind (Builtin.max_ tys ty (#[o,o'].map (evT t))) fun v=>pure (.value v)) h Q X
 rw [show #[o,o'].map (evT t)=#[evT t o,evT t o'] by simp,ag.ev hx,ag.ev hy]
 refine q _ L h (.value (.int k (if b > a then b else a))) (.inl ?_) ⟨rfl,rfl⟩ s
 congr 2
 split <;> omega
end
theorem tr_and {P:Program} {B:Hand} {x:B.X} {L F:List HProp} {p:Prop} {c:HProp} {f:FuncId} {args:List Value} {R:Value→List HProp→B.X→Prop} (hh:Has L (fun h=>p∧c h) F) (t:p→Tr P B f args (c::F) x R):Tr P B f args L x R :=
 fun h um Q hs q pn=>by
  obtain ⟨hp,s⟩:=star_and (hh.star hs)
  exact t hp h um Q s q pn
theorem ap_callR {P:Program} {B:Hand} {kd:CallKind} {n:Nat} {ops:Array Oper} {ord R:List Nat} {Pd:List Pn} {K:Post B} {e:Env} {z:Z} {L:List HProp} {x:B.X} [Lets B] {i:Nat} {Pd':List Pn} {d:Option Nat} {fo:Operand} {args:List Operand} {tys:Array TypeId} {ty:TypeId} {pos:String} {aft:Array Edge} {gd:Option (Nat × Bool)} {fv:Value} {f:FuncId} {first cap vs:List Value} {Q:Value→List HProp→B.X→Prop} (ho:nth ops.toList i=some ⟨d,.call ⟨.value fo,args.toArray,tys⟩,ty,pos,aft,gd⟩)
  (hdom:(R.all fun j=>(anc ops ops.size j).contains i)=true) (hpd':pdKeep ops i Pd=Pd') (hg:gYes (resE (readsOf n ops i) e) (guardOf n ops ⟨d,.call ⟨.value fo,args.toArray,tys⟩,ty,pos,aft,gd⟩))
  (hf:ev (resE (readsOf n ops i) e) fo=some fv) (hc:callee? fv=some (f,first,cap)) (hargs:EvL (resE (readsOf n ops i) e) args vs) [en:Ent' P f] [pk:Pass K z] (m:Tr P B f (first++vs++cap) L x Q)
  (hre:∀ v L' x',Q v L' x'→∀ p∈Pd',p.st=true∨∃ o,nth ops.toList p.i=some o∧gYes p.e (guardOf n ops o)∧Mo P p.e o.op o.type L' (fun v' L1=>v'=p.v∧L1=L'))
  (k:∀ v L' x',Q v L' x'→Ap P B kd n ops ord R Pd' K (setE d v e) z L' x'):Ap P B kd n ops ord (i::R) Pd K e z L x:=by
 subst hpd'
 have ho:=nth_at ho
 refine ap_loud_gen ho hdom hg fun idx t h ht ha s hw kk=>?_
 refine wr_op ho hw ?_
 have hfv:evT t fo=fv:=ha.ev hf
 have hav:=hargs.evT ha
 have hex:execOp (evT t) ⟨d,.call ⟨.value fo,args.toArray,tys⟩,ty,pos,aft,gd⟩=callFunc f (first++vs++cap).toArray:=by
  show (do let d ← resolve (evT t) ⟨.value fo,args.toArray,tys⟩ ty;invoke d.target d.args:Sem Next)=_
  cases fv with
  | func fn fi ca =>
   cases fn with
   | func g =>
    simp only [callee?,Option.some.injEq,Prod.mk.injEq] at hc
    obtain ⟨rfl,rfl,rfl⟩:=hc
    simp only [resolve,hfv,Deferred.ofValue,List.map_toArray,hav]
    show callFunc g ((fi++vs.toArray)++ca)=_
    congr 1
    apply Array.ext'
    simp
   | _=>cases hc
  | _=>cases hc
 rw [hex]
 refine wpS_callFunc en.ok ?_
 refine m h .run _ s (fun v L' x' h' r s'=>⟨rfl,?_⟩) (fun ch h' x' hc=>⟨rfl,pk.ok ch t h' x' hc⟩)
 exact kk v L' x' h' s' (fun p hp hk=>by
  by_cases hs:p.st=true
  ·exact pd_still (Pd':=[p]) (by simp [hs]) p (by simp) hk
  ·rcases hre v L' x' r p hp with h | ⟨o,h1,h2,h3⟩
   ·exact absurd h hs
   ·exact ⟨o,nth_at h1,.inl ⟨h2,by rw [if_neg hs];exact h3⟩⟩) (k v L' x' r)
def seqTail:Nat→Code→Code
 | 0,c=>c
 | n+1,.seq _ b=>seqTail n b
 | _+1,c=>c
section
variable {P:Program} {B:Hand} {kd:CallKind} {n:Nat} {K:Post B} {e:Env} {z:Z} {L F:List HProp} {x:B.X}
def midK {ι:Type} (I:Inv ι B.X) (n:Nat) (z:Z) (K:Post B):Post B
 | .normal,t,z',h,x=>∃ i,I.ok i∧z'=z∧t.size=n∧Agree (I.e i) t∧Star (I.L i) h∧I.x i=x
 | ex,t,z',h,x=>K ex t z' h x
instance {ι:Type} {I:Inv ι B.X} {n:Nat} {z z':Z} {K:Post B} [p:Pass K z']:Pass (midK I n z K) z':=⟨fun ch t h x q=>p.ok ch t h x q⟩
theorem mid_out {ι:Type} (I:Inv ι B.X) {c:Code} (k:∀ i,I.ok i→We P B kd n c K (I.e i) z (I.L i) (I.x i)):∀ ex t z' h x,midK I n z K ex t z' h x→thn P B kd c K ex t z' h x:=by
 intro ex t z' h x hm
 cases ex with
 | normal=>obtain ⟨i,h1,rfl,h3,h4,h5,rfl⟩:=hm;exact k i h1 t h h3 h4 h5
 | _=>exact hm
theorem we_join {ι:Type} (I:Inv ι B.X) {a c:Code} (w:We P B kd n a (midK I n z K) e z L x) (k:∀ i,I.ok i→We P B kd n c K (I.e i) z (I.L i) (I.x i)):We P B kd n a (thn P B kd c K) e z L x :=
 fun t h a1 a2 a3=>(w t h a1 a2 a3).mono (mid_out I k)
theorem we_join2 {ι:Type} (I:Inv ι B.X) {a b c:Code} (w:We P B kd n a (thn P B kd b (midK I n z K)) e z L x) (k:∀ i,I.ok i→We P B kd n c K (I.e i) z (I.L i) (I.x i)):We P B kd n a (thn P B kd b (thn P B kd c K)) e z L x :=
 fun t h a1 a2 a3=>(w t h a1 a2 a3).mono fun ex t z' h x hm=>by
  cases ex with
  | normal=>exact Wc.mono hm (mid_out I k)
  | _=>exact hm
theorem at_mid {ι:Type} {I:Inv ι B.X} (i:ι) (hok:I.ok i) (he:Sub (I.e i) e) (hL:Ent L (I.L i)) (hx:I.x i=x):At n e L fun t h=>∃ i,I.ok i∧z=z∧t.size=n∧Agree (I.e i) t∧Star (I.L i) h∧I.x i=x :=
 fun t h a1 a2 a3=>⟨i,hok,rfl,a1,fun j v hj=>a2 j v (he.lk j v hj),hL.star a3,hx⟩
theorem at_midS {ι:Type} {I:Inv ι B.X} (i:ι) (hok:I.ok i) (he:Sub (I.e i) e) (hL:∀ h,Star L h→Star (I.L i) h) (hx:I.x i=x):At n e L fun t h=>∃ i,I.ok i∧z=z∧t.size=n∧Agree (I.e i) t∧Star (I.L i) h∧I.x i=x :=
 fun t h a1 a2 a3=>⟨i,hok,rfl,a1,fun j v hj=>a2 j v (he.lk j v hj),hL h a3,hx⟩
theorem at_roundS {ι:Type} {I:Inv ι B.X} {R:ι→Prop} (i':ι) (hr:R i') (hok:I.ok i') (he:Sub (I.e i') e) (hL:∀ h,Star L h→Star (I.L i') h) (hx:I.x i'=x) :
  At n e L fun t h=>∃ i',R i'∧I.ok i'∧z=z∧t.size=n∧Agree (I.e i') t∧Star (I.L i') h∧I.x i'=x :=
 fun t h a1 a2 a3=>⟨i',hr,hok,rfl,a1,fun j v hj=>a2 j v (he.lk j v hj),hL h a3,hx⟩
theorem we_ex {c:Code} {α:Type} {d:α→HProp} (hh:Has L (fun h=>∃ a,d a h) F) (a:∀ y,We P B kd n c K e z (d y::F) x):We P B kd n c K e z L x:=at_ex hh a
theorem we_and {c:Code} {p:Prop} {d:HProp} (hh:Has L (fun h=>p∧d h) F) (a:p→We P B kd n c K e z (d::F) x):We P B kd n c K e z L x:=at_and hh a
theorem we_open {c:Code} {M:List HProp} (hh:Has L (all M) F) (a:We P B kd n c K e z (M++F) x):We P B kd n c K e z L x:=at_open hh a
end
theorem flat_len {α:Type} {f:α→List Value} {k:Nat} (hf:∀ a,(f a).length=k):∀ (l:List α),(l.map f).flatten.length=l.length*k:=by
 intro l
 induction l with
 | nil=>simp
 | cons a l ih=>simp only [List.map_cons,List.flatten_cons,List.length_append,ih,hf,List.length_cons];rw [Nat.add_mul];omega
theorem flat_get {α:Type} {f:α→List Value} {k:Nat} (hf:∀ a,(f a).length=k):∀ (l:List α) (i j:Nat) (a:α),l[i]?=some a→j<k→(l.map f).flatten[k*i+j]?=(f a)[j]?:=by
 intro l
 induction l with
 | nil=>intro i j a h;simp at h
 | cons b l ih =>
  intro i j a h hj
  simp only [List.map_cons,List.flatten_cons]
  cases i with
  | zero =>
   have e:b=a:=by simpa using h
   subst e
   rw [Nat.mul_zero,Nat.zero_add,List.getElem?_append_left (by rw [hf];exact hj)]
  | succ i =>
   rw [List.getElem?_append_right (by rw [hf,Nat.mul_add];omega),hf,← ih i j a (by simpa using h) hj]
   congr 1
   rw [Nat.mul_add];omega
theorem flat_set {α:Type} {f:α→List Value} {k:Nat} (hf:∀ a,(f a).length=k) {v:Value}:∀ (l:List α) (i j:Nat) (a b:α),l[i]?=some a→j<k→f b=(f a).set j v→(l.map f).flatten.set (k*i+j) v=((l.set i b).map f).flatten:=by
 intro l
 induction l with
 | nil=>intro i j a b h;simp at h
 | cons c l ih =>
  intro i j a b h hj hb
  cases i with
  | zero =>
   have e:c=a:=by simpa using h
   subst e
   simp only [List.map_cons,List.flatten_cons,List.set_cons_zero,Nat.mul_zero,Nat.zero_add]
   rw [List.set_append_left _ _ (by rw [hf];exact hj),hb]
  | succ i =>
   simp only [List.map_cons,List.flatten_cons,List.set_cons_succ]
   rw [List.set_append_right _ _ (by rw [hf,Nat.mul_add];omega),hf,← ih i j a b (by simpa using h) hj hb]
   congr 2
   rw [Nat.mul_add];omega
end Go.PB
namespace Go.PB
section
variable {P:Program} {B:Hand} {kd:CallKind} {n:Nat} {ops:Array Oper} {ord R:List Nat} {Pd:List Pn} {K:Post B} {e:Env} {z:Z} {L:List HProp} {x:B.X}
variable (P B kd n) in
def Ap1 (ops:Array Oper) (ord:List Nat) (i:Nat) (R:List Nat) (Pd:List Pn) (K:Post B) (e:Env) (z:Z) (L:List HProp) (x:B.X):Prop :=
 (∃ pre,ord=pre++i::R∧∀ p∈Pd,p.i∈pre)→OkO n ops ord→(∀ p∈Pd,PdOk P n ops L p)→∀ idx t h,InvA n ops (i::R) Pd e (i::idx) t→Star L h→Wr P B kd ops (i::idx) K t z h x
theorem ap_fork [Lets B] {i f:Nat} {ord':List Nat} (hdom:(R.all fun j=>j == f||(anc ops ops.size j).contains i)=true) (hf:R.contains f=true) (hord:ord'=(ord.takeWhile fun q=>!(q == i))++f::i::R.erase f) (hok:okOrd n ops ord'=true)
  (a:Ap1 P B kd n ops ord i R Pd K e z L x) (b:Ap1 P B kd n ops ord' f (i::R.erase f) Pd K e z L x):Ap P B kd n ops ord (i::R) Pd K e z L x:=by
 rintro ⟨pre,hpre,hin⟩ ok hpd
 have hfR:f∈R:=by simpa using hf
 refine ap_run ok hpd (fun t h I s=>?_) (fun j idx t h hj I s=>?_)
 ·have:=I.all i (by simp);simp at this
 ·have hnd:(pre++i::R).Nodup:=hpre▸ok.nd
  have htw:ord.takeWhile (fun q=>!(q == i))=pre:=by rw [hpre];exact takeWhile_pre hnd
  have hnd2:=List.nodup_cons.1 (List.nodup_append.1 hnd).2.1
  by_cases hji:j=i
  ·subst hji
   exact a ⟨pre,hpre,hin⟩ ok hpd idx t h I s
  ·have hjf:j=f:=by
    rcases List.mem_cons.1 hj with h1 | h1
    ·exact absurd h1 hji
    ·have:=(List.all_eq_true.1 hdom) j h1
     simp only [Bool.or_eq_true,beq_iff_eq,List.contains_eq_mem,decide_eq_true_eq] at this
     rcases this with h2 | h2
     ·exact h2
     ·exact absurd (I.all i (by simp)) (I.first ok h2)
   subst hjf
   have hmem:∀ y,(y∈j::i::R.erase j)↔y∈i::R:=by
    intro y
    simp only [List.mem_cons,hnd2.2.mem_erase_iff]
    constructor
    ·rintro (rfl | rfl | ⟨_,h⟩)
     ·exact .inr hfR
     ·exact .inl rfl
     ·exact .inr h
    ·rintro (rfl | h)
     ·exact .inr (.inl rfl)
     ·by_cases e:y=j
      ·exact .inl e
      ·exact .inr (.inr ⟨e,h⟩)
   refine b ⟨pre,by rw [hord,htw],hin⟩ (okOrd_ok hok) hpd idx t h ⟨I.sz,I.nd,I.lt,fun q hq=>?_,fun q hq=>I.all q ((hmem q).1 hq),fun p hp hh=>I.dj p hp ((hmem _).1 hh),I.pu,I.resp,I.dn,I.envok,I.pok⟩ s
   rcases I.sub q hq with h1 | h1
   ·exact .inl ((hmem q).2 h1)
   ·exact .inr h1
theorem ap1_gen [Lets B] {i:Nat} {o:Oper} (ho:ops[i]?=some o) (hg:gYes (resE (readsOf n ops i) e) (guardOf n ops o))
  (w:∀ idx t h,t.size=n→Agree (resE (readsOf n ops i) e) t→Star L h→Region.wanted o (yielded ops t)=true →
   (∀ v L' x' h',Star L' h'→(∀ p∈pdKeep ops i Pd,PdOk P n ops L p→PdOk P n ops L' p)→Ap P B kd n ops ord R (pdKeep ops i Pd) K (setE o.dst v e) z L' x'→Wr P B kd ops idx K (setDst o t v) z h' x')→Wr P B kd ops (i::idx) K t z h x):Ap1 P B kd n ops ord i R Pd K e z L x:=by
 rintro ⟨pre,hpre,hin⟩ ok hpd idx t h I s
 obtain ⟨ha,_⟩:=I.loud ok hpre hin ho undef
 refine w idx t h I.sz ha s (wanted_yes' I.sz ha hg) fun v L' x' h' s' hst hap=>?_
 obtain ⟨_,I'⟩:=I.loud ok hpre hin ho v
 exact hap ⟨pre++[i],by rw [hpre];simp,fun p hp=>by simp [hin p (List.mem_filter.1 hp).1]⟩ ok (fun p hp=>hst p hp (hpd p (List.mem_filter.1 hp).1)) idx _ h' I' s'
theorem ap1_mo [Lets B] {i:Nat} {o:Oper} {d:Option Nat} {Pd':List Pn} {Q:Value→List HProp→Prop} (ho:nth ops.toList i=some o) (hd:o.dst=d) (hpd':pdKeep ops i Pd=Pd') (hg:gYes (resE (readsOf n ops i) e) (guardOf n ops o))
  (m:Mo P (resE (readsOf n ops i) e) o.op o.type L Q) (hre:∀ v L',Q v L'→∀ p∈Pd',p.st=true∨∃ o,nth ops.toList p.i=some o∧gYes p.e (guardOf n ops o)∧Mo P p.e o.op o.type L' (fun v' L1=>v'=p.v∧L1=L'))
  (k:∀ v L',Q v L'→Ap P B kd n ops ord R Pd' K (setE d v e) z L' x):Ap1 P B kd n ops ord i R Pd K e z L x:=by
 subst hd
 subst hpd'
 have ho:=nth_at ho
 refine ap1_gen ho hg fun idx t h ht ha s hw kk=>?_
 refine wr_op ho hw ?_
 rw [execOp_of (op:=o.op) (ty:=o.type) _ rfl rfl]
 refine m _ Lets.noRoom Lets.ext t h _ _ ha s fun v' L' h' nx hnx hr hs=>?_
 have:=kk v' L' x h' hs (fun p hp hk=>by
  by_cases hs:p.st=true
  ·exact pd_still (Pd':=[p]) (by simp [hs]) p (by simp) hk
  ·rcases hre v' L' hr p hp with h | ⟨o,h1,h2,h3⟩
   ·exact absurd h hs
   ·exact ⟨o,nth_at h1,.inl ⟨h2,by rw [if_neg hs];exact h3⟩⟩) (k v' L' hr)
 rcases hnx with rfl | ⟨rfl,rfl⟩
 ·exact this
 ·exact this
theorem ap_star {L':List HProp} (hs:∀ h,Star L h→Star L' h) (hre:∀ p∈Pd,p.st=true∨∃ o,nth ops.toList p.i=some o∧gYes p.e (guardOf n ops o)∧Mo P p.e o.op o.type L' (fun v' L1=>v'=p.v∧L1=L')) (k:Ap P B kd n ops ord R Pd K e z L' x):Ap P B kd n ops ord R Pd K e z L x:=by
 intro hpre ok hpd idx t h I s
 refine k hpre ok (fun p hp=>?_) idx t h I (hs h s)
 by_cases hst:p.st=true
 ·exact pd_still (Pd':=[p]) (by simp [hst]) p (by simp) (hpd p hp)
 ·rcases hre p hp with h | ⟨o,h1,h2,h3⟩
  ·exact absurd h hst
  ·exact ⟨o,nth_at h1,.inl ⟨h2,by rw [if_neg hst];exact h3⟩⟩
end
end Go.PB
namespace Go.PB
variable {P:Program} {B:Hand} {kd:CallKind} {n:Nat} {K:Post B} {e:Env} {z:Z} {L:List HProp} {x:B.X}
end Go.PB
namespace Go.PB
theorem mo_buildV {P:Program} {e:Env} {ty:TypeId} {L:List HProp} {t:TypeId} {parts:Array (Nat × Operand)} {vs:List Value} {ps:Array (Nat × Nat)} {z cells:Array Value} [p:StT P t ps z] (hv:EvL e (parts.toList.map (·.2)) vs) (hf:Instr.fill (ps[·]?) z ((parts.toList.map (·.1)).zip vs)=some cells):Mo P e (.build t parts) ty L fun v' L'=>v'=.agg cells∧L'=L:=by
 have hl:∀ {os:List Operand} {vs:List Value},EvL e os vs→os.length=vs.length:=by
  intro os vs h
  induction h with
  | nil=>rfl
  | cons _ _ ih=>simp [ih]
 have hlen:=hl hv
 rw [List.length_map] at hlen
 refine mo_build (pv:=(parts.toList.map (·.1)).zip vs) ?_ ?_ hf
 ·rw [List.map_fst_zip];simp [hlen]
 ·rw [List.map_snd_zip]
  ·exact hv
  ·simp [hlen]
theorem eql_agg {P:Program} {t:TypeId} {a b:Array Value} {r:Bool} {x y:Operand} (hg:P.eqGuardType P.depth t=false)
  (he:∀ {M:Mark→Prop} {h:Hp} {Q:Bool→Hp→Prop} {X:Value→Hp→Prop},Q r h→wpS P M (Op.equal t (.agg a) (.agg b)) h Q X) :
  Eql P t x y (.agg a) (.agg b) r:=by
 have hgd:∀ op M (h:Hp) (Q:Unit→Hp→Prop) X,op=.eql∨op=.neq→Q () h→wpS P M (eqGuard op t x y (.agg a) (.agg b)) h Q X:=by
  intro op M h Q X hop q
  unfold eqGuard
  rcases hop with rfl | rfl
  ·simp only [Bool.not_true,Bool.false_eq_true,if_false]
   refine wpS_program (β:=Unit) (wpS_program (β:=Unit) ?_)
   simp only [hg,Bool.not_false,if_true]
   exact q
  ·simp only [Bool.not_true,Bool.false_eq_true,if_false]
   refine wpS_program (β:=Unit) (wpS_program (β:=Unit) ?_)
   simp only [hg,Bool.not_false,if_true]
   exact q
 intro op hop M h Q X q
 show wpS P M (Sem.bind (Sem.bind (eqGuard op t x y _ _) fun _=>binOp op t _ _) fun v=>pure (.value v)) h Q X
 refine wpS_bind _ _ (wpS_bind _ _ (hgd op M h _ _ hop ?_))
 rcases hop with rfl | rfl
 ·have h1:binOp .eql t (.agg a) (.agg b)=(do pure (.bool (← Op.equal t (.agg a) (.agg b))):Sem Value):=rfl
  rw [h1]
  show wpS P M (Sem.bind (Op.equal t (.agg a) (.agg b)) fun r=>pure (Value.bool r)) h _ X
  refine wpS_bind _ _ (he ?_)
  have q':Q (.value (.bool r)) h:=by simpa using q
  exact q'
 ·have h1:binOp .neq t (.agg a) (.agg b)=(do pure (.bool (!(← Op.equal t (.agg a) (.agg b)))):Sem Value):=rfl
  rw [h1]
  show wpS P M (Sem.bind (Op.equal t (.agg a) (.agg b)) fun r=>pure (Value.bool (!r))) h _ X
  refine wpS_bind _ _ (he ?_)
  have q':Q (.value (.bool (!r))) h:=by simpa using q
  exact q'
section
variable {P:Program} {L:List HProp} {b o:Nat} {p q:Option Addr}
open Extern.Atomic
end
def shpC (b:Nat) (t:TypeId) (n:Nat):HProp:=fun h=>h.shp b=some (t,n)
theorem star_newS {b:Nat} {c:Array Value} {L:List HProp} {h:Hp} {t:TypeId} (f:h.fresh b) (s:Star L h):Star (arr b 0 c.toList::shpC b t c.size::L) (h.newCells b c t):=by
 refine ⟨⟨fun b' o'=>if b'=b then c[o']? else none,fun _ _=>none,fun _=>none,fun _=>none⟩,{ h with shp:=fun b'=>if b'=b then some (t,c.size) else h.shp b' },
  ⟨fun _ _ _ e=>by simp at e,fun _ _ _ e=>e,?_,?_,?_,fun _ _ e=>by simp at e,fun _ _ e=>e,fun _=>.inl rfl,fun _ _ e=>by simp at e,fun _ _ e=>e⟩,?_,
  ⟨fun _ _=>none,fun _ _=>none,fun _=>none,fun b'=>if b'=b then some (t,c.size) else none⟩,h,⟨fun _ _ _ e=>by simp at e,fun _ _ _ e=>e,fun _ _ _ e=>by simp at e,fun _ _ _ e=>e,fun _ _=>.inl rfl,fun _ _ e=>by simp at e,fun _ _ e=>e,fun _=>.inl rfl,?_,?_⟩,by simp [shpC],s⟩
 ·intro b' o' v e
  simp only [Hp.newCells] at e ⊢
  split at e
  ·rename_i hh;simp [hh,e]
  ·cases e
 ·intro b' o' v e
  simp only [Hp.newCells]
  rw [if_neg (by rintro rfl;simp only at e;rw [f.1] at e;cases e)]
  exact e
 ·intro b' o'
  by_cases hb:b'=b
  ·subst hb;exact .inr (f.1 o')
  ·left;simp [hb]
 ·intro i v e
  simp only [Nat.zero_add,if_true]
  simpa using e
 ·intro b' y e
  simp only at e ⊢
  split at e
  ·rename_i hh;simp [hh,e]
  ·cases e
 ·intro b' y e
  simp only
  rw [if_neg (by rintro rfl;rw [f.2.2.2] at e;cases e)]
  exact e
theorem shp_of {b:Nat} {t:TypeId} {n:Nat} {L F:List HProp} (hh:Has L (shpC b t n) F) {h:Hp} (s:Star L h):h.shp b=some (t,n):=by
 obtain ⟨h1,h2,s1,hc,_⟩:=hh.star s
 exact s1.s1 _ _ hc
section
variable {P:Program} {e:Env} {L:List HProp} {ty:TypeId}
theorem wpS_shapeK {M:Mark→Prop} {α:Type} {b n:Nat} {t:TypeId} {h:Hp} {k:Option (TypeId × Nat)→Sem α} {Q:α→Hp→Prop} {X:Value→Hp→Prop} (hs:h.shp b=some (t,n)) (q:wpS P M (k (some (t,n))) h Q X):wpS P M (Sem.bind (shape b) k) h Q X:=by
 show wpS P M (.shape b fun s=>k s) h Q X
 refine ⟨.inr (by rw [hs];rfl),fun t' n' _ hy=>?_⟩
 have:=hy _ hs
 cases this
 exact q
theorem wpS_seen {M:Mark→Prop} {α:Type} {b o n:Nat} {t:TypeId} {h:Hp} {k:Addr→Sem α} {Q:α→Hp→Prop} {X:Value→Hp→Prop} (hs:h.shp b=some (t,n)) (q:wpS P M (k ⟨b,o,none⟩) h Q X):wpS P M (Sem.bind (Conv.seenAt ⟨b,o,none⟩) k) h Q X:=by
 refine wpS_bind _ _ ?_
 unfold Conv.seenAt
 refine wpS_bind _ _ ?_
 unfold viewAt
 exact wpS_shapeK hs q
end
end Go.PB
namespace Go.PB
open Go.Conc
class MonoH (B:Hand):Prop where
 act:∀ wk s h x (O O':Next→Hp→B.X→Prop),(∀ a b c,O a b c→O' a b c)→B.act wk s h x O→B.act wk s h x O'
 comm:∀ cs bl sh h x (O O':Value→Hp→B.X→Prop),(∀ a b c,O a b c→O' a b c)→B.comm cs bl sh h x O→B.comm cs bl sh h x O'
 spawn:∀ d h x (O O':Hp→B.X→Prop),(∀ b c,O b c→O' b c)→B.spawn d h x O→B.spawn d h x O'
 ghost:∀ h x (O O':Hp→B.X→Prop),(∀ b c,O b c→O' b c)→B.ghost h x O→B.ghost h x O'
 late:∀ s h x (O O':Hp→B.X→Prop),(∀ b c,O b c→O' b c)→B.late s h x O→B.late s h x O'
structure Nx (P:Program) (M:Mark→Prop) (main:Bool) (fr:Frame) (cs:List Frame) (h:Hp) (w:World) where
 fr':Frame
 cs':List Frame
 w':World
 es:Array Event
 h':Hp
 step:stepG P main (G fr cs) w=.go (G fr' cs') w' es
 guar:Guar h w w' h'
 evs:∀ e∈es,EvOk M h w w'.heap.size e
inductive Run.{u} (P:Program) (B:Hand.{u}) (main:Bool) (E:Frame→List Frame→Hp→B.X→Prop):Frame→List Frame→Hp→B.X→Type u
 | fin {fr cs h x} (e:E fr cs h x):Run P B main E fr cs h x
 | priv {fr cs h x} (nx:∀ w,Fits h w→Nx P B.mark main fr cs h w) (k:∀ w f,Run P B main E (nx w f).fr' (nx w f).cs' (nx w f).h' x):Run P B main E fr cs h x
 | act {fr cs h x} (o:Oper) (O:Value→Hp→B.X→Prop) (at_:AtOp fr o) (ne:fr.kind≠.early) (a:B.act (wakes o) (execOp fr.eval o) h x fun nx h' x'=>∃ v,nx=.value v∧O v h' x')
   (k:∀ v h' x',O v h' x'→Run P B main E (fr.finish v) cs h' x'):Run P B main E fr cs h x
 | comm {fr cs h x} (o:Oper) (cases:Array CommCase) (bl:Bool) (sh:CommShape) (O:Value→Hp→B.X→Prop) (at_:AtOp fr o)
   (runs:∀ w,Fits h w→(execOp fr.eval o).runT P w #[]=(.ok (.comm cases bl sh) w,#[])) (a:B.comm cases bl sh h x O)
   (k:∀ v h' x',O v h' x'→Run P B main E (fr.finish v) cs h' x'):Run P B main E fr cs h x
 | spawn {fr cs h x} (o:Oper) (d:Deferred) (O:Hp→B.X→Prop) (at_:AtOp fr o)
   (runs:∀ w,Fits h w→(execOp fr.eval o).runT P w #[]=(.ok (.spawn d) w,#[])) (a:B.spawn d h x O)
   (k:∀ h' x',O h' x'→Run P B main E (fr.finish undef) cs h' x'):Run P B main E fr cs h x
 | late {fr cs h x} (b:Base) (tt:Array Value) (ds:List Deferred) (todo:List Item) (f:Fn) (cap args:Array Value) (O:Hp→B.X→Prop) (e:fr=endFr b tt ({ target:=.fn f cap,args }::ds) todo .returning) (a:B.late (invoke (.fn f cap) args) h x O)
   (k:∀ h' x',O h' x'→Run P B main E (endFr b tt ds todo .returning) cs h' x'):Run P B main E fr cs h x
 | ghost {fr cs h x} (O:Hp→B.X→Prop) (a:B.ghost h x O) (k:∀ h' x',O h' x'→Run P B main E fr cs h' x'):Run P B main E fr cs h x
section
variable {P:Program} {B:Hand} {main:Bool} {E:Frame→List Frame→Hp→B.X→Prop}
theorem run_closed [MonoH B]:Closed P B main fun fr cs h x=>Nonempty (Run P B main E fr cs h x) where
 priv:=by
  intro fr cs h x hs
  have hn:∀ w (f:Fits h w),∃ n:Nx P B.mark main fr cs h w,Nonempty (Run P B main E n.fr' n.cs' n.h' x):=fun w f=>by
   obtain ⟨fr',cs',w',es,h',h1,h2,h3,h4⟩:=hs w f
   exact ⟨⟨fr',cs',w',es,h',h1,h2,h3⟩,h4⟩
  exact ⟨.priv (fun w f=>(hn w f).choose) (fun w f=>Classical.choice (hn w f).choose_spec)⟩
 act:=by
  intro fr cs h x o ha ne hb
  exact ⟨.act o (fun v h' x'=>Nonempty (Run P B main E (fr.finish v) cs h' x')) ha ne hb fun v h' x' q=>Classical.choice q⟩
 comm:=by
  intro fr cs h x o cases bl sh ha hr hb
  exact ⟨.comm o cases bl sh (fun v h' x'=>Nonempty (Run P B main E (fr.finish v) cs h' x')) ha hr hb fun v h' x' q=>Classical.choice q⟩
 spawn:=by
  intro fr cs h x o d ha hr hb
  exact ⟨.spawn o d (fun h' x'=>Nonempty (Run P B main E (fr.finish undef) cs h' x')) ha hr hb fun h' x' q=>Classical.choice q⟩
 ghost:=by
  intro fr cs h x hb
  exact ⟨.ghost (fun h' x'=>Nonempty (Run P B main E fr cs h' x')) hb fun h' x' q=>Classical.choice q⟩
 late:=by
  intro b t ds todo cs h x f cap args hb
  exact ⟨.late b t ds todo f cap args (fun h' x'=>Nonempty (Run P B main E (endFr b t ds todo .returning) cs h' x')) rfl hb fun h' x' q=>Classical.choice q⟩
variable (P B main E) in
structure Node where
 fr:Frame
 cs:List Frame
 h:Hp
 x:B.X
 r:Run P B main E fr cs h x
inductive Below:Node P B main E→Node P B main E→Prop
 | priv {fr cs h x} {nx:∀ w,Fits h w→Nx P B.mark main fr cs h w} {k} (w:World) (f:Fits h w):Below ⟨_,_,_,_,k w f⟩ ⟨fr,cs,h,x,.priv nx k⟩
 | act {fr cs h x o O at_ ne a k} (v:Value) (h':Hp) (x':B.X) (q:O v h' x'):Below ⟨_,_,_,_,k v h' x' q⟩ ⟨fr,cs,h,x,.act o O at_ ne a k⟩
 | comm {fr cs h x o cases bl sh O at_ rr a k} (v:Value) (h':Hp) (x':B.X) (q:O v h' x'):Below ⟨_,_,_,_,k v h' x' q⟩ ⟨fr,cs,h,x,.comm o cases bl sh O at_ rr a k⟩
 | spawn {fr cs h x o d O at_ rr a k} (h':Hp) (x':B.X) (q:O h' x'):Below ⟨_,_,_,_,k h' x' q⟩ ⟨fr,cs,h,x,.spawn o d O at_ rr a k⟩
 | late {fr cs h x b tt ds todo f cap args O e a k} (h':Hp) (x':B.X) (q:O h' x'):Below ⟨_,_,_,_,k h' x' q⟩ ⟨fr,cs,h,x,.late b tt ds todo f cap args O e a k⟩
 | ghost {fr cs h x O a k} (h':Hp) (x':B.X) (q:O h' x'):Below ⟨_,_,_,_,k h' x' q⟩ ⟨fr,cs,h,x,.ghost O a k⟩
theorem below_wf:WellFounded (Below (P:=P) (B:=B) (main:=main) (E:=E)):=by
 refine ⟨fun n=>?_⟩
 obtain ⟨fr,cs,h,x,r⟩:=n
 induction r with
 | fin e=>exact ⟨_,fun m hm=>by cases hm⟩
 | priv nx k ih=>exact ⟨_,fun m hm=>by cases hm with | priv w f=>exact ih w f⟩
 | act o O at_ ne a k ih=>exact ⟨_,fun m hm=>by cases hm with | act v h' x' q=>exact ih v h' x' q⟩
 | comm o cases bl sh O at_ rr a k ih=>exact ⟨_,fun m hm=>by cases hm with | comm v h' x' q=>exact ih v h' x' q⟩
 | spawn o d O at_ rr a k ih=>exact ⟨_,fun m hm=>by cases hm with | spawn h' x' q=>exact ih h' x' q⟩
 | late b tt ds todo f cap args O e a k ih=>exact ⟨_,fun m hm=>by cases hm with | late h' x' q=>exact ih h' x' q⟩
 | ghost O a k ih=>exact ⟨_,fun m hm=>by cases hm with | ghost h' x' q=>exact ih h' x' q⟩
def Node.plain (n:Node P B main E):Prop:=match n.r with
 | .ghost ..=>False
 | _=>True
end
inductive Falls.{u} {α:Type u} (r:α→α→Prop):List α→List α→Prop
 | head {a b:α} {l:List α}:r a b→Falls r (a::l) (b::l)
 | tail {a:α} {l m:List α}:Falls r l m→Falls r (a::l) (a::m)
theorem Falls.wf.{u} {α:Type u} {r:α→α→Prop} (wf:WellFounded r):WellFounded (Falls r):=by
 refine ⟨fun l=>?_⟩
 induction l with
 | nil=>exact ⟨_,fun m hm=>by cases hm⟩
 | cons a l ih =>
  have key:∀ a,Acc r a→∀ l,Acc (Falls r) l→Acc (Falls r) (a::l):=by
   intro a ha
   induction ha with
   | intro a _ iha =>
    intro l hl
    induction hl with
    | intro l hl' ihl =>
     refine ⟨_,fun m hm=>?_⟩
     cases hm with
     | head h=>exact iha _ h l ⟨l,hl'⟩
     | tail h=>exact ihl _ h
  exact key a (wf.apply a) l ih
theorem Falls.set.{u} {α:Type u} {r:α→α→Prop}:∀ {l:List α} {i:Nat} {a b:α},l[i]?=some b→r a b→Falls r (l.set i a) l
 | x::l,0,a,b,h,hr=>by simp at h;subst h;exact .head hr
 | x::l,i+1,a,b,h,hr=>.tail (Falls.set (by simpa using h) hr)
end Go.PB
namespace Go.PB
open Go.Conc
structure Sep (h k:Hp):Prop where
 oo:∀ b o v,h.own b o=some v→k.own b o=none
 wr:∀ b o v,h.own b o=some v→k.ro b o=none
 rw:∀ b o v,h.ro b o=some v→k.own b o=none
 bb:∀ b v,h.obj b=some v→k.obj b=none
theorem none_of {α:Type} {o:Option α} (h:∀ v,o=some v→False):o=none:=by
 cases o with
 | none=>rfl
 | some v=>exact (h v rfl).elim
theorem Sep.symm {h k:Hp} (s:Sep h k):Sep k h where
 oo:=fun b o v e=>none_of fun v' e'=>by rw [s.oo _ _ _ e'] at e;cases e
 wr:=fun b o v e=>none_of fun v' e'=>by rw [s.rw _ _ _ e'] at e;cases e
 rw:=fun b o v e=>none_of fun v' e'=>by rw [s.wr _ _ _ e'] at e;cases e
 bb:=fun b v e=>none_of fun v' e'=>by rw [s.bb _ _ e'] at e;cases e
theorem fits_other {h h' k:Hp} {w w':World} (g:Guar h w w' h') (s:Sep h k) (f:Fits h w) (fk:Fits k w):Fits k w' where
 own:=fun b o v e=>by
  have hc:=fk.own _ _ _ e
  rw [g.cell _ _ (cell_lt hc) (none_of fun v' e'=>by rw [s.oo _ _ _ e'] at e;cases e)];exact hc
 thaw:=fun b o v e=>by rw [g.frz];exact fk.thaw _ _ _ e
 ro:=fun b o v e=>by
  have hc:=fk.ro _ _ _ e
  rw [g.cell _ _ (cell_lt hc) (none_of fun v' e'=>by rw [s.wr _ _ _ e'] at e;cases e)];exact hc
 disj:=fk.disj
 obj:=fun b ob e=>by
  have hb:=fk.obj _ _ e
  have hn:=fk.objn _ _ e
  rw [g.block b (Array.getElem?_eq_some_iff.1 hb).1 (fun o=>none_of fun v e'=>?_) (none_of fun v e'=>by rw [s.bb _ _ e'] at e;cases e)]
  ·exact hb
  ·have hc:=f.own _ _ _ e'
   unfold World.cell? at hc
   simp only [hb] at hc
   cases ob <;> simp [isCells] at hc hn
 objn:=fk.objn
 shp:=fun b y e=>by
  have hs:=fk.shp _ _ e
  rw [g.shape b (shape_lt hs)];exact hs
theorem sep_other {h h' k:Hp} {w w':World} (g:Guar h w w' h') (s:Sep h k) (fk:Fits k w):Sep h' k where
 oo:=fun b o v e=>none_of fun v' e'=>by
  have hlt:=cell_lt (fk.own _ _ _ e')
  cases eh:h.own b o with
  | none=>rw [g.newo _ _ hlt eh] at e;cases e
  | some u=>rw [s.oo _ _ _ eh] at e';cases e'
 wr:=fun b o v e=>none_of fun v' e'=>by
  have hlt:=cell_lt (fk.ro _ _ _ e')
  cases eh:h.own b o with
  | none=>rw [g.newo _ _ hlt eh] at e;cases e
  | some u=>rw [s.wr _ _ _ eh] at e';cases e'
 rw:=fun b o v e=>none_of fun v' e'=>by
  have hlt:=cell_lt (fk.own _ _ _ e')
  cases eh:h.own b o with
  | none =>
   cases er:h.ro b o with
   | none=>rw [g.newr _ _ hlt eh er] at e;cases e
   | some u=>rw [s.rw _ _ _ er] at e';cases e'
  | some u=>rw [s.oo _ _ _ eh] at e';cases e'
 bb:=fun b v e=>none_of fun v' e'=>by
  have hlt:=(Array.getElem?_eq_some_iff.1 (fk.obj _ _ e')).1
  cases eh:h.obj b with
  | none=>rw [g.newb _ hlt eh] at e;cases e
  | some u=>rw [s.bb _ _ eh] at e';cases e'
structure Kn (t:Trace) (K:Nat→Prop) (h:Hp):Prop where
 own:∀ b o v,h.own b o=some v→∀ i a,touchAt t i=some a→a.loc=.cell ⟨b,o,none⟩→K i
 ro:∀ b o v,h.ro b o=some v→∀ i a,touchAt t i=some a→a.loc=.cell ⟨b,o,none⟩→a.write=true→K i
 obj:∀ b v,h.obj b=some v→∀ i a,touchAt t i=some a→a.loc=.obj b→K i
def Low (t:Trace) (n:Nat):Prop:=∀ i a,touchAt t i=some a→(∀ d,a.loc=.cell d→d.block<n)∧(∀ r,a.loc=.obj r→r<n)
theorem Low.mono {t:Trace} {n n':Nat} (l:Low t n) (h:n≤n'):Low t n':=fun i a e=>⟨fun d hd=>Nat.lt_of_lt_of_le ((l i a e).1 d hd) h,fun r hr=>Nat.lt_of_lt_of_le ((l i a e).2 r hr) h⟩
def Mine (h:Hp) (w:World) (n:Nat) (b:Touch):Prop :=
 (∃ bl o,b.loc=.cell ⟨bl,o,none⟩∧bl<n∧(w.heap.size≤bl∨(h.own bl o).isSome=true∨(b.write=false∧(h.ro bl o).isSome=true))) ∨
 (∃ r,b.loc=.obj r∧r<n∧(w.heap.size≤r∨(h.obj r).isSome=true))
def Still (m:Mark):Prop:=m=.noRoom∨∃ f,m=.extern f
def Plain (op:MemOp):Prop:=∀ m,op.act=.mark m→Still m
theorem ofEvents_mem {g:Nat} {fn:FuncId} {pos:String} {es:Array Event} {op:MemOp} (h:op∈MemOp.ofEvents g fn pos es):∃ e∈es,op={ g,fn,pos,act:=.ofEvent e }:=by
 unfold MemOp.ofEvents at h
 split at h
 ·simp at h
 ·obtain ⟨e,he,rfl⟩:=Array.mem_map.1 h
  exact ⟨e,he,rfl⟩
theorem mine_of_event {M:Mark→Prop} (hM:∀ m,M m→Still m) {h:Hp} {w:World} {n:Nat} {e:Event} (x:EvOk M h w n e):(∀ m,MemAct.ofEvent e=.mark m→Still m)∧∀ b,(MemAct.ofEvent e).touch?=some b→Mine h w n b:=by
 obtain ⟨loc,wr,sy⟩:=e
 unfold EvOk at x
 cases loc with
 | cell a =>
  refine ⟨fun m hm=>by simp [MemAct.ofEvent] at hm,fun b hb=>?_⟩
  simp only [MemAct.ofEvent,MemAct.touch?,Option.some.injEq] at hb
  subst hb
  obtain ⟨bl,o,sp⟩:=a
  obtain ⟨h1,h2,h3⟩:=x
  simp only at h1;subst h1
  exact .inl ⟨bl,o,rfl,h2,h3⟩
 | obj r =>
  have key:∀ wr sy,(MemAct.access ⟨.obj r,wr,sy⟩).touch?=some ⟨.obj r,wr,if sy then .atomic else .plain⟩:=fun _ _=>rfl
  cases wr <;> cases sy
  ·exact ⟨fun m hm=>by simp [MemAct.ofEvent] at hm,fun b hb=>by simp only [MemAct.ofEvent,key,Option.some.injEq] at hb;subst hb;exact .inr ⟨r,rfl,x.1,x.2⟩⟩
  ·exact ⟨fun m hm=>by simp [MemAct.ofEvent] at hm,fun b hb=>by simp only [MemAct.ofEvent,key,Option.some.injEq] at hb;subst hb;exact .inr ⟨r,rfl,x.1,x.2⟩⟩
  ·exact ⟨fun m hm=>by simp [MemAct.ofEvent] at hm,fun b hb=>by simp only [MemAct.ofEvent,key,Option.some.injEq] at hb;subst hb;exact .inr ⟨r,rfl,x.1,x.2⟩⟩
  ·exact ⟨fun m hm=>by simp [MemAct.ofEvent] at hm,fun b hb=>by simp [MemAct.ofEvent,MemAct.touch?] at hb⟩
 | mark m =>
  have hm:=hM m x
  refine ⟨fun m' hm'=>?_,fun b hb=>?_⟩
  ·have:m=m':=by cases wr <;> cases sy <;> simpa [MemAct.ofEvent] using hm'
   subst this;exact hm
  ·rcases hm with rfl | ⟨f,rfl⟩ <;> cases wr <;> cases sy <;> simp [MemAct.ofEvent,MemAct.touch?] at hb
 | _=>exact x.elim
section
variable {t u:Trace} {g:Nat} {h h':Hp} {w w':World}
theorem touch_split {i:Nat} {a:Touch} (e:touchAt (t++u) i=some a):touchAt t i=some a∨∃ op∈u,(t++u)[i]?=some op∧op.act.touch?=some a:=by
 obtain ⟨op,h1,h2⟩:=touch_of e
 rcases getElem?_append_cases h1 with ⟨_,h3⟩ | ⟨_,h3⟩
 ·exact .inl (by rw [touchAt_of h3];exact h2)
 ·exact .inr ⟨op,h3,h1,h2⟩
theorem kn_step {said:Bool} (nr:¬ Race said t) (k:Kn t (Knows t g) h) (lo:Low t w.heap.size) (G:Guar h w w' h') (hu:∀ op∈u,op.g=g) (hm:∀ op∈u,∀ b,op.act.touch?=some b→Mine h w w'.heap.size b) :
  ¬ Race said (t++u)∧Kn (t++u) (Knows (t++u) g) h'∧Low (t++u) w'.heap.size:=by
 refine ⟨noRace_append nr hu fun i a ha op ho b hb hc=>?_,⟨fun b o v e i a ha hl=>?_,fun b o v e i a ha hl hw=>?_,fun b v e i a ha hl=>?_⟩,fun i a ha=>?_⟩
 ·obtain ⟨hloc,_,hwr,_⟩:=hc
  rcases hm op ho b hb with ⟨bl,o,h1,_,h3⟩ | ⟨r,h1,_,h3⟩
  ·rw [h1] at hloc
   rcases h3 with h3 | h3 | ⟨h3,h4⟩
   ·have:=(lo i a ha).1 _ hloc;simp only at this;omega
   ·obtain ⟨v,hv⟩:=Option.isSome_iff_exists.1 h3;exact k.own _ _ _ hv _ _ ha hloc
   ·obtain ⟨v,hv⟩:=Option.isSome_iff_exists.1 h4;exact k.ro _ _ _ hv _ _ ha hloc (hwr.resolve_right (by simp [h3]))
  ·rw [h1] at hloc
   rcases h3 with h3 | h3
   ·have:=(lo i a ha).2 _ hloc;omega
   ·obtain ⟨v,hv⟩:=Option.isSome_iff_exists.1 h3;exact k.obj _ _ hv _ _ ha hloc
 ·rcases touch_split ha with ha | ⟨op,ho,hi,_⟩
  ·have hlt:=(lo i a ha).1 _ hl
   cases eh:h.own b o with
   | none=>rw [G.newo _ _ hlt eh] at e;cases e
   | some u=>exact (k.own _ _ _ eh _ _ ha hl).app _
  ·have:=knows_own hi;rwa [hu op ho] at this
 ·rcases touch_split ha with ha | ⟨op,ho,hi,_⟩
  ·have hlt:=(lo i a ha).1 _ hl
   cases eh:h.own b o with
   | none =>
    cases er:h.ro b o with
    | none=>rw [G.newr _ _ hlt eh er] at e;cases e
    | some u=>exact (k.ro _ _ _ er _ _ ha hl hw).app _
   | some u=>exact (k.own _ _ _ eh _ _ ha hl).app _
  ·have:=knows_own hi;rwa [hu op ho] at this
 ·rcases touch_split ha with ha | ⟨op,ho,hi,_⟩
  ·have hlt:=(lo i a ha).2 _ hl
   cases eh:h.obj b with
   | none=>rw [G.newb _ hlt eh] at e;cases e
   | some u=>exact (k.obj _ _ eh _ _ ha hl).app _
  ·have:=knows_own hi;rwa [hu op ho] at this
 ·rcases touch_split ha with ha | ⟨op,ho,hi,hb⟩
  ·exact (lo.mono G.size) i a ha
  ·rcases hm op ho a hb with ⟨bl,o,h1,h2,_⟩ | ⟨r,h1,h2,_⟩
   ·exact ⟨fun d hd=>(by rw [h1] at hd;cases hd;exact h2),fun r hr=>by rw [h1] at hr;cases hr⟩
   ·exact ⟨fun d hd=>(by rw [h1] at hd;cases hd),fun r' hr=>by rw [h1] at hr;cases hr;exact h2⟩
theorem kn_other {K K':Nat→Prop} {k:Hp} (kk:Kn t K k) (hK:∀ i,K i→K' i) (s:Sep h k) (fk:Fits k w) {n:Nat} (hm:∀ op∈u,∀ b,op.act.touch?=some b→Mine h w n b):Kn (t++u) K' k:=by
 refine ⟨fun b o v e i a ha hl=>?_,fun b o v e i a ha hl hw=>?_,fun b v e i a ha hl=>?_⟩
 ·rcases touch_split ha with ha | ⟨op,ho,hi,hb⟩
  ·exact hK _ (kk.own _ _ _ e _ _ ha hl)
  ·exfalso
   rcases hm op ho a hb with ⟨bl,o',h1,_,h3⟩ | ⟨r,h1,_,_⟩
   ·rw [h1] at hl;cases hl
    rcases h3 with h3 | h3 | ⟨_,h3⟩
    ·have:=cell_lt (fk.own _ _ _ e);omega
    ·obtain ⟨x,hx⟩:=Option.isSome_iff_exists.1 h3;rw [s.oo _ _ _ hx] at e;cases e
    ·obtain ⟨x,hx⟩:=Option.isSome_iff_exists.1 h3;rw [s.rw _ _ _ hx] at e;cases e
   ·rw [h1] at hl;cases hl
 ·rcases touch_split ha with ha | ⟨op,ho,hi,hb⟩
  ·exact hK _ (kk.ro _ _ _ e _ _ ha hl hw)
  ·exfalso
   rcases hm op ho a hb with ⟨bl,o',h1,_,h3⟩ | ⟨r,h1,_,_⟩
   ·rw [h1] at hl;cases hl
    rcases h3 with h3 | h3 | ⟨h3,_⟩
    ·have:=cell_lt (fk.ro _ _ _ e);omega
    ·obtain ⟨x,hx⟩:=Option.isSome_iff_exists.1 h3;rw [s.wr _ _ _ hx] at e;cases e
    ·rw [h3] at hw;cases hw
   ·rw [h1] at hl;cases hl
 ·rcases touch_split ha with ha | ⟨op,ho,hi,hb⟩
  ·exact hK _ (kk.obj _ _ e _ _ ha hl)
  ·exfalso
   rcases hm op ho a hb with ⟨bl,o',h1,_,_⟩ | ⟨r,h1,_,h3⟩
   ·rw [h1] at hl;cases hl
   ·rw [h1] at hl;cases hl
    rcases h3 with h3 | h3
    ·have:=(Array.getElem?_eq_some_iff.1 (fk.obj _ _ e)).1;omega
    ·obtain ⟨x,hx⟩:=Option.isSome_iff_exists.1 h3;rw [s.bb _ _ hx] at e;cases e
theorem kn_mute {K K':Nat→Prop} {k:Hp} (kk:Kn t K k) (hK:∀ i,K i→K' i) (hm:∀ op∈u,op.act.touch?=none):Kn (t++u) K' k:=by
 have key:∀ i a,touchAt (t++u) i=some a→touchAt t i=some a:=fun i a ha=>by
  rcases touch_split ha with ha | ⟨op,ho,hi,hb⟩
  ·exact ha
  ·rw [hm op ho] at hb;cases hb
 exact ⟨fun b o v e i a ha hl=>hK _ (kk.own _ _ _ e _ _ (key _ _ ha) hl),fun b o v e i a ha hl hw=>hK _ (kk.ro _ _ _ e _ _ (key _ _ ha) hl hw),fun b v e i a ha hl=>hK _ (kk.obj _ _ e _ _ (key _ _ ha) hl)⟩
theorem low_mute {n:Nat} (lo:Low t n) (hm:∀ op∈u,op.act.touch?=none):Low (t++u) n:=fun i a ha=>by
 rcases touch_split ha with ha | ⟨op,ho,hi,hb⟩
 ·exact lo i a ha
 ·rw [hm op ho] at hb;cases hb
theorem race_mute {said:Bool} (nr:¬ Race said t) (hm:∀ op∈u,op.act.touch?=none):¬ Race said (t++u):=by
 rintro ⟨i,j,hij,⟨a,b,ha,hb,hc⟩,n1,n2⟩
 have key:∀ i a,touchAt (t++u) i=some a→touchAt t i=some a:=fun i a ha=>by
  rcases touch_split ha with ha | ⟨op,ho,hi,hb⟩
  ·exact ha
  ·rw [hm op ho] at hb;cases hb
 exact nr ⟨i,j,hij,⟨a,b,key _ _ ha,key _ _ hb,hc⟩,fun e=>n1 (hb_app u e),fun e=>n2 (hb_app u e)⟩
end
theorem deafStep_plain {g:Nat} {d:Nat} {y:MemOp} (h:Plain y):deafStep g d y=d:=by
 unfold deafStep
 split
 ·rename_i e
  have:=h _ e
  rcases this with h | ⟨f,h⟩ <;> cases h
 ·rename_i e
  have:=h _ e
  rcases this with h | ⟨f,h⟩ <;> cases h
 ·rfl
theorem Deaf_plain {t u:Trace} {g:Nat} (hu:∀ op∈u,Plain op):Deaf (t++u) g=Deaf t g:=by
 have e:u=u.toList.toArray:=by simp
 rw [e,Deaf_append]
 have key:∀ (l:List MemOp) d,(∀ op∈l,Plain op)→l.foldl (deafStep g) d=d:=by
  intro l
  induction l with
  | nil=>intro d _;rfl
  | cons y l ih =>
   intro d h
   simp only [List.foldl_cons]
   rw [deafStep_plain (h y (by simp))]
   exact ih _ fun op ho=>h op (by simp [ho])
 exact key _ _ fun op ho=>hu op (by simpa using ho)
theorem Deaf_others {t u:Trace} {g:Nat} (hu:∀ op∈u,op.g≠g):Deaf (t++u) g=Deaf t g:=by
 have e:u=u.toList.toArray:=by simp
 rw [e,Deaf_append]
 have key:∀ (l:List MemOp) d,(∀ op∈l,op.g≠g)→l.foldl (deafStep g) d=d:=by
  intro l
  induction l with
  | nil=>intro d _;rfl
  | cons y l ih =>
   intro d h
   simp only [List.foldl_cons]
   have hy:deafStep g d y=d:=by
    have:=h y (by simp)
    unfold deafStep
    split <;> simp [this]
   rw [hy]
   exact ih _ fun op ho=>h op (by simp [ho])
 exact key _ _ fun op ho=>hu op (by simpa using ho)
end Go.PB
namespace Go.PB
open Go.Conc
structure Frz (h h1:Hp):Prop where
 own:∀ b o v,h1.own b o=some v→h.own b o=some v
 ro:∀ b o v,h1.ro b o=some v→h.ro b o=some v∨(h.own b o=some v∧h1.own b o=none)
 obj:∀ b v,h1.obj b=some v→h.obj b=some v
 shp:∀ b y,h1.shp b=some y→h.shp b=some y
theorem Frz.refl {h:Hp}:Frz h h:=⟨fun _ _ _ e=>e,fun _ _ _ e=>.inl e,fun _ _ e=>e,fun _ _ e=>e⟩
theorem Split.frz1 {h h1 h2:Hp} (s:Split h h1 h2):Frz h h1:=⟨s.o1,fun _ _ _ e=>.inl (s.r1 _ _ _ e),s.b1,s.s1⟩
theorem Split.frz2 {h h1 h2:Hp} (s:Split h h1 h2):Frz h h2:=s.swap.frz1
section
variable {h h1 h2 k:Hp} {w:World} {t:Trace} {K:Nat→Prop}
theorem Frz.fits (z:Frz h h1) (f:Fits h w):Fits h1 w where
 own:=fun b o v e=>f.own _ _ _ (z.own _ _ _ e)
 thaw:=fun b o v e=>f.thaw _ _ _ (z.own _ _ _ e)
 ro:=fun b o v e=>(z.ro _ _ _ e).elim (fun e=>f.ro _ _ _ e) (fun e=>f.own _ _ _ e.1)
 disj:=fun b o v e=>none_of fun v' e'=>(z.ro _ _ _ e').elim (fun e2=>by rw [f.disj _ _ _ (z.own _ _ _ e)] at e2;cases e2) (fun e2=>by rw [e2.2] at e;cases e)
 obj:=fun b ob e=>f.obj _ _ (z.obj _ _ e)
 objn:=fun b ob e=>f.objn _ _ (z.obj _ _ e)
 shp:=fun b y e=>f.shp _ _ (z.shp _ _ e)
theorem Frz.sep (z:Frz h h1) (s:Sep h k):Sep h1 k where
 oo:=fun b o v e=>s.oo _ _ _ (z.own _ _ _ e)
 wr:=fun b o v e=>s.wr _ _ _ (z.own _ _ _ e)
 rw:=fun b o v e=>(z.ro _ _ _ e).elim (fun e=>s.rw _ _ _ e) (fun e=>s.oo _ _ _ e.1)
 bb:=fun b v e=>s.bb _ _ (z.obj _ _ e)
theorem Frz.kn (z:Frz h h1) (kn:Kn t K h):Kn t K h1 where
 own:=fun b o v e=>kn.own _ _ _ (z.own _ _ _ e)
 ro:=fun b o v e i a h1 h2 h3=>(z.ro _ _ _ e).elim (fun e=>kn.ro _ _ _ e _ _ h1 h2 h3) (fun e=>kn.own _ _ _ e.1 _ _ h1 h2)
 obj:=fun b v e=>kn.obj _ _ (z.obj _ _ e)
theorem Split.sep (s:Split h h1 h2) (f:Fits h w):Sep h1 h2 where
 oo:=fun b o v e=>(s.od b o).resolve_left (by rw [e];simp)
 wr:=fun b o v e=>none_of fun v' e'=>by
  have:=f.disj _ _ _ (s.o1 _ _ _ e)
  rw [s.r2 _ _ _ e'] at this;cases this
 rw:=fun b o v e=>none_of fun v' e'=>by
  have:=f.disj _ _ _ (s.o2 _ _ _ e')
  rw [s.r1 _ _ _ e] at this;cases this
 bb:=fun b v e=>(s.bd b).resolve_left (by rw [e];simp)
theorem fits_join (f1:Fits h1 w) (f2:Fits h2 w) (s:Sep h1 h2):Fits (h1.join h2) w where
 own:=fun b o v e=>(or_some e).elim (fun e=>f1.own _ _ _ e) (fun e=>f2.own _ _ _ e.2)
 thaw:=fun b o v e=>(or_some e).elim (fun e=>f1.thaw _ _ _ e) (fun e=>f2.thaw _ _ _ e.2)
 ro:=fun b o v e=>(or_some e).elim (fun e=>f1.ro _ _ _ e) (fun e=>f2.ro _ _ _ e.2)
 disj:=fun b o v e=>by
  show (h1.ro b o).or (h2.ro b o)=none
  rcases or_some e with e | ⟨_,e⟩
  ·simp [f1.disj _ _ _ e,s.wr _ _ _ e]
  ·simp [f2.disj _ _ _ e,s.symm.wr _ _ _ e]
 obj:=fun b ob e=>(or_some e).elim (fun e=>f1.obj _ _ e) (fun e=>f2.obj _ _ e.2)
 objn:=fun b ob e=>(or_some e).elim (fun e=>f1.objn _ _ e) (fun e=>f2.objn _ _ e.2)
 shp:=fun b y e=>(or_some e).elim (fun e=>f1.shp _ _ e) (fun e=>f2.shp _ _ e.2)
theorem split_join (f1:Fits h1 w) (f2:Fits h2 w) (s:Sep h1 h2):Split (h1.join h2) h1 h2 where
 r1:=fun b o v e=>by simp [Hp.join,e]
 r2:=fun b o v e=>by
  show (h1.ro b o).or (h2.ro b o)=some v
  cases e1:h1.ro b o with
  | none=>simp [e]
  | some u=>have a:=f1.ro _ _ _ e1;rw [f2.ro _ _ _ e] at a;cases a;rfl
 o1:=fun b o v e=>by simp [Hp.join,e]
 o2:=fun b o v e=>by simp [Hp.join,e,s.symm.oo _ _ _ e]
 od:=fun b o=>by
  cases e:h1.own b o with
  | none=>exact .inl rfl
  | some v=>exact .inr (s.oo _ _ _ e)
 b1:=fun b v e=>by simp [Hp.join,e]
 b2:=fun b v e=>by simp [Hp.join,e,s.symm.bb _ _ e]
 bd:=fun b=>by
  cases e:h1.obj b with
  | none=>exact .inl rfl
  | some v=>exact .inr (s.bb _ _ e)
 s1:=fun b y e=>by simp [Hp.join,e]
 s2:=fun b y e=>by
  show (h1.shp b).or (h2.shp b)=some y
  cases e1:h1.shp b with
  | none=>simp [e]
  | some u=>have a:=f1.shp _ _ e1;rw [f2.shp _ _ e] at a;cases a;rfl
theorem sep_join (s1:Sep h1 k) (s2:Sep h2 k):Sep (h1.join h2) k where
 oo:=fun b o v e=>(or_some e).elim (fun e=>s1.oo _ _ _ e) (fun e=>s2.oo _ _ _ e.2)
 wr:=fun b o v e=>(or_some e).elim (fun e=>s1.wr _ _ _ e) (fun e=>s2.wr _ _ _ e.2)
 rw:=fun b o v e=>(or_some e).elim (fun e=>s1.rw _ _ _ e) (fun e=>s2.rw _ _ _ e.2)
 bb:=fun b v e=>(or_some e).elim (fun e=>s1.bb _ _ e) (fun e=>s2.bb _ _ e.2)
theorem kn_join (k1:Kn t K h1) (k2:Kn t K h2):Kn t K (h1.join h2) where
 own:=fun b o v e=>(or_some e).elim (fun e=>k1.own _ _ _ e) (fun e=>k2.own _ _ _ e.2)
 ro:=fun b o v e=>(or_some e).elim (fun e=>k1.ro _ _ _ e) (fun e=>k2.ro _ _ _ e.2)
 obj:=fun b v e=>(or_some e).elim (fun e=>k1.obj _ _ e) (fun e=>k2.obj _ _ e.2)
end
def Hp.empty:Hp:=⟨fun _ _=>none,fun _ _=>none,fun _=>none,fun _=>none⟩
theorem fits_empty {w:World}:Fits Hp.empty w:=⟨fun _ _ _ e=>(by cases e),fun _ _ _ e=>(by cases e),fun _ _ _ e=>(by cases e),fun _ _ _ e=>(by cases e),fun _ _ e=>(by cases e),fun _ _ e=>(by cases e),fun _ _ e=>(by cases e)⟩
theorem sep_empty {k:Hp}:Sep Hp.empty k:=⟨fun _ _ _ e=>(by cases e),fun _ _ _ e=>(by cases e),fun _ _ _ e=>(by cases e),fun _ _ e=>(by cases e)⟩
theorem kn_empty {t:Trace} {K:Nat→Prop}:Kn t K Hp.empty:=⟨fun _ _ _ e=>(by cases e),fun _ _ _ e=>(by cases e),fun _ _ e=>(by cases e)⟩
structure Game where
 σ:Type
 θ:Type
 U:σ→HProp
 plan:θ→Option ((Int × Int) × (σ→σ × θ))
 ok:σ→Prop
 Pv:θ→HProp
 Fin:θ→HProp
structure FreeD (g:Game) where
 q0:List g.θ
 N:Nat
 I:g.σ→List g.θ→Prop
 φ:g.σ→List g.θ→Nat
 ok:∀ s qs,I s qs→g.ok s
 step:∀ s (qs:List g.θ) (j:Nat) q m f,I s qs→qs[j]?=some q→g.plan q=some (m,f)→I (f s).1 (qs.set j (f s).2)∧φ (f s).1 (qs.set j (f s).2)<φ s qs
def Game.W (g:Game) (s:g.σ):HProp:=fun r=>g.ok s∧g.U s r
inductive Ph (σ θ:Type) where
 | busy (s:σ) (q:θ) (n:Nat)
 | said (q:θ) (n:Nat)
 | over (q:θ)
 | cut (q:θ)
 | free (q:θ) (n:Nat)
structure TX:Type 1 where
 g:Game
 says:Nat
 turn:Nat
 fin:Nat
 wg:Nat
 ph:Ph g.σ g.θ
def TX.isFree (x:TX):Bool:=match x.ph with
 | .free _ _=>true
 | _=>false
def saidV:Option (Int × Int)→Value
 | some m=>.agg #[.int .u8 m.1,.int .i64 m.2,.bool false]
 | none=>.agg #[.int .u8 0,.int .i64 0,.bool true]
def Game.says (g:Game) (q:g.θ):Value:=saidV ((g.plan q).map (·.1))
def Game.next (g:Game) (q:g.θ) (n:Nat):Ph g.σ g.θ:=match g.plan q with
 | some _=>.said q n
 | none=>.over q
def Hp.lay (h:Hp) (b o:Nat):Option Value→Hp
 | none=>h
 | some v=>{ h with own:=fun b' o'=>if b'=b∧o'=o then some v else h.own b' o' }
def World.lay (w:World) (b o:Nat):Option Value→World
 | none=>w
 | some v=>w.setCell ⟨b,o,none⟩ v
def Atom1 (P:Program) (s:Sem Next) (b o:Nat) (old v:Value) (new:Option Value):Prop :=
 ∃ es:Array Event,(∀ e∈es,(∃ f,e=⟨.mark (.extern f),false,true⟩)∨∃ z,e=⟨.cell ⟨b,o,none⟩,z,true⟩) ∧
  ∀ w,w.cell? ⟨b,o,none⟩=some old→w.frozen? ⟨b,o,none⟩=false→s.runT P w #[]=(.ok (.value v) (World.lay w b o new),es)
def Tries.{u} {X:Type u} (cases:Array CommCase) (bl:Bool) (sh:CommShape) (h:Hp) (x:X) (k:Value→Hp→X→Prop):Prop :=
 bl=false∧sh=.select∧∃ (c:Nat) (v z:Value) (cap:Nat) (buf:Array Value) (s r:Nat) (tm:Bool),cases=#[scase c v z]∧h.obj c=some (.chan cap buf false s r tm) ∧
  (buf.size<cap→k (.tuple #[goInt 0,.bool false]) (h.setObj c (.chan cap (buf.push v) false (s+1) r tm)) x)∧(cap≤buf.size→k (.tuple #[goInt (-1),.bool false]) h x)
theorem Tries.mono.{u} {X:Type u} {cases:Array CommCase} {bl:Bool} {sh:CommShape} {h:Hp} {x:X} {k k':Value→Hp→X→Prop} (hk:∀ a b c,k a b c→k' a b c):Tries cases bl sh h x k→Tries cases bl sh h x k' :=
 fun ⟨h1,h2,c,v,z,cap,buf,s,r,tm,h3,h4,h5,h6⟩=>⟨h1,h2,c,v,z,cap,buf,s,r,tm,h3,h4,fun a=>hk _ _ _ (h5 a),fun a=>hk _ _ _ (h6 a)⟩
def TriesF (cases:Array CommCase) (bl:Bool) (sh:CommShape) (h:Hp) (x:TX) (k:Value→Hp→TX→Prop):Prop :=
 bl=false∧sh=.select∧∃ q n m f,x.ph=.free q n∧x.g.plan q=some (m,f)∧∃ (c:Nat) (v z:Value),cases=#[scase c v z]∧∀ n' st r,n=n'+1→x.g.ok st→x.g.U st r →
  ∃ (cap:Nat) (buf:Array Value) (s rr:Nat) (tm:Bool),r.obj c=some (.chan cap buf false s rr tm) ∧
   (buf.size<cap→x.g.U (f st).1 (r.setObj c (.chan cap (buf.push v) false (s+1) rr tm))∧k (.tuple #[goInt 0,.bool false]) h { x with ph:=.free (f st).2 n' }) ∧
   (cap≤buf.size→x.g.U (f st).1 r∧k (.tuple #[goInt (-1),.bool false]) h { x with ph:=.free (f st).2 n' })
theorem TriesF.mono {cases:Array CommCase} {bl:Bool} {sh:CommShape} {h:Hp} {x:TX} {k k':Value→Hp→TX→Prop} (hk:∀ a b c,k a b c→k' a b c):TriesF cases bl sh h x k→TriesF cases bl sh h x k':=by
 rintro ⟨h1,h2,q,n,m,f,h3,h4,c,v,z,h5,h6⟩
 refine ⟨h1,h2,q,n,m,f,h3,h4,c,v,z,h5,fun n' st r e1 e2 e3=>?_⟩
 obtain ⟨cap,buf,s,rr,tm,h7,h8,h9⟩:=h6 n' st r e1 e2 e3
 exact ⟨cap,buf,s,rr,tm,h7,fun a=>⟨(h8 a).1,hk _ _ _ (h8 a).2⟩,fun a=>⟨(h9 a).1,hk _ _ _ (h9 a).2⟩⟩
def tHand (P:Program) (cv:Value):Hand.{1} where
 X:=TX
 mark:=Still
 act:=fun _ s h x k=>∃ q n m f,x.ph=.free q n∧x.g.plan q=some (m,f)∧∀ n' st r,n=n'+1→x.g.ok st→x.g.U st r →
  ∃ b o old v new,r.own b o=some old∧Atom1 P s b o old v new∧x.g.U (f st).1 (r.lay b o new)∧k (.value v) h { x with ph:=.free (f st).2 n' }
 comm:=fun cases bl sh h x k=>(bl=true∧sh=.select ∧
  ((∃ s q n z1 z2 h' r,x.ph=.busy s q n∧cases=#[scase x.says (x.g.says q) z1,rcase x.fin z2]∧Split h h' r∧x.g.U s r ∧
    k (.tuple #[goInt 0,.bool false,z2]) h' { x with ph:=x.g.next q n }) ∨
   (∃ q n m f z1 z2,x.ph=.said q n∧x.g.plan q=some (m,f)∧cases=#[rcase x.turn z1,rcase x.fin z2] ∧
    (∀ n' s r h',n=n'+1→x.g.W s r→Split h' h r→k (.tuple #[goInt 0,.bool true,.agg #[],z2]) h' { x with ph:=.busy (f s).1 (f s).2 n' }) ∧
    k (.tuple #[goInt 1,.bool false,z1,z2]) h { x with ph:=.cut q })))∨Tries cases bl sh h x k∨TriesF cases bl sh h x k
 spawn:=fun _ _ _ _=>False
 ghost:=fun h x k=>(∃ w,Fits h w)→∃ h1,Frz h h1∧k h1 x
 late:=fun _ _ _ _=>False
 cut:=fun ch h x=>∃ q,x.ph=.cut q∧ch=[{ v:=cv,recovered:=false }]∧Star [x.g.Pv q] h
instance {P:Program} {cv:Value}:MonoH (tHand P cv) where
 act:=by
  rintro wk s h x O O' ho ⟨q,n,m,f,a,b,c⟩
  refine ⟨q,n,m,f,a,b,fun n' st r h1 h2 h3=>?_⟩
  obtain ⟨b,o,old,v,new,c1,c2,c3,c4⟩:=c n' st r h1 h2 h3
  exact ⟨b,o,old,v,new,c1,c2,c3,ho _ _ _ c4⟩
 comm:=by
  rintro cs bl sh h x O O' ho (⟨h1,h2,h3⟩ | h0 | h0)
  rotate_left
  ·exact .inr (.inl (h0.mono ho))
  ·exact .inr (.inr (h0.mono ho))
  refine .inl ⟨h1,h2,?_⟩
  rcases h3 with ⟨s,q,n,z1,z2,h',r,a,b,c,d,e⟩ | ⟨q,n,m,f,z1,z2,a,b,c,d,e⟩
  ·exact .inl ⟨s,q,n,z1,z2,h',r,a,b,c,d,ho _ _ _ e⟩
  ·exact .inr ⟨q,n,m,f,z1,z2,a,b,c,fun n' s r h' u v w=>ho _ _ _ (d n' s r h' u v w),ho _ _ _ e⟩
 spawn:=fun _ _ _ _ _ _ h=>h
 ghost:=fun h x O O' ho a hw=>let ⟨h1,z,q⟩:=a hw;⟨h1,z,ho _ _ q⟩
 late:=fun _ _ _ _ _ _ h=>h
instance {P:Program} {cv:Value}:Lets (tHand P cv):=⟨.inl rfl,fun f=>.inr ⟨f,rfl⟩⟩
def tEnd (P:Program) (done:FuncId) (fr:Frame) (cs:List Frame) (h:Hp) (x:TX):Prop :=
 fr=Frame.enter P done #[.pointer (some ⟨x.wg,0,none⟩)] .deferred∧(∃ c cs' qt,cs=c::cs'∧c.mode=.returning∧QuitsD P qt 0 (G c cs')) ∧
 (∃ q,(x.ph=.over q∨x.ph=.cut q∨(x.g.plan q=none∧∃ n,x.ph=.free q n))∧Star [x.g.Fin q] h)
inductive SeatSt (σ θ:Type) where
 | run (s:σ) (q:θ)
 | said (q:θ)
 | shut (q:θ)
structure Seat (σ θ:Type) where
 says:Nat
 turn:Nat
 fin:Nat
 st:SeatSt σ θ
inductive Wst where
 | play
 | wait (b:Nat)
 | seen (v:Nat)
 | parked
 | woken
 | zero
structure GX:Type 1 where
 g:Game
 wg:Nat
 seats:List (Seat g.σ g.θ)
 tok:Option g.σ
 left:Nat
 ad:Nat
 deaf:Bool
 wt:Wst
 free:Option (FreeD g)
 nf:Nat
inductive MX:Type 1 where
 | idle
 | game (x:GX)
def unit:Value:=.tuple #[]
def kk:Int:=4294967296
def Says (P:Program) (s:Sem Next) (m:Mark):Prop:=∃ f,∀ w,s.runT P w #[]=(.ok (.value unit) w,#[⟨.mark (.extern f),false,true⟩,⟨.mark m,false,true⟩])
def Adds (P:Program) (s:Sem Next) (a:Addr) (d:Int):Prop:=∃ f,∀ w n,w.cell? a=some (.int .u64 n)→w.frozen? a=false →
 s.runT P w #[]=(.ok (.value (.int .u64 (IntKind.u64.wrap (n+d)))) (w.setCell a (.int .u64 (IntKind.u64.wrap (n+d)))),#[⟨.mark (.extern f),false,true⟩,⟨.cell a,false,true⟩,⟨.cell a,true,true⟩])
def Looks (P:Program) (s:Sem Next) (a:Addr):Prop:=∃ f,∀ w n,w.cell? a=some (.int .u64 n) →
 s.runT P w #[]=(.ok (.value (.int .u64 n)) w,#[⟨.mark (.extern f),false,true⟩,⟨.cell a,false,true⟩])
def Swaps (P:Program) (s:Sem Next) (a:Addr) (old new:Int):Prop:=∃ f,∀ w n,w.cell? a=some (.int .u64 n)→w.frozen? a=false →
 (n=old→s.runT P w #[]=(.ok (.value (.bool true)) (w.setCell a (.int .u64 new)),#[⟨.mark (.extern f),false,true⟩,⟨.cell a,false,true⟩,⟨.cell a,true,true⟩])) ∧
 (n≠old→s.runT P w #[]=(.ok (.value (.bool false)) w,#[⟨.mark (.extern f),false,true⟩,⟨.cell a,false,true⟩]))
def Sems (P:Program) (s:Sem Next) (a:Addr):Prop:=∃ f,∀ w n,w.cell? a=some (.int .u32 n)→w.frozen? a=false →
 (n=0→∃ es,s.runT P w #[]=(.halt .blocked w,es)) ∧
 (n=1→s.runT P w #[]=(.ok (.value unit) (w.setCell a (.int .u32 0)),#[⟨.mark (.extern f),false,true⟩,⟨.mark .disable,false,true⟩,⟨.cell a,false,true⟩,⟨.cell a,true,true⟩,⟨.mark .enable,false,true⟩]))
def Shuts (P:Program) (s:Sem Next) (b:Nat):Prop:=∀ w n m tm,w.heap[b]?=some (.chan 0 #[] false n m tm) →
 s.runT P w #[]=(.ok (.value unit) { w with heap:=w.heap.setIfInBounds b (.chan 0 #[] true n m tm) },#[⟨.obj b,false,true⟩,⟨.obj b,true,true⟩])
def newChan:Obj:=.chan 0 #[] false 0 0 false
def goFr (P:Program) (d:Deferred):Frame:={ (default:Frame) with fn:=P.funcs.size,defers:=[d],mode:=.panicking [goexitEntry] }
def Seat.open {σ θ:Type} (s:Seat σ θ):Prop:=match s.st with
 | .said _=>True
 | _=>False
def Seat.closed {σ θ:Type} (s:Seat σ θ):Prop:=match s.st with
 | .shut _=>True
 | _=>False
def Seat.fins {g:Game} (s:Seat g.σ g.θ):HProp:=match s.st with
 | .shut q=>g.Fin q
 | _=>fun _=>True
def GX.ends (X:GX):HProp:=match X.free with
 | none=>all (X.seats.map Seat.fins)
 | some d=>fun r=>∃ s qs,d.I s qs∧(∀ q∈qs,X.g.plan q=none)∧qs.length=d.q0.length∧Star (X.g.U s::qs.map X.g.Fin) r
inductive MAct (P:Program) (wk:Bool) (s:Sem Next) (h:Hp) (X:GX) (k:Next→Hp→MX→Prop):Prop
 | disable (d:X.deaf=false) (a:Says P s .disable) (q:k (.value unit) h (.game { X with deaf:=true }))
 | enable (d:X.deaf=true) (a:Says P s .enable) (q:k (.value unit) h (.game { X with deaf:=false }))
 | read (m:Mark) (hm:m=.read ⟨X.wg,1,none⟩∨m=.write ⟨X.wg,1,none⟩) (a:Says P s m) (q:k (.value unit) h (.game X))
 | add (p:X.wt=.play) (hd:X.ad<1000) (ha:X.ad=X.seats.length+X.nf) (tk:X.tok.isSome=true) (d:X.deaf=true) (a:Adds P s ⟨X.wg,0,none⟩ kk) (q:∀ v:Nat,v≤X.ad→k (.value (.int .u64 ((v+1:Nat)*kk))) h (.game { X with ad:=X.ad+1 }))
 | look (b:Nat) (p:X.wt=.wait b∨(X.wt=.play∧b=X.ad∧X.ad=X.seats.length+X.nf∧∀ s∈X.seats,s.closed)) (d:X.deaf=true) (a:Looks P s ⟨X.wg,0,none⟩)
   (q:∀ v:Nat,0<v→v≤b→k (.value (.int .u64 (v*kk))) h (.game { X with wt:=.seen v })) (q0:k (.value (.int .u64 0)) h (.game { X with wt:=.zero }))
 | swap (v:Nat) (hv:0<v) (p:X.wt=.seen v) (d:X.deaf=true) (a:Swaps P s ⟨X.wg,0,none⟩ (v*kk) (v*kk+1)) (q:k (.value (.bool true)) h (.game { X with wt:=.parked }))
   (q0:∀ b,b<v→k (.value (.bool false)) h (.game { X with wt:=.wait b }))
 | sem (p:X.wt=.parked) (d:X.deaf=true) (a:Sems P s ⟨X.wg,1,none⟩) (q:k (.value unit) h (.game { X with wt:=.woken }))
 | last (p:X.wt=.woken) (d:X.deaf=true) (a:Looks P s ⟨X.wg,0,none⟩) (q:k (.value (.int .u64 0)) h (.game { X with wt:=.zero }))
 | acquire (p:X.wt=.zero) (d:X.deaf=false) (hn:∀ d,X.free=some d→X.nf=d.q0.length) (a:Says P s (.acquire ⟨X.wg,0,none⟩)) (q:∀ r h',X.ends r→Split h' h r→k (.value unit) h' .idle)
 | shut (j:Nat) (c:Seat X.g.σ X.g.θ) (q0:X.g.θ) (p:X.wt=.play) (d:X.deaf=false) (ad:X.ad=X.seats.length) (tk:X.tok.isSome=true) (hj:X.seats[j]?=some c) (st:c.st=.said q0) (hw:wk=true) (a:Shuts P s c.fin)
   (q:k (.value unit) h (.game { X with seats:=X.seats.set j { c with st:=.shut q0 } }))
def mHand (P:Program) (cv:Value) (done:FuncId) (wgT:TypeId):Hand.{1} where
 X:=MX
 mark:=Still
 act:=fun wk s h x k=>∃ X,x=.game X∧MAct P wk s h X k
 comm:=fun cases bl sh h x k=>(bl=true∧∃ X j c,x=.game X∧X.wt=.play∧X.deaf=false∧X.seats[j]?=some c ∧
  ((∃ z s q,cases=#[rcase c.says z]∧sh=.recv false∧c.st=.run s q∧X.tok=none∧∀ r h',X.g.U s r→Split h' h r →
    k (X.g.says q) h' (.game { X with tok:=some s,seats:=X.seats.set j { c with st:=.said q } })) ∨
   (∃ z q m f s l h' r,cases=#[scase c.turn (.agg #[]) z]∧sh=.send∧c.st=.said q∧X.g.plan q=some (m,f)∧X.tok=some s∧X.left=l+1∧X.ad=X.seats.length∧Split h h' r∧X.g.W s r ∧
    k undef h' (.game { X with tok:=none,left:=l,seats:=X.seats.set j { c with st:=.run (f s).1 (f s).2 } }))))∨Tries cases bl sh h x k
 spawn:=fun d h x k=>(∃ X s says turn fin hc h' s' q',x=.game X∧X.free=none∧X.wt=.play∧X.deaf=false∧X.tok=some s∧X.ad=X.seats.length+1 ∧
  says≠turn∧says≠fin∧turn≠fin∧h.obj says=some newChan∧h.obj turn=some newChan∧h.obj fin=some newChan ∧
  Split h hc h'∧(∀ b,b=says∨b=turn∨b=fin→hc.obj b=none∧h'.obj b=none) ∧
  (∃ f cap,d.target=.fn f cap) ∧
  Nonempty (Run P (tHand P cv) false (tEnd P done) (goFr P d) [] hc ⟨X.g,says,turn,fin,X.wg,.busy s' q' X.left⟩) ∧
  k h' (.game { X with tok:=none,seats:=X.seats++[⟨says,turn,fin,.run s' q'⟩] })) ∨
  (∃ X fd hc h' q0,x=.game X∧X.free=some fd∧X.wt=.play∧X.deaf=false∧X.ad=X.seats.length+X.nf+1∧fd.q0[X.nf]?=some q0∧Split h hc h' ∧
   (∃ f cap,d.target=.fn f cap) ∧
   Nonempty (Run P (tHand P cv) false (tEnd P done) (goFr P d) [] hc ⟨X.g,0,0,0,X.wg,.free q0 fd.N⟩) ∧
   k h' (.game { X with nf:=X.nf+1 }))
 ghost:=fun h x k=>(∃ w,Fits h w)→(∃ h1,Frz h h1∧k h1 x) ∨
  (x=.idle∧∃ g wg s h1,h.own wg 0=some (.int .u64 0)∧h.own wg 1=some (.int .u32 0)∧h.shp wg=some (wgT,2)∧Frz h h1 ∧
   (∀ o,h1.own wg o=none∧h1.ro wg o=none)∧k h1 (.game ⟨g,wg,[],some s,16384,0,false,.play,none,0⟩)) ∨
  (x=.idle∧∃ g fd wg s h1 h2 pl,Split h h2 pl∧g.U s pl∧(∀ o,pl.own wg o=none∧pl.ro wg o=none) ∧
   h2.own wg 0=some (.int .u64 0)∧h2.own wg 1=some (.int .u32 0)∧h2.shp wg=some (wgT,2)∧Frz h2 h1 ∧
   (∀ o,h1.own wg o=none∧h1.ro wg o=none)∧fd.I s fd.q0∧fd.φ s fd.q0≤fd.N∧k h1 (.game ⟨g,wg,[],some s,0,0,false,.play,some fd,0⟩))
 late:=fun s h x k=>∃ X,x=.game X∧X.deaf=true∧Says P s .enable∧k h (.game { X with deaf:=false })
 cut:=fun _ _ _=>False
instance {P:Program} {cv:Value} {done:FuncId} {wgT:TypeId}:MonoH (mHand P cv done wgT) where
 act:=by
  rintro wk s h x O O' ho ⟨X,rfl,a⟩
  refine ⟨X,rfl,?_⟩
  cases a with
  | disable d a q=>exact .disable d a (ho _ _ _ q)
  | enable d a q=>exact .enable d a (ho _ _ _ q)
  | read m hm a q=>exact .read m hm a (ho _ _ _ q)
  | add p hd ha tk d a q=>exact .add p hd ha tk d a fun v hv=>ho _ _ _ (q v hv)
  | look b p d a q q0=>exact .look b p d a (fun v h1 h2=>ho _ _ _ (q v h1 h2)) (ho _ _ _ q0)
  | swap v hv p d a q q0=>exact .swap v hv p d a (ho _ _ _ q) fun b hb=>ho _ _ _ (q0 b hb)
  | sem p d a q=>exact .sem p d a (ho _ _ _ q)
  | last p d a q=>exact .last p d a (ho _ _ _ q)
  | acquire p d hn a q=>exact .acquire p d hn a fun r h' h1 h2=>ho _ _ _ (q r h' h1 h2)
  | shut j c q0 p d ad tk hj st hw a q=>exact .shut j c q0 p d ad tk hj st hw a (ho _ _ _ q)
 comm:=by
  rintro cs bl sh h x O O' ho (⟨h0,X,j,c,a1,a2,a3,a4,a5⟩ | h0)
  rotate_left
  ·exact .inr (h0.mono ho)
  refine .inl ⟨h0,X,j,c,a1,a2,a3,a4,?_⟩
  rcases a5 with ⟨z,s,q,b1,b2,b3,b4,b5⟩ | ⟨z,q,m,f,s,l,h',r,b1,b2,b3,b4,b5,b6,b6',b7,b8,b9⟩
  ·exact .inl ⟨z,s,q,b1,b2,b3,b4,fun r h' u v=>ho _ _ _ (b5 r h' u v)⟩
  ·exact .inr ⟨z,q,m,f,s,l,h',r,b1,b2,b3,b4,b5,b6,b6',b7,b8,ho _ _ _ b9⟩
 spawn:=by
  rintro d h x O O' ho (⟨X,s,says,turn,fin,hc,h',s',q',a0,a1,a2,a3,a4,a5,a6,a7,a8,a9,b1,b2,b3,b4,b5,b6,b7⟩ | ⟨X,fd,hc,h',q0,a1,a2,a3,a4,a5,a6,a7,a8,a9,b1⟩)
  ·exact .inl ⟨X,s,says,turn,fin,hc,h',s',q',a0,a1,a2,a3,a4,a5,a6,a7,a8,a9,b1,b2,b3,b4,b5,b6,ho _ _ b7⟩
  ·exact .inr ⟨X,fd,hc,h',q0,a1,a2,a3,a4,a5,a6,a7,a8,a9,ho _ _ b1⟩
 ghost:=by
  intro h x O O' ho a hw
  rcases a hw with ⟨h1,z,q⟩ | ⟨hx,g,wg,s,h1,a1,a2,a3,a4,a5,a6⟩ | ⟨hx,g,fd,wg,s,h1,h2,pl,a1,a2,a4,a5,a6,a7,a8,a9,b1,b2,b3⟩
  ·exact .inl ⟨h1,z,ho _ _ q⟩
  ·exact .inr (.inl ⟨hx,g,wg,s,h1,a1,a2,a3,a4,a5,ho _ _ a6⟩)
  ·exact .inr (.inr ⟨hx,g,fd,wg,s,h1,h2,pl,a1,a2,a4,a5,a6,a7,a8,a9,b1,b2,ho _ _ b3⟩)
 late:=fun s h x O O' ho ⟨X,a1,a2,a3,a4⟩=>⟨X,a1,a2,a3,ho _ _ a4⟩
instance {P:Program} {cv:Value} {done:FuncId} {wgT:TypeId}:Lets (mHand P cv done wgT):=⟨.inl rfl,fun f=>.inr ⟨f,rfl⟩⟩
instance {P:Program} {cv:Value} {done:FuncId} {wgT:TypeId}:NoCut (mHand P cv done wgT):=⟨fun _ _ _ h=>h⟩
end Go.PB
namespace Go.PB
open Go.Conc
def start (W:World):Hp:=⟨fun _ _=>none,fun b o=>W.cell? ⟨b,o,none⟩,fun _=>none,fun b=>W.shape? b⟩
theorem fits_start (W:World):Fits (start W) W where
 own:=fun _ _ _ h=>by cases h
 thaw:=fun _ _ _ h=>by cases h
 ro:=fun _ _ _ h=>h
 disj:=fun _ _ _ h=>by cases h
 obj:=fun _ _ h=>by cases h
 objn:=fun _ _ h=>by cases h
 shp:=fun _ _ h=>h
def After (W W':World):Prop:=RowKit.Below W.heap.size W W'∧∀ a,W'.frozen? a=W.frozen? a
end Go.PB
namespace Go.PB
open Go.ChangeShapes Go.WideShapes Go.ChangeAt Go.RowKit
structure Sh (α:Type) where
 n:Nat
 rel:World→List Value→α→Prop
def Opens {α:Type} (P:Program) (t:TypeId) (s:Sh α):Prop :=
 P.cellsOf t=s.n∧∀ (H:Type) (enc:TypeId × Value→H) (w:World) (fuel:Nat) (cs:List Value) (x:DataW H × List MemPlace),DataW.trod enc P w 0 (fun _=>true) true fuel t cs=some x→∃ a,s.rel w cs a
def shI64:Sh Int:=⟨1,fun _ cs a=>cs=[.int .i64 a]∧-9223372036854775808≤a∧a≤9223372036854775807⟩
def shU64:Sh Nat:=⟨1,fun _ cs a=>cs=[.int .u64 (a:Nat)]∧a<18446744073709551616⟩
def shSlice {α:Type} (s:Sh α):Sh (List α):=⟨1,fun w cs l=>∃ p cap,cs=[.slice p l.length cap]∧l.length≤cap∧cap≤maxLen ∧
 ∀ i a,l[i]?=some a→∃ b o vs,p=some ⟨b,o,none⟩∧vs.length=s.n∧(∀ j v,vs[j]?=some v→w.cell? ⟨b,o+i*s.n+j,none⟩=some v)∧s.rel w vs a⟩
def shPair {α β:Type} (s:Sh α) (t:Sh β):Sh (α × β):=⟨s.n+t.n,fun w cs x=>s.rel w (cs.take s.n) x.1∧t.rel w (cs.drop s.n) x.2⟩
def shUnit:Sh Unit:=⟨0,fun _ cs _=>cs=[]⟩
section
variable {P:Program} {t e:TypeId} {α β:Type}
theorem opens_i64 (ht:P.underlying t=some (.int .i64)) (hc:P.cellsOf t=1):Opens P t shI64:=⟨hc,fun _ enc w fuel cs x h=>by
 cases fuel with
 | zero=>simp [DataW.trod] at h
 | succ n =>
  unfold DataW.trod at h
  rw [ht] at h
  simp only at h
  split at h <;> try contradiction
  all_goals (rename_i k n he;cases he)
  split at h
  ·rename_i hw
   obtain ⟨rfl,hw⟩:=hw
   exact ⟨_,rfl,by simpa [Lit.wf,IntKind.min,IntKind.max,IntKind.signed,IntKind.bits] using hw⟩
  ·cases h⟩
theorem opens_u64 (ht:P.underlying t=some (.int .u64)) (hc:P.cellsOf t=1):Opens P t shU64:=⟨hc,fun _ enc w fuel cs x h=>by
 cases fuel with
 | zero=>simp [DataW.trod] at h
 | succ n =>
  unfold DataW.trod at h
  rw [ht] at h
  simp only at h
  split at h <;> try contradiction
  all_goals (rename_i k n he;cases he)
  split at h
  ·rename_i hw
   obtain ⟨rfl,hw⟩:=hw
   have hw':0≤n∧n≤18446744073709551615:=by simpa [Lit.wf,IntKind.min,IntKind.max,IntKind.signed,IntKind.bits] using hw
   exact ⟨n.toNat,by rw [Int.toNat_of_nonneg hw'.1],by omega⟩
  ·cases h⟩
theorem list_of {p:Nat→α→Prop}:∀ {n:Nat},(∀ i,i<n→∃ a,p i a)→∃ l:List α,l.length=n∧∀ i a,l[i]?=some a→p i a:=by
 intro n
 induction n with
 | zero=>exact fun _=>⟨[],rfl,fun i a h=>by simp at h⟩
 | succ n ih =>
  intro h
  obtain ⟨l,h1,h2⟩:=ih fun i hi=>h i (by omega)
  obtain ⟨a,ha⟩:=h n (by omega)
  refine ⟨l++[a],by simp [h1],fun i b hb=>?_⟩
  by_cases hi:i<n
  ·rw [List.getElem?_append_left (by omega)] at hb
   exact h2 i b hb
  ·rw [List.getElem?_append_right (by omega)] at hb
   have:i=n:=by
    have:=(List.getElem?_eq_some_iff.1 hb).1
    simp at this;omega
   subst this
   have:some a=some b:=by simpa [h1] using hb
   cases this
   exact ha
theorem opens_slice {s:Sh α} (ht:P.underlying t=some (.slice e)) (hc:P.cellsOf t=1) (hs:Opens P e s) (hpos:0<s.n):Opens P t (shSlice s):=⟨hc,fun _ enc w fuel cs x h=>by
 rcases Deep.open_slice ht h with ⟨rfl,rfl⟩ | ⟨a,len,cap,m,n,D,Pl,rfl,hb,hl,hm,hmm,rfl,hx⟩
 ·exact ⟨[],none,0,rfl,by simp,by simp,fun i a h=>by simp at h⟩
 ·simp only [if_true] at hmm
  obtain ⟨l,h1,h2⟩:=list_of (n:=len) (p:=fun i y=>∃ b o vs,a=⟨b,o,none⟩∧vs.length=s.n∧(∀ j v,vs[j]?=some v→w.cell? ⟨b,o+i*s.n+j,none⟩=some v)∧s.rel w vs y) (fun i hi=>by
   obtain ⟨cs',h3,h4⟩:=hx i (by omega)
   obtain ⟨h5,h6,h7⟩:=World.cells?_some h3
   obtain ⟨y,hy⟩:=hs.2 _ enc w n cs' _ h4
   rw [hs.1] at h6 h7
   obtain ⟨b,o,sp⟩:=a
   have hsp:sp=none:=by
    obtain ⟨cs2,g1,g2⟩:=hx 0 (by omega)
    obtain ⟨g3,g4,g5⟩:=World.cells?_some g1
    rw [hs.1] at g4 g5
    have g6:=g5 0 hpos
    rw [List.getElem?_eq_getElem (by omega)] at g6
    have:=World.cell?_spot g6
    simpa [Addr.add] using this
   subst hsp
   refine ⟨y,b,o,cs',rfl,h6,fun j v hj=>?_,hy⟩
   have hj':=(List.getElem?_eq_some_iff.1 hj).1
   have:=h7 j (by omega)
   rw [hj] at this
   simpa [add_none,Nat.add_assoc] using this)
  refine ⟨l,some a,cap,by rw [h1],by omega,hm,fun i y hy=>?_⟩
  obtain ⟨b,o,vs,rfl,h3⟩:=h2 i y hy
  exact ⟨b,o,vs,rfl,h3⟩⟩
def OpensF {α:Type} (P:Program):List Field→Nat→Sh α→Prop:=fun fs o s =>
 ∀ (H:Type) (enc:TypeId × Value→H) (w:World) (n:Nat) (cs:List Value),cs.length=o+s.n→(∀ (i:Nat) (f:Field),fs[i]?=some f→∃ x,DataW.trod enc P w 0 (fun _=>true) true n f.type ((cs.drop f.offset).take (P.cellsOf f.type))=some x)→∃ a,s.rel w (cs.drop o) a
theorem opensF_nil {o:Nat}:OpensF P [] o shUnit:=fun _ enc w n cs hl _=>⟨(),by simp [shUnit] at hl ⊢;omega⟩
theorem opensF_cons {f:Field} {fs:List Field} {o o':Nat} {s:Sh α} {s':Sh β} (ho:f.offset=o) (ht:Opens P f.type s) (he:o'=o+s.n) (hf:OpensF P fs o' s'):OpensF P (f::fs) o (shPair s s'):=fun _ enc w n cs hl hx=>by
 subst he
 obtain ⟨x,h1⟩:=hx 0 f rfl
 obtain ⟨a,ha⟩:=ht.2 _ enc w n _ _ h1
 rw [ho,ht.1] at ha
 obtain ⟨b,hb⟩:=hf _ enc w n cs (by simp only [shPair] at hl;omega) (fun i g hg=>hx (i+1) g hg)
 exact ⟨(a,b),ha,by simpa [List.drop_drop] using hb⟩
theorem opens_struct {fs:Array Field} {s:Sh α} (ht:P.underlying t=some (.struct fs)) (hc:P.cellsOf t=s.n) (hf:OpensF P fs.toList 0 s):Opens P t s:=⟨hc,fun _ enc w fuel cs x h=>by
 obtain ⟨xs,n,rfl,rfl,h1,h2,h3⟩:=DataW.trod_struct ht h
 obtain ⟨a,ha⟩:=hf _ enc w n cs (by omega) (fun i f hi=>by
  have hi':fs[i]?=some f:=by simpa using hi
  have hlt:=(Array.getElem?_eq_some_iff.1 hi').1
  exact ⟨xs[i]'(by omega),by rw [h3 i f hi'];simp⟩)
 exact ⟨a,by simpa using ha⟩⟩
theorem arg_one {H:Type} {enc:TypeId × Value→H} {w:World} {v:Value} {d:DataW H} {ps:List MemPlace} {s:Sh α} (hs:Opens P t s) (h:DataW.Trod enc P w 0 (fun _=>true) true t v d ps):∃ a,s.rel w v.cells.toList a:=by
 obtain ⟨fuel,hf⟩:=h
 exact hs.2 _ enc w fuel _ _ hf
theorem all_stays (hl:laidOutB P=true) {H:Type} {enc:TypeId × Value→H} {W W':World} {sp':Nat→Bool}:∀ {ts:List TypeId} {vs:List Value} {ds:List (DataW H)} {ps:List MemPlace},(∀ t∈ts,P.readableRec t=true∧t<P.types.size) →
  DataW.TrodAll enc P W 0 (fun _=>true) true ts vs ds ps→(∀ p∈ps,W.sameAt W' p)→(∀ p∈ps,sp' p.block=true)→DataW.TrodAll enc P W' 0 sp' true ts vs ds ps:=by
 intro ts
 induction ts with
 | nil=>intro vs ds ps _ h _ _;cases vs <;> cases ds <;> simp_all [DataW.TrodAll]
 | cons t ts ih =>
  intro vs ds ps ht h h1 h2
  obtain ⟨v,vs',d,ds',p,q,rfl,rfl,rfl,h3,h4⟩:=trodAll_cons h
  exact ⟨p,q,WideElems.Trod_stays hl (ht t (by simp)).1 (ht t (by simp)).2 h3 (fun x hx=>h1 x (by simp [hx])) (fun x hx=>h2 x (by simp [hx])),
   ih (fun t' h'=>ht t' (by simp [h'])) h4 (fun x hx=>h1 x (by simp [hx])) (fun x hx=>h2 x (by simp [hx])),rfl⟩
theorem all_length {H:Type} {enc:TypeId × Value→H} {W:World} {sp':Nat→Bool} {hd:Bool}:∀ {ts:List TypeId} {vs:List Value} {ds:List (DataW H)} {ps:List MemPlace},DataW.TrodAll enc P W 0 sp' hd ts vs ds ps→ds.length=ts.length:=by
 intro ts
 induction ts with
 | nil=>intro vs ds ps h;cases vs <;> cases ds <;> simp_all [DataW.TrodAll]
 | cons t ts ih =>
  intro vs ds ps h
  obtain ⟨v,vs',d,ds',p,q,rfl,rfl,rfl,h3,h4⟩:=trodAll_cons h
  simp [ih h4]
theorem post_true {H:Type} {enc:TypeId × Value→H} {f:Func} {s:ChangeSpec} {bt:TypeId} (hl:laidOutB P=true) (hp:∀ t∈f.params.toList,P.readableRec t=true∧t<P.types.size) (hr:f.resultTypes=#[bt]) (hb:P.underlying bt=some .bool)
  (hv:s.vars=[]) (hs:∀ ds:List (DataW H),ds.length=f.params.size→s.fn H ds={ results:=[.lit (.bool true)],args:=ds })
  {W W':World} {args:Array Value} {ds gs:List (DataW H)} {before:List MemPlace} (hW:DataW.Whole enc P f.params.toList s.vars false W args.toList ds gs before) (ha:After W W') :
  s.post enc P f false true false false W args (.bool true) W':=by
 have hW':=hW
 obtain ⟨p,q,hA,hV,rfl,hfz,hnd⟩:=hW
 rw [hv] at hV
 obtain ⟨rfl,rfl⟩:=trodVars_none hV
 have hlen:=all_length hA
 simp only [Array.length_toList] at hlen
 have hfn:=hs (ds++[]) (by simpa using hlen)
 have hlt:∀ x∈p,x.block<W.heap.size:=fun x hx=>hW'.lt x (by simpa using hx)
 refine post_of_same (pa:=p) (pv:=[]) hW' ?_ ?_ ?_ (by simp) (ha.1.frame _) ha.2 (ok_one hr rfl (okWide_bool_mk hb _))
 ·intro b sp hd
  rw [hfn,hr]
  exact trodAll_cons_mk (shut_bool hb _) trodAll_mk0
 ·intro sp hsp
  rw [hfn,List.append_nil]
  exact all_stays hl hp hA (fun x hx=>ha.1.same (hlt x hx)) (fun x hx=>hsp x (by simpa using hx))
 ·intro sp _
  rw [hfn,hv]
  exact rfl
end
end Go.PB
namespace Go.PB
open Go.Conc
section
class Chans (B:Hand):Prop where
 mono:∀ cases bl sh h x (k k':Value→Hp→B.X→Prop),(∀ v h x,k v h x→k' v h x)→B.comm cases bl sh h x k→B.comm cases bl sh h x k'
 try_:∀ (c:Nat) (v z:Value) (cap:Nat) (buf:Array Value) (s r:Nat) (tm:Bool) (h:Hp) (x:B.X) (k:Value→Hp→B.X→Prop),h.obj c=some (.chan cap buf false s r tm) →
  (buf.size<cap→k (.tuple #[goInt 0,.bool false]) (h.setObj c (.chan cap (buf.push v) false (s+1) r tm)) x)→(cap≤buf.size→k (.tuple #[goInt (-1),.bool false]) h x)→B.comm #[scase c v z] false .select h x k
section
variable {P:Program} {B:Hand} {kd:CallKind}
theorem wr_comm [Chans B] {ops:Array Oper} {i:Nat} {l:List Nat} {K:Post B} {t:Array Value} {z:Z} {h:Hp} {x:B.X} {o:Oper} {cases:Array CommCase} {bl:Bool} {sh:CommShape} (ho:ops[i]?=some o) (hw:Region.wanted o (yielded ops t)=true)
  (hx:∀ w,(execOp (evT t) o).runT P w #[]=(.ok (.comm cases bl sh) w,#[])) (hc:B.comm cases bl sh h x fun v h' x'=>Wr P B kd ops l K (setDst o t v) z h' x'):Wr P B kd ops (i::l) K t z h x :=
 fun main S C b k cs hb ha=>by
  refine C.comm _ _ _ _ o cases bl sh ⟨rfl,rfl,ops,i,l,k,rfl,ho,hw⟩ (fun w _=>by rw [eval_mkFr];exact hx w) (Chans.mono _ _ _ _ _ _ _ (fun v h' x' q=>?_) hc)
  rw [finish_mkFr ho v]
  exact q main S C b k cs hb ha
theorem runT_zero {el:TypeId} {zv:Value} (z:zeroOf P el=some zv) {α:Type} {k:Value→Sem α} {w:World} {es:Array Event}:(Sem.bind (zeroValue el) k).runT P w es=(k zv).runT P w es:=by
 unfold zeroOf at z
 cases hi:P.info? el with
 | none=>rw [hi] at z;cases z
 | some i =>
  rw [hi] at z
  simp only [Option.bind_some] at z
  show (Sem.bind (Sem.bind (match P.info? el with | some d=>pure d | none=>stuck "no such type") fun i=>match i.zero with | some v=>pure v | none=>unsupported (.resourceLimit "a value of more than 2^22 cells")) k).runT P w es=_
  rw [hi]
  show (Sem.bind (match i.zero with | some v=>pure v | none=>unsupported (.resourceLimit "a value of more than 2^22 cells")) k).runT P w es=_
  rw [z];rfl
abbrev chC (c cap:Nat) (buf:Array Value) (s r:Nat):HProp:=ob c (.chan cap buf false s r false)
variable {n:Nat} {e:Env} {z:Z} {L F:List HProp} {x:B.X} {K:Post B} {ty:TypeId}
theorem wo_try [Chans B] {l:List OpG} {d:Option Nat} {co vo:Operand} {el ty:TypeId} {g:Option (Nat × Bool)} {c cap:Nat} {buf:Array Value} {s r:Nat} {v zv:Value} [zr:Zer P el zv] (hc:ev e co=some (.chan (some c))) (hv:ev e vo=some v) (hg:gYes e g) (hh:Has L (chC c cap buf s r) F)
  (k1:buf.size<cap→Wo P B kd n l K (setE d (.tuple #[goInt 0,.bool false]) e) z (chC c cap (buf.push v) (s+1) r::F) x)
  (k2:cap≤buf.size→Wo P B kd n l K (setE d (.tuple #[goInt (-1),.bool false]) e) z L x) :
  Wo P B kd n (⟨d,.select #[⟨co,some vo,el⟩] false,ty,g⟩::l) K e z L x:=by
 intro ops idx h1 h2 t h a1 a2 a3
 obtain ⟨i,idx',oo,rfl,h3,h4,h5,h6,h7,h8⟩:=map_head h1
 have hobj:=(star_setObj (o':=.chan cap (buf.push v) false (s+1) r false) (hh.star a3))
 have hcv:evT t co=.chan (some c):=a2.ev hc
 have hvv:evT t vo=v:=a2.ev hv
 refine wr_comm (cases:=#[scase c v zv]) (bl:=false) (sh:=.select) h4 (wanted_yes a1 a2 h8 hg) (fun w=>?_) (Chans.try_ _ _ _ _ _ _ _ _ _ _ _ hobj.1 (fun hlt=>?_) (fun hle=>?_))
 ·rw [execOp_of _ h6 h7]
  show ((#[(⟨co,some vo,el⟩:SelectCase)].mapM fun s=>do pure { chan:=evT t s.chan,send:=s.send.map (evT t),zero:=← zeroValue s.elem:CommCase }) >>= fun cases=>(pure (Next.comm cases false .select):Sem Next)).runT P w #[]=_
  simp only [Array.mapM_eq_mapM_toList,List.mapM_cons,List.mapM_nil,pure_bind,bind_assoc,map_eq_pure_bind,Option.map_some,hcv,hvv]
  exact runT_zero zr.ok
 ·exact k1 hlt ops idx' h3 (dOk_tail h2) _ _ ((setDst_size oo t _).trans a1) (a2.setE h5 (by rw [a1];exact dOk_head h2) _) hobj.2
 ·exact k2 hle ops idx' h3 (dOk_tail h2) _ _ ((setDst_size oo t _).trans a1) (a2.setE h5 (by rw [a1];exact dOk_head h2) _) a3
theorem mo_makeChan {t el by_ m:Nat} {dr:ChanDir} {o:Operand} {k:IntKind} [p:Und P t (.chan dr el)] [b:Byt P el by_] (hx:ev e o=some (.int k (m:Nat))) (hm:m≤1048576) (hb:by_≤1048576):Mo P e (.makeChan t o) ty L fun v' L'=>∃ c,v'=.chan (some c)∧L'=chC c m #[] 0 0::L:=by
 intro M hM _ tt h Q X ag st q
 show wpS P M (Sem.bind (Instr.makeChan t (evT tt o)) fun v=>pure (.value v)) h Q X
 rw [ag.ev hx]
 refine wpS_bind _ _ ?_
 unfold Instr.makeChan
 simp only [asInt,asIntOf,pure_bind,bind_assoc]
 refine wpS_underlying p.ok ?_
 refine wpS_bytes b.ok fun i hi=>?_
 have hmul:by_*m≤1048576*1048576:=Nat.mul_le_mul hb hm
 obtain ⟨q',hq'⟩:∃ q,by_*m=q:=⟨_,rfl⟩
 rw [hi,if_neg (by
  rw [← Int.natCast_mul,hq']
  rw [hq'] at hmul
  have hmax:IntKind.i64.max=9223372036854775807:=rfl
  omega)]
 simp only [pure_bind,Int.toNat_natCast]
 intro c hf
 exact q _ _ _ _ (.inl rfl) ⟨c,rfl,rfl⟩ (star_newObj hf st)
end
end
end Go.PB
namespace Go.PB
open Go.Conc
section
variable {P:Program} {B:Hand} {kd:CallKind}
theorem wr_act [MonoH B] {ops:Array Oper} {i:Nat} {l:List Nat} {K:Post B} {t:Array Value} {z:Z} {h:Hp} {x:B.X} {o:Oper} (ho:ops[i]?=some o) (hw:Region.wanted o (yielded ops t)=true) (hk:kd≠.early)
  (ha:B.act (wakes o) (execOp (evT t) o) h x fun nx h' x'=>∃ v,nx=.value v∧Wr P B kd ops l K (setDst o t v) z h' x'):Wr P B kd ops (i::l) K t z h x :=
 fun main S C b k cs hb hK=>by
  refine C.act _ _ _ _ o ⟨rfl,rfl,ops,i,l,k,rfl,ho,hw⟩ (by show b.kind≠.early;rw [hb.1];exact hk) ?_
  rw [eval_mkFr]
  refine MonoH.act _ _ _ _ _ _ (fun nx h' x' q=>?_) ha
  obtain ⟨v,e,q⟩:=q
  exact ⟨v,e,by rw [finish_mkFr ho v];exact q main S C b k cs hb hK⟩
theorem wr_talk [MonoH B] {ops:Array Oper} {i:Nat} {l:List Nat} {K:Post B} {t:Array Value} {z:Z} {h:Hp} {x:B.X} {o:Oper} {cases:Array CommCase} {bl:Bool} {sh:CommShape} (ho:ops[i]?=some o) (hw:Region.wanted o (yielded ops t)=true)
  (hx:∀ w,(execOp (evT t) o).runT P w #[]=(.ok (.comm cases bl sh) w,#[])) (hc:B.comm cases bl sh h x fun v h' x'=>Wr P B kd ops l K (setDst o t v) z h' x'):Wr P B kd ops (i::l) K t z h x :=
 fun main S C b k cs hb ha=>by
  refine C.comm _ _ _ _ o cases bl sh ⟨rfl,rfl,ops,i,l,k,rfl,ho,hw⟩ (fun w _=>by rw [eval_mkFr];exact hx w) (MonoH.comm _ _ _ _ _ _ _ (fun v h' x' q=>?_) hc)
  rw [finish_mkFr ho v]
  exact q main S C b k cs hb ha
theorem wr_go [MonoH B] {ops:Array Oper} {i:Nat} {l:List Nat} {K:Post B} {t:Array Value} {z:Z} {h:Hp} {x:B.X} {o:Oper} {d:Deferred} (ho:ops[i]?=some o) (hw:Region.wanted o (yielded ops t)=true)
  (hx:∀ w,(execOp (evT t) o).runT P w #[]=(.ok (.spawn d) w,#[])) (hc:B.spawn d h x fun h' x'=>Wr P B kd ops l K (setDst o t undef) z h' x'):Wr P B kd ops (i::l) K t z h x :=
 fun main S C b k cs hb ha=>by
  refine C.spawn _ _ _ _ o d ⟨rfl,rfl,ops,i,l,k,rfl,ho,hw⟩ (fun w _=>by rw [eval_mkFr];exact hx w) (MonoH.spawn _ _ _ _ _ (fun h' x' q=>?_) hc)
  rw [finish_mkFr ho undef]
  exact q main S C b k cs hb ha
theorem wr_ghost [MonoH B] {ops:Array Oper} {l:List Nat} {K:Post B} {t:Array Value} {z:Z} {h:Hp} {x:B.X} (hc:B.ghost h x fun h' x'=>Wr P B kd ops l K t z h' x'):Wr P B kd ops l K t z h x :=
 fun main S C b k cs hb ha=>C.ghost _ _ _ _ (MonoH.ghost _ _ _ _ (fun h' x' q=>q main S C b k cs hb ha) hc)
variable {n:Nat} {K:Post B} {e:Env} {z:Z} {L:List HProp} {x:B.X}
theorem wo_act [MonoH B] {l:List OpG} {d:Option Nat} {op:Op} {ty:TypeId} {g:Option (Nat × Bool)} {R:Value→List HProp→B.X→Prop} (hg:gYes e g) (hk:kd≠.early)
  (ha:∀ t h (O:Next→Hp→B.X→Prop),Agree e t→Star L h→(∀ v L' x' h',R v L' x'→Star L' h'→O (.value v) h' x')→B.act (wakes (opOf op ty)) (execOp (evT t) (opOf op ty)) h x O)
  (k:∀ v L' x',R v L' x'→Wo P B kd n l K (setE d v e) z L' x'):Wo P B kd n (⟨d,op,ty,g⟩::l) K e z L x:=by
 intro ops idx h1 h2 t h a1 a2 a3
 obtain ⟨i,idx',oo,rfl,h3,h4,h5,h6,h7,h8⟩:=map_head h1
 refine wr_act h4 (wanted_yes a1 a2 h8 hg) hk ?_
 have hwk:wakes oo=wakes (opOf op ty):=by unfold wakes opOf;rw [h6]
 rw [execOp_of _ h6 h7,hwk]
 exact ha t h _ a2 a3 fun v L' x' h' r s=>⟨v,rfl,k v L' x' r ops idx' h3 (dOk_tail h2) _ h' ((setDst_size oo t v).trans a1) (a2.setE h5 (by rw [a1];exact dOk_head h2) v) s⟩
theorem wo_talk [MonoH B] {l:List OpG} {d:Option Nat} {op:Op} {ty:TypeId} {g:Option (Nat × Bool)} {cases:Array CommCase} {bl:Bool} {sh:CommShape} {R:Value→List HProp→B.X→Prop} (hg:gYes e g)
  (hx:∀ t w,Agree e t→(execOp (evT t) (opOf op ty)).runT P w #[]=(.ok (.comm cases bl sh) w,#[]))
  (ha:∀ h (O:Value→Hp→B.X→Prop),Star L h→(∀ v L' x' h',R v L' x'→Star L' h'→O v h' x')→B.comm cases bl sh h x O)
  (k:∀ v L' x',R v L' x'→Wo P B kd n l K (setE d v e) z L' x'):Wo P B kd n (⟨d,op,ty,g⟩::l) K e z L x:=by
 intro ops idx h1 h2 t h a1 a2 a3
 obtain ⟨i,idx',oo,rfl,h3,h4,h5,h6,h7,h8⟩:=map_head h1
 refine wr_talk h4 (wanted_yes a1 a2 h8 hg) (fun w=>by rw [execOp_of _ h6 h7];exact hx t w a2) ?_
 exact ha h _ a3 fun v L' x' h' r s=>k v L' x' r ops idx' h3 (dOk_tail h2) _ h' ((setDst_size oo t v).trans a1) (a2.setE h5 (by rw [a1];exact dOk_head h2) v) s
theorem wo_go [MonoH B] {l:List OpG} {d:Option Nat} {op:Op} {ty:TypeId} {g:Option (Nat × Bool)} {dd:Deferred} {R:List HProp→B.X→Prop} (hg:gYes e g)
  (hx:∀ t w,Agree e t→(execOp (evT t) (opOf op ty)).runT P w #[]=(.ok (.spawn dd) w,#[]))
  (ha:∀ h (O:Hp→B.X→Prop),Star L h→(∀ L' x' h',R L' x'→Star L' h'→O h' x')→B.spawn dd h x O)
  (k:∀ L' x',R L' x'→Wo P B kd n l K (setE d undef e) z L' x'):Wo P B kd n (⟨d,op,ty,g⟩::l) K e z L x:=by
 intro ops idx h1 h2 t h a1 a2 a3
 obtain ⟨i,idx',oo,rfl,h3,h4,h5,h6,h7,h8⟩:=map_head h1
 refine wr_go h4 (wanted_yes a1 a2 h8 hg) (fun w=>by rw [execOp_of _ h6 h7];exact hx t w a2) ?_
 exact ha h _ a3 fun L' x' h' r s=>k L' x' r ops idx' h3 (dOk_tail h2) _ h' ((setDst_size oo t undef).trans a1) (a2.setE h5 (by rw [a1];exact dOk_head h2) undef) s
theorem wo_ghost [MonoH B] {l:List OpG} {L':List HProp} {x':B.X} (ha:∀ h (O:Hp→B.X→Prop),Star L h→(∀ h',Star L' h'→O h' x')→B.ghost h x O) (k:Wo P B kd n l K e z L' x'):Wo P B kd n l K e z L x :=
 fun ops idx h1 h2 t h a1 a2 a3=>wr_ghost (ha h _ a3 fun h' s=>k ops idx h1 h2 t h' a1 a2 s)
end
def fro (b o:Nat) (vs:List Value):HProp:=fun h=>∀ (i:Nat) v,vs[i]?=some v→h.ro b (o+i)=some v
theorem Rd.fro {b o k n:Nat} {vs:List Value} {L:List HProp} {v:Value} (hk:vs[k]?=some v) (hn:n=o+k):Rd (fro b o vs::L) b n v:=by
 rintro h ⟨h1,h2,s,ha,_⟩
 subst hn
 exact ⟨rfl,.inr (s.r1 _ _ _ (ha k v hk))⟩
theorem fro_two {b o:Nat} {vs:List Value} {L:List HProp} {h:Hp} (s:Star (fro b o vs::L) h):Star (fro b o vs::fro b o vs::L) h:=by
 obtain ⟨h1,h2,s1,ha,hL⟩:=s
 exact ⟨⟨fun _ _=>none,h1.ro,fun _=>none,fun _=>none⟩,h,⟨fun _ _ _ e=>s1.r1 _ _ _ e,fun _ _ _ e=>e,fun _ _ _ e=>by simp at e,fun _ _ _ e=>e,fun _ _=>.inl rfl,fun _ _ e=>by simp at e,fun _ _ e=>e,fun _=>.inl rfl,fun _ _ e=>by simp at e,fun _ _ e=>e⟩,ha,h1,h2,s1,ha,hL⟩
theorem star_frz {b o:Nat} {vs:List Value} {L:List HProp} {h:Hp} (hf:∃ w,Fits h w) (s:Star (arr b o vs::L) h):∃ h1,Frz h h1∧Star (fro b o vs::L) h1:=by
 obtain ⟨w,f⟩:=hf
 obtain ⟨h1,h2,s1,ha,hL⟩:=s
 -- of the row's cells: read alone
 let In:Nat→Nat→Prop:=fun b' o'=>b'=b∧o≤o'∧o'<o+vs.length
 have own_in:∀ b' o',In b' o'→∃ v,vs[o'-o]?=some v∧h.own b' o'=some v:=by
  rintro b' o' ⟨rfl,a1,a2⟩
  have hlt:o'-o<vs.length:=by omega
  refine ⟨vs[o'-o],List.getElem?_eq_getElem hlt,?_⟩
  have:=s1.o1 _ _ _ (ha (o'-o) _ (List.getElem?_eq_getElem hlt))
  rwa [show o+(o'-o)=o' by omega] at this
 have own2:∀ b' o',In b' o'→h2.own b' o'=none:=by
  rintro b' o' ⟨rfl,a1,a2⟩
  have hlt:o'-o<vs.length:=by omega
  have:=ha (o'-o) _ (List.getElem?_eq_getElem hlt)
  rw [show o+(o'-o)=o' by omega] at this
  exact (s1.od _ _).resolve_left (by rw [this];simp)
 have dec:∀ b' o',Decidable (In b' o'):=fun _ _=>Classical.propDecidable _
 refine ⟨⟨fun b' o'=>if In b' o' then none else h.own b' o',fun b' o'=>if In b' o' then vs[o'-o]? else h.ro b' o',h.obj,h.shp⟩,⟨fun b' o' v e=>?_,fun b' o' v e=>?_,fun _ _ e=>e,fun _ _ e=>e⟩,
  ⟨fun _ _=>none,fun b' o'=>if In b' o' then vs[o'-o]? else none,fun _=>none,fun _=>none⟩,h2,⟨fun b' o' v e=>?_,fun b' o' v e=>?_,fun _ _ _ e=>by simp at e,fun b' o' v e=>?_,fun _ _=>.inl rfl,fun _ _ e=>by simp at e,s1.b2,fun _=>.inl rfl,fun _ _ e=>by simp at e,s1.s2⟩,?_,hL⟩
 ·simp only at e;split at e
  ·cases e
  ·exact e
 ·simp only at e ⊢
  split at e
  ·rename_i hi
   obtain ⟨u,hu,ho⟩:=own_in _ _ hi
   rw [hu] at e;cases e
   exact .inr ⟨ho,by rw [if_pos hi]⟩
  ·exact .inl e
 ·simp only at e ⊢
  split at e
  ·rename_i hi;rw [if_pos hi];exact e
  ·cases e
 ·simp only
  split
  ·rename_i hi
   obtain ⟨u,hu,ho⟩:=own_in _ _ hi
   have:=f.disj _ _ _ ho
   rw [s1.r2 _ _ _ e] at this;cases this
  ·exact s1.r2 _ _ _ e
 ·simp only
  split
  ·rename_i hi;rw [own2 _ _ hi] at e;cases e
  ·exact s1.o2 _ _ _ e
 ·intro i v e
  have hlt:=(List.getElem?_eq_some_iff.1 e).1
  simp only
  rw [if_pos ⟨rfl,by omega,by omega⟩,show o+i-o=i by omega]
  exact e
instance {P:Program} {cv:Value}:Chans (tHand P cv):=⟨fun _ _ _ _ _ _ _ hk h=>MonoH.comm _ _ _ _ _ _ _ hk h,fun c v z cap buf s r tm h x k e h1 h2=>.inr (.inl ⟨rfl,rfl,c,v,z,cap,buf,s,r,tm,rfl,e,h1,h2⟩)⟩
instance {P:Program} {cv:Value} {done:FuncId} {wgT:TypeId}:Chans (mHand P cv done wgT):=⟨fun _ _ _ _ _ _ _ hk h=>MonoH.comm _ _ _ _ _ _ _ hk h,fun c v z cap buf s r tm h x k e h1 h2=>.inr ⟨rfl,rfl,c,v,z,cap,buf,s,r,tm,rfl,e,h1,h2⟩⟩
class Frzs (B:Hand):Prop where
 ok:∀ h x (O:Hp→B.X→Prop),((∃ w,Fits h w)→∃ h1,Frz h h1∧O h1 x)→B.ghost h x O
instance {P:Program} {cv:Value} {done:FuncId} {wgT:TypeId}:Frzs (mHand P cv done wgT):=⟨fun _ _ _ h hw=>.inl (h hw)⟩
theorem wo_frz {P:Program} {B:Hand} {kd:CallKind} [MonoH B] [Frzs B] {n:Nat} {K:Post B} {e:Env} {z:Z} {L R:List HProp} {x:B.X} {l:List OpG} {b o:Nat} {vs:List Value} (hh:Has L (arr b o vs) R) (k:Wo P B kd n l K e z (fro b o vs::R) x):Wo P B kd n l K e z L x :=
 wo_ghost (fun h O s q=>Frzs.ok _ _ _ fun hw=>let ⟨h1,z,s1⟩:=star_frz hw (hh.star s);⟨h1,z,q h1 s1⟩) k
end Go.PB
namespace Go.PB
open Go.Conc
section
variable {P:Program}
theorem exec_call {e:Env} {f:Nat} {args:List Operand} {vs:List Value} {tys:Array TypeId} {ty:TypeId} {t:Array Value} (ha:EvL e args vs) (ag:Agree e t):execOp (evT t) (opOf (.call ⟨.value (.func f),args.toArray,tys⟩) ty)=callFunc f vs.toArray:=by
 have hargs:=ha.evT ag
 show callFunc f ((#[]++args.toArray.map (evT t))++#[])=_
 rw [List.map_toArray,hargs];simp
theorem callFunc_def {f:Nat} {en:Array Value→Sem Value} [x:Exn P f en] {args:Array Value} {w:World}:(callFunc f args).runT P w #[]=(Sem.bind (en args) fun v=>pure (.value v)).runT P w #[⟨.mark (.extern f),false,true⟩]:=by
 obtain ⟨fn,hg,hn,hb,h1,h2⟩:=x.ok
 show ((match P.funcs[f]? with
  | none=>stuck "call: no such function"
  | some fn =>
   if fn.name == "runtime.NumGoroutine" then pure .numGoroutine
   else if fn.body.isNone then (do
    mark (.extern f)
    if let some e:=Extern.findNext fn then return ← e args
    match Extern.find fn with
    | some e=>pure (.value (← e args))
    | none =>
     if fn.name.endsWith ".init" && !fn.name.startsWith "(" && !fn.name.startsWith "gosem." then pure (.value (.tuple #[]))
     else unsupported (.extern fn.name))
   else pure (.enter f args):Sem Next)).runT P w #[]=_
 rw [hg]
 simp only [hn,hb,if_neg Bool.false_ne_true,if_true,h1,h2]
 rfl
theorem ext_runT {f:Nat} {en:Array Value→Sem Value} [x:Exn P f en] {args:Array Value} {w w':World} {v:Value} {es:Array Event} (h:(en args).runT P w #[⟨.mark (.extern f),false,true⟩]=(.ok v w',es)):(callFunc f args).runT P w #[]=(.ok (.value v) w',es):=by
 rw [callFunc_def,Sem.runT_bind',h];rfl
theorem ext_halt {f:Nat} {en:Array Value→Sem Value} [x:Exn P f en] {args:Array Value} {w w':World} {q:Halt} {es:Array Event} (h:(en args).runT P w #[⟨.mark (.extern f),false,true⟩]=(.halt q w',es)):(callFunc f args).runT P w #[]=(.halt q w',es):=by
 rw [callFunc_def,Sem.runT_bind',h]
theorem says_disable {f:Nat} [x:Exn P f (fun _=>(do mark .disable;pure Extern.Race.none_:Sem Value))] {args:Array Value}:Says P (callFunc f args) .disable:=⟨f,fun w=>ext_runT (v:=unit) rfl⟩
theorem says_enable {f:Nat} [x:Exn P f (fun _=>(do mark .enable;pure Extern.Race.none_:Sem Value))] {args:Array Value}:Says P (callFunc f args) .enable:=⟨f,fun w=>ext_runT (v:=unit) rfl⟩
theorem says_marked {f:Nat} {m:Addr→Mark} [x:Exn P f (Extern.Race.marked m)] {a:Addr}:Says P (callFunc f [Value.pointer (some a)].toArray) (m a):=⟨f,fun w=>ext_runT (v:=unit) rfl⟩
theorem und_runT {t:TypeId} {dd:TypeDesc} {α:Type} {k:TypeDesc→Sem α} {w:World} {es:Array Event} (h:P.underlying t=some dd):(Sem.bind (underlying t) k).runT P w es=(k dd).runT P w es:=by
 show (Sem.bind (match P.underlying t with | some d=>pure d | none=>stuck "no such type") k).runT P w es=_
 rw [h];rfl
theorem load_runT {a:Addr} {v:Value} {w:World} {es:Array Event} {α:Type} {k:Value→Sem α} (h:w.cell? a=some v):(Sem.bind (load a .atomic) k).runT P w es=(k v).runT P w (es.push ⟨.cell a,false,true⟩):=by
 show (Sem.load .atomic a fun v=>k v).runT P w es=_
 simp only [Sem.runT,h];rfl
theorem store_runT {a:Addr} {v0 v:Value} {w:World} {es:Array Event} {α:Type} {k:Unit→Sem α} (h:w.cell? a=some v0) (hf:w.frozen? a=false) (hv:one v=true):(Sem.bind (store a v .atomic) k).runT P w es=(k ()).runT P (w.setCell a v) (es.push ⟨.cell a,true,true⟩):=by
 show (Sem.store .atomic a v (k ())).runT P w es=_
 cases v <;> first | (simp only [Sem.runT,h,hf];rfl) | cases hv
theorem read_runT {k:IntKind} {a:Addr} {n:Int} {w:World} {es:Array Event} {α:Type} {kk:Value→Sem α} (h:w.cell? a=some (.int k n)):(Sem.bind (Extern.Atomic.read (.int k) a) kk).runT P w es=(kk (.int k n)).runT P w (es.push ⟨.cell a,false,true⟩):=by
 show (Sem.bind (Sem.bind (load a .atomic) fun v=>match Extern.Atomic.T.int k,v with
  | .int k,.int k' _=>if k=k' then pure v else unsupported (.unsafePointer "atomic: a cell of another type")
  | .int .u64,.pointer (some _)=>pure v
  | .ptr,.pointer _=>pure v
  | _,_=>unsupported (.unsafePointer "atomic: a cell of another type")) kk).runT P w es=_
 rw [Sem.runT_bind',load_runT h]
 simp only [if_true]
 rfl
theorem looks_load {f:Nat} [x:Exn P f (Extern.Atomic.loadT (.int .u64))] {a:Addr}:Looks P (callFunc f [Value.pointer (some a)].toArray) a:=⟨f,fun w n h=>ext_runT (by
 show (Extern.Atomic.read (.int .u64) a).runT P w _=_
 have:=read_runT (P:=P) (α:=Value) (kk:=fun v=>pure v) (es:=#[⟨.mark (.extern f),false,true⟩]) h
 rw [Sem.runT_bind'] at this
 revert this
 cases (Extern.Atomic.read (.int .u64) a).runT P w #[⟨.mark (.extern f),false,true⟩] with
 | mk r es'=>cases r <;> intro h <;> exact h)⟩
theorem adds_add {f:Nat} [x:Exn P f (Extern.Atomic.update (Op.intArith .add) .u64 true)] {a:Addr} {d:Int}:Adds P (callFunc f [Value.pointer (some a),.int .u64 d].toArray) a d:=⟨f,fun w n h hf=>ext_runT (by
 show (Sem.bind (Extern.Atomic.read (.int .u64) a) fun old=>Sem.bind (asInt old) fun x=>Sem.bind (Op.intArith .add .u64 x d) fun new=>Sem.bind (store a new .atomic) fun _=>pure new).runT P w _=_
 rw [read_runT h]
 show (Sem.bind (store a (Value.int .u64 (IntKind.u64.wrap (n+d))) .atomic) fun _=>(pure (Value.int .u64 (IntKind.u64.wrap (n+d))):Sem Value)).runT P w _=_
 rw [store_runT h hf rfl]
 rfl)⟩
theorem touch_runT {a:Addr} {v:Value} {w:World} {es:Array Event} {α:Type} {k:Bool→Sem α} (h:w.cell? a=some v) (hf:w.frozen? a=false):(Sem.bind (Extern.Atomic.touchesFrozen a) k).runT P w es=(k false).runT P w es:=by
 have hs:∃ y,w.shape? a.block=some y:=by
  unfold World.cell? at h
  unfold World.shape?
  cases hb:w.heap[a.block]? with
  | none=>rw [hb] at h;simp at h
  | some ob=>cases ob <;> rw [hb] at h <;> first | exact ⟨_,rfl⟩ | simp at h
 obtain ⟨y,hs⟩:=hs
 show (Sem.shape a.block fun q=>Sem.bind (Sem.bind (if q.isSome then pure none else Sem.bind (getObj a.block) fun o=>match o with | .view a t=>pure (some (a,t)) | _=>pure none) fun x=>match x with
  | none=>frozen a
  | some (at_,ta_)=>Sem.bind (typeInfo ta_) fun i=>if i.bytes > 4096 then Sem.bind (unsupported (.unsafePointer "memory seen as another type")) fun _=>(List.range i.bytes).anyM fun i=>frozen { at_ with off:=at_.off+i,spot:=none } else (List.range i.bytes).anyM fun i=>frozen { at_ with off:=at_.off+i,spot:=none }) k).runT P w es=_
 simp only [Sem.runT,hs,Option.isSome_some,if_true]
 show (Sem.frozen a fun q=>k q).runT P w es=_
 simp only [Sem.runT,hf]
theorem swaps_cas {f:Nat} [x:Exn P f (Extern.Atomic.casT (.int .u64))] {a:Addr} {old new:Int}:Swaps P (callFunc f [Value.pointer (some a),.int .u64 old,.int .u64 new].toArray) a old new:=⟨f,fun w n h hf=>by
 have key:∀ es,(Extern.Atomic.casT (.int .u64) [Value.pointer (some a),.int .u64 old,.int .u64 new].toArray).runT P w es=(if (n == old)=true then Sem.bind (store a (Value.int .u64 new) .atomic) fun _=>(pure (Value.bool (n == old)):Sem Value) else pure (Value.bool (n == old))).runT P w (es.push ⟨.cell a,false,true⟩):=by
  intro es
  show (Sem.bind (Extern.Atomic.touchesFrozen a) fun fz=>if fz then _ else _).runT P w es=_
  rw [touch_runT h hf,if_neg (by simp)]
  show (Sem.bind (Extern.Atomic.read (.int .u64) a) _).runT P w es=_
  rw [read_runT h]
  rfl
 refine ⟨fun hn=>ext_runT ?_,fun hn=>ext_runT ?_⟩
 ·rw [key,if_pos (by simpa using hn),store_runT h hf rfl]
  simp [hn,pure,Sem.runT]
 ·rw [key,if_neg (by simpa using hn)]
  simp [hn,pure,Sem.runT]⟩
theorem sems_acq {f:Nat} [x:Exn P f Extern.Sync.semacquire] {a:Addr} {q:Value}:Sems P (callFunc f [Value.pointer (some a),q].toArray) a:=⟨f,fun w n h hf=>by
 have key:∀ es,(Extern.Sync.semacquire [Value.pointer (some a),q].toArray).runT P w es=(if n=0 then Sem.bind (.halt .blocked) fun (_:Unit)=>Sem.bind (store a (Value.int .u32 (n-1)) .atomic) fun _=>Sem.bind (mark .enable) fun _=>(pure unit:Sem Value) else Sem.bind (store a (Value.int .u32 (n-1)) .atomic) fun _=>Sem.bind (mark .enable) fun _=>(pure unit:Sem Value)).runT P w ((es.push ⟨.mark .disable,false,true⟩).push ⟨.cell a,false,true⟩):=by
  intro es
  show (Sem.bind (load a .atomic) _).runT P w (es.push ⟨.mark .disable,false,true⟩)=_
  rw [load_runT h]
  rfl
 refine ⟨fun hn=>?_,fun hn=>ext_runT ?_⟩
 ·subst hn
  refine ⟨#[⟨.mark (.extern f),false,true⟩,⟨.mark .disable,false,true⟩,⟨.cell a,false,true⟩],ext_halt (w':=w) ?_⟩
  rw [key,if_pos rfl]
  rfl
 ·subst hn
  rw [key,if_neg (by decide),store_runT h hf rfl]
  rfl⟩
theorem shuts_close {e:Env} {t:Array Value} {o:Operand} {tys:Array TypeId} {ty:TypeId} {b:Nat} (hx:ev e o=some (.chan (some b))) (ag:Agree e t):Shuts P (execOp (evT t) (opOf (.call ⟨.builtin .close,#[o],tys⟩) ty)) b:=fun w n m tm h=>by
 show (Sem.bind (Builtin.close_ tys ty (#[o].map (evT t))) fun v=>(pure (.value v):Sem Next)).runT P w #[]=_
 rw [show #[o].map (evT t)=#[.chan (some b)] by simp [ag.ev hx]]
 show (Sem.bind (Sem.bind (getObj b) _) _).runT P w #[]=_
 show (Sem.getObj b _).runT P w #[]=_
 simp only [Sem.runT,h,Obj.isChan]
 show (Sem.setObj b _ _).runT P w _=_
 simp only [Sem.runT,h,Obj.isChan]
 rfl
end
theorem ends_eq {X:GX} {df:Bool} {wt:Wst}:GX.ends { X with deaf:=df,wt:=wt }=X.ends:=by
 cases X with
 | mk g wg seats tok left ad deaf wt0 free nf=>cases free <;> rfl
section
variable {P:Program} {cv:Value} {done:FuncId} {wgT:TypeId} {kd:CallKind} {n:Nat} {K:Post (mHand P cv done wgT)} {e:Env} {z:Z} {L R:List HProp} {X:GX} {l:List OpG} {d:Option Nat} {ty:TypeId} {g:Option (Nat × Bool)} {tys:Array TypeId}
theorem wo_mact {op:Op} {R:Value→List HProp→MX→Prop} (hg:gYes e g) (hk:kd≠.early)
  (ha:∀ t h (O:Next→Hp→MX→Prop),Agree e t→Star L h→(∀ v L' x' h',R v L' x'→Star L' h'→O (.value v) h' x')→MAct P (wakes (opOf op ty)) (execOp (evT t) (opOf op ty)) h X O)
  (k:∀ v L' x',R v L' x'→Wo P (mHand P cv done wgT) kd n l K (setE d v e) z L' x'):Wo P (mHand P cv done wgT) kd n (⟨d,op,ty,g⟩::l) K e z L (.game X) :=
 wo_act (R:=R) hg hk (fun t h O a s q=>⟨X,rfl,ha t h O a s q⟩) k
theorem wo_disable {f:Nat} [x:Exn P f (fun _=>(do mark .disable;pure Extern.Race.none_:Sem Value))] (hg:gYes e g) (hk:kd≠.early) (hd:X.deaf=false) (k:Wo P (mHand P cv done wgT) kd n l K (setE d unit e) z L (.game { X with deaf:=true })) :
  Wo P (mHand P cv done wgT) kd n (⟨d,.call ⟨.value (.func f),#[],tys⟩,ty,g⟩::l) K e z L (.game X) :=
 wo_mact (R:=fun v L' x'=>v=unit∧L'=L∧x'=.game { X with deaf:=true }) hg hk (fun t h O a s q=>.disable hd (by rw [exec_call (args:=[]) .nil a];exact says_disable) (q _ _ _ h ⟨rfl,rfl,rfl⟩ s)) (by rintro _ _ _ ⟨rfl,rfl,rfl⟩;exact k)
theorem wo_enable {f:Nat} [x:Exn P f (fun _=>(do mark .enable;pure Extern.Race.none_:Sem Value))] (hg:gYes e g) (hk:kd≠.early) (hd:X.deaf=true) (k:Wo P (mHand P cv done wgT) kd n l K (setE d unit e) z L (.game { X with deaf:=false })) :
  Wo P (mHand P cv done wgT) kd n (⟨d,.call ⟨.value (.func f),#[],tys⟩,ty,g⟩::l) K e z L (.game X) :=
 wo_mact (R:=fun v L' x'=>v=unit∧L'=L∧x'=.game { X with deaf:=false }) hg hk (fun t h O a s q=>.enable hd (by rw [exec_call (args:=[]) .nil a];exact says_enable) (q _ _ _ h ⟨rfl,rfl,rfl⟩ s)) (by rintro _ _ _ ⟨rfl,rfl,rfl⟩;exact k)
theorem wo_mark {f:Nat} {m:Addr→Mark} [x:Exn P f (Extern.Race.marked m)] {o:Operand} (hx:ev e o=some (.pointer (some ⟨X.wg,1,none⟩))) (hm:m ⟨X.wg,1,none⟩=.read ⟨X.wg,1,none⟩∨m ⟨X.wg,1,none⟩=.write ⟨X.wg,1,none⟩) (hg:gYes e g) (hk:kd≠.early) (k:Wo P (mHand P cv done wgT) kd n l K (setE d unit e) z L (.game X)) :
  Wo P (mHand P cv done wgT) kd n (⟨d,.call ⟨.value (.func f),#[o],tys⟩,ty,g⟩::l) K e z L (.game X) :=
 wo_mact (R:=fun v L' x'=>v=unit∧L'=L∧x'=.game X) hg hk (fun t h O a s q=>.read _ hm (by rw [exec_call (args:=[o]) (.cons hx .nil) a];exact says_marked) (q _ _ _ h ⟨rfl,rfl,rfl⟩ s)) (by rintro _ _ _ ⟨rfl,rfl,rfl⟩;exact k)
theorem wo_acquire {f:Nat} [x:Exn P f (Extern.Race.marked .acquire)] {o:Operand} (hx:ev e o=some (.pointer (some ⟨X.wg,0,none⟩))) (p:X.wt=.zero) (hd:X.deaf=false) (hn:∀ d,X.free=some d→X.nf=d.q0.length) (hg:gYes e g) (hk:kd≠.early) (k:Wo P (mHand P cv done wgT) kd n l K (setE d unit e) z (X.ends::L) .idle) :
  Wo P (mHand P cv done wgT) kd n (⟨d,.call ⟨.value (.func f),#[o],tys⟩,ty,g⟩::l) K e z L (.game X) :=
 wo_mact (R:=fun v L' x'=>v=unit∧L'=X.ends::L∧x'=.idle) hg hk (fun t h O a s q=>.acquire p hd hn (by rw [exec_call (args:=[o]) (.cons hx .nil) a];exact says_marked) (fun r h' h1 h2=>q _ _ _ h' ⟨rfl,rfl,rfl⟩ ⟨r,h,h2.swap,h1,s⟩)) (by rintro _ _ _ ⟨rfl,rfl,rfl⟩;exact k)
theorem wo_add {f:Nat} [x:Exn P f (Extern.Atomic.update (Op.intArith .add) .u64 true)] {o y:Operand} (hx:ev e o=some (.pointer (some ⟨X.wg,0,none⟩))) (hy:ev e y=some (.int .u64 4294967296)) (p:X.wt=.play) (h1:X.ad<1000) (h2:X.ad=X.seats.length+X.nf) (tk:X.tok.isSome=true) (hd:X.deaf=true) (hg:gYes e g) (hk:kd≠.early)
  (k:∀ v:Nat,v≤X.ad→Wo P (mHand P cv done wgT) kd n l K (setE d (.int .u64 ((v+1:Nat)*kk)) e) z L (.game { X with ad:=X.ad+1 })) :
  Wo P (mHand P cv done wgT) kd n (⟨d,.call ⟨.value (.func f),#[o,y],tys⟩,ty,g⟩::l) K e z L (.game X) :=
 wo_mact (R:=fun v L' x'=>∃ m:Nat,m≤X.ad∧v=.int .u64 ((m+1:Nat)*kk)∧L'=L∧x'=.game { X with ad:=X.ad+1 }) hg hk (fun t h O a s q=>.add p h1 h2 tk hd (by rw [exec_call (args:=[o,y]) (.cons hx (.cons hy .nil)) a];exact adds_add) (fun v hv=>q _ _ _ h ⟨v,hv,rfl,rfl,rfl⟩ s)) (by rintro _ _ _ ⟨m,hm,rfl,rfl,rfl⟩;exact k m hm)
theorem wo_look {f:Nat} [x:Exn P f (Extern.Atomic.loadT (.int .u64))] {o:Operand} (b:Nat) (hx:ev e o=some (.pointer (some ⟨X.wg,0,none⟩))) (p:X.wt=.wait b∨(X.wt=.play∧b=X.ad∧X.ad=X.seats.length+X.nf∧∀ s∈X.seats,s.closed)) (hd:X.deaf=true) (hg:gYes e g) (hk:kd≠.early)
  (k:∀ v:Nat,0<v→v≤b→Wo P (mHand P cv done wgT) kd n l K (setE d (.int .u64 (v*kk)) e) z L (.game { X with wt:=.seen v })) (k0:Wo P (mHand P cv done wgT) kd n l K (setE d (.int .u64 0) e) z L (.game { X with wt:=.zero })) :
  Wo P (mHand P cv done wgT) kd n (⟨d,.call ⟨.value (.func f),#[o],tys⟩,ty,g⟩::l) K e z L (.game X) :=
 wo_mact (R:=fun v L' x'=>(∃ m:Nat,0<m∧m≤b∧v=.int .u64 (m*kk)∧L'=L∧x'=.game { X with wt:=.seen m })∨(v=.int .u64 0∧L'=L∧x'=.game { X with wt:=.zero })) hg hk
  (fun t h O a s q=>.look b p hd (by rw [exec_call (args:=[o]) (.cons hx .nil) a];exact looks_load) (fun v h1 h2=>q _ _ _ h (.inl ⟨v,h1,h2,rfl,rfl,rfl⟩) s) (q _ _ _ h (.inr ⟨rfl,rfl,rfl⟩) s))
  (by rintro _ _ _ (⟨m,h1,h2,rfl,rfl,rfl⟩ | ⟨rfl,rfl,rfl⟩);exact k m h1 h2;exact k0)
theorem wo_last {f:Nat} [x:Exn P f (Extern.Atomic.loadT (.int .u64))] {o:Operand} (hx:ev e o=some (.pointer (some ⟨X.wg,0,none⟩))) (p:X.wt=.woken) (hd:X.deaf=true) (hg:gYes e g) (hk:kd≠.early)
  (k0:Wo P (mHand P cv done wgT) kd n l K (setE d (.int .u64 0) e) z L (.game { X with wt:=.zero })) :
  Wo P (mHand P cv done wgT) kd n (⟨d,.call ⟨.value (.func f),#[o],tys⟩,ty,g⟩::l) K e z L (.game X) :=
 wo_mact (R:=fun v L' x'=>v=.int .u64 0∧L'=L∧x'=.game { X with wt:=.zero }) hg hk
  (fun t h O a s q=>.last p hd (by rw [exec_call (args:=[o]) (.cons hx .nil) a];exact looks_load) (q _ _ _ h ⟨rfl,rfl,rfl⟩ s)) (by rintro _ _ _ ⟨rfl,rfl,rfl⟩;exact k0)
theorem wo_swap {f:Nat} [x:Exn P f (Extern.Atomic.casT (.int .u64))] {o o1 o2:Operand} {v:Nat} (hx:ev e o=some (.pointer (some ⟨X.wg,0,none⟩))) (h1:ev e o1=some (.int .u64 (v*kk))) (h2:ev e o2=some (.int .u64 (v*kk+1))) (hv:0<v) (p:X.wt=.seen v) (hd:X.deaf=true) (hg:gYes e g) (hk:kd≠.early)
  (k:Wo P (mHand P cv done wgT) kd n l K (setE d (.bool true) e) z L (.game { X with wt:=.parked })) (k0:∀ b,b<v→Wo P (mHand P cv done wgT) kd n l K (setE d (.bool false) e) z L (.game { X with wt:=.wait b })) :
  Wo P (mHand P cv done wgT) kd n (⟨d,.call ⟨.value (.func f),#[o,o1,o2],tys⟩,ty,g⟩::l) K e z L (.game X) :=
 wo_mact (R:=fun w L' x'=>(w=.bool true∧L'=L∧x'=.game { X with wt:=.parked })∨∃ b,b<v∧w=.bool false∧L'=L∧x'=.game { X with wt:=.wait b }) hg hk
  (fun t h O a s q=>.swap v hv p hd (by rw [exec_call (args:=[o,o1,o2]) (.cons hx (.cons h1 (.cons h2 .nil))) a];exact swaps_cas) (q _ _ _ h (.inl ⟨rfl,rfl,rfl⟩) s) (fun b hb=>q _ _ _ h (.inr ⟨b,hb,rfl,rfl,rfl⟩) s))
  (by rintro _ _ _ (⟨rfl,rfl,rfl⟩ | ⟨b,hb,rfl,rfl,rfl⟩);exact k;exact k0 b hb)
theorem wo_sem {f:Nat} [x:Exn P f Extern.Sync.semacquire] {o o1:Operand} {v1:Value} (hx:ev e o=some (.pointer (some ⟨X.wg,1,none⟩))) (h1:ev e o1=some v1) (p:X.wt=.parked) (hd:X.deaf=true) (hg:gYes e g) (hk:kd≠.early)
  (k:Wo P (mHand P cv done wgT) kd n l K (setE d unit e) z L (.game { X with wt:=.woken })) :
  Wo P (mHand P cv done wgT) kd n (⟨d,.call ⟨.value (.func f),#[o,o1],tys⟩,ty,g⟩::l) K e z L (.game X) :=
 wo_mact (R:=fun w L' x'=>w=unit∧L'=L∧x'=.game { X with wt:=.woken }) hg hk
  (fun t h O a s q=>.sem p hd (by rw [exec_call (args:=[o,o1]) (.cons hx (.cons h1 .nil)) a];exact sems_acq) (q _ _ _ h ⟨rfl,rfl,rfl⟩ s)) (by rintro _ _ _ ⟨rfl,rfl,rfl⟩;exact k)
theorem wo_shut {o:Operand} {j:Nat} {c:Seat X.g.σ X.g.θ} {q0:X.g.θ} (hx:ev e o=some (.chan (some c.fin))) (p:X.wt=.play) (hd:X.deaf=false) (ad:X.ad=X.seats.length) (tk:X.tok.isSome=true) (hj:X.seats[j]?=some c) (st:c.st=.said q0) (hg:gYes e g) (hk:kd≠.early)
  (k:Wo P (mHand P cv done wgT) kd n l K (setE d unit e) z L (.game { X with seats:=X.seats.set j { c with st:=.shut q0 } })) :
  Wo P (mHand P cv done wgT) kd n (⟨d,.call ⟨.builtin .close,#[o],tys⟩,ty,g⟩::l) K e z L (.game X) :=
 wo_mact (R:=fun w L' x'=>w=unit∧L'=L∧x'=.game { X with seats:=X.seats.set j { c with st:=.shut q0 } }) hg hk
  (fun t h O a s q=>.shut j c q0 p hd ad tk hj st rfl (shuts_close hx a) (q _ _ _ h ⟨rfl,rfl,rfl⟩ s)) (by rintro _ _ _ ⟨rfl,rfl,rfl⟩;exact k)
theorem wo_hear {ct el:TypeId} {dr:ChanDir} {zv:Value} {o:Operand} {j:Nat} {c:Seat X.g.σ X.g.θ} {s:X.g.σ} {q:X.g.θ} [pu:Und P ct (.chan dr el)] [zr:Zer P el zv] (hx:ev e o=some (.chan (some c.says))) (p:X.wt=.play) (hd:X.deaf=false) (hj:X.seats[j]?=some c) (st:c.st=.run s q) (tk:X.tok=none) (hg:gYes e g)
  (k:Wo P (mHand P cv done wgT) kd n l K (setE d (X.g.says q) e) z (X.g.U s::L) (.game { X with tok:=some s,seats:=X.seats.set j { c with st:=.said q } })) :
  Wo P (mHand P cv done wgT) kd n (⟨d,.recv ct o false,ty,g⟩::l) K e z L (.game X) :=
 wo_talk (cases:=#[rcase c.says zv]) (bl:=true) (sh:=.recv false) (R:=fun w L' x'=>w=X.g.says q∧L'=X.g.U s::L∧x'=.game { X with tok:=some s,seats:=X.seats.set j { c with st:=.said q } }) hg
  (fun t w ag=>by
   show (Sem.bind (underlying ct) fun dd=>match dd with
    | .chan _ el=>Sem.bind (zeroValue el) fun zv=>(pure (.comm #[{ chan:=evT t o,send:=none,zero:=zv }] true (.recv false)):Sem Next)
    | _=>stuck "receive: channel type expected").runT P w #[]=_
   rw [und_runT pu.ok]
   show (Sem.bind (zeroValue el) _).runT P w #[]=_
   rw [runT_zero zr.ok,ag.ev hx];rfl)
  (fun h O st' qq=>.inl ⟨rfl,X,j,c,rfl,p,hd,hj,.inl ⟨zv,s,q,rfl,rfl,st,tk,fun r h' hr hs=>qq _ _ _ h' ⟨rfl,rfl,rfl⟩ ⟨r,h,hs.swap,hr,st'⟩⟩⟩)
  (by rintro _ _ _ ⟨rfl,rfl,rfl⟩;exact k)
theorem wo_turn {o y:Operand} {j lf:Nat} {c:Seat X.g.σ X.g.θ} {s:X.g.σ} {q:X.g.θ} {m:Int × Int} {f:X.g.σ→X.g.σ × X.g.θ} (hx:ev e o=some (.chan (some c.turn))) (hy:ev e y=some (.agg #[])) (p:X.wt=.play) (hd:X.deaf=false) (hj:X.seats[j]?=some c) (st:c.st=.said q) (pl:X.g.plan q=some (m,f)) (tk:X.tok=some s) (lf_:X.left=lf+1) (ad:X.ad=X.seats.length) (ok:X.g.ok s) (hh:Has L (X.g.U s) R) (hg:gYes e g)
  (k:Wo P (mHand P cv done wgT) kd n l K (setE d undef e) z R (.game { X with tok:=none,left:=lf,seats:=X.seats.set j { c with st:=.run (f s).1 (f s).2 } })) :
  Wo P (mHand P cv done wgT) kd n (⟨d,.send o y,ty,g⟩::l) K e z L (.game X) :=
 wo_talk (cases:=#[scase c.turn (.agg #[]) (.tuple #[])]) (bl:=true) (sh:=.send) (R:=fun w L' x'=>w=undef∧L'=R∧x'=.game { X with tok:=none,left:=lf,seats:=X.seats.set j { c with st:=.run (f s).1 (f s).2 } }) hg
  (fun t w ag=>by
   show ((pure (.comm #[{ chan:=evT t o,send:=some (evT t y),zero:=.tuple #[] }] true .send):Sem Next)).runT P w #[]=_
   rw [ag.ev hx,ag.ev hy];rfl)
  (fun h O st' qq=>by
   obtain ⟨r,h',hs,hr,hL⟩:=hh.star st'
   exact .inl ⟨rfl,X,j,c,rfl,p,hd,hj,.inr ⟨.tuple #[],q,m,f,s,lf,h',r,rfl,rfl,st,pl,tk,lf_,ad,hs.swap,⟨ok,hr⟩,qq _ _ _ h' ⟨rfl,rfl,rfl⟩ hL⟩⟩)
  (by rintro _ _ _ ⟨rfl,rfl,rfl⟩;exact k)
end
end Go.PB
namespace Go.PB
open Go.Conc
section
variable {P:Program} {B:Hand} {kd:CallKind} {n:Nat} {K:Post B} {e:Env} {z:Z} {L R:List HProp} {x:B.X} {l:List OpG} {d:Option Nat} {ty:TypeId} {g:Option (Nat × Bool)} {tys:Array TypeId}
theorem resolve_val {e:Env} {t:Array Value} {fo:Operand} {fn:Fn} {first cap:List Value} {args:List Operand} {vs:List Value} (ag:Agree e t) (hf:ev e fo=some (.func fn first.toArray cap.toArray)) (ha:EvL e args vs) :
  resolve (evT t) ⟨.value fo,args.toArray,tys⟩ ty=pure { target:=.fn fn cap.toArray,args:=(first++vs).toArray }:=by
 show Deferred.ofValue (evT t fo) (args.toArray.map (evT t))=_
 rw [ag.ev hf,List.map_toArray,ha.evT ag]
 show pure _=_
 congr 2
 simp
theorem wo_defer {fo:Operand} {fn:Fn} {first cap:List Value} {args:List Operand} {vs:List Value} (hf:ev e fo=some (.func fn first.toArray cap.toArray)) (ha:EvL e args vs) (hg:gYes e g)
  (k:Wo P B kd n l K (setE d undef e) { z with d:={ target:=.fn fn cap.toArray,args:=(first++vs).toArray }::z.d } L x) :
  Wo P B kd n (⟨d,.defer ⟨.value fo,args.toArray,tys⟩,ty,g⟩::l) K e z L x:=by
 intro ops idx h1 h2 t h a1 a2 a3
 obtain ⟨i,idx',oo,rfl,h3,h4,h5,h6,h7,h8⟩:=map_head h1
 refine wr_op h4 (wanted_yes a1 a2 h8 hg) ?_
 rw [execOp_of _ h6 h7]
 show wpS P B.mark (Sem.bind (resolve (evT t) ⟨.value fo,args.toArray,tys⟩ ty) fun d=>pure (Next.defer d)) h _ _
 rw [resolve_val a2 hf ha]
 exact k ops idx' h3 (dOk_tail h2) _ h ((setDst_size oo t undef).trans a1) (a2.setE h5 (by rw [a1];exact dOk_head h2) undef) a3
theorem wo_panic {o:Operand} {u:TypeId} {v:Value} (hx:ev e o=some (.iface u v)) (hg:gYes e g) (k:At n e L fun t h=>K (.panic [{ v:=.iface u v,recovered:=false }]) t z h x) :
  Wo P B kd n (⟨d,.panic o,ty,g⟩::l) K e z L x:=by
 intro ops idx h1 h2 t h a1 a2 a3
 obtain ⟨i,idx',oo,rfl,h3,h4,h5,h6,h7,h8⟩:=map_head h1
 refine wr_op h4 (wanted_yes a1 a2 h8 hg) ?_
 rw [execOp_of _ h6 h7]
 show wpS P B.mark (Sem.bind (Instr.panic (evT t o)) fun v=>pure (Next.value v)) h _ _
 rw [a2.ev hx]
 exact k t h a1 a2 a3
theorem wo_recN (hg:gYes e g) (hk:kd=.deferred) (hu:z.um=.returning) (k:Wo P B kd n l K (setE d .nilIface e) z L x):Wo P B kd n (⟨d,.call ⟨.builtin .recover,#[],tys⟩,ty,g⟩::l) K e z L x:=by
 intro ops idx h1 h2 t h a1 a2 a3
 obtain ⟨i,idx',oo,rfl,h3,h4,h5,h6,h7,h8⟩:=map_head h1
 refine wr_op h4 (wanted_yes a1 a2 h8 hg) ?_
 rw [execOp_of _ h6 h7]
 refine ⟨hk,?_⟩
 rw [hu]
 exact k ops idx' h3 (dOk_tail h2) _ h ((setDst_size oo t _).trans a1) (a2.setE h5 (by rw [a1];exact dOk_head h2) _) a3
theorem wo_recP {v:Value} {older:List PanicEntry} (hg:gYes e g) (hk:kd=.deferred) (hu:z.um=.panicking ({ v,recovered:=false,goexit:=false }::older)) (k:Wo P B kd n l K (setE d v e) { z with um:=.panicking ({ v,recovered:=true }::older) } L x):Wo P B kd n (⟨d,.call ⟨.builtin .recover,#[],tys⟩,ty,g⟩::l) K e z L x:=by
 intro ops idx h1 h2 t h a1 a2 a3
 obtain ⟨i,idx',oo,rfl,h3,h4,h5,h6,h7,h8⟩:=map_head h1
 refine wr_op h4 (wanted_yes a1 a2 h8 hg) ?_
 rw [execOp_of _ h6 h7]
 refine ⟨hk,?_⟩
 rw [hu]
 exact k ops idx' h3 (dOk_tail h2) _ h ((setDst_size oo t _).trans a1) (a2.setE h5 (by rw [a1];exact dOk_head h2) _) a3
theorem mo_assertT {xt at_:TypeId} {o:Operand} {v:Value} [p:NoIfc P at_] (hx:ev e o=some (.iface at_ v)):Mo P e (.typeAssert o xt at_ true) ty L fun v' L'=>v'=.tuple #[v,.bool true]∧L'=L:=by
 intro M _ _ tt h Q X ag s q
 show wpS P M (Sem.bind (Instr.typeAssert (evT tt o) xt at_ true) fun v=>pure (.value v)) h Q X
 rw [ag.ev hx]
 refine wpS_bind _ _ ?_
 have hp:=p.ok
 unfold Instr.typeAssert
 cases hu:P.underlying at_ with
 | none=>rw [hu] at hp;cases hp
 | some dd =>
  refine wpS_underlying hu ?_
  rw [hu] at hp
  cases dd <;> first | (show wpS P M (if at_=at_ then (pure (Value.tuple #[v,.bool true]):Sem Value) else _) h _ X;rw [if_pos rfl];exact q _ L h _ (.inl rfl) ⟨rfl,rfl⟩ s) | cases hp
theorem mo_convPUo {src dst u:TypeId} {sz:Nat} {o:Operand} {b c m:Nat} {t:TypeId} [ps:Und P src (.pointer u)] [pd:Und P dst .unsafePointer] [z:Siz P u sz] (hz:sz≠0) (hx:ev e o=some (.pointer (some ⟨b,c,none⟩))) (hs:∀ h,Star L h→h.shp b=some (t,m)) (hm:c<m) :
  Mo P e (.convert src dst o) ty L fun v' L'=>v'=.pointer (some ⟨b,c,none⟩)∧L'=L:=by
 intro M _ _ tt h Q X ag s q
 show wpS P M (Sem.bind (convert src dst (evT tt o)) fun v=>pure (.value v)) h Q X
 rw [ag.ev hx]
 have hh:=hs h s
 refine wpS_bind _ _ (wpS_underlying ps.ok (wpS_underlying pd.ok ?_))
 refine wpS_underlying ps.ok (wpS_underlying pd.ok (wpS_seen hh ?_))
 refine wpS_bind _ _ ?_
 unfold cellsIn
 refine wpS_shapeK hh ?_
 refine wpS_sizeOf z.ok ?_
 have e1:(decide (sz=0)||(decide (c≥m)&&true))=false:=by simp [hz];omega
 show wpS P M (if (decide (sz=0)||(decide (c≥m)&&true))=true then _ else _) h _ X
 rw [if_neg (by rw [e1];decide)]
 exact q _ L h _ (.inl rfl) ⟨rfl,rfl⟩ s
theorem mo_allocS {t:TypeId} {zv:Value} [zr:Zer P t zv]:Mo P e (.alloc t) ty L fun v' L'=>∃ b,v'=.pointer (some ⟨b,0,none⟩)∧L'=arr b 0 zv.cells.toList::shpC b t zv.cells.size::L:=by
 intro M _ _ tt h Q X ag s q
 show wpS P M (Sem.bind (Instr.alloc t true (.tuple #[])) fun v=>pure (.value v)) h Q X
 refine wpS_bind _ _ ?_
 show wpS P M (Sem.bind (zeroValue t) fun zero=>Sem.bind (newVar t zero) fun a=>pure (Value.pointer (some a))) h _ X
 refine wpS_zeroValue zr.ok (wpS_bind _ _ fun b hf=>?_)
 exact q _ _ _ _ (.inl rfl) ⟨b,rfl,rfl⟩ (star_newS hf s)
end
section
variable {P:Program} {cv:Value} {kd:CallKind} {n:Nat} {K:Post (tHand P cv)} {e:Env} {z:Z} {L R:List HProp} {l:List OpG} {d:Option Nat} {ty:TypeId} {gd:Option (Nat × Bool)}
 {g:Game} {says turn fin wg:Nat}
theorem sel_runT {e:Env} {t:Array Value} {c1 c2:SelectCase} {v1 v2:Value} {z1 z2:Value} {s1 s2:Option Value} [q1:Zer P c1.elem z1] [q2:Zer P c2.elem z2] (ag:Agree e t) (h1:ev e c1.chan=some v1) (h2:ev e c2.chan=some v2) (hs1:c1.send.map (evT t)=s1) (hs2:c2.send.map (evT t)=s2) {w:World} :
  (execOp (evT t) (opOf (.select #[c1,c2] true) ty)).runT P w #[]=(.ok (.comm #[{ chan:=v1,send:=s1,zero:=z1 },{ chan:=v2,send:=s2,zero:=z2 }] true .select) w,#[]):=by
 show ((#[c1,c2].mapM fun s=>do pure { chan:=evT t s.chan,send:=s.send.map (evT t),zero:=← zeroValue s.elem:CommCase }) >>= fun cases=>(pure (Next.comm cases true .select):Sem Next)).runT P w #[]=_
 simp only [Array.mapM_eq_mapM_toList,List.mapM_cons,List.mapM_nil,pure_bind,bind_assoc,map_eq_pure_bind,hs1,hs2,ag.ev h1,ag.ev h2]
 show (Sem.bind (zeroValue c1.elem) _).runT P w #[]=_
 rw [runT_zero q1.ok]
 show (Sem.bind (zeroValue c2.elem) _).runT P w #[]=_
 rw [runT_zero q2.ok]
 rfl
theorem wo_say {co vo fo:Operand} {el1 el2:TypeId} {z1 z2:Value} {s:g.σ} {q:g.θ} {m:Nat} [q1:Zer P el1 z1] [q2:Zer P el2 z2] (hc:ev e co=some (.chan (some says))) (hv:ev e vo=some (g.says q)) (hf:ev e fo=some (.chan (some fin))) (hh:Has L (g.U s) R) (hg:gYes e gd)
  (k:Wo P (tHand P cv) kd n l K (setE d (.tuple #[goInt 0,.bool false,z2]) e) z R ⟨g,says,turn,fin,wg,g.next q m⟩) :
  Wo P (tHand P cv) kd n (⟨d,.select #[⟨co,some vo,el1⟩,⟨fo,none,el2⟩] true,ty,gd⟩::l) K e z L ⟨g,says,turn,fin,wg,.busy s q m⟩ :=
 wo_talk (R:=fun v L' x'=>v=.tuple #[goInt 0,.bool false,z2]∧L'=R∧x'=⟨g,says,turn,fin,wg,g.next q m⟩) hg
  (fun t w ag=>sel_runT (c1:=⟨co,some vo,el1⟩) (c2:=⟨fo,none,el2⟩) ag hc hf (s1:=some (g.says q)) (by simp [ag.ev hv]) rfl)
  (fun h O st qq=>by
   obtain ⟨r,h',hs,hr,hL⟩:=hh.star st
   exact .inl ⟨rfl,rfl,.inl ⟨s,q,m,z1,z2,h',r,rfl,rfl,hs.swap,hr,qq _ _ _ h' ⟨rfl,rfl,rfl⟩ hL⟩⟩)
  (by rintro _ _ _ ⟨rfl,rfl,rfl⟩;exact k)
theorem wo_wait {co fo:Operand} {el1 el2:TypeId} {z1 z2:Value} {q:g.θ} {m:Nat} {mk:Int × Int} {f:g.σ→g.σ × g.θ} [q1:Zer P el1 z1] [q2:Zer P el2 z2] (hc:ev e co=some (.chan (some turn))) (hf:ev e fo=some (.chan (some fin))) (hp:g.plan q=some (mk,f)) (hg:gYes e gd)
  (k:∀ m' s,m=m'+1→g.ok s→Wo P (tHand P cv) kd n l K (setE d (.tuple #[goInt 0,.bool true,.agg #[],z2]) e) z (g.U s::L) ⟨g,says,turn,fin,wg,.busy (f s).1 (f s).2 m'⟩)
  (k1:Wo P (tHand P cv) kd n l K (setE d (.tuple #[goInt 1,.bool false,z1,z2]) e) z L ⟨g,says,turn,fin,wg,.cut q⟩) :
  Wo P (tHand P cv) kd n (⟨d,.select #[⟨co,none,el1⟩,⟨fo,none,el2⟩] true,ty,gd⟩::l) K e z L ⟨g,says,turn,fin,wg,.said q m⟩ :=
 wo_talk (R:=fun v L' x'=>(∃ m' s,m=m'+1∧g.ok s∧v=.tuple #[goInt 0,.bool true,.agg #[],z2]∧L'=g.U s::L∧x'=⟨g,says,turn,fin,wg,.busy (f s).1 (f s).2 m'⟩)∨(v=.tuple #[goInt 1,.bool false,z1,z2]∧L'=L∧x'=⟨g,says,turn,fin,wg,.cut q⟩)) hg
  (fun t w ag=>sel_runT (c1:=⟨co,none,el1⟩) (c2:=⟨fo,none,el2⟩) ag hc hf rfl rfl)
  (fun h O st qq=>.inl ⟨rfl,rfl,.inr ⟨q,m,mk,f,z1,z2,rfl,hp,rfl,fun m' s r h' hm hr hs=>qq _ _ _ h' (.inl ⟨m',s,hm,hr.1,rfl,rfl,rfl⟩) ⟨r,h,hs.swap,hr.2,st⟩,qq _ _ _ h (.inr ⟨rfl,rfl,rfl⟩) st⟩⟩)
  (by rintro _ _ _ (⟨m',s,hm,ho,rfl,rfl,rfl⟩ | ⟨rfl,rfl,rfl⟩);exact k m' s hm ho;exact k1)
end
section
variable {P:Program} {cv:Value} {done:FuncId} {wgT:TypeId} {kd:CallKind} {n:Nat} {K:Post (mHand P cv done wgT)} {e:Env} {z:Z} {L R:List HProp} {l:List OpG} {d:Option Nat} {ty:TypeId} {gd:Option (Nat × Bool)} {tys:Array TypeId}
theorem chans_apart {h:Hp} {a b c:Nat} {o:Obj} {M L:List HProp} (s:Star (ob a o::ob b o::ob c o::all M::L) h) :
  a≠b∧a≠c∧b≠c∧h.obj a=some o∧h.obj b=some o∧h.obj c=some o∧∃ hc h',Split h hc h'∧(∀ r,r=a∨r=b∨r=c→hc.obj r=none∧h'.obj r=none)∧Star M hc∧Star L h':=by
 obtain ⟨h1,k1,s1,a1,h2,k2,s2,a2,h3,k3,s3,a3,hc,h',s4,a4,a5⟩:=s
 replace a1:h1.obj a=some o:=a1
 replace a2:h2.obj b=some o:=a2
 replace a3:h3.obj c=some o:=a3
 have n1:k1.obj a=none:=(s1.bd a).resolve_left (by rw [a1];simp)
 have n2:k2.obj b=none:=(s2.bd b).resolve_left (by rw [a2];simp)
 have n3:k3.obj c=none:=(s3.bd c).resolve_left (by rw [a3];simp)
 have up2:∀ r v,k2.obj r=some v→k1.obj r=some v:=s2.b2
 have up3:∀ r v,k3.obj r=some v→k2.obj r=some v:=s3.b2
 have no2:∀ r,k1.obj r=none→k2.obj r=none:=fun r hn=>none_of fun v hv=>by rw [up2 _ _ hv] at hn;cases hn
 have no3:∀ r,k2.obj r=none→k3.obj r=none:=fun r hn=>none_of fun v hv=>by rw [up3 _ _ hv] at hn;cases hn
 have b1:k1.obj b=some o:=s2.b1 _ _ a2
 have c2:k2.obj c=some o:=s3.b1 _ _ a3
 refine ⟨?_,?_,?_,s1.b1 _ _ a1,s1.b2 _ _ b1,s1.b2 _ _ (s2.b2 _ _ c2),hc,h',?_,?_,a4,a5⟩
 ·rintro rfl;rw [b1] at n1;cases n1
 ·rintro rfl;rw [s2.b2 _ _ c2] at n1;cases n1
 ·rintro rfl;rw [c2] at n2;cases n2
 ·exact ⟨fun _ _ _ e=>s1.r2 _ _ _ (s2.r2 _ _ _ (s3.r2 _ _ _ (s4.r1 _ _ _ e))),fun _ _ _ e=>s1.r2 _ _ _ (s2.r2 _ _ _ (s3.r2 _ _ _ (s4.r2 _ _ _ e))),fun _ _ _ e=>s1.o2 _ _ _ (s2.o2 _ _ _ (s3.o2 _ _ _ (s4.o1 _ _ _ e))),fun _ _ _ e=>s1.o2 _ _ _ (s2.o2 _ _ _ (s3.o2 _ _ _ (s4.o2 _ _ _ e))),s4.od,
   fun _ _ e=>s1.b2 _ _ (s2.b2 _ _ (s3.b2 _ _ (s4.b1 _ _ e))),fun _ _ e=>s1.b2 _ _ (s2.b2 _ _ (s3.b2 _ _ (s4.b2 _ _ e))),s4.bd,fun _ _ e=>s1.s2 _ _ (s2.s2 _ _ (s3.s2 _ _ (s4.s1 _ _ e))),fun _ _ e=>s1.s2 _ _ (s2.s2 _ _ (s3.s2 _ _ (s4.s2 _ _ e)))⟩
 ·have key:∀ r,k3.obj r=none→hc.obj r=none∧h'.obj r=none:=fun r hn=>⟨none_of (fun v hv=>by rw [s4.b1 _ _ hv] at hn;cases hn),none_of (fun v hv=>by rw [s4.b2 _ _ hv] at hn;cases hn)⟩
  rintro r (rfl | rfl | rfl)
  ·exact key _ (no3 _ (no2 _ n1))
  ·exact key _ (no3 _ n2)
  ·exact key _ n3
theorem wo_start {X:GX} {s s':X.g.σ} {q':X.g.θ} {says turn fin:Nat} {M:List HProp} {fo:Operand} {fC:Nat} {cap:List Value}
  (hf:ev e fo=some (.func (.func fC) #[] cap.toArray)) (hg:gYes e gd) (fr:X.free=none) (p:X.wt=.play) (hd:X.deaf=false) (tk:X.tok=some s) (ad:X.ad=X.seats.length+1)
  (hL:∀ h,Star L h→Star (ob says newChan::ob turn newChan::ob fin newChan::all M::R) h)
  (hr:∀ hc,Star M hc→Nonempty (Run P (tHand P cv) false (tEnd P done) (goFr P { target:=.fn (.func fC) cap.toArray,args:=#[] }) [] hc ⟨X.g,says,turn,fin,X.wg,.busy s' q' X.left⟩))
  (k:Wo P (mHand P cv done wgT) kd n l K (setE d undef e) z R (.game { X with tok:=none,seats:=X.seats++[⟨says,turn,fin,.run s' q'⟩] })) :
  Wo P (mHand P cv done wgT) kd n (⟨d,.go ⟨.value fo,#[],tys⟩,ty,gd⟩::l) K e z L (.game X) :=
 wo_go (dd:={ target:=.fn (.func fC) cap.toArray,args:=#[] }) (R:=fun L' x'=>L'=R∧x'=.game { X with tok:=none,seats:=X.seats++[⟨says,turn,fin,.run s' q'⟩] }) hg
  (fun t w ag=>by
   show (Sem.bind (resolve (evT t) ⟨.value fo,#[],tys⟩ ty) fun d=>pure (Next.spawn d)).runT P w #[]=_
   have:=resolve_val (tys:=tys) (ty:=ty) (fn:=.func fC) (first:=[]) (cap:=cap) (args:=[]) ag hf .nil
   rw [show (#[]:Array Operand)=[].toArray from rfl,this];rfl)
  (fun h O st qq=>by
   obtain ⟨n1,n2,n3,o1,o2,o3,hc,h',s1,s2,s3,s4⟩:=chans_apart (hL h st)
   exact .inl ⟨X,s,says,turn,fin,hc,h',s',q',rfl,fr,p,hd,tk,ad,n1,n2,n3,o1,o2,o3,s1,s2,⟨_,_,rfl⟩,hr hc s3,qq _ _ _ ⟨rfl,rfl⟩ s4⟩)
  (by rintro _ _ ⟨rfl,rfl⟩;exact k)
theorem wo_begin (g:Game) (s:g.σ) {wg:Nat} (hh:∀ h,Star L h→Star (arr wg 0 [.int .u64 0,.int .u32 0]::shpC wg wgT 2::R) h)
  (k:Wo P (mHand P cv done wgT) kd n l K e z (shpC wg wgT 2::R) (.game ⟨g,wg,[],some s,16384,0,false,.play,none,0⟩)):Wo P (mHand P cv done wgT) kd n l K e z L .idle :=
 wo_ghost (fun h O st q=>by
  rintro ⟨w,f⟩
  refine .inr (.inl ⟨rfl,g,wg,s,?_⟩)
  obtain ⟨h1,h2,s1,ha,h3,h4,s2,hs,hL⟩:=hh h st
  have e0:h.own wg 0=some (.int .u64 0):=s1.o1 _ _ _ (ha 0 _ rfl)
  have e1:h.own wg 1=some (.int .u32 0):=s1.o1 _ _ _ (ha 1 _ rfl)
  have es:h.shp wg=some (wgT,2):=s1.s2 _ _ (s2.s1 _ _ hs)
  have hw:=f.shp _ _ es
  -- no cell of the block but the two
  have none2:∀ o v,w.cell? ⟨wg,o,none⟩=some v→o=0∨o=1:=by
   intro o v e
   unfold World.shape? at hw
   unfold World.cell? at e
   cases hb:w.heap[wg]? with
   | none=>rw [hb] at hw;simp at hw
   | some obj =>
    rw [hb] at hw e
    cases obj with
    | cells cs t fz =>
     simp at hw e
     have:=(Array.getElem?_eq_some_iff.1 e).1
     omega
    | _=>simp at hw
  have h2n:∀ o,h2.own wg o=none:=fun o=>none_of fun v hv=>by
   have hv':=s1.o2 _ _ _ hv
   rcases none2 o v (f.own _ _ _ hv') with rfl | rfl
   ·have:=(s1.od wg 0).resolve_left (by rw [ha 0 _ rfl];simp);rw [this] at hv;cases hv
   ·have:=(s1.od wg 1).resolve_left (by rw [ha 1 _ rfl];simp);rw [this] at hv;cases hv
  have hrn:∀ o,h.ro wg o=none:=fun o=>none_of fun v hv=>by
   rcases none2 o v (f.ro _ _ _ hv) with rfl | rfl
   ·have:=f.disj _ _ _ e0;rw [this] at hv;cases hv
   ·have:=f.disj _ _ _ e1;rw [this] at hv;cases hv
  refine ⟨h2,e0,e1,es,s1.frz2,fun o=>⟨h2n o,none_of fun v hv=>?_⟩,q h2 ⟨h3,h4,s2,hs,hL⟩⟩
  have:=s1.r2 _ _ _ hv
  rw [hrn o] at this;cases this) k
end
end Go.PB
namespace Go.PB
open Go.Conc
section
variable {P:Program} {B:Hand}
theorem cons_S {main:Bool} {S:Frame→List Frame→Hp→B.X→Prop} (C:Closed P B main S) {b:Base} {k:List Item} {cs:List Frame} {g:FuncId} {m um:FrameMode} {t:Array Value} {h:Hp} {x:B.X} {cap args:Array Value} {ds:List Deferred} (hm:m≠.run) (hg:Enterable P g)
  (w:Wf P B g .deferred (args++cap) m h x (fun e um' h x=>match e with
   | .ret _=>S (endFr b t ds k (settled um')) (setUm um cs) h x
   | .pan chain=>S (endFr b t ds k (raised chain um')) (setUm um cs) h x)):S (endFr b t ({ target:=.fn (.func g) cap,args }::ds) k m) (setUm um cs) h x:=by
 refine go_of C (fr':=Frame.enter P g (args++cap) .deferred) (cs':=endFr b t ds k m::setUm um cs) (fun w=>?_) ?_
 ·have hr:=runT_callFunc hg (args++cap) w #[]
  have hr':(invoke (.fn (.func g) cap) args).runT P w #[]=(.ok (.enter g (args++cap)) w,#[]):=hr
  have hs:seen P b.fn #[]=#[]:=rfl
  cases m with
  | run=>exact absurd rfl hm
  | returning=>simp only [stepG,G,endFr,unwind,callDeferred,Bool.false_and,hr',hs,GStep.after];rfl
  | panicking ch=>simp only [stepG,G,endFr,unwind,callDeferred,Bool.false_and,hr',hs,GStep.after];rfl
 ·have:=w main S C (endFr b t ds k m::setUm um cs) (by simp) ?_
  ·exact this
  ·intro fr e um' h' x' hend hq
   cases e with
   | ret v =>
    obtain ⟨h1,h2,h3,h4,h5,fn,hf,hr⟩:=hend
    refine C.priv _ _ _ _ fun w fw=>?_
    rcases wpS_sound _ hr w #[] fw with ⟨v',w',es',h'',e1,g,e2,rfl,rfl⟩ | ⟨_,_,_,_,_,_,_,hx⟩
    ·refine ⟨endFr b t ds k (settled um'),setUm um cs,w',seen P fr.fn es'++#[],h'',?_,g,?_,hq⟩
     ·simp only [Array.empty_append] at e1
      cases fr
      simp only at h1 h2 h3 h4 h5
      subst h1;subst h2;subst h3;subst h4;subst h5
      simp only [stepG,G,unwind,hf,e1,GStep.after,doReturn,setUm,endFr,settled]
      cases um' with
      | run=>rfl
      | returning=>rfl
      | panicking ch =>
       cases ch with
       | nil=>rfl
       | cons en older =>
        obtain ⟨v0,rec,gx⟩:=en
        cases rec
        ·rfl
        ·simp only
         cases older.dropWhile (fun e=>!e.goexit) <;> rfl
     ·intro e he
      simp only [Array.append_empty] at he
      have:=e2 e (seen_mem P fr.fn es' e he)
      unfold EvOk at this ⊢
      revert this
      split <;> simp_all
    ·exact hx.elim
   | pan chain =>
    refine end_pan C hend ?_
    have:(endFr b t ds k um').raise chain=endFr b t ds k (raised chain um'):=by cases um' <;> rfl
    show S ((endFr b t ds k um').raise chain) (setUm um cs) h' x'
    rw [this]
    exact hq
end
section
variable {P:Program} {cv:Value} {done:FuncId}
def goFr0 (P:Program):Frame:={ (default:Frame) with fn:=P.funcs.size,defers:=[],mode:=.panicking [goexitEntry] }
theorem quits_go {fC:FuncId} {fnC:Func} {t:Array Value} {todo:List Item} (hf:P.funcs[fC]?=some fnC) (hr:fnC.results=#[]) :
  QuitsD P 2 0 (G (endFr ⟨fC,.deferred⟩ t [] todo .returning) [goFr0 P]):=by
 refine QuitsD.ctl rfl (g':=G (goFr0 P) []) (fun w=>?_) ?_
 ·have hres:(results fnC t).runT P w #[]=(.ok (.tuple #[]) w,#[]):=by unfold results;rw [hr];simp [Array.mapM_eq_mapM_toList,pure,Sem.runT]
  simp only [stepG,G,endFr,unwind,hf,hres,GStep.after,doReturn,goFr0]
  rfl
 ·refine QuitsD.ctl rfl (g':={ G (goFr0 P) [] with status:=.finished }) (fun w=>?_) ⟨rfl,rfl⟩
  have hc:(goFr0 P).catches P=false:=by
   unfold Frame.catches goFr0
   simp
   rfl
  simp only [stepG,G,goFr0,unwind] at hc ⊢
  simp only [hc]
  simp [goexitEntry]
structure Keeps (wg:Nat) (x:TX) (b:Prop:=True):Prop where
 wg:x.wg=wg
 fin:b→∀ q h,x.g.Pv q h→x.g.Fin q h
theorem keep_closed {b:Prop} {main:Bool} {wg:Nat} {S:Frame→List Frame→Hp→TX→Prop} (C:Closed P (tHand P cv) main S):Closed P (tHand P cv) main fun fr cs h x=>Keeps wg x b→S fr cs h x where
 priv:=fun fr cs h x hs hw=>C.priv _ _ _ _ fun w f=>by
  obtain ⟨fr',cs',w',es,h',a,b,c,d⟩:=hs w f
  exact ⟨fr',cs',w',es,h',a,b,c,d hw⟩
 act:=fun fr cs h x o at_ ne a hw=>C.act _ _ _ _ o at_ ne (by
  obtain ⟨q,n,m,f,a,b,c⟩:=a
  refine ⟨q,n,m,f,a,b,fun n' st r h1 h2 h3=>?_⟩
  obtain ⟨b,o,old,v,new,c1,c2,c3,v',e,c4⟩:=c n' st r h1 h2 h3
  exact ⟨b,o,old,v,new,c1,c2,c3,v',e,c4 ⟨hw.wg,hw.fin⟩⟩)
 comm:=fun fr cs h x o cases bl sh at_ hr a hw=>C.comm _ _ _ _ o cases bl sh at_ hr (by
  rcases a with ⟨h1,h2,h3⟩ | ⟨h1,h2,c,v,z,cap,buf,s,r,tm,h3,h4,h5,h6⟩ | ⟨h1,h2,q,n,m,f,h3,h4,c,v,z,h5,h6⟩
  ·refine .inl ⟨h1,h2,?_⟩
   rcases h3 with ⟨s,q,n,z1,z2,h',r,a,b,c,d,e⟩ | ⟨q,n,m,f,z1,z2,a,b,c,d,e⟩
   ·exact .inl ⟨s,q,n,z1,z2,h',r,a,b,c,d,e ⟨hw.wg,hw.fin⟩⟩
   ·exact .inr ⟨q,n,m,f,z1,z2,a,b,c,fun n' s r h' u v w=>d n' s r h' u v w ⟨hw.wg,hw.fin⟩,e ⟨hw.wg,hw.fin⟩⟩
  ·exact .inr (.inl ⟨h1,h2,c,v,z,cap,buf,s,r,tm,h3,h4,fun e=>h5 e hw,fun e=>h6 e hw⟩)
  ·refine .inr (.inr ⟨h1,h2,q,n,m,f,h3,h4,c,v,z,h5,fun n' st r e1 e2 e3=>?_⟩)
   obtain ⟨cap,buf,s,rr,tm,h7,h8,h9⟩:=h6 n' st r e1 e2 e3
   exact ⟨cap,buf,s,rr,tm,h7,fun a=>⟨(h8 a).1,(h8 a).2 ⟨hw.wg,hw.fin⟩⟩,fun a=>⟨(h9 a).1,(h9 a).2 ⟨hw.wg,hw.fin⟩⟩⟩)
 spawn:=fun _ _ _ _ _ _ _ _ a _=>a.elim
 ghost:=fun fr cs h x a hw=>C.ghost _ _ _ _ fun hf=>let ⟨h1,z,q⟩:=a hf;⟨h1,z,q hw⟩
 late:=fun _ _ _ _ _ _ _ _ _ _ a _=>a.elim
def goPost (cv:Value) (fR done wg:Nat) (b:Prop:=True):Post (tHand P cv):=fun ex t z h x =>
 z=⟨[{ target:=.fn (.func fR) #[],args:=#[] },{ target:=.fn (.func done) #[],args:=#[.pointer (some ⟨wg,0,none⟩)] }],.panicking [goexitEntry]⟩ ∧
 match ex with
 | .normal=>∃ q,x.ph=.over q∧Star [x.g.Fin q] h
 | .ret=>∃ q,x.ph=.over q∧Star [x.g.Fin q] h
 | .panic ch=>ch=[{ v:=cv,recovered:=false }]∧∃ q,x.ph=.cut q∧(Star [x.g.Fin q] h∨(b∧Star [x.g.Pv q] h))
 | _=>False
theorem go_run {b:Prop} {fC fR wg nt:Nat} {fnC:Func} {c:Code} {cap:List Value} {M:List HProp} {x:TX} {h:Hp} (hf:P.funcs[fC]?=some fnC) (hb:fnC.body=some c) (hnt:fnC.ntmps=nt) (hn:cap.length≤nt) (hres:fnC.results=#[]) (eC:Enterable P fC) (eR:Enterable P fR) (eD:Enterable P done)
  (hrec:∀ um h (x:TX) (L:List HProp) (Q:PB.End→FrameMode→Hp→TX→Prop),(um=.returning∨um=.panicking [{ v:=cv,recovered:=false }])→Star L h→(∀ v um' h',settled um'=.returning→Star L h'→Q (.ret v) um' h' x)→Wf P (tHand P cv) fR .deferred #[] um h x Q)
  (hkp:Keeps wg x b) (hs:Star M h) (w:We P (tHand P cv) .deferred nt c (goPost cv fR done wg b) (argE 0 cap) ⟨[],.panicking [goexitEntry]⟩ M x) :
  Nonempty (Run P (tHand P cv) false (tEnd P done) (goFr P { target:=.fn (.func fC) cap.toArray,args:=#[] }) [] h x):=by
 subst hnt
 let S:Frame→List Frame→Hp→TX→Prop:=fun fr cs h x=>Keeps wg x b→Nonempty (Run P (tHand P cv) false (tEnd P done) fr cs h x)
 have C:Closed P (tHand P cv) false S:=keep_closed run_closed
 have hcap:(#[]:Array Value)++cap.toArray=cap.toArray:=by simp
 -- behind the body
 have last:∀ (b:Base) t todo h (x:TX),b=⟨fC,.deferred⟩→(∃ q,(x.ph=.over q∨x.ph=.cut q∨(x.g.plan q=none∧∃ n,x.ph=.free q n))∧Star [x.g.Fin q] h) →
   S (endFr b t [{ target:=.fn (.func done) #[],args:=#[.pointer (some ⟨wg,0,none⟩)] }] todo .returning) [goFr0 P] h x:=by
  rintro _ t todo h x rfl hq
  refine go_of C (fr':=Frame.enter P done #[.pointer (some ⟨wg,0,none⟩)] .deferred) (cs':=endFr ⟨fC,.deferred⟩ t [] todo .returning::[goFr0 P]) (fun w=>?_) ?_
  ·have hr':(invoke (.fn (.func done) #[]) #[.pointer (some ⟨wg,0,none⟩)]).runT P w #[]=(.ok (.enter done #[.pointer (some ⟨wg,0,none⟩)]) w,#[]):=runT_callFunc eD _ w #[]
   have hs:seen P fC #[]=#[]:=rfl
   simp only [stepG,G,endFr,unwind,callDeferred,Bool.false_and,hr',hs,GStep.after];rfl
  ·exact fun hwg=>⟨.fin ⟨by rw [hwg.wg],⟨_,_,2,rfl,rfl,quits_go hf hres⟩,hq⟩⟩
 have mid:∀ (b:Base) t todo m h (x:TX),b=⟨fC,.deferred⟩→(m=.returning∨m=.panicking [{ v:=cv,recovered:=false }])→(∃ q,(x.ph=.over q∨x.ph=.cut q)∧Star [x.g.Fin q] h) →
   S (endFr b t [{ target:=.fn (.func fR) #[],args:=#[] },{ target:=.fn (.func done) #[],args:=#[.pointer (some ⟨wg,0,none⟩)] }] todo m) [goFr0 P] h x:=by
  rintro b t todo m h x hb hm ⟨q,hq,hfin⟩
  have:=cons_S C (b:=b) (k:=todo) (cs:=[goFr0 P]) (g:=fR) (m:=m) (um:=.panicking [goexitEntry]) (t:=t) (h:=h) (x:=x) (cap:=#[]) (args:=#[]) (ds:=[{ target:=.fn (.func done) #[],args:=#[.pointer (some ⟨wg,0,none⟩)] }])
   (by rcases hm with rfl | rfl <;> simp) eR (hrec m h x [x.g.Fin q] _ hm hfin fun v um' h' hset hs'=>by
    show S (endFr b t _ todo (settled um')) (setUm (.panicking [goexitEntry]) [goFr0 P]) h' x
    rw [hset]
    exact last b t todo h' x hb ⟨q,hq.imp id .inl,hs'⟩)
  exact this
 refine go_of C (fr':=Frame.enter P fC cap.toArray .deferred) (cs':=[goFr0 P]) (fun w=>?_) ?_ hkp
 ·have hr':(invoke (.fn (.func fC) cap.toArray) #[]).runT P w #[]=(.ok (.enter fC cap.toArray) w,#[]):=by
   have:=runT_callFunc eC ((#[]:Array Value)++cap.toArray) w #[]
   rw [hcap] at this
   show (callFunc fC (#[]++cap.toArray)).runT P w #[]=_
   rw [hcap];exact this
  simp only [stepG,G,goFr,unwind,callDeferred,Bool.false_and,hr',GStep.after]
  rfl
 ·have he:Frame.enter P fC cap.toArray .deferred=mkFr ⟨fC,.deferred⟩ (cap.toArray++Array.replicate (fnC.ntmps-cap.length) undef) [] [.code c]:=by
   simp [Frame.enter,hf,hb,mkFr]
  rw [he]
  have hagr:Agree (argE 0 cap) (cap.toArray++Array.replicate (fnC.ntmps-cap.length) undef):=by
   intro i v hi
   obtain ⟨j,h1,h2⟩:=lk_argE cap 0 hi
   obtain rfl:i=j:=by omega
   have hlt:i<cap.length:=(List.getElem?_eq_some_iff.1 h2).1
   rw [Array.getElem?_append_left (by simpa using hlt)]
   simpa using h2
  have:=w _ h (by simp;omega) hagr hs false S C ⟨fC,.deferred⟩ [] [goFr0 P] ⟨rfl,by simp⟩ (fun ex t z h x q=>by
   obtain ⟨rfl,q⟩:=q
   cases ex with
   | normal =>
    obtain ⟨q,hq,hfin⟩:=q
    refine go_of C (fr':=endFr ⟨fC,.deferred⟩ t _ [] .returning) (cs':=[goFr0 P]) (fun _=>by simp [stepG,stepG.exec,G,mkFr,endFr,setUm,goFr0];rfl) ?_
    exact mid ⟨fC,.deferred⟩ t [] .returning h x rfl (.inl rfl) ⟨q,.inl hq,hfin⟩
   | ret=>obtain ⟨q,hq,hfin⟩:=q;exact fun todo=>mid ⟨fC,.deferred⟩ t todo .returning h x rfl (.inl rfl) ⟨q,.inl hq,hfin⟩
   | panic ch =>
    obtain ⟨rfl,q,hq,hfin⟩:=q
    refine fun todo hk=>mid ⟨fC,.deferred⟩ t todo _ h x rfl (.inr rfl) ⟨q,.inr hq,?_⟩ hk
    rcases hfin with hfin | ⟨hb,hfin⟩
    ·exact hfin
    ·exact star_map hfin (fun h a=>hk.fin hb q h a) (fun _ y=>y)
   | exit _=>exact q.elim
   | goto _=>exact q.elim)
  exact this
end
end Go.PB
namespace Go.PB
section
section
variable {P:Program} {B:Hand} {kd:CallKind} {n:Nat} {K:Post B} {e:Env} {z:Z} {L:List HProp} {x:B.X}
variable (P B) in
def TrC (f:FuncId) (args:List Value) (L:List HProp) (x:B.X) (R:Value→List HProp→B.X→Prop) (C:List PanicEntry→Hp→B.X→Prop):Prop :=
 ∀ h um (Q:PB.End→FrameMode→Hp→B.X→Prop),Star L h→(∀ v L' x' h',R v L' x'→Star L' h'→Q (.ret v) um h' x')→(∀ ch h' x',C ch h' x'→Q (.pan ch) um h' x')→Wf P B f .normal args.toArray um h x Q
end
end
end Go.PB
namespace Go.Proofs
open Go.PB
section
instance:InT Try.prog 2 .i64:=⟨by kernel_rfl⟩
instance:Siz Try.prog 3 1:=⟨by kernel_rfl⟩
instance:Byt Try.prog 3 8:=⟨by kernel_rfl⟩
instance:Zer Try.prog 3 (.int .i64 (0)):=⟨by kernel_rfl⟩
instance:Scal Try.prog 3:=⟨by kernel_rfl⟩
instance:InT Try.prog 3 .i64:=⟨by kernel_rfl⟩
instance:Und Try.prog 3 (.int .i64):=⟨by kernel_rfl⟩
instance:Siz Try.prog 4 1:=⟨by kernel_rfl⟩
instance:Zer Try.prog 4 (.bool false):=⟨by kernel_rfl⟩
instance:Scal Try.prog 4:=⟨by kernel_rfl⟩
instance:Und Try.prog 20 (.interface #[]):=⟨by kernel_rfl⟩
instance:InT Try.prog 21 .i32:=⟨by kernel_rfl⟩
instance:Siz Try.prog 22 1:=⟨by kernel_rfl⟩
instance:Byt Try.prog 22 24:=⟨by kernel_rfl⟩
instance:Zer Try.prog 22 (.slice none 0 0):=⟨by kernel_rfl⟩
instance:Scal Try.prog 22:=⟨by kernel_rfl⟩
instance:SlT Try.prog 22 41:=⟨by kernel_rfl⟩
instance:Siz Try.prog 23 1:=⟨by kernel_rfl⟩
instance:Zer Try.prog 23 (.pointer none):=⟨by kernel_rfl⟩
instance:Scal Try.prog 23:=⟨by kernel_rfl⟩
instance:PtT Try.prog 23 62:=⟨by kernel_rfl⟩
instance:Siz Try.prog 29 1:=⟨by kernel_rfl⟩
instance:Byt Try.prog 29 24:=⟨by kernel_rfl⟩
instance:Zer Try.prog 29 (.slice none 0 0):=⟨by kernel_rfl⟩
instance:Scal Try.prog 29:=⟨by kernel_rfl⟩
instance:SlT Try.prog 29 36:=⟨by kernel_rfl⟩
instance:Siz Try.prog 30 1:=⟨by kernel_rfl⟩
instance:Scal Try.prog 30:=⟨by kernel_rfl⟩
instance:SlT Try.prog 30 191:=⟨by kernel_rfl⟩
instance:Siz Try.prog 32 2:=⟨by kernel_rfl⟩
instance:Zer Try.prog 32 (.agg #[(.slice none 0 0),(.slice none 0 0)]):=⟨by kernel_rfl⟩
instance:AggT Try.prog 32:=⟨by kernel_rfl⟩
instance:StT Try.prog 32 #[(0,1),(1,1)] #[(.slice none 0 0),(.slice none 0 0)]:=⟨by kernel_rfl,by kernel_rfl⟩
instance:Fld Try.prog 32 0 0 29 1:=⟨by kernel_rfl⟩
instance:Fld Try.prog 32 1 1 30 1:=⟨by kernel_rfl⟩
instance:Siz Try.prog 36 1:=⟨by kernel_rfl⟩
instance:Byt Try.prog 36 24:=⟨by kernel_rfl⟩
instance:Zer Try.prog 36 (.slice none 0 0):=⟨by kernel_rfl⟩
instance:Scal Try.prog 36:=⟨by kernel_rfl⟩
instance:SlT Try.prog 36 39:=⟨by kernel_rfl⟩
instance:Siz Try.prog 39 1:=⟨by kernel_rfl⟩
instance:Byt Try.prog 39 8:=⟨by kernel_rfl⟩
instance:Zer Try.prog 39 (.int .u64 (0)):=⟨by kernel_rfl⟩
instance:Scal Try.prog 39:=⟨by kernel_rfl⟩
instance:InT Try.prog 39 .u64:=⟨by kernel_rfl⟩
instance:Und Try.prog 39 (.int .u64):=⟨by kernel_rfl⟩
instance:Siz Try.prog 41 2:=⟨by kernel_rfl⟩
instance:AggT Try.prog 41:=⟨by kernel_rfl⟩
instance:Fld Try.prog 41 0 0 3 1:=⟨by kernel_rfl⟩
instance:Fld Try.prog 41 1 1 39 1:=⟨by kernel_rfl⟩
instance:Scal Try.prog 45:=⟨by kernel_rfl⟩
instance:SlT Try.prog 45 161:=⟨by kernel_rfl⟩
instance:Siz Try.prog 47 2:=⟨by kernel_rfl⟩
instance:Byt Try.prog 47 48:=⟨by kernel_rfl⟩
instance:Zer Try.prog 47 (.agg #[(.slice none 0 0),(.slice none 0 0)]):=⟨by kernel_rfl⟩
instance:AggT Try.prog 47:=⟨by kernel_rfl⟩
instance:StT Try.prog 47 #[(0,1),(1,1)] #[(.slice none 0 0),(.slice none 0 0)]:=⟨by kernel_rfl,by kernel_rfl⟩
instance:Fld Try.prog 47 0 0 45 1:=⟨by kernel_rfl⟩
instance:Fld Try.prog 47 1 1 36 1:=⟨by kernel_rfl⟩
instance:Byt Try.prog 53 0:=⟨by kernel_rfl⟩
instance:Zer Try.prog 53 (.agg #[]):=⟨by kernel_rfl⟩
instance:StT Try.prog 53 #[] #[]:=⟨by kernel_rfl,by kernel_rfl⟩
instance:Siz Try.prog 57 1:=⟨by kernel_rfl⟩
instance:Fld Try.prog 57 2 0 39 1:=⟨by kernel_rfl⟩
instance:ArT Try.prog 58 3 57:=⟨by kernel_rfl⟩
instance:Scal Try.prog 59:=⟨by kernel_rfl⟩
instance:PtT Try.prog 59 156:=⟨by kernel_rfl⟩
instance:Scal Try.prog 60:=⟨by kernel_rfl⟩
instance:Und Try.prog 60 (.chan .both 53):=⟨by kernel_rfl⟩
instance:StT Try.prog 62 #[(0,3),(3,1),(4,1)] #[(.int .u64 (0)),(.int .u64 (0)),(.int .u64 (0)),(.pointer none),(.chan none)]:=⟨by kernel_rfl,by kernel_rfl⟩
instance:Fld Try.prog 62 0 0 58 3:=⟨by kernel_rfl⟩
instance:Fld Try.prog 62 1 3 59 1:=⟨by kernel_rfl⟩
instance:Fld Try.prog 62 2 4 60 1:=⟨by kernel_rfl⟩
instance:Siz Try.prog 71 1:=⟨by kernel_rfl⟩
instance:Scal Try.prog 71:=⟨by kernel_rfl⟩
instance:SlT Try.prog 71 3:=⟨by kernel_rfl⟩
instance:SlT Try.prog 75 86:=⟨by kernel_rfl⟩
instance:Siz Try.prog 79 1:=⟨by kernel_rfl⟩
instance:Zer Try.prog 79 (.slice none 0 0):=⟨by kernel_rfl⟩
instance:Scal Try.prog 79:=⟨by kernel_rfl⟩
instance:SlT Try.prog 79 22:=⟨by kernel_rfl⟩
instance:Siz Try.prog 82 1:=⟨by kernel_rfl⟩
instance:Zer Try.prog 82 (.slice none 0 0):=⟨by kernel_rfl⟩
instance:Scal Try.prog 82:=⟨by kernel_rfl⟩
instance:SlT Try.prog 82 29:=⟨by kernel_rfl⟩
instance:SlT Try.prog 83 87:=⟨by kernel_rfl⟩
instance:Und Try.prog 85 (.interface #[("Step",167)]):=⟨by kernel_rfl⟩
instance:Siz Try.prog 86 1:=⟨by kernel_rfl⟩
instance:Byt Try.prog 86 8:=⟨by kernel_rfl⟩
instance:Zer Try.prog 86 .nilFunc:=⟨by kernel_rfl⟩
instance:Scal Try.prog 86:=⟨by kernel_rfl⟩
instance:Und Try.prog 86 (.func #[85] #[] false):=⟨by kernel_rfl⟩
instance:Siz Try.prog 87 1:=⟨by kernel_rfl⟩
instance:Byt Try.prog 87 24:=⟨by kernel_rfl⟩
instance:Zer Try.prog 87 (.slice none 0 0):=⟨by kernel_rfl⟩
instance:Scal Try.prog 87:=⟨by kernel_rfl⟩
instance:SlT Try.prog 87 47:=⟨by kernel_rfl⟩
instance:Siz Try.prog 89 1:=⟨by kernel_rfl⟩
instance:Scal Try.prog 89:=⟨by kernel_rfl⟩
instance:SlT Try.prog 89 112:=⟨by kernel_rfl⟩
instance:Siz Try.prog 91 2:=⟨by kernel_rfl⟩
instance:Zer Try.prog 91 (.agg #[(.slice none 0 0),(.slice none 0 0)]):=⟨by kernel_rfl⟩
instance:AggT Try.prog 91:=⟨by kernel_rfl⟩
instance:Fld Try.prog 91 0 0 89 1:=⟨by kernel_rfl⟩
instance:Fld Try.prog 91 1 1 71 1:=⟨by kernel_rfl⟩
instance:SlT Try.prog 94 115:=⟨by kernel_rfl⟩
instance:Siz Try.prog 110 2:=⟨by kernel_rfl⟩
instance:Zer Try.prog 110 (.agg #[(.int .u8 (0)),(.int .i64 (0))]):=⟨by kernel_rfl⟩
instance:AggT Try.prog 110:=⟨by kernel_rfl⟩
instance:StT Try.prog 110 #[(0,1),(1,1)] #[(.int .u8 (0)),(.int .i64 (0))]:=⟨by kernel_rfl,by kernel_rfl⟩
instance:Siz Try.prog 112 3:=⟨by kernel_rfl⟩
instance:Byt Try.prog 112 24:=⟨by kernel_rfl⟩
instance:Zer Try.prog 112 (.agg #[(.int .i64 (0)),(.int .u8 (0)),(.int .i64 (0))]):=⟨by kernel_rfl⟩
instance:AggT Try.prog 112:=⟨by kernel_rfl⟩
instance:StT Try.prog 112 #[(0,1),(1,2)] #[(.int .i64 (0)),(.int .u8 (0)),(.int .i64 (0))]:=⟨by kernel_rfl,by kernel_rfl⟩
instance:Siz Try.prog 114 2:=⟨by kernel_rfl⟩
instance:Byt Try.prog 114 32:=⟨by kernel_rfl⟩
instance:Zer Try.prog 114 (.agg #[(.bool false),(.slice none 0 0)]):=⟨by kernel_rfl⟩
instance:StT Try.prog 114 #[(0,1),(1,1)] #[(.bool false),(.slice none 0 0)]:=⟨by kernel_rfl,by kernel_rfl⟩
instance:Fld Try.prog 114 0 0 4 1:=⟨by kernel_rfl⟩
instance:Fld Try.prog 114 1 1 36 1:=⟨by kernel_rfl⟩
instance:Siz Try.prog 115 1:=⟨by kernel_rfl⟩
instance:Byt Try.prog 115 24:=⟨by kernel_rfl⟩
instance:Zer Try.prog 115 (.slice none 0 0):=⟨by kernel_rfl⟩
instance:Scal Try.prog 115:=⟨by kernel_rfl⟩
instance:SlT Try.prog 115 114:=⟨by kernel_rfl⟩
instance:Zer Try.prog 121 (.agg #[(.int .u64 (0)),(.int .u64 (0)),(.int .u64 (0))]):=⟨by kernel_rfl⟩
instance:ArT Try.prog 121 3 39:=⟨by kernel_rfl⟩
instance:Siz Try.prog 130 1:=⟨by kernel_rfl⟩
instance:InT Try.prog 130 .u32:=⟨by kernel_rfl⟩
instance:Siz Try.prog 132 2:=⟨by kernel_rfl⟩
instance:Zer Try.prog 132 (.agg #[(.int .u64 (0)),(.int .u32 (0))]):=⟨by kernel_rfl⟩
instance:Fld Try.prog 132 1 0 57 1:=⟨by kernel_rfl⟩
instance:Fld Try.prog 132 2 1 130 1:=⟨by kernel_rfl⟩
instance:Siz Try.prog 134 1:=⟨by kernel_rfl⟩
instance:Scal Try.prog 134:=⟨by kernel_rfl⟩
instance:SlT Try.prog 134 137:=⟨by kernel_rfl⟩
instance:Zer Try.prog 136 (.agg #[(.slice none 0 0),(.slice none 0 0),(.slice none 0 0)]):=⟨by kernel_rfl⟩
instance:Fld Try.prog 136 0 0 134 1:=⟨by kernel_rfl⟩
instance:Fld Try.prog 136 1 1 91 2:=⟨by kernel_rfl⟩
instance:Siz Try.prog 137 1:=⟨by kernel_rfl⟩
instance:Byt Try.prog 137 8:=⟨by kernel_rfl⟩
instance:Zer Try.prog 137 (.pointer none):=⟨by kernel_rfl⟩
instance:Met Try.prog 137 "Step" 120:=⟨by kernel_rfl,by kernel_rfl⟩
instance:Scal Try.prog 137:=⟨by kernel_rfl⟩
instance:NoIfc Try.prog 137:=⟨by kernel_rfl⟩
instance:Scal Try.prog 138:=⟨by kernel_rfl⟩
instance:Und Try.prog 138 (.chan .both 140):=⟨by kernel_rfl⟩
instance:Siz Try.prog 140 3:=⟨by kernel_rfl⟩
instance:Byt Try.prog 140 24:=⟨by kernel_rfl⟩
instance:Zer Try.prog 140 (.agg #[(.int .u8 (0)),(.int .i64 (0)),(.bool false)]):=⟨by kernel_rfl⟩
instance:StT Try.prog 140 #[(0,2),(2,1)] #[(.int .u8 (0)),(.int .i64 (0)),(.bool false)]:=⟨by kernel_rfl,by kernel_rfl⟩
instance:Fld Try.prog 140 0 0 110 2:=⟨by kernel_rfl⟩
instance:Fld Try.prog 140 1 2 4 1:=⟨by kernel_rfl⟩
instance:StT Try.prog 142 #[(0,1),(1,1),(2,1),(3,3)] #[(.chan none),(.chan none),(.chan none),(.int .u8 (0)),(.int .i64 (0)),(.bool false)]:=⟨by kernel_rfl,by kernel_rfl⟩
instance:Fld Try.prog 142 0 0 60 1:=⟨by kernel_rfl⟩
instance:Fld Try.prog 142 1 1 60 1:=⟨by kernel_rfl⟩
instance:Fld Try.prog 142 2 2 138 1:=⟨by kernel_rfl⟩
instance:Fld Try.prog 142 3 3 140 3:=⟨by kernel_rfl⟩
instance:Scal Try.prog 144:=⟨by kernel_rfl⟩
instance:PtT Try.prog 144 132:=⟨by kernel_rfl⟩
instance:SlT Try.prog 146 147:=⟨by kernel_rfl⟩
instance:Siz Try.prog 147 1:=⟨by kernel_rfl⟩
instance:Byt Try.prog 147 8:=⟨by kernel_rfl⟩
instance:Zer Try.prog 147 (.pointer none):=⟨by kernel_rfl⟩
instance:Scal Try.prog 147:=⟨by kernel_rfl⟩
instance:Siz Try.prog 148 24:=⟨by kernel_rfl⟩
instance:Zer Try.prog 148 (.agg #[(.int .u64 (0)),(.int .u64 (0)),(.int .u64 (0)),(.int .u64 (0)),(.int .u64 (0)),(.int .u64 (0)),(.int .u64 (0)),(.int .u64 (0)),(.int .u64 (0)),(.int .u64 (0)),(.int .u64 (0)),(.int .u64 (0)),(.int .u64 (0)),(.int .u64 (0)),(.int .u64 (0)),(.int .u64 (0)),(.int .u64 (0)),(.int .u64 (0)),(.int .u64 (0)),(.int .u64 (0)),(.int .u64 (0)),(.int .u64 (0)),(.int .u64 (0)),(.int .u64 (0))]):=⟨by kernel_rfl⟩
instance:ArT Try.prog 148 24 39:=⟨by kernel_rfl⟩
instance:StT Try.prog 150 #[(0,1),(1,1),(2,1),(3,24),(27,1),(28,1)] #[(.slice none 0 0),(.int .i64 (0)),(.int .i64 (0)),(.int .u64 (0)),(.int .u64 (0)),(.int .u64 (0)),(.int .u64 (0)),(.int .u64 (0)),(.int .u64 (0)),(.int .u64 (0)),(.int .u64 (0)),(.int .u64 (0)),(.int .u64 (0)),(.int .u64 (0)),(.int .u64 (0)),(.int .u64 (0)),(.int .u64 (0)),(.int .u64 (0)),(.int .u64 (0)),(.int .u64 (0)),(.int .u64 (0)),(.int .u64 (0)),(.int .u64 (0)),(.int .u64 (0)),(.int .u64 (0)),(.int .u64 (0)),(.int .u64 (0)),(.slice none 0 0),(.bool false)]:=⟨by kernel_rfl,by kernel_rfl⟩
instance:Fld Try.prog 150 0 0 87 1:=⟨by kernel_rfl⟩
instance:Fld Try.prog 150 1 1 3 1:=⟨by kernel_rfl⟩
instance:Fld Try.prog 150 2 2 3 1:=⟨by kernel_rfl⟩
instance:Fld Try.prog 150 3 3 148 24:=⟨by kernel_rfl⟩
instance:Fld Try.prog 150 4 27 115 1:=⟨by kernel_rfl⟩
instance:Fld Try.prog 150 5 28 4 1:=⟨by kernel_rfl⟩
instance:Scal Try.prog 154:=⟨by kernel_rfl⟩
instance:SlT Try.prog 154 158:=⟨by kernel_rfl⟩
instance:StT Try.prog 156 #[(0,1),(1,1),(2,1)] #[(.int .u64 (0)),(.int .u64 (0)),(.slice none 0 0)]:=⟨by kernel_rfl,by kernel_rfl⟩
instance:Fld Try.prog 156 0 0 57 1:=⟨by kernel_rfl⟩
instance:Fld Try.prog 156 1 1 57 1:=⟨by kernel_rfl⟩
instance:Fld Try.prog 156 2 2 154 1:=⟨by kernel_rfl⟩
instance:Siz Try.prog 158 2:=⟨by kernel_rfl⟩
instance:Byt Try.prog 158 16:=⟨by kernel_rfl⟩
instance:Zer Try.prog 158 (.agg #[(.int .u64 (0)),(.int .u64 (0))]):=⟨by kernel_rfl⟩
instance:Fld Try.prog 158 0 0 57 1:=⟨by kernel_rfl⟩
instance:Fld Try.prog 158 1 1 57 1:=⟨by kernel_rfl⟩
instance:Siz Try.prog 161 7:=⟨by kernel_rfl⟩
instance:Byt Try.prog 161 56:=⟨by kernel_rfl⟩
instance:Zer Try.prog 161 (.agg #[(.int .i64 (0)),(.int .i64 (0)),(.int .i64 (0)),(.int .i64 (0)),(.int .i64 (0)),(.int .i64 (0)),(.int .u64 (0))]):=⟨by kernel_rfl⟩
instance:AggT Try.prog 161:=⟨by kernel_rfl⟩
instance:StT Try.prog 161 #[(0,1),(1,1),(2,1),(3,1),(4,1),(5,1),(6,1)] #[(.int .i64 (0)),(.int .i64 (0)),(.int .i64 (0)),(.int .i64 (0)),(.int .i64 (0)),(.int .i64 (0)),(.int .u64 (0))]:=⟨by kernel_rfl,by kernel_rfl⟩
instance:Fld Try.prog 161 0 0 3 1:=⟨by kernel_rfl⟩
instance:Fld Try.prog 161 1 1 3 1:=⟨by kernel_rfl⟩
instance:Fld Try.prog 161 2 2 3 1:=⟨by kernel_rfl⟩
instance:Fld Try.prog 161 3 3 3 1:=⟨by kernel_rfl⟩
instance:Fld Try.prog 161 4 4 3 1:=⟨by kernel_rfl⟩
instance:Fld Try.prog 161 5 5 3 1:=⟨by kernel_rfl⟩
instance:Fld Try.prog 161 6 6 39 1:=⟨by kernel_rfl⟩
instance:Und Try.prog 177 .unsafePointer:=⟨by kernel_rfl⟩
instance:PtT Try.prog 181 130:=⟨by kernel_rfl⟩
instance:Siz Try.prog 187 0:=⟨by kernel_rfl⟩
instance:Zer Try.prog 187 (.agg #[]):=⟨by kernel_rfl⟩
instance:NoIfc Try.prog 187:=⟨by kernel_rfl⟩
instance:StT Try.prog 187 #[] #[]:=⟨by kernel_rfl,by kernel_rfl⟩
instance:Siz Try.prog 191 1:=⟨by kernel_rfl⟩
instance:Byt Try.prog 191 24:=⟨by kernel_rfl⟩
instance:Zer Try.prog 191 (.slice none 0 0):=⟨by kernel_rfl⟩
instance:Scal Try.prog 191:=⟨by kernel_rfl⟩
instance:SlT Try.prog 191 202:=⟨by kernel_rfl⟩
instance:Siz Try.prog 202 2:=⟨by kernel_rfl⟩
instance:Byt Try.prog 202 16:=⟨by kernel_rfl⟩
instance:Zer Try.prog 202 (.agg #[(.int .u64 (0)),(.int .u64 (0))]):=⟨by kernel_rfl⟩
instance:Ent' Try.prog 8:=⟨⟨Try.f8,Try.func8,by kernel_rfl,by kernel_rfl⟩⟩
instance:Ent' Try.prog 10:=⟨⟨Try.f10,Try.func10,by kernel_rfl,by kernel_rfl⟩⟩
instance:Ent' Try.prog 11:=⟨⟨Try.f11,Try.func11,by kernel_rfl,by kernel_rfl⟩⟩
instance:Ent' Try.prog 13:=⟨⟨Try.f13,Try.func13,by kernel_rfl,by kernel_rfl⟩⟩
instance:Ent' Try.prog 15:=⟨⟨Try.f15,Try.func15,by kernel_rfl,by kernel_rfl⟩⟩
instance:Ent' Try.prog 16:=⟨⟨Try.f16,Try.func16,by kernel_rfl,by kernel_rfl⟩⟩
instance:Ent' Try.prog 19:=⟨⟨Try.f19,Try.func19,by kernel_rfl,by kernel_rfl⟩⟩
instance:Ent' Try.prog 20:=⟨⟨Try.f20,Try.func20,by kernel_rfl,by kernel_rfl⟩⟩
instance:Ent' Try.prog 21:=⟨⟨Try.f21,Try.func21,by kernel_rfl,by kernel_rfl⟩⟩
instance:Ent' Try.prog 26:=⟨⟨Try.f26,Try.func26,by kernel_rfl,by kernel_rfl⟩⟩
instance:Ent' Try.prog 27:=⟨⟨Try.f27,Try.func27,by kernel_rfl,by kernel_rfl⟩⟩
instance:Ent' Try.prog 28:=⟨⟨Try.f28,Try.func28,by kernel_rfl,by kernel_rfl⟩⟩
instance:Ent' Try.prog 29:=⟨⟨Try.f29,Try.func29,by kernel_rfl,by kernel_rfl⟩⟩
instance:Ent' Try.prog 30:=⟨⟨Try.f30,Try.func30,by kernel_rfl,by kernel_rfl⟩⟩
instance:Ent' Try.prog 31:=⟨⟨Try.f31,Try.func31,by kernel_rfl,by kernel_rfl⟩⟩
instance:Ent' Try.prog 32:=⟨⟨Try.f32,Try.func32,by kernel_rfl,by kernel_rfl⟩⟩
instance:Ent' Try.prog 33:=⟨⟨Try.f33,Try.func33,by kernel_rfl,by kernel_rfl⟩⟩
instance:Ent' Try.prog 35:=⟨⟨Try.f35,Try.func35,by kernel_rfl,by kernel_rfl⟩⟩
instance:Ent' Try.prog 36:=⟨⟨Try.f36,Try.func36,by kernel_rfl,by kernel_rfl⟩⟩
instance:Ent' Try.prog 37:=⟨⟨Try.f37,Try.func37,by kernel_rfl,by kernel_rfl⟩⟩
instance:Ent' Try.prog 38:=⟨⟨Try.f38,Try.func38,by kernel_rfl,by kernel_rfl⟩⟩
instance:Ent' Try.prog 39:=⟨⟨Try.f39,Try.func39,by kernel_rfl,by kernel_rfl⟩⟩
instance:Ent' Try.prog 40:=⟨⟨Try.f40,Try.func40,by kernel_rfl,by kernel_rfl⟩⟩
instance:Ent' Try.prog 41:=⟨⟨Try.f41,Try.func41,by kernel_rfl,by kernel_rfl⟩⟩
instance:Ent' Try.prog 43:=⟨⟨Try.f43,Try.func43,by kernel_rfl,by kernel_rfl⟩⟩
instance:Ent' Try.prog 44:=⟨⟨Try.f44,Try.func44,by kernel_rfl,by kernel_rfl⟩⟩
instance:Ent' Try.prog 45:=⟨⟨Try.f45,Try.func45,by kernel_rfl,by kernel_rfl⟩⟩
instance:Ent' Try.prog 46:=⟨⟨Try.f46,Try.func46,by kernel_rfl,by kernel_rfl⟩⟩
instance:Ent' Try.prog 47:=⟨⟨Try.f47,Try.func47,by kernel_rfl,by kernel_rfl⟩⟩
instance:Ent' Try.prog 48:=⟨⟨Try.f48,Try.func48,by kernel_rfl,by kernel_rfl⟩⟩
instance:Ent' Try.prog 52:=⟨⟨Try.f52,Try.func52,by kernel_rfl,by kernel_rfl⟩⟩
instance:Ent' Try.prog 53:=⟨⟨Try.f53,Try.func53,by kernel_rfl,by kernel_rfl⟩⟩
instance:Ent' Try.prog 55:=⟨⟨Try.f55,Try.func55,by kernel_rfl,by kernel_rfl⟩⟩
instance:Ent' Try.prog 56:=⟨⟨Try.f56,Try.func56,by kernel_rfl,by kernel_rfl⟩⟩
instance:Ent' Try.prog 57:=⟨⟨Try.f57,Try.func57,by kernel_rfl,by kernel_rfl⟩⟩
instance:Ent' Try.prog 58:=⟨⟨Try.f58,Try.func58,by kernel_rfl,by kernel_rfl⟩⟩
instance:Ent' Try.prog 59:=⟨⟨Try.f59,Try.func59,by kernel_rfl,by kernel_rfl⟩⟩
instance:Ent' Try.prog 60:=⟨⟨Try.f60,Try.func60,by kernel_rfl,by kernel_rfl⟩⟩
instance:Ent' Try.prog 61:=⟨⟨Try.f61,Try.func61,by kernel_rfl,by kernel_rfl⟩⟩
instance:Ent' Try.prog 62:=⟨⟨Try.f62,Try.func62,by kernel_rfl,by kernel_rfl⟩⟩
instance:Ent' Try.prog 63:=⟨⟨Try.f63,Try.func63,by kernel_rfl,by kernel_rfl⟩⟩
instance:Ent' Try.prog 64:=⟨⟨Try.f64,Try.func64,by kernel_rfl,by kernel_rfl⟩⟩
instance:Ent' Try.prog 65:=⟨⟨Try.f65,Try.func65,by kernel_rfl,by kernel_rfl⟩⟩
instance:Ent' Try.prog 66:=⟨⟨Try.f66,Try.func66,by kernel_rfl,by kernel_rfl⟩⟩
instance:Ent' Try.prog 67:=⟨⟨Try.f67,Try.func67,by kernel_rfl,by kernel_rfl⟩⟩
instance:Ent' Try.prog 68:=⟨⟨Try.f68,Try.func68,by kernel_rfl,by kernel_rfl⟩⟩
instance:Exn Try.prog 69 (Extern.Atomic.loadT (.int .u64)):=⟨⟨Try.f69,Try.func69,by kernel_rfl,by kernel_rfl,by kernel_rfl,by kernel_rfl⟩⟩
instance:Ent' Try.prog 70:=⟨⟨Try.f70,Try.func70,by kernel_rfl,by kernel_rfl⟩⟩
instance:Ent' Try.prog 71:=⟨⟨Try.f71,Try.func71,by kernel_rfl,by kernel_rfl⟩⟩
instance:Exn Try.prog 73 (fun _=>(do mark .disable;pure Extern.Race.none_:Sem Value)):=⟨⟨Try.f73,Try.func73,by kernel_rfl,by kernel_rfl,by kernel_rfl,by kernel_rfl⟩⟩
instance:Exn Try.prog 74 (fun _=>(do mark .enable;pure Extern.Race.none_:Sem Value)):=⟨⟨Try.f74,Try.func74,by kernel_rfl,by kernel_rfl,by kernel_rfl,by kernel_rfl⟩⟩
instance:Exn Try.prog 75 (fun _=>(pure (.bool false):Sem Value)):=⟨⟨Try.f75,Try.func75,by kernel_rfl,by kernel_rfl,by kernel_rfl,by kernel_rfl⟩⟩
instance:Exn Try.prog 79 (Extern.Race.marked .read):=⟨⟨Try.f79,Try.func79,by kernel_rfl,by kernel_rfl,by kernel_rfl,by kernel_rfl⟩⟩
instance:Exn Try.prog 82 (Extern.Race.marked .acquire):=⟨⟨Try.f82,Try.func82,by kernel_rfl,by kernel_rfl,by kernel_rfl,by kernel_rfl⟩⟩
instance:Ent' Try.prog 84:=⟨⟨Try.f84,Try.func84,by kernel_rfl,by kernel_rfl⟩⟩
instance:Exn Try.prog 85 (Extern.Race.marked .write):=⟨⟨Try.f85,Try.func85,by kernel_rfl,by kernel_rfl,by kernel_rfl,by kernel_rfl⟩⟩
instance:Exn Try.prog 86 (Extern.Sync.semacquire):=⟨⟨Try.f86,Try.func86,by kernel_rfl,by kernel_rfl,by kernel_rfl,by kernel_rfl⟩⟩
instance:Ent' Try.prog 87:=⟨⟨Try.f87,Try.func87,by kernel_rfl,by kernel_rfl⟩⟩
instance:Ent' Try.prog 88:=⟨⟨Try.f88,Try.func88,by kernel_rfl,by kernel_rfl⟩⟩
instance:Ent' Try.prog 89:=⟨⟨Try.f89,Try.func89,by kernel_rfl,by kernel_rfl⟩⟩
instance:Ent' Try.prog 90:=⟨⟨Try.f90,Try.func90,by kernel_rfl,by kernel_rfl⟩⟩
instance:Ent' Try.prog 91:=⟨⟨Try.f91,Try.func91,by kernel_rfl,by kernel_rfl⟩⟩
instance:Ent' Try.prog 92:=⟨⟨Try.f92,Try.func92,by kernel_rfl,by kernel_rfl⟩⟩
instance:Ent' Try.prog 93:=⟨⟨Try.f93,Try.func93,by kernel_rfl,by kernel_rfl⟩⟩
instance:Exn Try.prog 94 (Extern.Atomic.storeT):=⟨⟨Try.f94,Try.func94,by kernel_rfl,by kernel_rfl,by kernel_rfl,by kernel_rfl⟩⟩
instance:Ent' Try.prog 95:=⟨⟨Try.f95,Try.func95,by kernel_rfl,by kernel_rfl⟩⟩
instance:Exn Try.prog 96 (Extern.Atomic.update (Op.intArith .add) .u64 true):=⟨⟨Try.f96,Try.func96,by kernel_rfl,by kernel_rfl,by kernel_rfl,by kernel_rfl⟩⟩
instance:Ent' Try.prog 97:=⟨⟨Try.f97,Try.func97,by kernel_rfl,by kernel_rfl⟩⟩
instance:Exn Try.prog 99 (Extern.Atomic.casT (.int .u64)):=⟨⟨Try.f99,Try.func99,by kernel_rfl,by kernel_rfl,by kernel_rfl,by kernel_rfl⟩⟩
instance:Ent' Try.prog 100:=⟨⟨Try.f100,Try.func100,by kernel_rfl,by kernel_rfl⟩⟩
instance:Ent' Try.prog 120:=⟨⟨Try.f120,Try.func120,by kernel_rfl,by kernel_rfl⟩⟩
end
end Go.Proofs
