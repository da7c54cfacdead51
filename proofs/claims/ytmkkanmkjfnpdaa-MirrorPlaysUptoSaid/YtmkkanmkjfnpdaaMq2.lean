/-
  Part 2 of 9.
-/
import Derived.Test.YtmkkanmkjfnpdaaMq1
import Derived.Conc.Own
import Derived.KernelRfl
set_option linter.unusedVariables false
set_option linter.unusedSimpArgs false
namespace Go.PB
open Go.Conc
section
def wakes (o:Oper):Bool:=match o.op with
 | .call { callee:=.builtin _,.. }=>true
 | _=>false
structure Hand.{u} where
 X:Type u
 mark:Mark→Prop
 act:Bool→Sem Next→Hp→X→(Next→Hp→X→Prop)→Prop
 comm:Array CommCase→Bool→CommShape→Hp→X→(Value→Hp→X→Prop)→Prop
 spawn:Deferred→Hp→X→(Hp→X→Prop)→Prop
 ghost:Hp→X→(Hp→X→Prop)→Prop
 late:Sem Next→Hp→X→(Hp→X→Prop)→Prop
 cut:List PanicEntry→Hp→X→Prop
structure Base where
 fn:FuncId
 kind:CallKind
structure Z where
 d:List Deferred
 um:FrameMode
def OkB (b:Base) (kd:CallKind) (cs:List Frame):Prop:=b.kind=kd∧(kd=.deferred→cs≠[])
def mkFr (b:Base) (t:Array Value) (d:List Deferred) (todo:List Item):Frame :=
 { fn:=b.fn,tmps:=t,todo,defers:=d,mode:=.run,kind:=b.kind,roundOf:=none }
def endFr (b:Base) (t:Array Value) (d:List Deferred) (todo:List Item) (m:FrameMode):Frame :=
 { fn:=b.fn,tmps:=t,todo,defers:=d,mode:=m,kind:=b.kind,roundOf:=none }
def setUm (um:FrameMode):List Frame→List Frame
 | []=>[]
 | c::r=>{ c with mode:=um }::r
def evT (t:Array Value):Operand→Value
 | .tmp i=>t.getD i undef
 | .const v=>v
 | .global g=>.pointer (some ⟨g,0,none⟩)
 | .func f=>.func (.func f) #[] #[]
def setDst (o:Oper) (t:Array Value) (v:Value):Array Value :=
 match o.dst with
 | some d=>t.setIfInBounds d v
 | none=>t
def AtOp (fr:Frame) (o:Oper):Prop :=
 fr.mode=.run∧fr.roundOf=none∧∃ ops i r k,fr.todo=.inRegion ops (i::r)::k∧ops[i]?=some o∧Region.wanted o (yielded ops fr.tmps)=true
structure Closed (P:Program) (B:Hand) (main:Bool) (S:Frame→List Frame→Hp→B.X→Prop):Prop where
 priv:∀ fr cs h x,(∀ w,Fits h w→∃ fr' cs' w' es h',stepG P main (G fr cs) w=.go (G fr' cs') w' es∧Guar h w w' h'∧(∀ e∈es,EvOk B.mark h w w'.heap.size e)∧S fr' cs' h' x)→S fr cs h x
 act:∀ fr cs h x o,AtOp fr o→fr.kind≠.early→B.act (wakes o) (execOp fr.eval o) h x (fun nx h' x'=>∃ v,nx=.value v∧S (fr.finish v) cs h' x')→S fr cs h x
 comm:∀ fr cs h x o cases bl sh,AtOp fr o→(∀ w,Fits h w→(execOp fr.eval o).runT P w #[]=(.ok (.comm cases bl sh) w,#[]))→B.comm cases bl sh h x (fun v h' x'=>S (fr.finish v) cs h' x')→S fr cs h x
 spawn:∀ fr cs h x o d,AtOp fr o→(∀ w,Fits h w→(execOp fr.eval o).runT P w #[]=(.ok (.spawn d) w,#[]))→B.spawn d h x (fun h' x'=>S (fr.finish undef) cs h' x')→S fr cs h x
 ghost:∀ fr cs h x,B.ghost h x (fun h' x'=>S fr cs h' x')→S fr cs h x
 late:∀ b t ds todo cs h x f cap args,B.late (invoke (.fn f cap) args) h x (fun h' x'=>S (endFr b t ds todo .returning) cs h' x')→S (endFr b t ({ target:=.fn f cap,args }::ds) todo .returning) cs h x
inductive Ex where
 | normal
 | exit (id:Nat)
 | goto (l:Nat)
 | ret
 | panic (chain:List PanicEntry)
section
variable {P:Program} {B:Hand} {kd:CallKind}
def Arr (S:Frame→List Frame→Hp→B.X→Prop) (b:Base) (k:List Item) (cs:List Frame):Ex→Array Value→Z→Hp→B.X→Prop
 | .normal,t,z,h,x=>S (mkFr b t z.d k) (setUm z.um cs) h x
 | .exit id,t,z,h,x=>∃ k',exitTo id k=some k'∧S (mkFr b t z.d k') (setUm z.um cs) h x
 | .goto l,t,z,h,x=>∃ k',gotoIn l k=some k'∧S (mkFr b t z.d k') (setUm z.um cs) h x
 | .ret,t,z,h,x=>∀ todo,S (endFr b t z.d todo .returning) (setUm z.um cs) h x
 | .panic chain,t,z,h,x=>∀ todo,S (endFr b t z.d todo (.panicking chain)) (setUm z.um cs) h x
abbrev Post (B:Hand):=Ex→Array Value→Z→Hp→B.X→Prop
variable (P B) in
def Wc (kd:CallKind) (c:Code) (K:Post B) (t:Array Value) (z:Z) (h:Hp) (x:B.X):Prop :=
 ∀ main S,Closed P B main S→∀ b k cs,OkB b kd cs→(∀ e t z h x,K e t z h x→Arr S b k cs e t z h x)→S (mkFr b t z.d (.code c::k)) (setUm z.um cs) h x
variable (P B) in
def Wr (kd:CallKind) (ops:Array Oper) (l:List Nat) (K:Post B) (t:Array Value) (z:Z) (h:Hp) (x:B.X):Prop :=
 ∀ main S,Closed P B main S→∀ b k cs,OkB b kd cs→(∀ e t z h x,K e t z h x→Arr S b k cs e t z h x)→S (mkFr b t z.d (.inRegion ops l::k)) (setUm z.um cs) h x
inductive End where
 | ret (v:Value)
 | pan (chain:List PanicEntry)
variable (P) in
def AtEnd (fr:Frame) (f:FuncId) (kind:CallKind) (h:Hp):End→Prop
 | .ret v=>fr.fn=f∧fr.kind=kind∧fr.mode=.returning∧fr.defers=[]∧fr.roundOf=none∧∃ fn,P.funcs[f]?=some fn∧wpS P (fun _=>False) (results fn fr.tmps) h (fun v' h'=>v'=v∧h'=h) (fun _ _=>False)
 | .pan chain=>fr.fn=f∧fr.kind=kind∧fr.mode=.panicking chain∧fr.defers=[]∧fr.roundOf=none∧∃ fn,P.funcs[f]?=some fn
variable (P B) in
def Wf (f:FuncId) (kind:CallKind) (args:Array Value) (um:FrameMode) (h:Hp) (x:B.X) (Q:End→FrameMode→Hp→B.X→Prop):Prop :=
 ∀ main S,Closed P B main S→∀ cs,(kind=.deferred→cs≠[])→(∀ fr e um' h' x',AtEnd P fr f kind h' e→Q e um' h' x'→S fr (setUm um' cs) h' x')→S (Frame.enter P f args kind) (setUm um cs) h x
theorem eval_mkFr {b:Base} {t:Array Value} {d:List Deferred} {todo:List Item}:(mkFr b t d todo).eval=evT t:=by
 funext o;cases o <;> rfl
theorem go_of {main:Bool} {S:Frame→List Frame→Hp→B.X→Prop} (C:Closed P B main S) {fr fr':Frame} {cs cs':List Frame} {h:Hp} {x:B.X}
  (hs:∀ w,stepG P main (G fr cs) w=.go (G fr' cs') w #[]) (h':S fr' cs' h x):S fr cs h x :=
 C.priv _ _ _ _ fun w f=>⟨fr',cs',w,#[],h,hs w,.refl f,fun e he=>by simp at he,h'⟩
theorem Wc.mono {c:Code} {K K':Post B} {t:Array Value} {z:Z} {h:Hp} {x:B.X} (w:Wc P B kd c K t z h x) (hk:∀ e t z h x,K e t z h x→K' e t z h x):Wc P B kd c K' t z h x :=
 fun main S C b k cs hb ha=>w main S C b k cs hb fun e t z h x q=>ha e t z h x (hk e t z h x q)
theorem wc_skip {K:Post B} {t:Array Value} {z:Z} {h:Hp} {x:B.X} (w:K .normal t z h x):Wc P B kd .skip K t z h x :=
 fun _ _ C b k cs _ ha=>go_of C (fr':=mkFr b t z.d k) (cs':=setUm z.um cs) (fun _=>by simp [stepG,stepG.exec,G,mkFr]) (ha _ _ _ _ _ w)
theorem wc_label {l:Nat} {K:Post B} {t:Array Value} {z:Z} {h:Hp} {x:B.X} (w:K .normal t z h x):Wc P B kd (.label l) K t z h x :=
 fun _ _ C b k cs _ ha=>go_of C (fr':=mkFr b t z.d k) (cs':=setUm z.um cs) (fun _=>by simp [stepG,stepG.exec,G,mkFr]) (ha _ _ _ _ _ w)
theorem wc_exit {id:Nat} {K:Post B} {t:Array Value} {z:Z} {h:Hp} {x:B.X} (w:K (.exit id) t z h x):Wc P B kd (.exit id) K t z h x :=
 fun _ _ C b k cs _ ha=>by
  obtain ⟨k',hk,hs⟩:=ha _ _ _ _ _ w
  exact go_of C (fr':=mkFr b t z.d k') (cs':=setUm z.um cs) (fun _=>by simp [stepG,stepG.exec,G,mkFr,hk]) hs
theorem wc_ret {K:Post B} {t:Array Value} {z:Z} {h:Hp} {x:B.X} (w:K .ret t z h x):Wc P B kd .ret K t z h x :=
 fun _ _ C b k cs _ ha=>go_of C (fr':=endFr b t z.d (.code .ret::k) .returning) (cs':=setUm z.um cs) (fun _=>by simp [stepG,stepG.exec,G,mkFr,endFr]) (ha _ _ _ _ _ w _)
def thn (P:Program) (B:Hand) (kd:CallKind) (c:Code) (K:Post B):Post B
 | .normal,t,z,h,x=>Wc P B kd c K t z h x
 | e,t,z,h,x=>K e t z h x
def plainI:Item→Bool
 | .inBlock _ | .inScope _=>false
 | _=>true
theorem Arr.pass {S:Frame→List Frame→Hp→B.X→Prop} {b:Base} {it:Item} {k:List Item} {cs:List Frame} {e:Ex} {t:Array Value} {z:Z} {h:Hp} {x:B.X}
  (hi:plainI it=true) (he:e≠.normal) (a:Arr S b k cs e t z h x):Arr S b (it::k) cs e t z h x:=by
 cases e with
 | normal=>exact absurd rfl he
 | exit id=>obtain ⟨k',hk,hs⟩:=a;exact ⟨k',by cases it <;> simp_all [exitTo,plainI],hs⟩
 | goto l=>obtain ⟨k',hk,hs⟩:=a;exact ⟨k',by cases it <;> simp_all [gotoIn,plainI],hs⟩
 | ret=>exact a
 | panic ch=>exact a
theorem wc_seq {a c:Code} {K:Post B} {t:Array Value} {z:Z} {h:Hp} {x:B.X} (w:Wc P B kd a (thn P B kd c K) t z h x):Wc P B kd (.seq a c) K t z h x :=
 fun main S C b k cs hb ha=>by
  refine go_of C (fr':=mkFr b t z.d (.code a::.code c::k)) (cs':=setUm z.um cs) (fun _=>by simp [stepG,stepG.exec,G,mkFr]) (w main S C b _ cs hb fun e t z h x q=>?_)
  cases e with
  | normal=>exact q main S C b k cs hb ha
  | exit id=>exact .pass rfl (by simp) (ha _ _ _ _ _ q)
  | goto l=>exact .pass rfl (by simp) (ha _ _ _ _ _ q)
  | ret=>exact .pass rfl (by simp) (ha _ _ _ _ _ q)
  | panic ch=>exact .pass rfl (by simp) (ha _ _ _ _ _ q)
theorem wc_cond {c:Operand} {a a':Code} {q:Bool} {K:Post B} {t:Array Value} {z:Z} {h:Hp} {x:B.X} (hc:evT t c=.bool q) (w:Wc P B kd (if q then a else a') K t z h x):Wc P B kd (.cond c a a') K t z h x :=
 fun main S C b k cs hb ha=>by
  refine go_of C (fr':=mkFr b t z.d (.code (if q then a else a')::k)) (cs':=setUm z.um cs) (fun _=>?_) (w main S C b _ cs hb ha)
  have he:(mkFr b t z.d (.code (.cond c a a')::k)).eval c=.bool q:=by rw [eval_mkFr];exact hc
  simp only [stepG,stepG.exec,G,mkFr] at he ⊢
  rw [he]
def inBlk (id:Nat) (K:Post B):Post B
 | .exit id',t,z,h,x=>if id'=id then K .normal t z h x else K (.exit id') t z h x
 | e,t,z,h,x=>K e t z h x
theorem wc_block {id:Nat} {c:Code} {K:Post B} {t:Array Value} {z:Z} {h:Hp} {x:B.X} (w:Wc P B kd c (inBlk id K) t z h x):Wc P B kd (.block id c) K t z h x :=
 fun main S C b k cs hb ha=>by
  refine go_of C (fr':=mkFr b t z.d (.code c::.inBlock id::k)) (cs':=setUm z.um cs) (fun _=>by simp [stepG,stepG.exec,G,mkFr]) (w main S C b _ cs hb fun e t z h x q=>?_)
  cases e with
  | normal=>exact go_of C (fr':=mkFr b t z.d k) (cs':=setUm z.um cs) (fun _=>by simp [stepG,stepG.exec,G,mkFr]) (ha _ _ _ _ _ q)
  | exit id' =>
   by_cases hid:id'=id
   ·simp only [inBlk,hid,if_true] at q
    exact ⟨k,by simp [exitTo,hid],ha _ _ _ _ _ q⟩
   ·simp only [inBlk,hid,if_false] at q
    obtain ⟨k',hk,hs⟩:=ha _ _ _ _ _ q
    have hb:(id == id')=false:=by simp;exact fun e=>hid e.symm
    exact ⟨k',by simp [exitTo,hb,hk],hs⟩
  | goto l=>obtain ⟨k',hk,hs⟩:=ha _ _ _ _ _ q;exact ⟨k',by simp [gotoIn,hk],hs⟩
  | ret=>exact ha _ _ _ _ _ q
  | panic ch=>exact ha _ _ _ _ _ q
def inScp (R:Nat→Array Value→Z→Hp→B.X→Prop) (K:Post B):Post B
 | .goto l,t,z,h,x=>R l t z h x
 | e,t,z,h,x=>K e t z h x
theorem wc_scope {c:Code} {K:Post B} {t:Array Value} {z:Z} {h:Hp} {x:B.X} (w:Wc P B kd c (inScp (fun _ _ _ _ _=>False) K) t z h x):Wc P B kd (.scope c) K t z h x :=
 fun main S C b k cs hb ha=>by
  refine go_of C (fr':=mkFr b t z.d (.code c::.inScope c::k)) (cs':=setUm z.um cs) (fun _=>by simp [stepG,stepG.exec,G,mkFr]) (w main S C b _ cs hb fun e t z h x q=>?_)
  cases e with
  | normal=>exact go_of C (fr':=mkFr b t z.d k) (cs':=setUm z.um cs) (fun _=>by simp [stepG,stepG.exec,G,mkFr]) (ha _ _ _ _ _ q)
  | exit id'=>obtain ⟨k',hk,hs⟩:=ha _ _ _ _ _ q;exact ⟨k',by simp [exitTo,hk],hs⟩
  | goto l=>exact q.elim
  | ret=>exact ha _ _ _ _ _ q
  | panic ch=>exact ha _ _ _ _ _ q
def inLp (I:Array Value→Z→Hp→B.X→Prop) (K:Post B):Post B
 | .normal,t,z,h,x=>I t z h x
 | e,t,z,h,x=>K e t z h x
theorem wc_loop {c:Code} {K:Post B} {t:Array Value} {z:Z} {h:Hp} {x:B.X} {ι:Type} (I:ι→Array Value→Z→Hp→B.X→Prop) (r:ι→ι→Prop) (wf:WellFounded r) (i:ι) (h0:I i t z h x)
  (round:∀ i t z h x,I i t z h x→Wc P B kd c (inLp (fun t z h x=>∃ i',r i' i∧I i' t z h x) K) t z h x):Wc P B kd (.loop c) K t z h x :=
 fun main S C b k cs hb ha=>by
  have key:∀ i t z h x,I i t z h x→S (mkFr b t z.d (.code c::.inLoop c::k)) (setUm z.um cs) h x:=by
   intro i
   induction i using wf.induction with
   | _ i ih =>
    intro t z h x hI
    refine round i t z h x hI main S C b _ cs hb fun e t z h x q=>?_
    cases e with
    | normal =>
     obtain ⟨i',hr,hI'⟩:=q
     exact go_of C (fr':=mkFr b t z.d (.code c::.inLoop c::k)) (cs':=setUm z.um cs) (fun _=>by simp [stepG,stepG.exec,G,mkFr]) (ih i' hr t z h x hI')
    | exit id=>exact .pass rfl (by simp) (ha _ _ _ _ _ q)
    | goto l=>exact .pass rfl (by simp) (ha _ _ _ _ _ q)
    | ret=>exact .pass rfl (by simp) (ha _ _ _ _ _ q)
    | panic ch=>exact .pass rfl (by simp) (ha _ _ _ _ _ q)
  exact go_of C (fr':=mkFr b t z.d (.code c::.inLoop c::k)) (cs':=setUm z.um cs) (fun _=>by simp [stepG,stepG.exec,G,mkFr]) (key i t z h x h0)
variable (P B) in
def Wl (kd:CallKind) (c:Code) (K:Post B) (t:Array Value) (z:Z) (h:Hp) (x:B.X):Prop :=
 ∀ main S,Closed P B main S→∀ b k cs,OkB b kd cs→(∀ e t z h x,K e t z h x→Arr S b k cs e t z h x)→S (mkFr b t z.d (.inLoop c::k)) (setUm z.um cs) h x
theorem loop_body {c:Code} {K:Post B} {t:Array Value} {z:Z} {h:Hp} {x:B.X} (w:Wc P B kd c (inLp (Wl P B kd c K) K) t z h x) {main:Bool} {S:Frame→List Frame→Hp→B.X→Prop} (C:Closed P B main S) {b:Base} {k:List Item} {cs:List Frame} (hb:OkB b kd cs)
  (ha:∀ e t z h x,K e t z h x→Arr S b k cs e t z h x):S (mkFr b t z.d (.code c::.inLoop c::k)) (setUm z.um cs) h x:=by
 refine w main S C b _ cs hb fun e t z h x q=>?_
 cases e with
 | normal=>exact q main S C b k cs hb ha
 | exit id=>exact .pass rfl (by simp) (ha _ _ _ _ _ q)
 | goto l=>exact .pass rfl (by simp) (ha _ _ _ _ _ q)
 | ret=>exact .pass rfl (by simp) (ha _ _ _ _ _ q)
 | panic ch=>exact .pass rfl (by simp) (ha _ _ _ _ _ q)
theorem wl_step {c:Code} {K:Post B} {t:Array Value} {z:Z} {h:Hp} {x:B.X} (w:Wc P B kd c (inLp (Wl P B kd c K) K) t z h x):Wl P B kd c K t z h x :=
 fun main S C b k cs hb ha=>go_of C (fr':=mkFr b t z.d (.code c::.inLoop c::k)) (cs':=setUm z.um cs) (fun _=>by simp [stepG,stepG.exec,G,mkFr]) (loop_body w C hb ha)
theorem wc_loop1 {c:Code} {K:Post B} {t:Array Value} {z:Z} {h:Hp} {x:B.X} (w:Wc P B kd c (inLp (Wl P B kd c K) K) t z h x):Wc P B kd (.loop c) K t z h x :=
 fun main S C b k cs hb ha=>go_of C (fr':=mkFr b t z.d (.code c::.inLoop c::k)) (cs':=setUm z.um cs) (fun _=>by simp [stepG,stepG.exec,G,mkFr]) (loop_body w C hb ha)
theorem wc_region {id:Nat} {ops:Array Oper} {K:Post B} {t:Array Value} {z:Z} {h:Hp} {x:B.X} (w:Wr P B kd ops (List.range ops.size) K t z h x):Wc P B kd (.region id ops false) K t z h x :=
 fun main S C b k cs hb ha=>go_of C (fr':=mkFr b t z.d (.inRegion ops (List.range ops.size)::k)) (cs':=setUm z.um cs) (fun _=>by simp [stepG,stepG.exec,G,mkFr]) (w main S C b k cs hb ha)
theorem wc_region_draw {id:Nat} {ops:Array Oper} {K:Post B} {t:Array Value} {z:Z} {h:Hp} {x:B.X} (w:∀ q,Wr P B kd ops (Region.schedule (P.follows .mixedOrders) ops q) K t z h x):Wc P B kd (.region id ops true) K t z h x :=
 fun main S C b k cs hb ha=>by
  refine C.priv _ _ _ _ fun wd f=>?_
  have hst:∃ q wd',(choose (.order b.fn id)).run P wd=.ok q wd'∧Guar h wd wd' h:=by
   simp only [choose,Sem.run]
   by_cases hq:(Question.order b.fn id).forced=true
   ·exact ⟨_,_,by rw [if_pos hq],.refl f⟩
   ·exact ⟨_,_,by rw [if_neg hq],.draw f⟩
  obtain ⟨q,wd',hq,g⟩:=hst
  refine ⟨mkFr b t z.d (.inRegion ops (Region.schedule (P.follows .mixedOrders) ops q)::k),setUm z.um cs,wd',#[],h,?_,g,fun e he=>by simp at he,w q main S C b k cs hb ha⟩
  simp [stepG,stepG.exec,G,mkFr,hq]
theorem wr_nil {ops:Array Oper} {K:Post B} {t:Array Value} {z:Z} {h:Hp} {x:B.X} (w:K .normal t z h x):Wr P B kd ops [] K t z h x :=
 fun _ _ C b k cs _ ha=>go_of C (fr':=mkFr b t z.d k) (cs':=setUm z.um cs) (fun _=>by simp [stepG,stepG.exec,G,mkFr]) (ha _ _ _ _ _ w)
theorem finish_mkFr {b:Base} {t:Array Value} {d:List Deferred} {ops:Array Oper} {i:Nat} {l:List Nat} {k:List Item} {o:Oper} (ho:ops[i]?=some o) (v:Value) :
  (mkFr b t d (.inRegion ops (i::l)::k)).finish v=mkFr b (setDst o t v) d (.inRegion ops l::k):=by
 simp only [Frame.finish,mkFr,ho,Option.bind_some,setDst]
 cases o.dst <;> rfl
theorem wr_skip {ops:Array Oper} {i:Nat} {l:List Nat} {K:Post B} {t:Array Value} {z:Z} {h:Hp} {x:B.X} {o:Oper} (ho:ops[i]?=some o) (hw:Region.wanted o (yielded ops t)=false)
  (w:Wr P B kd ops l K (setDst o t undef) z h x):Wr P B kd ops (i::l) K t z h x :=
 fun main S C b k cs hb ha=>by
  refine go_of C (fr':=mkFr b (setDst o t undef) z.d (.inRegion ops l::k)) (cs':=setUm z.um cs) (fun _=>?_) (w main S C b k cs hb ha)
  have hf:=finish_mkFr (b:=b) (t:=t) (d:=z.d) (l:=l) (k:=k) ho undef
  simp only [mkFr] at hf
  simp [stepG,stepG.exec,G,mkFr,ho,hw,hf]
def NextOk (P:Program) (B:Hand) (kd:CallKind) (ops:Array Oper) (l:List Nat) (o:Oper) (K:Post B) (t:Array Value) (z:Z) (x:B.X):Next→Hp→Prop
 | .value v,h=>Wr P B kd ops l K (setDst o t v) z h x
 | .skip,h=>Wr P B kd ops l K (setDst o t undef) z h x
 | .enter f args,h=>Wf P B f .normal args .run h x fun e um h' x'=>um=.run∧match e with
  | .ret v=>Wr P B kd ops l K (setDst o t v) z h' x'
  | .pan chain=>K (.panic chain) t z h' x'
 | .defer d,h=>Wr P B kd ops l K (setDst o t undef) { z with d:=d::z.d } h x
 | .recover,h=>kd=.deferred∧match z.um with
  | .panicking ({ v,recovered:=false,goexit:=false }::older)=>Wr P B kd ops l K (setDst o t v) { z with um:=.panicking ({ v,recovered:=true }::older) } h x
  | .returning=>Wr P B kd ops l K (setDst o t .nilIface) z h x
  | _=>False
 | _,_=>False
theorem seen_mem (P:Program) (fn:FuncId) (es:Array Event) (e:Event) (he:e∈seen P fn es):e∈es:=by
 have key:∀ (l:List Event) (q:Bool) (kept:Array Event),e∈(l.foldl (fun (qk:Bool × Array Event) (e:Event) =>
   match e.loc with
   | .mark (.extern f)=>((P.funcs[f]?).any (·.norace),qk.2)
   | _=>(qk.1,if qk.1&&!e.sync then qk.2 else qk.2.push e)) (q,kept)).2→e∈kept∨e∈l:=by
  intro l
  induction l with
  | nil=>intro q kept h;exact .inl h
  | cons a l ih =>
   intro q kept h
   simp only [List.foldl_cons] at h
   have hpush:e∈(if q&&!a.sync then kept else kept.push a)→e∈kept∨e∈a::l:=by
    intro h'
    split at h'
    ·exact .inl h'
    ·rcases Array.mem_push.1 h' with h'' | h''
     ·exact .inl h''
     ·exact .inr (by simp [h''])
   rcases ih _ _ h with h1 | h1
   ·revert h1
    split
    ·intro h1;exact .inl h1
    ·intro h1;exact hpush h1
   ·exact .inr (by simp [h1])
 unfold seen at he
 simp only [← Array.foldl_toList] at he
 rcases key es.toList _ _ he with h | h
 ·simp at h
 ·simpa using h
theorem evok_seen {M:Mark→Prop} {h:Hp} {w:World} {n:Nat} {es:Array Event} (fn:FuncId) (he:∀ e∈es,EvOk M h w n e):∀ e∈seen P fn es,EvOk M h w n e :=
 fun e hm=>he e (seen_mem P fn es e hm)
theorem evok_early {M:Mark→Prop} {h:Hp} {w:World} {n:Nat} {es:Array Event} {q:Bool} (he:∀ e∈es,EvOk M h w n e):∀ e∈(if q then #[] else es),EvOk M h w n e:=by
 cases q
 ·simpa using he
 ·simp
theorem stepG_op {main:Bool} {b:Base} {t:Array Value} {d:List Deferred} {ops:Array Oper} {i:Nat} {l:List Nat} {k:List Item} {o:Oper} {cs:List Frame} {w:World}
  (ho:ops[i]?=some o) (hw:Region.wanted o (yielded ops t)=true) :
  stepG P main (G (mkFr b t d (.inRegion ops (i::l)::k)) cs) w=stepG.apply P true (mkFr b t d (.inRegion ops (i::l)::k)) cs none (execOp (evT t) o) w:=by
 have he:=eval_mkFr (b:=b) (t:=t) (d:=d) (todo:=.inRegion ops (i::l)::k)
 have hop:(mkFr b t d (.inRegion ops (i::l)::k)).oper?=some o:=by simp [Frame.oper?,mkFr,ho]
 simp only [mkFr] at he hop ⊢
 simp only [stepG,G,stepG.exec,ho,Option.map_some,hw,Option.getD_some,if_true,stepG.oper,hop,he]
theorem setUm_run (fr:Frame) (h:fr.mode=.run) (cs:List Frame):setUm .run (fr::cs)=fr::cs:=by
 cases fr;simp only at h;subst h;rfl
theorem end_ret {main:Bool} {S:Frame→List Frame→Hp→B.X→Prop} (C:Closed P B main S) {fr c:Frame} {cs:List Frame} {f:FuncId} {v:Value} {h:Hp} {x:B.X}
  (a:AtEnd P fr f .normal h (.ret v)) (s:S (c.finish v) cs h x):S fr (c::cs) h x:=by
 obtain ⟨h1,h2,h3,h4,h5,fn,hf,hr⟩:=a
 refine C.priv _ _ _ _ fun w fw=>?_
 rcases wpS_sound _ hr w #[] fw with ⟨v',w',es',h',e1,g,e2,rfl,rfl⟩ | ⟨_,_,_,_,_,_,_,hx⟩
 ·refine ⟨c.finish v',cs,w',seen P fr.fn es'++#[],h',?_,g,?_,s⟩
  ·simp only [Array.empty_append] at e1
   cases fr
   simp only at h1 h2 h3 h4 h5
   subst h1;subst h2;subst h3;subst h4;subst h5
   simp only [stepG,G,unwind,hf,e1,GStep.after,doReturn]
  ·intro e he
   simp only [Array.append_empty] at he
   have:=e2 e (seen_mem P fr.fn es' e he)
   unfold EvOk at this ⊢
   revert this
   split <;> simp_all
 ·exact hx.elim
theorem catches_no {fr:Frame} {fn:Func} (hf:P.funcs[fr.fn]?=some fn):fr.catches P=false:=by
 simp [Frame.catches,hf]
theorem end_pan {main:Bool} {S:Frame→List Frame→Hp→B.X→Prop} (C:Closed P B main S) {fr c:Frame} {cs:List Frame} {f:FuncId} {kind:CallKind} {chain:List PanicEntry} {h:Hp} {x:B.X}
  (a:AtEnd P fr f kind h (.pan chain)) (s:S (c.raise chain) cs h x):S fr (c::cs) h x:=by
 obtain ⟨h1,h2,h3,h4,h5,fn,hf⟩:=a
 refine go_of C (fun w=>?_) s
 have hc:fr.catches P=false:=catches_no (by rw [h1];exact hf)
 cases fr
 simp only at h1 h2 h3 h4 h5
 subst h1;subst h2;subst h3;subst h4;subst h5
 simp [stepG,G,unwind,hc]
theorem wr_op {ops:Array Oper} {i:Nat} {l:List Nat} {K:Post B} {t:Array Value} {z:Z} {h:Hp} {x:B.X} {o:Oper} (ho:ops[i]?=some o) (hw:Region.wanted o (yielded ops t)=true)
  (w:wpS P B.mark (execOp (evT t) o) h (NextOk P B kd ops l o K t z x) (fun v h'=>K (.panic [{ v,recovered:=false }]) t z h' x)):Wr P B kd ops (i::l) K t z h x :=
 fun main S C b k cs hb ha=>by
  refine C.priv _ _ _ _ fun wd fw=>?_
  rw [stepG_op ho hw]
  have hfin:=fun v=>finish_mkFr (b:=b) (t:=t) (d:=z.d) (l:=l) (k:=k) ho v
  rcases wpS_sound _ w wd #[] fw with ⟨nx,w',es',h',e1,g,e2,q⟩ | ⟨v,w',es',h',e1,g,e2,q⟩
  ·simp only [Array.empty_append] at e1
   cases nx with
   | value v =>
    refine ⟨_,_,w',_,h',by simp only [stepG.apply,if_true,e1,GStep.after,hfin];rfl,g,?_,q main S C b k cs hb ha⟩
    intro e he;simp only [Array.append_empty] at he;exact evok_seen _ (evok_early e2) e he
   | skip =>
    refine ⟨_,_,w',_,h',by simp only [stepG.apply,if_true,e1,GStep.after,hfin];rfl,g,?_,q main S C b k cs hb ha⟩
    intro e he;simp only [Array.append_empty] at he;exact evok_seen _ (evok_early e2) e he
   | enter f args =>
    refine ⟨Frame.enter P f args .normal,mkFr b t z.d (.inRegion ops (i::l)::k)::setUm z.um cs,w',_,h',by simp only [stepG.apply,if_true,e1,GStep.after,mkFr];rfl,g,?_,?_⟩
    ·intro e he;simp only [Array.append_empty] at he;exact evok_seen _ (evok_early e2) e he
    ·have:=q main S C (mkFr b t z.d (.inRegion ops (i::l)::k)::setUm z.um cs) (by simp) ?_
     ·rwa [setUm_run _ rfl] at this
     ·intro fr e um' h2 x2 hend hq
      obtain ⟨hum,hq⟩:=hq
      subst hum
      rw [setUm_run _ rfl]
      cases e with
      | ret v=>refine end_ret C hend ?_;rw [hfin];exact hq main S C b k cs hb ha
      | pan chain=>refine end_pan C hend ?_;exact ha _ _ _ _ _ hq _
   | defer dd =>
    refine ⟨mkFr b (setDst o t undef) (dd::z.d) (.inRegion ops l::k),_,w',seen P b.fn (if b.kind == .early then #[] else es')++#[],h',?_,g,?_,q main S C b k cs hb ha⟩
    ·have hf2:=finish_mkFr (b:=b) (t:=t) (d:=dd::z.d) (l:=l) (k:=k) ho undef
     simp only [mkFr] at hf2
     simp only [stepG.apply,if_true,e1,GStep.after,mkFr,hf2];rfl
    ·intro e he;simp only [Array.append_empty] at he;exact evok_seen _ (evok_early e2) e he
   | recover =>
    obtain ⟨hkd,q⟩:=q
    have he:∀ e∈seen P b.fn (if b.kind == .early then #[] else es')++#[],EvOk B.mark h wd w'.heap.size e:=by
     intro e he;simp only [Array.append_empty] at he;exact evok_seen _ (evok_early e2) e he
    have hk:b.kind=.deferred:=hb.1.trans hkd
    obtain ⟨bfn,bk⟩:=b
    simp only at hk
    subst hk
    cases cs with
    | nil=>exact absurd rfl (hb.2 hkd)
    | cons c cs =>
     revert q
     cases hum:z.um with
     | run=>intro q;exact q.elim
     | returning =>
      intro q
      have q:=q main S C ⟨bfn,.deferred⟩ k _ hb ha
      rw [hum] at q
      refine ⟨mkFr ⟨bfn,.deferred⟩ (setDst o t .nilIface) z.d (.inRegion ops l::k),setUm .returning (c::cs),w',_,h',?_,g,he,q⟩
      have hf2:=hfin .nilIface
      simp only [mkFr] at hf2
      simp only [stepG.apply,if_true,e1,GStep.after,mkFr,tryRecover,setUm,hf2];rfl
     | panicking ch =>
      cases ch with
      | nil=>intro q;exact q.elim
      | cons en older =>
       obtain ⟨v,rec,gx⟩:=en
       cases rec <;> cases gx <;> intro q <;> first | exact q.elim | skip
       have hf2:=hfin v
       simp only [mkFr] at hf2
       refine ⟨mkFr ⟨bfn,.deferred⟩ (setDst o t v) z.d (.inRegion ops l::k),setUm (.panicking ({ v,recovered:=true }::older)) (c::cs),w',_,h',?_,g,he,q main S C ⟨bfn,.deferred⟩ k _ hb ha⟩
       simp only [stepG.apply,if_true,e1,GStep.after,mkFr,tryRecover,setUm,hf2];rfl
   | _=>exact q.elim
  ·simp only [Array.empty_append] at e1
   refine ⟨_,_,w',_,h',by simp only [stepG.apply,if_true,e1,GStep.after,Frame.raise,mkFr];rfl,g,?_,?_⟩
   ·intro e he;simp only [Array.append_empty] at he;exact evok_seen _ (evok_early e2) e he
   ·exact ha _ _ _ _ _ q _
def settled:FrameMode→FrameMode
 | .panicking ({ recovered:=true,.. }::older) =>
  match older.dropWhile (!·.goexit) with
  | []=>.returning
  | rest=>.panicking rest
 | m=>m
def raised (chain:List PanicEntry):FrameMode→FrameMode
 | .panicking old=>.panicking (chain++old)
 | _=>.panicking chain
variable (P B) in
def Wd (f:FuncId) (kd:CallKind) (m:FrameMode) (t:Array Value) (z:Z) (h:Hp) (x:B.X) (Q:End→FrameMode→Hp→B.X→Prop):Prop :=
 ∀ main S,Closed P B main S→∀ b k cs,OkB b kd cs→b.fn=f→(∀ fr e um h x,AtEnd P fr f kd h e→Q e um h x→S fr (setUm um cs) h x)→S (endFr b t z.d k m) (setUm z.um cs) h x
theorem wd_ret {f:FuncId} {fn:Func} {t:Array Value} {z:Z} {h:Hp} {x:B.X} {Q:End→FrameMode→Hp→B.X→Prop} (v:Value) (hf:P.funcs[f]?=some fn) (hz:z.d=[])
  (hr:wpS P (fun _=>False) (results fn t) h (fun v' h'=>v'=v∧h'=h) (fun _ _=>False)) (q:Q (.ret v) z.um h x):Wd P B f kd .returning t z h x Q :=
 fun _ _ _ _ _ _ hb hfn ha=>ha _ (.ret v) _ _ _ ⟨hfn,hb.1,rfl,hz,rfl,fn,hf,hr⟩ q
theorem wd_pan {f:FuncId} {fn:Func} {t:Array Value} {z:Z} {h:Hp} {x:B.X} {Q:End→FrameMode→Hp→B.X→Prop} {chain:List PanicEntry} (hf:P.funcs[f]?=some fn) (hz:z.d=[])
  (q:Q (.pan chain) z.um h x):Wd P B f kd (.panicking chain) t z h x Q :=
 fun _ _ _ _ _ _ hb hfn ha=>ha _ (.pan chain) _ _ _ ⟨hfn,hb.1,rfl,hz,rfl,fn,hf⟩ q
variable (P) in
def Enterable (g:FuncId):Prop:=∃ gn,P.funcs[g]?=some gn∧gn.body.isSome=true∧(gn.name == "runtime.NumGoroutine")=false
theorem runT_callFunc {g:FuncId} (e:Enterable P g) (args:Array Value) (w:World) (es:Array Event):(callFunc g args).runT P w es=(.ok (.enter g args) w,es):=by
 obtain ⟨gn,hg,hb,hn⟩:=e
 have hb':gn.body.isNone=false:=by cases h:gn.body <;> simp_all
 have h1:(callFunc g args).runT P w es=((match P.funcs[g]? with
  | none=>stuck "call: no such function"
  | some fn =>
   if fn.name == "runtime.NumGoroutine" then pure .numGoroutine
   else if fn.body.isNone then (do
    mark (.extern g)
    if let some e:=Extern.findNext fn then return ← e args
    match Extern.find fn with
    | some e=>pure (.value (← e args))
    | none =>
     if fn.name.endsWith ".init" && !fn.name.startsWith "(" && !fn.name.startsWith "gosem." then pure (.value (.tuple #[]))
     else unsupported (.extern fn.name))
   else pure (.enter g args):Sem Next)).runT P w es:=rfl
 rw [h1,hg]
 simp only [hn,hb',if_neg Bool.false_ne_true]
 rfl
theorem wpS_callFunc {M:Mark→Prop} {g:FuncId} (e:Enterable P g) {args:Array Value} {h:Hp} {Q:Next→Hp→Prop} {X:Value→Hp→Prop} (q:Q (.enter g args) h):wpS P M (callFunc g args) h Q X:=by
 obtain ⟨gn,hg,hb,hn⟩:=e
 have hb':gn.body.isNone=false:=by cases h:gn.body <;> simp_all
 show wpS P M ((match P.funcs[g]? with
  | none=>stuck "call: no such function"
  | some fn =>
   if fn.name == "runtime.NumGoroutine" then pure .numGoroutine
   else if fn.body.isNone then (do
    mark (.extern g)
    if let some e:=Extern.findNext fn then return ← e args
    match Extern.find fn with
    | some e=>pure (.value (← e args))
    | none =>
     if fn.name.endsWith ".init" && !fn.name.startsWith "(" && !fn.name.startsWith "gosem." then pure (.value (.tuple #[]))
     else unsupported (.extern fn.name))
   else pure (.enter g args):Sem Next)) h Q X
 rw [hg]
 simp only [hn,hb',if_neg Bool.false_ne_true]
 exact q
theorem wd_late {f:FuncId} {g:Fn} {t:Array Value} {z:Z} {h:Hp} {x:B.X} {Q:End→FrameMode→Hp→B.X→Prop} {cap args:Array Value} {ds:List Deferred} (hz:z.d={ target:=.fn g cap,args }::ds)
  (w:∀ O:Hp→B.X→Prop,(∀ h' x',Wd P B f kd .returning t { z with d:=ds } h' x' Q→O h' x')→B.late (invoke (.fn g cap) args) h x O):Wd P B f kd .returning t z h x Q :=
 fun main S C b k cs hb hfn ha=>by
  rw [hz]
  exact C.late _ _ _ _ _ _ _ _ _ _ (w _ fun h' x' q=>q main S C b k cs hb hfn ha)
def leave (P:Program) (B:Hand) (f:FuncId) (kd:CallKind) (Q:End→FrameMode→Hp→B.X→Prop):Post B
 | .normal,t,z,h,x=>Wd P B f kd .returning t z h x Q
 | .ret,t,z,h,x=>Wd P B f kd .returning t z h x Q
 | .panic chain,t,z,h,x=>Wd P B f kd (.panicking chain) t z h x Q
 | _,_,_,_,_=>False
theorem wf_of_body {f:FuncId} {fn:Func} {c:Code} {args:Array Value} {um:FrameMode} {h:Hp} {x:B.X} {Q:End→FrameMode→Hp→B.X→Prop} (hf:P.funcs[f]?=some fn) (hb:fn.body=some c)
  (w:Wc P B kd c (leave P B f kd Q) (args++Array.replicate (fn.ntmps-args.size) undef) ⟨[],um⟩ h x):Wf P B f kd args um h x Q :=
 fun main S C cs hcs ha=>by
  have he:Frame.enter P f args kd=mkFr ⟨f,kd⟩ (args++Array.replicate (fn.ntmps-args.size) undef) [] [.code c]:=by
   simp [Frame.enter,hf,hb,mkFr]
  rw [he]
  refine w main S C ⟨f,kd⟩ [] cs ⟨rfl,hcs⟩ fun e t z h x q=>?_
  cases e with
  | normal =>
   refine go_of C (fr':=endFr ⟨f,kd⟩ t z.d [] .returning) (cs':=setUm z.um cs) (fun _=>by simp [stepG,stepG.exec,G,mkFr,endFr]) ?_
   exact q main S C ⟨f,kd⟩ [] cs ⟨rfl,hcs⟩ rfl fun fr e um h x a q=>ha fr e um h x a q
  | ret=>exact fun todo=>q main S C ⟨f,kd⟩ todo cs ⟨rfl,hcs⟩ rfl fun fr e um h x a q=>ha fr e um h x a q
  | panic ch=>exact fun todo=>q main S C ⟨f,kd⟩ todo cs ⟨rfl,hcs⟩ rfl fun fr e um h x a q=>ha fr e um h x a q
  | exit id=>exact q.elim
  | goto l=>exact q.elim
end
end
end Go.PB
namespace Go.PB
abbrev HProp:=Hp→Prop
structure Split (h h1 h2:Hp):Prop where
 r1:∀ b o v,h1.ro b o=some v→h.ro b o=some v
 r2:∀ b o v,h2.ro b o=some v→h.ro b o=some v
 o1:∀ b o v,h1.own b o=some v→h.own b o=some v
 o2:∀ b o v,h2.own b o=some v→h.own b o=some v
 od:∀ b o,h1.own b o=none∨h2.own b o=none
 b1:∀ b v,h1.obj b=some v→h.obj b=some v
 b2:∀ b v,h2.obj b=some v→h.obj b=some v
 bd:∀ b,h1.obj b=none∨h2.obj b=none
 s1:∀ b y,h1.shp b=some y→h.shp b=some y
 s2:∀ b y,h2.shp b=some y→h.shp b=some y
def Star:List HProp→Hp→Prop
 | [],_=>True
 | c::L,h=>∃ h1 h2,Split h h1 h2∧c h1∧Star L h2
theorem Split.swap {h h1 h2:Hp} (s:Split h h1 h2):Split h h2 h1 :=
 ⟨s.r2,s.r1,s.o2,s.o1,fun b o=>(s.od b o).symm,s.b2,s.b1,fun b=>(s.bd b).symm,s.s2,s.s1⟩
def Hp.join (h1 h2:Hp):Hp:=⟨fun b o=>(h1.own b o).or (h2.own b o),fun b o=>(h1.ro b o).or (h2.ro b o),fun b=>(h1.obj b).or (h2.obj b),fun b=>(h1.shp b).or (h2.shp b)⟩
theorem or_some {α:Type} {a b:Option α} {v:α} (h:a.or b=some v):a=some v∨(a=none∧b=some v):=by
 cases a with
 | none=>exact .inr ⟨rfl,by simpa using h⟩
 | some x=>exact .inl (by simpa using h)
theorem Split.assoc {h h1 h2 h3 h4:Hp} (s:Split h h1 h2) (t:Split h2 h3 h4):Split h h3 (h1.join h4)∧Split (h1.join h4) h1 h4:=by
 have none_o:∀ b o v,h3.own b o=some v→h1.own b o=none:=fun b o v e=>(s.od b o).resolve_right (by rw [t.o1 _ _ _ e];simp)
 have none_b:∀ b v,h3.obj b=some v→h1.obj b=none:=fun b v e=>(s.bd b).resolve_right (by rw [t.b1 _ _ e];simp)
 have none_o4:∀ b o v,h4.own b o=some v→h1.own b o=none:=fun b o v e=>(s.od b o).resolve_right (by rw [t.o2 _ _ _ e];simp)
 have none_b4:∀ b v,h4.obj b=some v→h1.obj b=none:=fun b v e=>(s.bd b).resolve_right (by rw [t.b2 _ _ e];simp)
 refine ⟨⟨fun _ _ _ e=>s.r2 _ _ _ (t.r1 _ _ _ e),fun b o v e=>?_,fun _ _ _ e=>s.o2 _ _ _ (t.o1 _ _ _ e),fun b o v e=>?_,fun b o=>?_,fun _ _ e=>s.b2 _ _ (t.b1 _ _ e),fun b v e=>?_,fun b=>?_,fun _ _ e=>s.s2 _ _ (t.s1 _ _ e),fun b y e=>(or_some e).elim (fun e=>s.s1 _ _ e) (fun e=>s.s2 _ _ (t.s2 _ _ e.2))⟩,⟨fun b o v e=>?_,fun b o v e=>?_,fun b o v e=>?_,fun b o v e=>?_,fun b o=>?_,fun b v e=>?_,fun b v e=>?_,fun b=>?_,fun b y e=>by simp [Hp.join,e],fun b y e=>by
  cases e1:h1.shp b with
  | none=>simp [Hp.join,e,e1]
  | some u=>have a:=s.s1 _ _ e1;have c:=s.s2 _ _ (t.s2 _ _ e);rw [a] at c;injection c with c;subst c;simp [Hp.join,e1]⟩⟩
 ·rcases or_some e with e | ⟨_,e⟩
  ·exact s.r1 _ _ _ e
  ·exact s.r2 _ _ _ (t.r2 _ _ _ e)
 ·rcases or_some e with e | ⟨_,e⟩
  ·exact s.o1 _ _ _ e
  ·exact s.o2 _ _ _ (t.o2 _ _ _ e)
 ·cases e:h3.own b o with
  | none=>exact .inl rfl
  | some v=>right;simp [Hp.join,none_o _ _ _ e,(t.od b o).resolve_left (by rw [e];simp)]
 ·rcases or_some e with e | ⟨_,e⟩
  ·exact s.b1 _ _ e
  ·exact s.b2 _ _ (t.b2 _ _ e)
 ·cases e:h3.obj b with
  | none=>exact .inl rfl
  | some v=>right;simp [Hp.join,none_b _ _ e,(t.bd b).resolve_left (by rw [e];simp)]
 ·simp [Hp.join,e]
 ·cases e1:h1.ro b o with
  | none=>simp [Hp.join,e,e1]
  | some u=>have a:=s.r1 _ _ _ e1;have c:=s.r2 _ _ _ (t.r2 _ _ _ e);rw [a] at c;injection c with c;subst c;simp [Hp.join,e1]
 ·simp [Hp.join,e]
 ·simp [Hp.join,e,none_o4 _ _ _ e]
 ·cases e:h4.own b o with
  | none=>exact .inr rfl
  | some v=>exact .inl (none_o4 _ _ _ e)
 ·simp [Hp.join,e]
 ·simp [Hp.join,e,none_b4 _ _ e]
 ·cases e:h4.obj b with
  | none=>exact .inr rfl
  | some v=>exact .inl (none_b4 _ _ e)
theorem star_swap {c d:HProp} {L:List HProp} {h:Hp} (s:Star (c::d::L) h):Star (d::c::L) h:=by
 obtain ⟨h1,h2,s1,hc,h3,h4,s2,hd,hL⟩:=s
 obtain ⟨a,b⟩:=s1.assoc s2
 exact ⟨h3,h1.join h4,a,hd,h1,h4,b,hc,hL⟩
theorem star_drop {c:HProp} {L:List HProp} {h:Hp} (s:Star (c::L) h):Star L h:=by
 obtain ⟨h1,h2,s1,_,hL⟩:=s
 cases L with
 | nil=>trivial
 | cons d L =>
  obtain ⟨h3,h4,s2,hd,hL⟩:=hL
  exact ⟨h3,h4,⟨fun _ _ _ e=>s1.r2 _ _ _ (s2.r1 _ _ _ e),fun _ _ _ e=>s1.r2 _ _ _ (s2.r2 _ _ _ e),fun _ _ _ e=>s1.o2 _ _ _ (s2.o1 _ _ _ e),fun _ _ _ e=>s1.o2 _ _ _ (s2.o2 _ _ _ e),s2.od,fun _ _ e=>s1.b2 _ _ (s2.b1 _ _ e),fun _ _ e=>s1.b2 _ _ (s2.b2 _ _ e),s2.bd,fun _ _ e=>s1.s2 _ _ (s2.s1 _ _ e),fun _ _ e=>s1.s2 _ _ (s2.s2 _ _ e)⟩,hd,hL⟩
theorem star_map {c d:HProp} {L M:List HProp} {h:Hp} (s:Star (c::L) h) (hc:∀ h,c h→d h) (hL:∀ h,Star L h→Star M h):Star (d::M) h:=by
 obtain ⟨h1,h2,s1,a,b⟩:=s
 exact ⟨h1,h2,s1,hc _ a,hL _ b⟩
inductive Has:List HProp→HProp→List HProp→Prop
 | here {c:HProp} {L:List HProp}:Has (c::L) c L
 | there {c d:HProp} {L R:List HProp}:Has L c R→Has (d::L) c (d::R)
theorem Has.star {L R:List HProp} {c:HProp} (a:Has L c R):∀ {h:Hp},Star L h→Star (c::R) h:=by
 induction a with
 | here=>exact fun s=>s
 | there _ ih=>exact fun s=>star_swap (star_map s (fun _ x=>x) (fun _=>ih))
inductive Ent:List HProp→List HProp→Prop
 | refl {L:List HProp}:Ent L L
 | nil {L:List HProp}:Ent L []
 | take {L R M:List HProp} {c:HProp}:Has L c R→Ent R M→Ent L (c::M)
 | drop {L M:List HProp} {c:HProp}:Ent L M→Ent (c::L) M
theorem Ent.star {L M:List HProp} (a:Ent L M):∀ {h:Hp},Star L h→Star M h:=by
 induction a with
 | refl=>exact fun s=>s
 | nil=>exact fun _=>trivial
 | take b _ ih=>exact fun s=>star_map (b.star s) (fun _ x=>x) (fun _=>ih)
 | drop _ ih=>exact fun s=>ih (star_drop s)
inductive Foc:List HProp→HProp→HProp→List HProp→Prop
 | here {c d:HProp} {L:List HProp}:Foc (c::L) c d (d::L)
 | there {c d e:HProp} {L L':List HProp}:Foc L c d L'→Foc (e::L) c d (e::L')
theorem Foc.out {L L':List HProp} {c d:HProp} (a:Foc L c d L'):∃ R,Has L c R∧(∀ {h:Hp},Star (d::R) h→Star L' h):=by
 induction a with
 | here=>exact ⟨_,.here,fun s=>s⟩
 | there _ ih =>
  obtain ⟨R,h1,h2⟩:=ih
  exact ⟨_,.there h1,fun s=>star_map (star_swap s) (fun _ x=>x) (fun _=>h2)⟩
def arr (b o:Nat) (vs:List Value):HProp:=fun h=>∀ (i:Nat) v,vs[i]?=some v→h.own b (o+i)=some v
def still (b o:Nat) (v:Value):HProp:=fun h=>h.ro b o=some v
def base (W:World):HProp:=fun h=>∀ b o v,W.cell? ⟨b,o,none⟩=some v→h.ro b o=some v
def ob (b:Nat) (o:Obj):HProp:=fun h=>h.obj b=some o
def Rd (L:List HProp) (b o:Nat) (v:Value):Prop:=∀ h,Star L h→h.can ⟨b,o,none⟩ v
theorem Rd.row {b o k n:Nat} {vs:List Value} {L:List HProp} {v:Value} (hk:vs[k]?=some v) (hn:n=o+k):Rd (arr b o vs::L) b n v:=by
 rintro h ⟨h1,h2,s,ha,_⟩
 subst hn
 exact ⟨rfl,.inl (s.o1 _ _ _ (ha k v hk))⟩
theorem Rd.row0 {b n:Nat} {vs:List Value} {L:List HProp} {v:Value} (hk:vs[n]?=some v):Rd (arr b 0 vs::L) b n v:=Rd.row hk (Nat.zero_add n).symm
theorem Rd.there {b o:Nat} {c:HProp} {L:List HProp} {v:Value} (r:Rd L b o v):Rd (c::L) b o v:=fun h s=>r h (star_drop s)
theorem Rd.base {b o:Nat} {W:World} {L:List HProp} {v:Value} (e:W.cell? ⟨b,o,none⟩=some v):Rd (base W::L) b o v:=by
 rintro h ⟨h1,h2,s,ha,_⟩
 exact ⟨rfl,.inr (s.r1 _ _ _ (ha _ _ _ e))⟩
theorem Rd.still {b o:Nat} {L:List HProp} {v:Value}:Rd (still b o v::L) b o v:=by
 rintro h ⟨h1,h2,s,ha,_⟩
 exact ⟨rfl,.inr (s.r1 _ _ _ ha)⟩
theorem Rd.of {b o:Nat} {L R:List HProp} {c:HProp} {v:Value} (a:Has L c R) (r:Rd [c] b o v):Rd L b o v:=by
 intro h s
 obtain ⟨h1,h2,s1,hc,_⟩:=a.star s
 exact r h ⟨h1,h2,s1,hc,trivial⟩
theorem star_store {b o k:Nat} {vs:List Value} {v:Value} {L:List HProp} {h:Hp} (hk:k<vs.length) (s:Star (arr b o vs::L) h) :
  (h.own b (o+k)).isSome=true∧Star (arr b o (vs.set k v)::L) (h.set b (o+k) v):=by
 obtain ⟨h1,h2,s1,ha,hL⟩:=s
 have h1k:h1.own b (o+k)=some vs[k]:=ha k _ (by simp [hk])
 have hown:=s1.o1 _ _ _ h1k
 have h2k:h2.own b (o+k)=none:=(s1.od b (o+k)).resolve_left (by rw [h1k];simp)
 refine ⟨by rw [hown];rfl,h1.set b (o+k) v,h2,⟨s1.r1,s1.r2,?_,?_,?_,s1.b1,s1.b2,s1.bd,s1.s1,s1.s2⟩,?_,hL⟩
 ·intro b' o' v' e
  simp only [Hp.set] at e ⊢
  split at e
  ·rename_i hh;simp [hh,e]
  ·rename_i hh;simp only [hh,if_false];exact s1.o1 _ _ _ e
 ·intro b' o' v' e
  simp only [Hp.set]
  rw [if_neg (by rintro ⟨rfl,rfl⟩;rw [h2k] at e;cases e)]
  exact s1.o2 _ _ _ e
 ·intro b' o'
  simp only [Hp.set]
  split
  ·rename_i hh;obtain ⟨rfl,rfl⟩:=hh;exact .inr h2k
  ·exact s1.od _ _
 ·intro i u e
  simp only [Hp.set]
  by_cases hh:i=k
  ·subst hh
   have e:some v=some u:=by simpa [hk] using e
   simp only [and_self,if_true];exact e
  ·rw [List.getElem?_set_ne (by omega)] at e
   rw [if_neg (by rintro ⟨_,he⟩;exact hh (by omega))];exact ha i u e
theorem star_new {b:Nat} {c:Array Value} {L:List HProp} {h:Hp} (f:h.fresh b) (s:Star L h) {t:TypeId}:Star (arr b 0 c.toList::L) (h.newCells b c t):=by
 refine ⟨⟨fun b' o'=>if b'=b then c[o']? else none,fun _ _=>none,fun _=>none,fun _=>none⟩,h,⟨fun _ _ _ e=>by simp at e,fun _ _ _ e=>e,?_,?_,?_,fun _ _ e=>by simp at e,fun _ _ e=>e,fun _=>.inl rfl,fun _ _ e=>by simp at e,fun b' y e=>by simp only [Hp.newCells];rw [if_neg (by rintro rfl;rw [f.2.2.2] at e;cases e)];exact e⟩,?_,s⟩
 ·intro b' o' v e
  simp only [Hp.newCells] at e ⊢
  split at e
  ·rename_i hh;simp [hh,e]
  ·cases e
 ·intro b' o' v e
  simp only [Hp.newCells]
  rw [if_neg (by rintro rfl;rw [f.1] at e;cases e)]
  exact e
 ·intro b' o'
  by_cases hb:b'=b
  ·subst hb;exact .inr (f.1 o')
  ·left;simp [hb]
 ·intro i v e
  simp only [Nat.zero_add,if_true]
  simpa using e
theorem star_newObj {b:Nat} {o:Obj} {L:List HProp} {h:Hp} (f:h.fresh b) (s:Star L h):Star (ob b o::L) (h.setObj b o):=by
 refine ⟨⟨fun _ _=>none,fun _ _=>none,fun b'=>if b'=b then some o else none,fun _=>none⟩,h,⟨fun _ _ _ e=>by simp at e,fun _ _ _ e=>e,fun _ _ _ e=>by simp at e,fun _ _ _ e=>e,fun _ _=>.inl rfl,?_,?_,?_,fun _ _ e=>by simp at e,fun _ _ e=>e⟩,by simp [ob],s⟩
 ·intro b' v e
  simp only [Hp.setObj] at e ⊢
  split at e
  ·rename_i hh;simp [hh,e]
  ·cases e
 ·intro b' v e
  simp only [Hp.setObj]
  rw [if_neg (by rintro rfl;rw [f.2.2.1] at e;cases e)]
  exact e
 ·intro b'
  by_cases hb:b'=b
  ·subst hb;exact .inr f.2.2.1
  ·left;simp [hb]
theorem star_setObj {b:Nat} {o o':Obj} {L:List HProp} {h:Hp} (s:Star (ob b o::L) h):h.obj b=some o∧Star (ob b o'::L) (h.setObj b o'):=by
 obtain ⟨h1,h2,s1,ha,hL⟩:=s
 have h1k:h1.obj b=some o:=ha
 have h2k:h2.obj b=none:=(s1.bd b).resolve_left (by rw [h1k];simp)
 refine ⟨s1.b1 _ _ h1k,h1.setObj b o',h2,⟨s1.r1,s1.r2,s1.o1,s1.o2,s1.od,?_,?_,?_,s1.s1,s1.s2⟩,by simp [ob,Hp.setObj],hL⟩
 ·intro b' v e
  simp only [Hp.setObj] at e ⊢
  split at e
  ·rename_i hh;simp [hh,e]
  ·rename_i hh;simp only [hh,if_false];exact s1.b1 _ _ e
 ·intro b' v e
  simp only [Hp.setObj]
  rw [if_neg (by rintro rfl;rw [h2k] at e;cases e)]
  exact s1.b2 _ _ e
 ·intro b'
  simp only [Hp.setObj]
  split
  ·rename_i hh;subst hh;exact .inr h2k
  ·exact s1.bd _
theorem star_ex {α:Type} {c:α→HProp} {L:List HProp} {h:Hp} (s:Star ((fun h=>∃ a,c a h)::L) h):∃ a,Star (c a::L) h:=by
 obtain ⟨h1,h2,s1,⟨a,ha⟩,hL⟩:=s
 exact ⟨a,h1,h2,s1,ha,hL⟩
theorem star_and {p:Prop} {c:HProp} {L:List HProp} {h:Hp} (s:Star ((fun h=>p∧c h)::L) h):p∧Star (c::L) h:=by
 obtain ⟨h1,h2,s1,⟨hp,ha⟩,hL⟩:=s
 exact ⟨hp,h1,h2,s1,ha,hL⟩
def all (M:List HProp):HProp:=Star M
theorem Split.sub {h h1 h2 g:Hp} (s:Split h h1 h2) (e1:∀ b o v,h.own b o=some v→g.own b o=some v) (e2:∀ b o v,h.ro b o=some v→g.ro b o=some v) (e3:∀ b v,h.obj b=some v→g.obj b=some v) (e4:∀ b y,h.shp b=some y→g.shp b=some y):Split g h1 h2 :=
 ⟨fun _ _ _ e=>e2 _ _ _ (s.r1 _ _ _ e),fun _ _ _ e=>e2 _ _ _ (s.r2 _ _ _ e),fun _ _ _ e=>e1 _ _ _ (s.o1 _ _ _ e),fun _ _ _ e=>e1 _ _ _ (s.o2 _ _ _ e),s.od,fun _ _ e=>e3 _ _ (s.b1 _ _ e),fun _ _ e=>e3 _ _ (s.b2 _ _ e),s.bd,fun _ _ e=>e4 _ _ (s.s1 _ _ e),fun _ _ e=>e4 _ _ (s.s2 _ _ e)⟩
theorem star_open {M L:List HProp}:∀ {h:Hp},Star (all M::L) h→Star (M++L) h:=by
 induction M with
 | nil=>exact fun s=>star_drop s
 | cons c M ih =>
  rintro h ⟨h1,h2,s1,⟨h3,h4,s2,hc,hM⟩,hL⟩
  -- h=(h3+h4)+h2: h3+(h4+h2)
  obtain ⟨a,b⟩:=s1.swap.assoc s2
  exact ⟨h3,h2.join h4,a,hc,ih ⟨h4,h2,b.swap,hM,hL⟩⟩
theorem star_shut {M L:List HProp}:∀ {h:Hp},Star (M++L) h→Star (all M::L) h:=by
 induction M with
 | nil=>exact fun {h} s=>⟨⟨fun _ _=>none,fun _ _=>none,fun _=>none,fun _=>none⟩,h,⟨fun _ _ _ e=>by simp at e,fun _ _ _ e=>e,fun _ _ _ e=>by simp at e,fun _ _ _ e=>e,fun _ _=>.inl rfl,fun _ _ e=>by simp at e,fun _ _ e=>e,fun _=>.inl rfl,fun _ _ e=>by simp at e,fun _ _ e=>e⟩,trivial,s⟩
 | cons c M ih =>
  rintro h ⟨h1,h2,s1,hc,hM⟩
  obtain ⟨h3,h4,s2,hM,hL⟩:=ih hM
  obtain ⟨a,b⟩:=s1.assoc s2
  exact ⟨h1.join h3,h4,(s1.assoc s2.swap).1.swap,⟨h1,h3,(s1.assoc s2.swap).2,hc,hM⟩,hL⟩
end Go.PB
namespace Go.PB
abbrev Env:=List (Nat × Value)
def lk:Env→Nat→Option Value
 | [],_=>none
 | (i,v)::r,t=>if i=t then some v else lk r t
def ev (e:Env):Operand→Option Value
 | .tmp i=>lk e i
 | .const v=>some v
 | .global g=>some (.pointer (some ⟨g,0,none⟩))
 | .func f=>some (.func (.func f) #[] #[])
def Agree (e:Env) (t:Array Value):Prop:=∀ i v,lk e i=some v→t[i]?=some v
def setE (d:Option Nat) (v:Value) (e:Env):Env:=match d with | some d=>(d,v)::e | none=>e
theorem Agree.ev {e:Env} {t:Array Value} (a:Agree e t) {o:Operand} {v:Value} (h:ev e o=some v):evT t o=v:=by
 cases o with
 | tmp i=>simp [evT,a i v h]
 | const c=>simpa [PB.ev,PB.evT] using h
 | global g=>simpa [PB.ev,PB.evT] using h
 | func f=>simpa [PB.ev,PB.evT] using h
theorem Agree.setE {e:Env} {t:Array Value} (a:Agree e t) {o:Oper} {d:Option Nat} (ho:o.dst=d) (hd:∀ i,d=some i→i<t.size) (v:Value):Agree (PB.setE d v e) (setDst o t v):=by
 cases d with
 | none=>simp only [setDst,ho];exact a
 | some d =>
  simp only [setDst,ho,PB.setE]
  intro i u h
  have hs:=hd d rfl
  unfold lk at h
  split at h
  ·rename_i e1;subst e1;injection h with h;subst h;simp [hs]
  ·rename_i e1;rw [Array.getElem?_setIfInBounds_ne e1];exact a i u h
def Sub:Env→Env→Prop
 | [],_=>True
 | (i,v)::r,e=>lk e i=some v∧Sub r e
theorem Sub.lk {e' e:Env} (s:Sub e' e):∀ i v,lk e' i=some v→lk e i=some v:=by
 induction e' with
 | nil=>intro i v h;cases h
 | cons p r ih =>
  obtain ⟨j,u⟩:=p
  intro i v h
  unfold PB.lk at h
  split at h
  ·rename_i e1;subst e1;injection h with h;subst h;exact s.1
  ·exact ih s.2 i v h
section
variable {P:Program} {B:Hand} {kd:CallKind} {n:Nat}
def At (n:Nat) (e:Env) (L:List HProp) (φ:Array Value→Hp→Prop):Prop:=∀ t h,t.size=n→Agree e t→Star L h→φ t h
variable (P B kd n) in
def We (c:Code) (K:Post B) (e:Env) (z:Z) (L:List HProp) (x:B.X):Prop:=At n e L fun t h=>Wc P B kd c K t z h x
structure OpG where
 dst:Option Nat
 op:Op
 ty:TypeId
 g:Option (Nat × Bool)
def gOp (n:Nat) (ops:Array Oper) (i:Nat):Option OpG :=
 (ops[i]?).map fun o=>⟨o.dst,o.op,o.type,o.guard.map fun (j,w)=>(((ops[j]?).bind (·.dst)).getD n,w)⟩
def dOk (n:Nat):List OpG→Bool
 | []=>true
 | o::l=>(match o.dst with | some d=>decide (d<n) | none=>true)&&dOk n l
variable (P B kd n) in
def Wo (l:List OpG) (K:Post B) (e:Env) (z:Z) (L:List HProp) (x:B.X):Prop :=
 ∀ ops idx,idx.map (gOp n ops)=l.map some→dOk n l=true→At n e L fun t h=>Wr P B kd ops idx K t z h x
theorem At.mono {e:Env} {L:List HProp} {φ ψ:Array Value→Hp→Prop} (a:At n e L φ) (h:∀ t h,φ t h→ψ t h):At n e L ψ:=fun t hh a1 a2 a3=>h _ _ (a t hh a1 a2 a3)
theorem at_sub {e:Env} {L:List HProp} {φ:Array Value→Hp→Prop} (e':Env) (s:Sub e' e) (a:At n e' L φ):At n e L φ:=fun t h a1 a2 a3=>a t h a1 (fun i v hi=>a2 i v (s.lk i v hi)) a3
theorem at_ent {e:Env} {L:List HProp} {φ:Array Value→Hp→Prop} (L':List HProp) (s:Ent L L') (a:At n e L' φ):At n e L φ:=fun t h a1 a2 a3=>a t h a1 a2 (s.star a3)
theorem at_star {e:Env} {L:List HProp} {φ:Array Value→Hp→Prop} (L':List HProp) (s:∀ h,Star L h→Star L' h) (a:At n e L' φ):At n e L φ:=fun t h a1 a2 a3=>a t h a1 a2 (s h a3)
theorem at_ex {α:Type} {c:α→HProp} {L R:List HProp} {e:Env} {φ:Array Value→Hp→Prop} (hh:Has L (fun h=>∃ a,c a h) R) (a:∀ y,At n e (c y::R) φ):At n e L φ :=
 fun t h a1 a2 a3=>by obtain ⟨y,hy⟩:=star_ex (hh.star a3);exact a y t h a1 a2 hy
theorem at_and {p:Prop} {c:HProp} {L R:List HProp} {e:Env} {φ:Array Value→Hp→Prop} (hh:Has L (fun h=>p∧c h) R) (a:p→At n e (c::R) φ):At n e L φ :=
 fun t h a1 a2 a3=>by obtain ⟨hp,hy⟩:=star_and (hh.star a3);exact a hp t h a1 a2 hy
theorem at_open {M L R:List HProp} {e:Env} {φ:Array Value→Hp→Prop} (hh:Has L (all M) R) (a:At n e (M++R) φ):At n e L φ :=
 fun t h a1 a2 a3=>a t h a1 a2 (star_open (hh.star a3))
variable {K:Post B} {e:Env} {z:Z} {L:List HProp} {x:B.X}
theorem we_sub {c:Code} (e':Env) (s:Sub e' e) (a:We P B kd n c K e' z L x):We P B kd n c K e z L x:=at_sub e' s a
theorem we_ent {c:Code} (L':List HProp) (s:Ent L L') (a:We P B kd n c K e z L' x):We P B kd n c K e z L x:=at_ent L' s a
theorem wo_ent {l:List OpG} (L':List HProp) (s:Ent L L') (a:Wo P B kd n l K e z L' x):Wo P B kd n l K e z L x:=fun ops idx h1 h2=>at_ent L' s (a ops idx h1 h2)
theorem wo_star {l:List OpG} (L':List HProp) (s:∀ h,Star L h→Star L' h) (a:Wo P B kd n l K e z L' x):Wo P B kd n l K e z L x:=fun ops idx h1 h2=>at_star L' s (a ops idx h1 h2)
theorem wo_ex {α:Type} {c:α→HProp} {R:List HProp} {l:List OpG} (hh:Has L (fun h=>∃ a,c a h) R) (a:∀ y,Wo P B kd n l K e z (c y::R) x):Wo P B kd n l K e z L x :=
 fun ops idx h1 h2=>at_ex hh fun y=>a y ops idx h1 h2
theorem wo_and {p:Prop} {c:HProp} {R:List HProp} {l:List OpG} (hh:Has L (fun h=>p∧c h) R) (a:p→Wo P B kd n l K e z (c::R) x):Wo P B kd n l K e z L x :=
 fun ops idx h1 h2=>at_and hh fun y=>a y ops idx h1 h2
theorem we_skip (w:At n e L fun t h=>K .normal t z h x):We P B kd n .skip K e z L x:=w.mono fun _ _ q=>wc_skip q
theorem we_label {l:Nat} (w:At n e L fun t h=>K .normal t z h x):We P B kd n (.label l) K e z L x:=w.mono fun _ _ q=>wc_label q
theorem we_exit {id:Nat} (w:At n e L fun t h=>K (.exit id) t z h x):We P B kd n (.exit id) K e z L x:=w.mono fun _ _ q=>wc_exit q
theorem we_ret (w:At n e L fun t h=>K .ret t z h x):We P B kd n .ret K e z L x:=w.mono fun _ _ q=>wc_ret q
theorem we_seq {a c:Code} (w:We P B kd n a (thn P B kd c K) e z L x):We P B kd n (.seq a c) K e z L x:=At.mono w fun _ _ q=>wc_seq q
theorem we_cond {c:Operand} {a a':Code} {q:Bool} (hc:ev e c=some (.bool q)) (w1:q=true→We P B kd n a K e z L x) (w2:q=false→We P B kd n a' K e z L x):We P B kd n (.cond c a a') K e z L x :=
 fun t h a1 a2 a3=>wc_cond (q:=q) (a2.ev hc) (by cases q;exact w2 rfl t h a1 a2 a3;exact w1 rfl t h a1 a2 a3)
theorem we_condT {c:Operand} {a a':Code} {q:Bool} (hc:ev e c=some (.bool q)) (hq:q=true) (w1:We P B kd n a K e z L x):We P B kd n (.cond c a a') K e z L x :=
 we_cond hc (fun _=>w1) (fun h=>by rw [hq] at h;cases h)
theorem we_condF {c:Operand} {a a':Code} {q:Bool} (hc:ev e c=some (.bool q)) (hq:q=false) (w1:We P B kd n a' K e z L x):We P B kd n (.cond c a a') K e z L x :=
 we_cond hc (fun h=>by rw [hq] at h;cases h) (fun _=>w1)
theorem we_block {id:Nat} {c:Code} (w:We P B kd n c (inBlk id K) e z L x):We P B kd n (.block id c) K e z L x:=At.mono w fun _ _ q=>wc_block q
theorem we_scope {c:Code} (w:We P B kd n c (inScp (fun _ _ _ _ _=>False) K) e z L x):We P B kd n (.scope c) K e z L x:=At.mono w fun _ _ q=>wc_scope q
structure Inv.{v} (ι:Type) (X:Type v) where
 e:ι→Env
 L:ι→List HProp
 x:ι→X
 ok:ι→Prop
theorem we_loop {c:Code} {ι:Type} (I:Inv ι B.X) (r:ι→ι→Prop) (wf:WellFounded r) (i:ι) (hok:I.ok i) (he:Sub (I.e i) e) (hL:Ent L (I.L i)) (hx:I.x i=x)
  (round:∀ i,I.ok i→We P B kd n c (inLp (fun t z' h x=>∃ i',r i' i∧I.ok i'∧z'=z∧t.size=n∧Agree (I.e i') t∧Star (I.L i') h∧I.x i'=x) K) (I.e i) z (I.L i) (I.x i)):We P B kd n (.loop c) K e z L x:=by
 intro t h a1 a2 a3
 refine wc_loop (fun i t z' h x=>I.ok i∧z'=z∧t.size=n∧Agree (I.e i) t∧Star (I.L i) h∧I.x i=x) r wf i ⟨hok,rfl,a1,fun j v hj=>a2 j v (he.lk j v hj),hL.star a3,hx⟩ ?_
 rintro i t z' h x ⟨h1,rfl,h3,h4,h5,rfl⟩
 exact (round i h1 t h h3 h4 h5).mono fun e' t' z' h' x' q=>q
theorem we_loopN {c:Code} {ι:Type} (I:Inv ι B.X) (μ:ι→Nat) (i:ι) (hok:I.ok i) (he:Sub (I.e i) e) (hL:Ent L (I.L i)) (hx:I.x i=x)
  (round:∀ i,I.ok i→We P B kd n c (inLp (fun t z' h x=>∃ i',μ i'<μ i∧I.ok i'∧z'=z∧t.size=n∧Agree (I.e i') t∧Star (I.L i') h∧I.x i'=x) K) (I.e i) z (I.L i) (I.x i)):We P B kd n (.loop c) K e z L x :=
 we_loop I (fun a b=>μ a<μ b) (measure μ).wf i hok he hL hx round
variable (P B kd n) in
def Wle (c:Code) (K:Post B) (e:Env) (z:Z) (L:List HProp) (x:B.X):Prop:=At n e L fun t h=>Wl P B kd c K t z h x
theorem we_loop1 {c:Code} (w:We P B kd n c (inLp (Wl P B kd c K) K) e z L x):We P B kd n (.loop c) K e z L x:=At.mono w fun _ _ q=>wc_loop1 q
theorem wle_step {c:Code} (w:We P B kd n c (inLp (Wl P B kd c K) K) e z L x):Wle P B kd n c K e z L x:=At.mono w fun _ _ q=>wl_step q
theorem at_round {ι:Type} {I:Inv ι B.X} {R:ι→Prop} (i':ι) (hr:R i') (hok:I.ok i') (he:Sub (I.e i') e) (hL:Ent L (I.L i')) (hx:I.x i'=x) :
  At n e L fun t h=>∃ i',R i'∧I.ok i'∧z=z∧t.size=n∧Agree (I.e i') t∧Star (I.L i') h∧I.x i'=x :=
 fun t h a1 a2 a3=>⟨i',hr,hok,rfl,a1,fun j v hj=>a2 j v (he.lk j v hj),hL.star a3,hx⟩
theorem wo_nil (w:At n e L fun t h=>K .normal t z h x):Wo P B kd n [] K e z L x:=by
 intro ops idx h1 _ t h a1 a2 a3
 have:idx=[]:=by simpa using h1
 subst this
 exact wr_nil (w t h a1 a2 a3)
def opsOf (n:Nat) (ops:Array Oper):List OpG:=ops.toList.map fun o=>⟨o.dst,o.op,o.type,o.guard.map fun (j,w)=>(((ops[j]?).bind (·.dst)).getD n,w)⟩
theorem range_gOp (n:Nat) (ops:Array Oper):(List.range ops.size).map (gOp n ops)=(opsOf n ops).map some:=by
 apply List.ext_getElem?
 intro i
 simp only [opsOf,List.getElem?_map,gOp,List.map_map]
 by_cases h:i<ops.size
 ·simp [h,gOp]
 ·have:ops.toList[i]?=none:=by simp;omega
  simp [h,this]
theorem we_region {id:Nat} {ops:Array Oper} (l:List OpG) (hl:opsOf n ops=l) (hd:dOk n l=true) (w:Wo P B kd n l K e z L x):We P B kd n (.region id ops false) K e z L x :=
 fun t h a1 a2 a3=>wc_region (w ops _ (by rw [range_gOp,hl]) hd t h a1 a2 a3)
theorem dOk_tail {o:OpG} {l:List OpG} (h:dOk n (o::l)=true):dOk n l=true:=by simp [dOk] at h;exact h.2
theorem dOk_head {o:OpG} {l:List OpG} (h:dOk n (o::l)=true):∀ i,o.dst=some i→i<n:=by
 intro i hi;simp [dOk,hi] at h;exact h.1
theorem map_head {ops:Array Oper} {idx:List Nat} {o:OpG} {l:List OpG} (h:idx.map (gOp n ops)=(o::l).map some) :
  ∃ i idx' oo,idx=i::idx'∧idx'.map (gOp n ops)=l.map some∧ops[i]?=some oo∧oo.dst=o.dst∧oo.op=o.op∧oo.type=o.ty∧o.g=oo.guard.map fun (j,w)=>(((ops[j]?).bind (·.dst)).getD n,w):=by
 cases idx with
 | nil=>simp at h
 | cons i idx' =>
  simp only [List.map_cons,List.cons.injEq] at h
  obtain ⟨h1,h2⟩:=h
  unfold gOp at h1
  cases hi:ops[i]? with
  | none=>rw [hi] at h1;simp at h1
  | some oo =>
   rw [hi] at h1
   simp only [Option.map_some,Option.some.injEq] at h1
   subst h1
   exact ⟨i,idx',oo,rfl,h2,hi,rfl,rfl,rfl,rfl⟩
def gYes (e:Env):Option (Nat × Bool)→Prop
 | none=>True
 | some (g,w)=>lk e g=some (.bool w)
theorem wanted_yes {ops:Array Oper} {t:Array Value} {oo:Oper} (ht:t.size=n) (a:Agree e t) {g:Option (Nat × Bool)} (hg:g=oo.guard.map fun (j,w)=>(((ops[j]?).bind (·.dst)).getD n,w)) (hy:gYes e g):Region.wanted oo (yielded ops t)=true:=by
 unfold Region.wanted
 cases h:oo.guard with
 | none=>rfl
 | some q =>
  obtain ⟨j,w⟩:=q
  rw [h] at hg
  subst hg
  have hv:=a _ _ hy
  simp only [yielded]
  cases hj:(ops[j]?).bind (·.dst) with
  | none=>rw [hj] at hv;simp [ht] at hv
  | some d=>rw [hj] at hv;simp only [Option.getD_some] at hv;simp [hv]
theorem wanted_no {ops:Array Oper} {t:Array Value} {oo:Oper} (ht:t.size=n) (a:Agree e t) {g:Nat} {w:Bool} (hg:some (g,w)=oo.guard.map fun (j,w)=>(((ops[j]?).bind (·.dst)).getD n,w)) (hy:lk e g=some (.bool (!w))):Region.wanted oo (yielded ops t)=false:=by
 unfold Region.wanted
 cases h:oo.guard with
 | none=>rw [h] at hg;cases hg
 | some q =>
  obtain ⟨j,w'⟩:=q
  rw [h] at hg
  simp only [Option.map_some,Option.some.injEq,Prod.mk.injEq] at hg
  obtain ⟨rfl,rfl⟩:=hg
  have hv:=a _ _ hy
  simp only [yielded]
  cases hj:(ops[j]?).bind (·.dst) with
  | none=>rw [hj] at hv;simp [ht] at hv
  | some d=>rw [hj] at hv;simp only [Option.getD_some] at hv;cases w <;> simp [hv]
theorem setDst_size (oo:Oper) (t:Array Value) (v:Value):(setDst oo t v).size=t.size:=by
 unfold setDst;split <;> simp
theorem wo_no {l:List OpG} {d:Option Nat} {op:Op} {ty:TypeId} {g:Nat} {w:Bool} (hg:lk e g=some (.bool (!w))) (k:Wo P B kd n l K (setE d undef e) z L x):Wo P B kd n (⟨d,op,ty,some (g,w)⟩::l) K e z L x:=by
 intro ops idx h1 h2 t h a1 a2 a3
 obtain ⟨i,idx',oo,rfl,h3,h4,h5,h6,h7,h8⟩:=map_head h1
 exact wr_skip h4 (wanted_no a1 a2 h8 hg) (k ops idx' h3 (dOk_tail h2) _ h ((setDst_size ..).trans a1) (a2.setE h5 (by rw [a1];exact dOk_head h2) _) a3)
def opOf (op:Op) (ty:TypeId):Oper:=⟨none,op,ty, "",#[],none⟩
theorem execOp_of (ρ:Operand→Value) {oo:Oper} {op:Op} {ty:TypeId} (h1:oo.op=op) (h2:oo.type=ty):execOp ρ oo=execOp ρ (opOf op ty):=by
 unfold execOp opOf;rw [h1,h2]
def Mo (P:Program) (e:Env) (op:Op) (ty:TypeId) (L:List HProp) (R:Value→List HProp→Prop):Prop :=
 ∀ (M:Mark→Prop),M .noRoom→(∀ f,M (.extern f))→∀ t h (Q:Next→Hp→Prop) X,Agree e t→Star L h→(∀ v L' h' nx,(nx=.value v∨(nx=.skip∧v=undef))→R v L'→Star L' h'→Q nx h')→wpS P M (execOp (evT t) (opOf op ty)) h Q X
class Lets (B:Hand):Prop where
 noRoom:B.mark .noRoom
 ext:∀ f,B.mark (.extern f)
theorem wo_mo [Lets B] {l:List OpG} {d:Option Nat} {op:Op} {ty:TypeId} {g:Option (Nat × Bool)} {R:Value→List HProp→Prop} (m:Mo P e op ty L R) (hg:gYes e g) (k:∀ v L',R v L'→Wo P B kd n l K (setE d v e) z L' x):Wo P B kd n (⟨d,op,ty,g⟩::l) K e z L x:=by
 intro ops idx h1 h2 t h a1 a2 a3
 obtain ⟨i,idx',oo,rfl,h3,h4,h5,h6,h7,h8⟩:=map_head h1
 refine wr_op h4 (wanted_yes a1 a2 h8 hg) ?_
 rw [execOp_of _ h6 h7]
 refine m _ Lets.noRoom Lets.ext t h _ _ a2 a3 fun v L' h' nx hnx hr hs=>?_
 have hk:=k v L' hr ops idx' h3 (dOk_tail h2) _ h' ((setDst_size oo t v).trans a1) (a2.setE h5 (by rw [a1];exact dOk_head h2) v) hs
 rcases hnx with rfl | ⟨rfl,rfl⟩
 ·exact hk
 ·exact hk
theorem wo_po [Lets B] {l:List OpG} {d:Option Nat} {op:Op} {ty:TypeId} {g:Option (Nat × Bool)} {v:Value} (m:Mo P e op ty L fun v' L'=>v'=v∧L'=L) (hg:gYes e g) (k:Wo P B kd n l K (setE d v e) z L x):Wo P B kd n (⟨d,op,ty,g⟩::l) K e z L x :=
 wo_mo m hg (by rintro v' L' ⟨rfl,rfl⟩;exact k)
theorem wo_pm [Lets B] {l:List OpG} {d:Option Nat} {op:Op} {ty:TypeId} {g:Option (Nat × Bool)} {v:Value} {L1:List HProp} (m:Mo P e op ty L fun v' L'=>v'=v∧L'=L1) (hg:gYes e g) (k:Wo P B kd n l K (setE d v e) z L1 x):Wo P B kd n (⟨d,op,ty,g⟩::l) K e z L x :=
 wo_mo m hg (by rintro v' L' ⟨rfl,rfl⟩;exact k)
class Pass (K:Post B) (z:Z):Prop where
 ok:∀ ch t h x,B.cut ch h x→K (.panic ch) t z h x
instance {K:Post B} {z:Z} {c:Code} [p:Pass K z]:Pass (thn P B kd c K) z:=⟨fun ch t h x q=>p.ok ch t h x q⟩
instance {K:Post B} {z:Z} {id:Nat} [p:Pass K z]:Pass (inBlk id K) z:=⟨fun ch t h x q=>p.ok ch t h x q⟩
instance {K:Post B} {z:Z} {R:Nat→Array Value→Z→Hp→B.X→Prop} [p:Pass K z]:Pass (inScp R K) z:=⟨fun ch t h x q=>p.ok ch t h x q⟩
instance {K:Post B} {z:Z} {I:Array Value→Z→Hp→B.X→Prop} [p:Pass K z]:Pass (inLp I K) z:=⟨fun ch t h x q=>p.ok ch t h x q⟩
class NoCut (B:Hand):Prop where
 no:∀ ch h x,¬ B.cut ch h x
theorem Pass.of_no {K:Post B} {z:Z} [c:NoCut B]:Pass K z:=⟨fun ch t h x q=>(c.no ch h x q).elim⟩
variable (P B) in
def Tr (f:FuncId) (args:List Value) (L:List HProp) (x:B.X) (R:Value→List HProp→B.X→Prop):Prop :=
 ∀ h um (Q:End→FrameMode→Hp→B.X→Prop),Star L h→(∀ v L' x' h',R v L' x'→Star L' h'→Q (.ret v) um h' x')→(∀ ch h' x',B.cut ch h' x'→Q (.pan ch) um h' x')→Wf P B f .normal args.toArray um h x Q
inductive EvL (e:Env):List Operand→List Value→Prop
 | nil:EvL e [] []
 | cons {o:Operand} {v:Value} {os:List Operand} {vs:List Value}:ev e o=some v→EvL e os vs→EvL e (o::os) (v::vs)
theorem EvL.evT {t:Array Value} (a:Agree e t) {os:List Operand} {vs:List Value} (h:EvL e os vs):os.map (evT t)=vs:=by
 induction h with
 | nil=>rfl
 | cons h _ ih=>simp [a.ev h,ih]
class Ent' (P:Program) (f:FuncId):Prop where
 ok:Enterable P f
def callee?:Value→Option (FuncId × List Value × List Value)
 | .func (.func f) first cap=>some (f,first.toList,cap.toList)
 | _=>none
theorem Tr.ent {f:FuncId} {args:List Value} {L L':List HProp} {R:Value→List HProp→B.X→Prop} (s:Ent L L') (a:Tr P B f args L' x R):Tr P B f args L x R:=fun h um Q hs q pn=>a h um Q (s.star hs) q pn
theorem Tr.mono {f:FuncId} {args:List Value} {L:List HProp} {R R':Value→List HProp→B.X→Prop} (a:Tr P B f args L x R) (hr:∀ v L' x',R v L' x'→R' v L' x'):Tr P B f args L x R':=fun h um Q hs q pn=>a h um Q hs (fun v L' x' h' r s=>q v L' x' h' (hr _ _ _ r) s) pn
theorem wo_callv {l:List OpG} {d:Option Nat} {fo:Operand} {fv:Value} {f:FuncId} {first cap:List Value} {args:List Operand} {vs:List Value} {tys:Array TypeId} {ty:TypeId} {g:Option (Nat × Bool)} {R:Value→List HProp→B.X→Prop}
  (hf:ev e fo=some fv) (hc:callee? fv=some (f,first,cap)) (ha:EvL e args vs) (hg:gYes e g) [en:Ent' P f] [pk:Pass K z] (m:Tr P B f (first++vs++cap) L x R) (k:∀ v L' x',R v L' x'→Wo P B kd n l K (setE d v e) z L' x') :
  Wo P B kd n (⟨d,.call ⟨.value fo,args.toArray,tys⟩,ty,g⟩::l) K e z L x:=by
 intro ops idx h1 h2 t h a1 a2 a3
 obtain ⟨i,idx',oo,rfl,h3,h4,h5,h6,h7,h8⟩:=map_head h1
 refine wr_op h4 (wanted_yes a1 a2 h8 hg) ?_
 rw [execOp_of _ h6 h7]
 have hfv:evT t fo=fv:=a2.ev hf
 have hargs:=ha.evT a2
 have hex:execOp (evT t) (opOf (.call ⟨.value fo,args.toArray,tys⟩) ty)=callFunc f (first++vs++cap).toArray:=by
  show (do let d ← resolve (evT t) ⟨.value fo,args.toArray,tys⟩ ty;invoke d.target d.args:Sem Next)=_
  cases fv with
  | func fn fi ca =>
   cases fn with
   | func g =>
    simp only [callee?,Option.some.injEq,Prod.mk.injEq] at hc
    obtain ⟨rfl,rfl,rfl⟩:=hc
    simp only [resolve,hfv,Deferred.ofValue,List.map_toArray,hargs]
    show callFunc g ((fi++vs.toArray)++ca)=_
    congr 1
    apply Array.ext'
    simp
   | _=>cases hc
  | _=>cases hc
 rw [hex]
 refine wpS_callFunc en.ok ?_
 refine m h .run _ a3 (fun v L' x' h' r s=>⟨rfl,?_⟩) (fun ch h' x' hc=>⟨rfl,pk.ok ch t h' x' hc⟩)
 exact k v L' x' r ops idx' h3 (dOk_tail h2) _ h' ((setDst_size oo t v).trans a1) (a2.setE h5 (by rw [a1];exact dOk_head h2) v) s
theorem wo_call {l:List OpG} {d:Option Nat} {f:FuncId} {args:List Operand} {vs:List Value} {tys:Array TypeId} {ty:TypeId} {g:Option (Nat × Bool)} {R:Value→List HProp→B.X→Prop}
  (ha:EvL e args vs) (hg:gYes e g) [en:Ent' P f] [pk:Pass K z] (m:Tr P B f vs L x R) (k:∀ v L' x',R v L' x'→Wo P B kd n l K (setE d v e) z L' x') :
  Wo P B kd n (⟨d,.call ⟨.value (.func f),args.toArray,tys⟩,ty,g⟩::l) K e z L x :=
 wo_callv (first:=[]) (cap:=[]) (R:=R) rfl rfl ha hg (by simpa using m) k
def argE:Nat→List Value→Env
 | _,[]=>[]
 | k,v::vs=>(k,v)::argE (k+1) vs
theorem lk_argE {i:Nat} {v:Value}:∀ (l:List Value) (k:Nat),lk (argE k l) i=some v→∃ j,i=k+j∧l[j]?=some v:=by
 intro l
 induction l with
 | nil=>intro k h;simp [argE,lk] at h
 | cons a l ih =>
  intro k h
  simp only [argE,lk] at h
  split at h
  ·rename_i e1;injection h with h;subst h;exact ⟨0,by omega,rfl⟩
  ·obtain ⟨j,h1,h2⟩:=ih (k+1) h;exact ⟨j+1,by omega,by simpa using h2⟩
theorem wf_of_argE {f:FuncId} {fn:Func} {c:Code} {kd:CallKind} {args:List Value} {nt:Nat} {L:List HProp} {x:B.X} {h:Hp} {um:FrameMode} {Q:End→FrameMode→Hp→B.X→Prop} (hf:P.funcs[f]?=some fn) (hb:fn.body=some c) (hnt:fn.ntmps=nt) (hn:args.length≤nt)
  (hs:Star L h) (w:We P B kd nt c (leave P B f kd Q) (argE 0 args) ⟨[],um⟩ L x):Wf P B f kd args.toArray um h x Q:=by
 subst hnt
 refine wf_of_body hf hb (w _ h ?_ ?_ hs)
 ·simp;omega
 ·intro i v hi
  obtain ⟨j,h1,h2⟩:=lk_argE args 0 hi
  obtain rfl:i=j:=by omega
  have hlt:i<args.length:=(List.getElem?_eq_some_iff.1 h2).1
  rw [Array.getElem?_append_left (by simpa using hlt)]
  simpa using h2
theorem tr_of_body {f:FuncId} {fn:Func} {c:Code} {args:List Value} {nt:Nat} {L:List HProp} {x:B.X} {R:Value→List HProp→B.X→Prop} (hf:P.funcs[f]?=some fn) (hb:fn.body=some c) (hnt:fn.ntmps=nt) (hn:(args.length≤nt)=True)
  (w:∀ um (Q:End→FrameMode→Hp→B.X→Prop) (_:Pass (leave P B f .normal Q) ⟨[],um⟩),(∀ v L' x' h',R v L' x'→Star L' h'→Q (.ret v) um h' x')→We P B .normal nt c (leave P B f .normal Q) (argE 0 args) ⟨[],um⟩ L x):Tr P B f args L x R :=
 fun _ um Q hs q pn=>wf_of_argE hf hb hnt (by rw [hn];trivial) hs (w um Q ⟨fun ch _ h x hc=>wd_pan hf rfl (pn ch h x hc)⟩ q)
theorem at_leave {f:FuncId} {fn:Func} {ts:List Nat} {vs:List Value} {um:FrameMode} {Q:End→FrameMode→Hp→B.X→Prop} {R:Value→List HProp→B.X→Prop} {ex:Ex} (hex:ex=.ret∨ex=.normal)
  (hf:P.funcs[f]?=some fn) (hr:fn.results=(ts.map ResultVar.tmp).toArray) (hv:EvL e (ts.map Operand.tmp) vs) (q:∀ v L' x' h',R v L' x'→Star L' h'→Q (.ret v) um h' x') (v:Value) (hvs:v=match vs with | [a]=>a | vs=>.tuple vs.toArray) (hR:R v L x) :
  At n e L fun t h=>leave P B f kd Q ex t ⟨[],um⟩ h x:=by
 intro t h a1 a2 a3
 have hw:Wd P B f kd .returning t ⟨[],um⟩ h x Q:=by
  refine wd_ret v hf rfl ?_ (q v L x h hR a3)
  have hts:=hv.evT a2
  have key:∀ (ts:List Nat) (vs:List Value),(ts.map Operand.tmp).map (evT t)=vs→∀ (M:Mark→Prop) (Q:Array Value→Hp→Prop) (X:Value→Hp→Prop),Q vs.toArray h →
    wpS P M ((ts.map ResultVar.tmp).toArray.mapM fun r=>match r with
     | .tmp i=>pure (t.getD i undef)
     | .cell a ty=>do loadVar ty (← asAddr (t.getD a undef)):Sem (Array Value)) h Q X:=by
   intro ts vs hts M Q X hq
   subst hts
   rw [Array.mapM_eq_foldlM]
   rw [← Array.foldlM_toList]
   have:∀ (l:List Nat) (acc:Array Value),Q (acc++((l.map Operand.tmp).map (evT t)).toArray) h →
     wpS P M (List.foldlM (fun (bs:Array Value) (r:ResultVar)=>do
      let b ← (match r with
       | .tmp i=>pure (t.getD i undef)
       | .cell a ty=>do loadVar ty (← asAddr (t.getD a undef)):Sem Value)
      pure (bs.push b)) acc (l.map ResultVar.tmp)) h Q X:=by
    intro l
    induction l with
    | nil=>exact fun acc hq=>(show Q acc h from by simpa using hq)
    | cons i l ih =>
     intro acc hq
     show wpS P M (List.foldlM _ (acc.push (t.getD i undef)) (l.map ResultVar.tmp)) h Q X
     apply ih
     simpa [evT] using hq
   exact this ts #[] (by simpa using hq)
  unfold results
  rw [hr]
  refine wpS_bind _ _ (key ts vs hts _ _ _ ?_)
  subst hvs
  refine ⟨?_,rfl⟩
  cases vs with
  | nil=>rfl
  | cons a l=>cases l <;> rfl
 rcases hex with rfl | rfl
 ·exact hw
 ·exact hw
theorem at_ret0 {f:FuncId} {fn:Func} {um:FrameMode} {Q:End→FrameMode→Hp→B.X→Prop} {R:Value→List HProp→B.X→Prop} {ex:Ex} (hf:P.funcs[f]?=some fn) (hr:fn.results=#[])
  (q:∀ v L' x' h',R v L' x'→Star L' h'→Q (.ret v) um h' x') (hex:ex=.ret∨ex=.normal) (hR:R (.tuple #[]) L x):At n e L fun t h=>leave P B f kd Q ex t ⟨[],um⟩ h x :=
 at_leave (ts:=[]) (vs:=[]) hex hf hr .nil q _ rfl hR
theorem at_ret1 {f:FuncId} {fn:Func} {t1:Nat} {v1:Value} {um:FrameMode} {Q:End→FrameMode→Hp→B.X→Prop} {R:Value→List HProp→B.X→Prop} {ex:Ex} (hf:P.funcs[f]?=some fn) (hr:fn.results=#[.tmp t1])
  (q:∀ v L' x' h',R v L' x'→Star L' h'→Q (.ret v) um h' x') (hex:ex=.ret∨ex=.normal) (h1:lk e t1=some v1) (hR:R v1 L x):At n e L fun t h=>leave P B f kd Q ex t ⟨[],um⟩ h x :=
 at_leave (ts:=[t1]) (vs:=[v1]) hex hf hr (.cons h1 .nil) q _ rfl hR
theorem at_ret2 {f:FuncId} {fn:Func} {t1 t2:Nat} {v1 v2:Value} {um:FrameMode} {Q:End→FrameMode→Hp→B.X→Prop} {R:Value→List HProp→B.X→Prop} {ex:Ex} (hf:P.funcs[f]?=some fn) (hr:fn.results=#[.tmp t1,.tmp t2])
  (q:∀ v L' x' h',R v L' x'→Star L' h'→Q (.ret v) um h' x') (hex:ex=.ret∨ex=.normal) (h1:lk e t1=some v1) (h2:lk e t2=some v2) (hR:R (.tuple #[v1,v2]) L x):At n e L fun t h=>leave P B f kd Q ex t ⟨[],um⟩ h x :=
 at_leave (ts:=[t1,t2]) (vs:=[v1,v2]) hex hf hr (.cons h1 (.cons h2 .nil)) q _ rfl hR
theorem at_ret3 {f:FuncId} {fn:Func} {t1 t2 t3:Nat} {v1 v2 v3:Value} {um:FrameMode} {Q:End→FrameMode→Hp→B.X→Prop} {R:Value→List HProp→B.X→Prop} {ex:Ex} (hf:P.funcs[f]?=some fn) (hr:fn.results=#[.tmp t1,.tmp t2,.tmp t3])
  (q:∀ v L' x' h',R v L' x'→Star L' h'→Q (.ret v) um h' x') (hex:ex=.ret∨ex=.normal) (h1:lk e t1=some v1) (h2:lk e t2=some v2) (h3:lk e t3=some v3) (hR:R (.tuple #[v1,v2,v3]) L x):At n e L fun t h=>leave P B f kd Q ex t ⟨[],um⟩ h x :=
 at_leave (ts:=[t1,t2,t3]) (vs:=[v1,v2,v3]) hex hf hr (.cons h1 (.cons h2 (.cons h3 .nil))) q _ rfl hR
theorem at_ret4 {f:FuncId} {fn:Func} {t1 t2 t3 t4:Nat} {v1 v2 v3 v4:Value} {um:FrameMode} {Q:End→FrameMode→Hp→B.X→Prop} {R:Value→List HProp→B.X→Prop} {ex:Ex} (hf:P.funcs[f]?=some fn) (hr:fn.results=#[.tmp t1,.tmp t2,.tmp t3,.tmp t4])
  (q:∀ v L' x' h',R v L' x'→Star L' h'→Q (.ret v) um h' x') (hex:ex=.ret∨ex=.normal) (h1:lk e t1=some v1) (h2:lk e t2=some v2) (h3:lk e t3=some v3) (h4:lk e t4=some v4) (hR:R (.tuple #[v1,v2,v3,v4]) L x):At n e L fun t h=>leave P B f kd Q ex t ⟨[],um⟩ h x :=
 at_leave (ts:=[t1,t2,t3,t4]) (vs:=[v1,v2,v3,v4]) hex hf hr (.cons h1 (.cons h2 (.cons h3 (.cons h4 .nil)))) q _ rfl hR
end
end Go.PB
namespace Go.PB
def szOf (P:Program) (t:TypeId):Option Nat:=(P.info? t).map (·.size)
def bytesOf (P:Program) (t:TypeId):Option Nat:=(P.info? t).map (·.bytes)
def zeroOf (P:Program) (t:TypeId):Option Value:=(P.info? t).bind (·.zero)
def aggOf (P:Program) (t:TypeId):Option Bool:=(P.underlying t).map fun | .struct _ | .array _ _=>true | _=>false
class Siz (P:Program) (t:Nat) (s:outParam Nat):Prop where ok:szOf P t=some s
class Byt (P:Program) (t:Nat) (s:outParam Nat):Prop where ok:bytesOf P t=some s
class Zer (P:Program) (t:Nat) (v:outParam Value):Prop where ok:zeroOf P t=some v
class Und (P:Program) (t:Nat) (d:outParam TypeDesc):Prop where ok:P.underlying t=some d
class Scal (P:Program) (t:Nat):Prop where ok:aggOf P t=some false
class AggT (P:Program) (t:Nat):Prop where ok:aggOf P t=some true
def fOf (P:Program) (s f:Nat):Option (Nat × Nat × Nat):=match P.underlying s with | some (.struct fs)=>(fs[f]?).bind fun x=>(szOf P x.type).map fun z=>(x.offset,x.type,z) | _=>none
class Fld (P:Program) (s f:Nat) (off ft fz:outParam Nat):Prop where ok:fOf P s f=some (off,ft,fz)
class SlT (P:Program) (t:Nat) (e:outParam Nat):Prop where ok:P.underlying t=some (.slice e)
class ArT (P:Program) (t:Nat) (n e:outParam Nat):Prop where ok:P.underlying t=some (.array n e)
class PtT (P:Program) (t:Nat) (e:outParam Nat):Prop where ok:P.underlying t=some (.pointer e)
class InT (P:Program) (t:Nat) (k:outParam IntKind):Prop where ok:P.underlying t=some (.int k)
class StT (P:Program) (t:Nat) (ps:outParam (Array (Nat × Nat))) (z:outParam (Array Value)):Prop where
 ok:(match P.underlying t with | some (.struct fs)=>fs.mapM fun x=>(szOf P x.type).map fun z=>(x.offset,z) | _=>none)=some ps
 zero:(zeroOf P t).map (·.cells)=some z
class NoIfc (P:Program) (t:Nat):Prop where ok:(match P.underlying t with | some (.interface _)=>false | some _=>true | none=>false)=true
section
variable {P:Program} {M:Mark→Prop} {e:Env} {L:List HProp} {ty:TypeId}
theorem wpS_program {α β:Type} {k:Program→Sem α} {h:Hp} {Q:α→Hp→Prop} {X:Value→Hp→Prop} (w:wpS P M (k P) h Q X):wpS P M (Sem.bind program k) h Q X:=w
theorem wpS_underlying {α:Type} {t:TypeId} {d:TypeDesc} {k:TypeDesc→Sem α} {h:Hp} {Q:α→Hp→Prop} {X:Value→Hp→Prop} (hd:P.underlying t=some d) (w:wpS P M (k d) h Q X):wpS P M (Sem.bind (underlying t) k) h Q X:=by
 show wpS P M (Sem.bind (match P.underlying t with | some d=>pure d | none=>stuck "no such type") k) h Q X
 rw [hd];exact w
theorem wpS_typeInfo {α:Type} {t:TypeId} {d:TypeInfo} {k:TypeInfo→Sem α} {h:Hp} {Q:α→Hp→Prop} {X:Value→Hp→Prop} (hd:P.info? t=some d) (w:wpS P M (k d) h Q X):wpS P M (Sem.bind (typeInfo t) k) h Q X:=by
 show wpS P M (Sem.bind (match P.info? t with | some d=>pure d | none=>stuck "no such type") k) h Q X
 rw [hd];exact w
theorem wpS_sizeOf {α:Type} {t:TypeId} {s:Nat} {k:Nat→Sem α} {h:Hp} {Q:α→Hp→Prop} {X:Value→Hp→Prop} (hd:szOf P t=some s) (w:wpS P M (k s) h Q X):wpS P M (Sem.bind (sizeOf t) k) h Q X:=by
 unfold szOf at hd
 cases hi:P.info? t with
 | none=>rw [hi] at hd;cases hd
 | some i =>
  rw [hi] at hd
  simp only [Option.map_some,Option.some.injEq] at hd
  subst hd
  show wpS P M (Sem.bind (Sem.bind (typeInfo t) fun i=>pure i.size) k) h Q X
  show wpS P M (Sem.bind (Sem.bind (match P.info? t with | some d=>pure d | none=>stuck "no such type") fun i=>pure i.size) k) h Q X
  rw [hi];exact w
theorem wpS_zeroValue {α:Type} {t:TypeId} {s:Value} {k:Value→Sem α} {h:Hp} {Q:α→Hp→Prop} {X:Value→Hp→Prop} (hd:zeroOf P t=some s) (w:wpS P M (k s) h Q X):wpS P M (Sem.bind (zeroValue t) k) h Q X:=by
 unfold zeroOf at hd
 cases hi:P.info? t with
 | none=>rw [hi] at hd;cases hd
 | some i =>
  rw [hi] at hd
  simp only [Option.bind_some] at hd
  show wpS P M (Sem.bind (Sem.bind (match P.info? t with | some d=>pure d | none=>stuck "no such type") fun i=>match i.zero with | some v=>pure v | none=>unsupported (.resourceLimit "a value of more than 2^22 cells")) k) h Q X
  rw [hi]
  show wpS P M (Sem.bind (match i.zero with | some v=>pure v | none=>unsupported (.resourceLimit "a value of more than 2^22 cells")) k) h Q X
  rw [hd];exact w
theorem wpS_isAgg {α:Type} {t:TypeId} {q:Bool} {k:Bool→Sem α} {h:Hp} {Q:α→Hp→Prop} {X:Value→Hp→Prop} (hd:aggOf P t=some q) (w:wpS P M (k q) h Q X):wpS P M (Sem.bind (isAgg t) k) h Q X:=by
 unfold aggOf at hd
 cases hi:P.underlying t with
 | none=>rw [hi] at hd;cases hd
 | some d =>
  rw [hi] at hd
  simp only [Option.map_some,Option.some.injEq] at hd
  show wpS P M (Sem.bind (Sem.bind (match P.underlying t with | some d=>pure d | none=>stuck "no such type") fun d=>match d with | .struct _ | .array _ _=>pure true | _=>pure false) k) h Q X
  rw [hi]
  subst hd
  cases d <;> exact w
theorem mo_move {o:Operand} {v:Value} (hx:ev e o=some v):Mo P e (.move o) ty L fun v' L'=>v'=v∧L'=L :=
 fun M _ _ t h Q X a s q=>q v L h (.value (evT t o)) (.inl (congrArg _ (a.ev hx))) ⟨rfl,rfl⟩ s
theorem mo_assign {o:Operand} {v:Value} (hx:ev e o=some v):Mo P e (.assign o) ty L fun v' L'=>v'=v∧L'=L :=
 fun M _ _ t h Q X a s q=>q v L h (.value (evT t o)) (.inl (congrArg _ (a.ev hx))) ⟨rfl,rfl⟩ s
theorem mo_pickT {c o o':Operand} {v:Value} {q:Bool} (hc:ev e c=some (.bool q)) (hq:q=true) (hx:ev e o=some v):Mo P e (.pick c o o') ty L fun v' L'=>v'=v∧L'=L:=by
 intro M _ _ t h Q X a s qq
 show wpS P M (do pure (.value (if ← asBool (evT t c) then evT t o else evT t o')):Sem Next) h Q X
 rw [a.ev hc,hq]
 exact qq v L h (.value (evT t o)) (.inl (congrArg _ (a.ev hx))) ⟨rfl,rfl⟩ s
theorem mo_pickF {c o o':Operand} {v:Value} {q:Bool} (hc:ev e c=some (.bool q)) (hq:q=false) (hx:ev e o'=some v):Mo P e (.pick c o o') ty L fun v' L'=>v'=v∧L'=L:=by
 intro M _ _ t h Q X a s qq
 show wpS P M (do pure (.value (if ← asBool (evT t c) then evT t o else evT t o')):Sem Next) h Q X
 rw [a.ev hc,hq]
 exact qq v L h (.value (evT t o')) (.inl (congrArg _ (a.ev hx))) ⟨rfl,rfl⟩ s
def Bin (P:Program) (op:BinOp) (xt:TypeId) (x y:Operand) (a b v:Value):Prop :=
 ∀ M (h:Hp) (Q:Next→Hp→Prop) X,Q (.value v) h→wpS P M (do pure (.value (← (do eqGuard op xt x y a b;binOp op xt a b:Sem Value))):Sem Next) h Q X
theorem mo_bin {op:BinOp} {xt yt:TypeId} {x y:Operand} {a b v:Value} (hx:ev e x=some a) (hy:ev e y=some b) (hb:Bin P op xt x y a b v):Mo P e (.binOp op xt x y yt) ty L fun v' L'=>v'=v∧L'=L:=by
 intro M _ _ t h Q X ag s q
 show wpS P M (do pure (.value (← (do eqGuard op xt x y (evT t x) (evT t y);binOp op xt (evT t x) (evT t y):Sem Value))):Sem Next) h Q X
 rw [ag.ev hx,ag.ev hy]
 exact hb M h Q X (q v L h _ (.inl rfl) ⟨rfl,rfl⟩ s)
section
variable {xt:TypeId} {x y:Operand} {k yk:IntKind} {a b r:Int}
theorem bin_add (hr:k.wrap (a+b)=r):Bin P .add xt x y (.int k a) (.int k b) (.int k r):=by
 intro M h Q X q;subst hr
 have:binOp .add xt (.int k a) (.int k b)=(pure (.int k (k.wrap (a+b))):Sem Value):=by simp [binOp,Op.intArith]
 rw [this];exact q
theorem bin_sub (hr:k.wrap (a-b)=r):Bin P .sub xt x y (.int k a) (.int k b) (.int k r):=by
 intro M h Q X q;subst hr
 have:binOp .sub xt (.int k a) (.int k b)=(pure (.int k (k.wrap (a-b))):Sem Value):=by simp [binOp,Op.intArith]
 rw [this];exact q
theorem bin_mul (hr:k.wrap (a*b)=r):Bin P .mul xt x y (.int k a) (.int k b) (.int k r):=by
 intro M h Q X q;subst hr
 have:binOp .mul xt (.int k a) (.int k b)=(pure (.int k (k.wrap (a*b))):Sem Value):=by simp [binOp,Op.intArith]
 rw [this];exact q
theorem bin_rem (hb:b≠0) (hr:a.tmod b=r):Bin P .rem xt x y (.int k a) (.int k b) (.int k r):=by
 intro M h Q X q;subst hr
 have:binOp .rem xt (.int k a) (.int k b)=(pure (.int k (a.tmod b)):Sem Value):=by simp [binOp,Op.intDiv,hb]
 rw [this];exact q
theorem bin_quo (hb:b≠0) (hr:k.wrap (a.tdiv b)=r):Bin P .quo xt x y (.int k a) (.int k b) (.int k r):=by
 intro M h Q X q;subst hr
 have:binOp .quo xt (.int k a) (.int k b)=(pure (.int k (k.wrap (a.tdiv b))):Sem Value):=by simp [binOp,Op.intDiv,hb]
 rw [this];exact q
theorem bin_and (hr:k.wrap (BitVec.ofInt k.bits a &&& BitVec.ofInt k.bits b).toNat=r):Bin P .and xt x y (.int k a) (.int k b) (.int k r):=by
 intro M h Q X q;subst hr
 have:binOp .and xt (.int k a) (.int k b)=(pure (.int k (k.wrap (BitVec.ofInt k.bits a &&& BitVec.ofInt k.bits b).toNat)):Sem Value):=by simp [binOp,Op.intBits]
 rw [this];exact q
theorem bin_or (hr:k.wrap (BitVec.ofInt k.bits a ||| BitVec.ofInt k.bits b).toNat=r):Bin P .or xt x y (.int k a) (.int k b) (.int k r):=by
 intro M h Q X q;subst hr
 have:binOp .or xt (.int k a) (.int k b)=(pure (.int k (k.wrap (BitVec.ofInt k.bits a ||| BitVec.ofInt k.bits b).toNat)):Sem Value):=by simp [binOp,Op.intBits]
 rw [this];exact q
theorem bin_shl (hb:0≤b) (hr:k.wrap (a*2^(min b.toNat k.bits))=r):Bin P .shl xt x y (.int k a) (.int yk b) (.int k r):=by
 intro M h Q X q;subst hr
 have:binOp .shl xt (.int k a) (.int yk b)=(pure (.int k (k.wrap (a*2^(min b.toNat k.bits)))):Sem Value):=by simp [binOp,Op.shift,show ¬ b<0 by omega]
 rw [this];exact q
theorem bin_shr (hb:0≤b) (hr:a.fdiv (2^(min b.toNat k.bits))=r):Bin P .shr xt x y (.int k a) (.int yk b) (.int k r):=by
 intro M h Q X q;subst hr
 have:binOp .shr xt (.int k a) (.int yk b)=(pure (.int k (a.fdiv (2^(min b.toNat k.bits)))):Sem Value):=by simp [binOp,Op.shift,show ¬ b<0 by omega]
 rw [this];exact q
theorem bin_lss:Bin P .lss xt x y (.int k a) (.int k b) (.bool (decide (a<b))):=by
 intro M h Q X q
 have:binOp .lss xt (.int k a) (.int k b)=(pure (.bool (decide (a<b))):Sem Value):=by simp [binOp,Op.intCmp]
 rw [this];exact q
theorem bin_leq:Bin P .leq xt x y (.int k a) (.int k b) (.bool (decide (a≤b))):=by
 intro M h Q X q
 have:binOp .leq xt (.int k a) (.int k b)=(pure (.bool (decide (a≤b))):Sem Value):=by simp [binOp,Op.intCmp]
 rw [this];exact q
theorem bin_gtr:Bin P .gtr xt x y (.int k a) (.int k b) (.bool (decide (b<a))):=by
 intro M h Q X q
 have:binOp .gtr xt (.int k a) (.int k b)=(pure (.bool (decide (b<a))):Sem Value):=by simp [binOp,Op.intCmp]
 rw [this];exact q
theorem bin_geq:Bin P .geq xt x y (.int k a) (.int k b) (.bool (decide (b≤a))):=by
 intro M h Q X q
 have:binOp .geq xt (.int k a) (.int k b)=(pure (.bool (decide (b≤a))):Sem Value):=by simp [binOp,Op.intCmp]
 rw [this];exact q
theorem bin_eql:Bin P .eql xt x y (.int k a) (.int k b) (.bool (decide (a=b))):=by
 intro M h Q X q
 have:binOp .eql xt (.int k a) (.int k b)=(pure (.bool (decide (a=b))):Sem Value):=by simp [binOp,Op.intCmp,BEq.beq]
 rw [this];exact q
theorem bin_neq:Bin P .neq xt x y (.int k a) (.int k b) (.bool (!decide (a=b))):=by
 intro M h Q X q
 have:binOp .neq xt (.int k a) (.int k b)=(pure (.bool (!decide (a=b))):Sem Value):=by simp [binOp,Op.intCmp,bne,BEq.beq]
 rw [this];exact q
end
def Eql (P:Program) (t:TypeId) (x y:Operand) (a b:Value) (r:Bool):Prop :=
 ∀ op,op=.eql∨op=.neq→∀ M (h:Hp) (Q:Next→Hp→Prop) X,Q (.value (.bool (if op=.eql then r else !r))) h→wpS P M (do pure (.value (← (do eqGuard op t x y a b;binOp op t a b:Sem Value))):Sem Next) h Q X
theorem bin_eq {xt:TypeId} {x y:Operand} {a b:Value} {r:Bool} (h:Eql P xt x y a b r):Bin P .eql xt x y a b (.bool r):=fun M hh Q X q=>h .eql (.inl rfl) M hh Q X (by simpa using q)
theorem bin_ne {xt:TypeId} {x y:Operand} {a b:Value} {r:Bool} (h:Eql P xt x y a b r):Bin P .neq xt x y a b (.bool (!r)):=fun M hh Q X q=>h .neq (.inr rfl) M hh Q X (by simpa using q)
theorem Eql.of {t:TypeId} {x y:Operand} {a b:Value} {r:Bool}
  (hg:∀ op,op=.eql∨op=.neq→eqGuard op t x y a b=pure ())
  (h1:binOp .eql t a b=(do pure (.bool (← Op.equal t a b)):Sem Value)) (h2:binOp .neq t a b=(do pure (.bool (!(← Op.equal t a b))):Sem Value))
  (he:∀ M (h:Hp) (Q:Bool→Hp→Prop) X,Q r h→wpS P M (Op.equal t a b) h Q X):Eql P t x y a b r:=by
 intro op hop M h Q X q
 rw [hg op hop]
 rcases hop with rfl | rfl
 ·show wpS P M (Sem.bind (binOp .eql t a b) fun v=>pure (.value v)) h Q X
  rw [h1]
  show wpS P M (Sem.bind (Sem.bind (Op.equal t a b) fun r=>pure (.bool r)) fun v=>pure (.value v)) h Q X
  refine wpS_bind _ _ (wpS_bind _ _ (he _ _ _ _ ?_))
  have q':Q (.value (.bool r)) h:=by simpa using q
  exact q'
 ·show wpS P M (Sem.bind (binOp .neq t a b) fun v=>pure (.value v)) h Q X
  rw [h2]
  show wpS P M (Sem.bind (Sem.bind (Op.equal t a b) fun r=>pure (.bool (!r))) fun v=>pure (.value v)) h Q X
  refine wpS_bind _ _ (wpS_bind _ _ (he _ _ _ _ ?_))
  have q':Q (.value (.bool (!r))) h:=by simpa using q
  exact q'
theorem equal_def (t:TypeId) (a b:Value):Op.equal t a b=Op.equalIn (9999+1) t a b:=rfl
theorem eql_ptr_nil {t el:TypeId} [p:PtT P t el] {x y:Operand} {a:Option Addr}:Eql P t x y (.pointer a) (.pointer none) a.isNone :=
 .of (fun op h=>by rcases h with rfl | rfl <;> rfl) (by cases a <;> rfl) (by cases a <;> rfl) fun M h Q X q=>by
  rw [equal_def]
  refine wpS_underlying p.ok ?_
  cases a <;> exact q
theorem eql_slice_nil {t el:TypeId} [p:SlT P t el] {x y:Operand} {a:Option Addr} {n c:Nat}:Eql P t x y (.slice a n c) (.slice none 0 0) a.isNone :=
 .of (fun op h=>by rcases h with rfl | rfl <;> rfl) rfl rfl fun M h Q X q=>by
  rw [equal_def]
  refine wpS_underlying p.ok ?_
  cases a <;> exact q
theorem eql_iface_nil {t:TypeId} {ms:Array (String × TypeId)} [p:Und P t (.interface ms)] {x:Operand} {u:TypeId} {v:Value} {y:Operand}:Eql P t x y (.iface u v) .nilIface false :=
 .of (fun op h=>by rcases h with rfl | rfl <;> rfl) rfl rfl fun M h Q X q=>by
  rw [equal_def]
  exact wpS_underlying p.ok q
theorem eql_nil_nil {t:TypeId} {ms:Array (String × TypeId)} [p:Und P t (.interface ms)] {x:Operand} {c:Value}:Eql P t x (.const c) .nilIface .nilIface true :=
 .of (fun op h=>by rcases h with rfl | rfl <;> (cases x <;> rfl)) rfl rfl fun M h Q X q=>by
  rw [equal_def]
  exact wpS_underlying p.ok q
theorem eql_func_nil {t:TypeId} {a b:Array TypeId} {c:Bool} [p:Und P t (.func a b c)] {x y:Operand} {f:Fn} {u w:Array Value}:Eql P t x y (.func f u w) .nilFunc false :=
 .of (fun op h=>by rcases h with rfl | rfl <;> rfl) rfl rfl fun M h Q X q=>by
  rw [equal_def]
  exact wpS_underlying p.ok q
theorem eql_nilfunc_nil {t:TypeId} {a b:Array TypeId} {c:Bool} [p:Und P t (.func a b c)] {x y:Operand}:Eql P t x y .nilFunc .nilFunc true :=
 .of (fun op h=>by rcases h with rfl | rfl <;> rfl) rfl rfl fun M h Q X q=>by
  rw [equal_def]
  exact wpS_underlying p.ok q
def Pur {α:Type} (P:Program) (s:Sem α) (a:α):Prop:=∀ M (h:Hp) (Q:α→Hp→Prop) X,Q a h→wpS P M s h Q X
theorem mo_pur {op:Op} {v:Value} (hp:∀ t,Agree e t→∃ s:Sem Value,execOp (evT t) (opOf op ty)=(do pure (.value (← s)))∧Pur P s v):Mo P e op ty L fun v' L'=>v'=v∧L'=L:=by
 intro M _ _ t h Q X a s q
 obtain ⟨sv,h1,h2⟩:=hp t a
 rw [h1]
 exact wpS_bind _ _ (h2 M h _ X (q v L h _ (.inl rfl) ⟨rfl,rfl⟩ s))
theorem mo_not {o:Operand} {xt:TypeId} {b:Bool} (hx:ev e o=some (.bool b)):Mo P e (.unOp .not xt o) ty L fun v' L'=>v'=.bool (!b)∧L'=L :=
 mo_pur fun t a=>⟨_,rfl,by rw [a.ev hx];exact fun M h Q X q=>q⟩
theorem mo_nilCheck {o:Operand} {a:Addr} (hx:ev e o=some (.pointer (some a))):Mo P e (.nilCheck o) ty L fun v' L'=>v'=.pointer (some a)∧L'=L:=by
 intro M _ _ t h Q X ag s q
 show wpS P M (match evT t o with
  | .pointer none | .nilIface | .nilFunc=>runtimePanic .nilDeref
  | .func (.method name) first captured =>
   match (first[0]?:Option Value) with
   | some .nilIface=>runtimePanic .nilDeref
   | some (.iface t w)=>do
    if (← nilAhead ((← program).types.size+Made.depth) t w name) != some false then
     unsupported (.noEntry "op/nilCheck.the method's receiver behind this interface value is a nil pointer, or cannot be seen to be none, and the arguments act or may panic (ledger 612)")
    pure (.value (.func (.method name) first captured))
   | _=>pure (.value (.func (.method name) first captured))
  | x=>pure (.value x):Sem Next) h Q X
 rw [ag.ev hx]
 exact q _ L h _ (.inl rfl) ⟨rfl,rfl⟩ s
theorem mo_conv {src dst:TypeId} {sd:TypeDesc} {k k':IntKind} {n r:Int} {o:Operand} [ps:Und P src sd] [pd:InT P dst k] (hx:ev e o=some (.int k' n)) (hr:k.wrap n=r):Mo P e (.convert src dst o) ty L fun v' L'=>v'=.int k r∧L'=L :=
 mo_pur fun t a=>⟨_,rfl,by
  rw [a.ev hx];subst hr
  exact fun M h Q X q=>wpS_underlying ps.ok (wpS_underlying pd.ok q)⟩
theorem mo_extract {o:Operand} {vs:Array Value} {i:Nat} {v:Value} (hx:ev e o=some (.tuple vs)) (hv:vs[i]?=some v):Mo P e (.extract o i) ty L fun v' L'=>v'=v∧L'=L :=
 mo_pur fun t a=>⟨_,rfl,by
  rw [a.ev hx]
  intro M h Q X q
  show wpS P M (match vs[i]? with | some v=>pure v | none=>stuck "Extract: no such component") h Q X
  rw [hv];exact q⟩
theorem mo_makeFunc {fn:Fn} {first cap:List Operand} {vf vc:List Value} (hf:EvL e first vf) (hc:EvL e cap vc):Mo P e (.makeFunc fn first.toArray cap.toArray) ty L fun v' L'=>v'=.func fn vf.toArray vc.toArray∧L'=L :=
 mo_pur fun t a=>⟨_,rfl,by
  have h1:=hf.evT a
  have h2:=hc.evT a
  intro M h Q X q
  show Q (.func fn (first.toArray.map (evT t)) (cap.toArray.map (evT t))) h
  rw [List.map_toArray,List.map_toArray,h1,h2];exact q⟩
theorem mo_makeInterface {xt:TypeId} {o:Operand} {v:Value} [p:NoIfc P xt] (hx:ev e o=some v):Mo P e (.makeInterface xt o) ty L fun v' L'=>v'=.iface xt v∧L'=L :=
 mo_pur fun t a=>⟨_,rfl,by
  rw [a.ev hx]
  intro M h Q X q
  have hp:=p.ok
  cases hu:P.underlying xt with
  | none=>rw [hu] at hp;cases hp
  | some d =>
   rw [hu] at hp
   refine wpS_underlying hu ?_
   cases d <;> first | exact q | cases hp⟩
theorem add_none (b o n:Nat):Addr.add ⟨b,o,none⟩ n=⟨b,o+n,none⟩:=by
 unfold Addr.add;split
 ·rename_i h;subst h;rfl
 ·rfl
theorem mo_fieldAddr {s f off ft fz:Nat} {o:Operand} {b c r:Nat} [p:Fld P s f off ft fz] (hz:(fz == 0)=false) (hx:ev e o=some (.pointer (some ⟨b,c,none⟩))) (hr:c+off=r):Mo P e (.fieldAddr s o f) ty L fun v' L'=>v'=.pointer (some ⟨b,r,none⟩)∧L'=L :=
 mo_pur fun t a=>⟨_,rfl,by
  rw [a.ev hx];subst hr
  intro M h Q X q
  have hp:=p.ok
  unfold fOf at hp
  cases hu:P.underlying s with
  | none=>rw [hu] at hp;cases hp
  | some d =>
   rw [hu] at hp
   cases d with
   | struct fs =>
    simp only at hp
    cases hf:fs[f]? with
    | none=>rw [hf] at hp;cases hp
    | some fd =>
     rw [hf] at hp
     simp only [Option.bind_some] at hp
     cases hs:szOf P fd.type with
     | none=>rw [hs] at hp;cases hp
     | some z =>
      rw [hs] at hp
      simp only [Option.map_some,Option.some.injEq,Prod.mk.injEq] at hp
      obtain ⟨rfl,rfl,rfl⟩:=hp
      refine wpS_underlying hu ?_
      simp only [hf]
      show wpS P M (Sem.bind (fieldPlace ⟨b,c,none⟩ fd) fun a=>pure (.pointer (some a))) h Q X
      refine wpS_bind _ _ (wpS_sizeOf hs ?_)
      rw [if_neg (by simpa using hz),add_none]
      exact q
   | _=>cases hp⟩
theorem mo_indexAddr {t el sz:Nat} {o i:Operand} {b c n cp:Nat} {k:IntKind} {j:Int} {r:Nat} [p:SlT P t el] [z:Siz P el sz] (hx:ev e o=some (.slice (some ⟨b,c,none⟩) n cp)) (hi:ev e i=some (.int k j)) (h0:0≤j) (h1:j<n) (hr:c+j.toNat*sz=r):Mo P e (.indexAddr t o i) ty L fun v' L'=>v'=.pointer (some ⟨b,r,none⟩)∧L'=L :=
 mo_pur fun t' a=>⟨_,rfl,by
  rw [a.ev hx,a.ev hi];subst hr
  intro M h Q X q
  simp only [Instr.indexAt,asIntOf,pure_bind,bind_assoc]
  refine wpS_underlying p.ok ?_
  simp only [Instr.sureAddr,pure_bind]
  refine wpS_underlying p.ok ?_
  show wpS P M (if 0≤j∧j<n then Sem.bind (sizeOf el) fun z=>pure (.pointer (some (Addr.add ⟨b,c,none⟩ (j.toNat*z)))) else _) h Q X
  rw [if_pos ⟨h0,h1⟩]
  refine wpS_sizeOf z.ok ?_
  rw [add_none];exact q⟩
theorem mo_indexArr {t n el sz:Nat} {o i:Operand} {b c:Nat} {k:IntKind} {j:Int} {r:Nat} [p:ArT P t n el] [z:Siz P el sz] (hx:ev e o=some (.pointer (some ⟨b,c,none⟩))) (hi:ev e i=some (.int k j)) (h0:0≤j) (h1:j<n) (hr:c+j.toNat*sz=r):Mo P e (.indexAddr t o i) ty L fun v' L'=>v'=.pointer (some ⟨b,r,none⟩)∧L'=L :=
 mo_pur fun t' a=>⟨_,rfl,by
  rw [a.ev hx,a.ev hi];subst hr
  intro M h Q X q
  simp only [Instr.indexAt,asIntOf,pure_bind,bind_assoc]
  refine wpS_underlying p.ok ?_
  simp only [Instr.sureAddr,pure_bind]
  refine wpS_underlying p.ok ?_
  show wpS P M (if 0≤j∧j<n then Sem.bind (sizeOf el) fun z=>pure (.pointer (some (Addr.add ⟨b,c,none⟩ (j.toNat*z)))) else _) h Q X
  rw [if_pos ⟨h0,h1⟩]
  refine wpS_sizeOf z.ok ?_
  rw [add_none];exact q⟩
theorem mo_len {o:Operand} {st:Nat} {el:Nat} {a:Option Addr} {n c:Nat} [p:SlT P st el] (hx:ev e o=some (.slice a n c)):Mo P e (.call ⟨.builtin .len,#[o],#[st]⟩) ty L fun v' L'=>v'=.int .i64 n∧L'=L:=by
 intro M _ _ t h Q X ag s q
 show wpS P M (Sem.bind (Builtin.len_ #[st] ty (#[o].map (evT t))) fun v=>pure (.value v)) h Q X
 rw [show #[o].map (evT t)=#[evT t o] by simp,ag.ev hx]
 refine wpS_bind _ _ ?_
 exact wpS_underlying p.ok (q _ L h _ (.inl rfl) ⟨rfl,rfl⟩ s)
theorem mo_min {o o':Operand} {tys:Array TypeId} {k:IntKind} {a b:Int} (hx:ev e o=some (.int k a)) (hy:ev e o'=some (.int k b)):Mo P e (.call ⟨.builtin .min,#[o,o'],tys⟩) ty L fun v' L'=>v'=.int k (min a b)∧L'=L:=by
 intro M _ _ t h Q X ag s q
 show wpS P M (Sem.bind (Builtin.min_ tys ty (#[o,o'].map (evT t))) fun v=>pure (.value v)) h Q X
 rw [show #[o,o'].map (evT t)=#[evT t o,evT t o'] by simp,ag.ev hx,ag.ev hy]
 refine q _ L h (.value (.int k (if b<a then b else a))) (.inl ?_) ⟨rfl,rfl⟩ s
 congr 2
 split <;> omega
end
end Go.PB
namespace Go.PB
section
variable {P:Program} {e:Env} {L:List HProp} {ty:TypeId}
def Wt (L:List HProp) (b o:Nat) (v:Value) (L':List HProp):Prop:=∀ h,Star L h→(h.own b o).isSome=true∧Star L' (h.set b o v)
theorem Wt.row {b o k n:Nat} {vs:List Value} {v:Value} {L L':List HProp} (hk:k<vs.length) (hn:n=o+k) (f:Foc L (arr b o vs) (arr b o (vs.set k v)) L'):Wt L b n v L':=by
 intro h s
 obtain ⟨R,h1,h2⟩:=f.out
 subst hn
 obtain ⟨a,b⟩:=star_store (v:=v) hk (h1.star s)
 exact ⟨a,h2 b⟩
theorem Wt.row0 {b k:Nat} {vs:List Value} {v:Value} {L L':List HProp} (f:Foc L (arr b 0 vs) (arr b 0 (vs.set k v)) L') (hk:k<vs.length):Wt L b k v L':=Wt.row hk (Nat.zero_add k).symm f
def Rds (L:List HProp) (b o:Nat) (vs:List Value):Prop:=∀ (i:Nat) v,vs[i]?=some v→Rd L b (o+i) v
theorem Rds.row {b o k:Nat} {vs ws:List Value} {L R:List HProp} (f:Has L (arr b o vs) R) (hw:∀ (i:Nat) v,ws[i]?=some v→vs[k+i]?=some v):Rds L b (o+k) ws :=
 fun i v hi=>Rd.of f (Rd.row (hw i v hi) (by omega))
theorem Rds.all {b o:Nat} {vs:List Value} {L R:List HProp} (f:Has L (arr b o vs) R):Rds L b o vs:=by
 have:=Rds.row (k:=0) (ws:=vs) f (fun i v h=>by simpa using h)
 simpa using this
section
variable {M:Mark→Prop}
theorem wpS_load {h:Hp} {b o:Nat} {v:Value} {Q:Value→Hp→Prop} {X:Value→Hp→Prop} (hc:h.can ⟨b,o,none⟩ v) (q:Q v h):wpS P M (load ⟨b,o,none⟩) h Q X:=⟨v,hc,q⟩
theorem wpS_loadCellsFrom {h:Hp} {b o:Nat} {Q:Array Value→Hp→Prop} {X:Value→Hp→Prop}:∀ (vs:List Value) (i:Nat) (acc:Array Value),(∀ (j:Nat) v,vs[j]?=some v→h.can ⟨b,o+(i+j),none⟩ v)→Q (acc++vs.toArray) h →
  wpS P M (loadCellsFrom ⟨b,o,none⟩ i vs.length acc) h Q X:=by
 intro vs
 induction vs with
 | nil =>
  intro i acc _ q
  have q':Q acc h:=by simpa using q
  exact q'
 | cons v vs ih =>
  intro i acc hc q
  show wpS P M (Sem.bind (load (Addr.add ⟨b,o,none⟩ i)) fun v=>loadCellsFrom ⟨b,o,none⟩ (i+1) vs.length (acc.push v)) h Q X
  rw [add_none]
  refine wpS_bind _ _ (wpS_load (hc 0 v rfl) ?_)
  refine ih (i+1) (acc.push v) (fun j w hw=>?_) (by simpa using q)
  have:=hc (j+1) w (by simpa using hw)
  rwa [show i+1+j=i+(j+1) by omega]
theorem wpS_loadCells {h:Hp} {b o n:Nat} {vs:List Value} {Q:Array Value→Hp→Prop} {X:Value→Hp→Prop} (hn:n=vs.length) (hc:∀ (j:Nat) v,vs[j]?=some v→h.can ⟨b,o+j,none⟩ v) (q:Q vs.toArray h):wpS P M (loadCells ⟨b,o,none⟩ n) h Q X:=by
 subst hn
 exact wpS_loadCellsFrom vs 0 #[] (fun j v hv=>by simpa using hc j v hv) (by simpa using q)
def one:Value→Bool
 | .agg _ | .tuple _=>false
 | _=>true
theorem wpS_store1 {h:Hp} {b o:Nat} {v:Value} {Q:Unit→Hp→Prop} {X:Value→Hp→Prop} (hv:one v=true) (ho:(h.own b o).isSome=true) (q:Q () (h.set b o v)):wpS P M (store ⟨b,o,none⟩ v) h Q X:=by
 cases v <;> first | exact ⟨rfl,ho,q⟩ | cases hv
theorem one_cells {v:Value} (hv:one v=true):v.cells=#[v]:=by cases v <;> first | rfl | cases hv
end
theorem mo_load {t:TypeId} {o:Operand} {b c:Nat} {v:Value} [p:Scal P t] (ha:ev e o=some (.pointer (some ⟨b,c,none⟩))) (hr:Rd L b c v):Mo P e (.load t o) ty L fun v' L'=>v'=v∧L'=L:=by
 intro M _ _ tt h Q X ag s q
 show wpS P M (Sem.bind (Instr.loadAt t (evT tt o)) fun v=>pure (.value v)) h Q X
 rw [ag.ev ha]
 show wpS P M (Sem.bind (loadVar t ⟨b,c,none⟩) fun v=>pure (.value v)) h Q X
 refine wpS_bind _ _ ?_
 show wpS P M (Sem.bind (isAgg t) _) h _ X
 refine wpS_isAgg p.ok ?_
 exact wpS_load (hr h s) (q v L h _ (.inl rfl) ⟨rfl,rfl⟩ s)
theorem mo_loadA {t:TypeId} {o:Operand} {b c n:Nat} {vs:List Value} [p:AggT P t] [sz:Siz P t n] (ha:ev e o=some (.pointer (some ⟨b,c,none⟩))) (hn:n=vs.length) (hr:Rds L b c vs):Mo P e (.load t o) ty L fun v' L'=>v'=.agg vs.toArray∧L'=L:=by
 intro M _ _ tt h Q X ag s q
 show wpS P M (Sem.bind (Instr.loadAt t (evT tt o)) fun v=>pure (.value v)) h Q X
 rw [ag.ev ha]
 show wpS P M (Sem.bind (loadVar t ⟨b,c,none⟩) fun v=>pure (.value v)) h Q X
 refine wpS_bind _ _ ?_
 show wpS P M (Sem.bind (isAgg t) _) h _ X
 refine wpS_isAgg p.ok ?_
 rw [if_pos rfl]
 show wpS P M (Sem.bind (sizeOf t) fun n=>Sem.bind (loadCells ⟨b,c,none⟩ n) fun x=>pure (Value.agg x)) h _ X
 refine wpS_sizeOf sz.ok (wpS_bind _ _ (wpS_loadCells hn (fun j v hv=>hr j v hv h s) ?_))
 exact q _ L h _ (.inl rfl) ⟨rfl,rfl⟩ s
theorem wpS_storeVar1 {M:Mark→Prop} {t:TypeId} {b c:Nat} {v:Value} {h:Hp} {Q:Unit→Hp→Prop} {X:Value→Hp→Prop} (sz:szOf P t=some 1) (hv:one v=true) (ho:(h.own b c).isSome=true) (q:Q () (h.set b c v)):wpS P M (storeVar t ⟨b,c,none⟩ v) h Q X:=by
 have hc:=one_cells hv
 show wpS P M (Sem.bind (sizeOf t) fun n=>if v.cells.size≠n then (do stuck "storeVar: the value has not the size of the variable";storeCells ⟨b,c,none⟩ v.cells.toList) else storeCells ⟨b,c,none⟩ v.cells.toList) h Q X
 refine wpS_sizeOf sz ?_
 rw [hc]
 show wpS P M (Sem.bind (store (Addr.add ⟨b,c,none⟩ 0) v) fun _=>pure ()) h Q X
 rw [add_none]
 exact wpS_bind _ _ (wpS_store1 hv ho q)
theorem mo_store {t:TypeId} {o x:Operand} {b c:Nat} {v:Value} {L':List HProp} [sz:Siz P t 1] (ha:ev e o=some (.pointer (some ⟨b,c,none⟩))) (hx:ev e x=some v) (hv:one v=true) (hw:Wt L b c v L'):Mo P e (.store t o x) ty L fun v' L1=>v'=undef∧L1=L':=by
 intro M _ _ tt h Q X ag s q
 show wpS P M (Sem.bind (Instr.storeAt t (evT tt o) (evT tt x)) fun _=>pure .skip) h Q X
 rw [ag.ev ha,ag.ev hx]
 show wpS P M (Sem.bind (storeVar t ⟨b,c,none⟩ v) fun _=>pure .skip) h Q X
 obtain ⟨h1,h2⟩:=hw h s
 exact wpS_bind _ _ (wpS_storeVar1 sz.ok hv h1 (q undef L' _ _ (.inr ⟨rfl,rfl⟩) ⟨rfl,rfl⟩ h2))
theorem wpS_newRow {M:Mark→Prop} {t:TypeId} {c:Array Value} {h:Hp} {Q:Addr→Hp→Prop} {X:Value→Hp→Prop} (s:Star L h) (q:∀ b h',Star (arr b 0 c.toList::L) h'→Q ⟨b,0,none⟩ h'):wpS P M (newRow t c) h Q X :=
 fun b hf=>q b _ (star_new hf s)
theorem mo_box {t:TypeId} {o:Operand} {v:Value} (hx:ev e o=some v):Mo P e (.box t o) ty L fun v' L'=>∃ b,v'=.pointer (some ⟨b,0,none⟩)∧L'=arr b 0 v.cells.toList::L:=by
 intro M _ _ tt h Q X ag s q
 show wpS P M (Sem.bind (Sem.bind (newVar t (evT tt o)) fun a=>pure (.pointer (some a))) fun v=>pure (.value v)) h Q X
 rw [ag.ev hx]
 refine wpS_bind _ _ (wpS_bind _ _ (wpS_newRow s fun b h' s'=>?_))
 exact q _ _ h' _ (.inl rfl) ⟨b,rfl,rfl⟩ s'
theorem mo_alloc {t:TypeId} {zv:Value} [zr:Zer P t zv]:Mo P e (.alloc t) ty L fun v' L'=>∃ b,v'=.pointer (some ⟨b,0,none⟩)∧L'=arr b 0 zv.cells.toList::L:=by
 intro M _ _ tt h Q X ag s q
 show wpS P M (Sem.bind (Instr.alloc t true (.tuple #[])) fun v=>pure (.value v)) h Q X
 refine wpS_bind _ _ ?_
 show wpS P M (Sem.bind (zeroValue t) fun zero=>Sem.bind (newVar t zero) fun a=>pure (Value.pointer (some a))) h _ X
 refine wpS_zeroValue zr.ok (wpS_bind _ _ (wpS_newRow s fun b h' s'=>?_))
 exact q _ _ h' _ (.inl rfl) ⟨b,rfl,rfl⟩ s'
theorem mo_build {t:TypeId} {parts:Array (Nat × Operand)} {pv:List (Nat × Value)} {ps:Array (Nat × Nat)} {z cells:Array Value} [p:StT P t ps z] (hp:parts.toList.map (·.1)=pv.map (·.1)) (hv:EvL e (parts.toList.map (·.2)) (pv.map (·.2))) (hf:Instr.fill (ps[·]?) z pv=some cells):Mo P e (.build t parts) ty L fun v' L'=>v'=.agg cells∧L'=L:=by
 intro M _ _ tt h Q X ag s q
 have hparts:(parts.map fun (i,x)=>(i,evT tt x))=pv.toArray:=by
  apply Array.ext'
  simp only [Array.toList_map]
  have h2:=hv.evT ag
  have key:∀ (l:List (Nat × Operand)) (r:List (Nat × Value)),l.map (·.1)=r.map (·.1)→(l.map (·.2)).map (evT tt)=r.map (·.2)→l.map (fun (q:Nat × Operand)=>(q.1,evT tt q.2))=r:=by
   intro l
   induction l with
   | nil=>intro r h1 _;cases r with | nil=>rfl | cons _ _=>cases h1
   | cons a l ih =>
    intro r h1 h2
    cases r with
    | nil=>cases h1
    | cons c r =>
     simp only [List.map_cons,List.cons.injEq] at h1 h2 ⊢
     exact ⟨by rw [h1.1,h2.1],ih r h1.2 h2.2⟩
  exact key _ _ hp h2
 have hz:=p.zero
 have ho:=p.ok
 show wpS P M (Sem.bind (Instr.build t (parts.map fun (i,x)=>(i,evT tt x))) fun v=>pure (.value v)) h Q X
 rw [hparts]
 refine wpS_bind _ _ ?_
 cases hz0:zeroOf P t with
 | none=>rw [hz0] at hz;cases hz
 | some zv =>
  rw [hz0] at hz
  simp only [Option.map_some,Option.some.injEq] at hz
  cases hu:P.underlying t with
  | none=>rw [hu] at ho;cases ho
  | some d =>
   rw [hu] at ho
   cases d with
   | struct fs =>
    simp only at ho
    show wpS P M (Sem.bind (zeroValue t) fun z0=>Sem.bind (underlying t) fun d=>_) h _ X
    refine wpS_zeroValue hz0 (wpS_underlying hu ?_)
    have key:∀ (M:Mark→Prop) (Q:Array (Nat × Nat)→Hp→Prop) X,Q ps h→wpS P M (fs.mapM fun f=>do pure (f.offset,← sizeOf f.type):Sem (Array (Nat × Nat))) h Q X:=by
     intro M Q X hq
     rw [Array.mapM_eq_foldlM,← Array.foldlM_toList]
     rw [Array.mapM_eq_foldlM,← Array.foldlM_toList] at ho
     have gen:∀ (l:List Field) (acc ps:Array (Nat × Nat)),List.foldlM (fun (bs:Array (Nat × Nat)) (x:Field)=>bs.push <$> ((szOf P x.type).map fun z=>(x.offset,z))) acc l=some ps→Q ps h →
       wpS P M (List.foldlM (fun (bs:Array (Nat × Nat)) (f:Field)=>bs.push <$> (do pure (f.offset,← sizeOf f.type):Sem (Nat × Nat))) acc l) h Q X:=by
      intro l
      induction l with
      | nil=>intro acc ps h1 hq;simp only [List.foldlM_nil,Option.pure_def,Option.some.injEq] at h1;subst h1;exact hq
      | cons f l ih =>
       intro acc ps h1 hq
       simp only [List.foldlM_cons] at h1
       cases hs:szOf P f.type with
       | none=>rw [hs] at h1;simp at h1
       | some z =>
        rw [hs] at h1
        simp only [Option.map_some,Option.map_eq_map,Option.bind_eq_bind,Option.bind_some] at h1
        simp only [List.foldlM_cons]
        refine wpS_bind (Sem.bind (Sem.bind (sizeOf f.type) fun z=>pure (f.offset,z)) (Sem.pure ∘ acc.push)) _ ?_
        refine wpS_bind _ _ (wpS_bind _ _ ?_)
        have:=wpS_sizeOf (P:=P) (M:=M) (k:=Sem.pure) (h:=h) (X:=X) (Q:=fun z h=>wpS P M (List.foldlM (fun (bs:Array (Nat × Nat)) (f:Field)=>bs.push <$> (do pure (f.offset,← sizeOf f.type):Sem (Nat × Nat))) (acc.push (f.offset,z)) l) h Q X) hs (ih _ _ h1 hq)
        rw [sem_bind_pure] at this
        exact this
     exact gen _ _ _ ho hq
    show wpS P M (Sem.bind (fs.mapM fun f=>do pure (f.offset,← sizeOf f.type):Sem (Array (Nat × Nat))) fun places=>_) h _ X
    refine wpS_bind _ _ (key _ _ _ ?_)
    subst hz
    simp only [hf]
    exact q _ L h _ (.inl rfl) ⟨rfl,rfl⟩ s
   | _=>cases ho
end
end Go.PB
namespace Go.PB
def zeros (n:Nat) (c:List Value):List Value:=(List.replicate n c).flatten
theorem zeros_length (n:Nat) (c:List Value):(zeros n c).length=n*c.length:=by simp [zeros]
theorem range_zeros (n:Nat) (z:Array Value):((Array.range (n*z.size)).map (z[·%z.size]!)).toList=zeros n z.toList:=by
 rw [Array.toList_map,Array.toList_range]
 induction n with
 | zero=>simp [zeros]
 | succ n ih =>
  rw [show (n+1)*z.size=n*z.size+z.size by rw [Nat.add_mul];simp,List.range_add,List.map_append,ih]
  simp only [zeros,List.replicate_succ',List.flatten_append,List.flatten_cons,List.flatten_nil,List.append_nil]
  congr 1
  rw [List.map_map]
  apply List.ext_getElem
  ·simp
  ·intro i h1 h2
   simp only [List.getElem_map,List.getElem_range,Function.comp]
   have hi:i<z.size:=by simpa using h2
   rw [Nat.mul_add_mod_self_right,Nat.mod_eq_of_lt hi]
   simp [hi]
section
variable {P:Program} {e:Env} {L:List HProp} {ty:TypeId} {M:Mark→Prop}
theorem wpS_askRoom {n:Nat} {h:Hp} {Q:Unit→Hp→Prop} {X:Value→Hp→Prop} (m:M .noRoom) (q:Q () h):wpS P M (askRoom n) h Q X:=by
 unfold askRoom
 split
 ·exact ⟨m,q⟩
 ·exact q
theorem wpS_bytes {t:TypeId} {b:Nat} {α:Type} {k:TypeInfo→Sem α} {h:Hp} {Q:α→Hp→Prop} {X:Value→Hp→Prop} (hb:bytesOf P t=some b) (w:∀ i:TypeInfo,i.bytes=b→wpS P M (k i) h Q X):wpS P M (Sem.bind (typeInfo t) k) h Q X:=by
 unfold bytesOf at hb
 cases hi:P.info? t with
 | none=>rw [hi] at hb;cases hb
 | some i =>
  rw [hi] at hb
  simp only [Option.map_some,Option.some.injEq] at hb
  exact wpS_typeInfo hi (w i hb)
theorem wrap_i64 {n:Int} (h1:-9223372036854775808≤n) (h2:n≤9223372036854775807):IntKind.i64.wrap n=n:=by
 unfold IntKind.wrap IntKind.signed IntKind.bits
 simp only [Bool.true_and,decide_eq_true_eq]
 split <;> omega
theorem mo_make {t el by_ sz:Nat} {o o':Operand} {k k':IntKind} {n:Nat} {zv:Value} [p:SlT P t el] [b:Byt P el by_] [s:Siz P el sz] [z:Zer P el zv] (hx:ev e o=some (.int k n)) (hy:ev e o'=some (.int k' n)) (hsz:zv.cells.size=sz) (hn:n≤9223372036854775807) (hb:by_*n≤281474976710656):Mo P e (.makeSlice t o o') ty L fun v' L'=>∃ b,v'=.slice (some ⟨b,0,none⟩) n n∧L'=arr b 0 (zeros n zv.cells.toList)::L:=by
 intro M hM _ tt h Q X ag st q
 show wpS P M (Sem.bind (Instr.makeSlice t (evT tt o) (evT tt o')) fun v=>pure (.value v)) h Q X
 rw [ag.ev hx,ag.ev hy]
 refine wpS_bind _ _ ?_
 have hw:IntKind.i64.wrap (n:Int)=n:=wrap_i64 (by omega) (by omega)
 unfold Instr.makeSlice
 refine wpS_underlying p.ok ?_
 simp only [asInt,asIntOf,pure_bind,bind_assoc]
 refine wpS_bytes b.ok fun i hi=>?_
 simp only [hw,hi]
 have hc:(decide ((n:Int)<0)||decide ((by_:Int)*(n:Int) > 2^48)||decide ((n:Int)<0)||decide ((n:Int) > (n:Int)))=false:=by
  have h1:¬ ((by_:Int)*(n:Int) > 2^48):=by
   obtain ⟨m,hm⟩:∃ m,by_*n=m:=⟨_,rfl⟩
   rw [← Int.natCast_mul,hm]
   rw [hm] at hb
   omega
  simp [h1]
  omega
 rw [if_neg (by rw [hc];simp)]
 simp only [Int.toNat_natCast,pure_bind]
 refine wpS_bind _ _ (wpS_askRoom hM ?_)
 refine wpS_sizeOf s.ok ?_
 have fin:∀ zc:Array Value,(n*sz≠0→zc=zv.cells)→wpS P M (Sem.bind (newRow el ((Array.range (n*sz)).map (zc[·%zc.size]!))) fun a=>pure (Value.slice (some a) n n)) h (fun a h=>wpS P M (pure (Next.value a)) h Q X) X:=by
  intro zc hzc
  refine wpS_bind _ _ (wpS_newRow st fun bb h' s'=>?_)
  refine q _ _ h' _ (.inl rfl) ⟨bb,rfl,rfl⟩ ?_
  by_cases h0:n*sz=0
  ·have e1:(zeros n zv.cells.toList)=[]:=List.length_eq_zero_iff.1 (by rw [zeros_length,Array.length_toList,hsz,h0])
   have e2:((Array.range (n*sz)).map (zc[·%zc.size]!)).toList=[]:=by rw [h0];simp
   rw [e1];rw [e2] at s';exact s'
  ·rw [hzc h0,← hsz,range_zeros] at s';exact s'
 by_cases h0:n*sz=0
 ·rw [if_pos h0];exact fin #[] (fun h=>absurd h0 h)
 ·rw [if_neg h0]
  refine wpS_zeroValue z.ok ?_
  exact fin _ (fun _=>rfl)
theorem fold_set (cs:List Value):∀ (j0 off:Nat) (A:Array Value),off+j0+cs.length≤A.size →
  ((cs.zipIdx j0).foldl (fun (a:Array Value) (p:Value × Nat)=>a.setIfInBounds (off+p.2) p.1) A).toList=A.toList.take (off+j0)++cs++A.toList.drop (off+j0+cs.length):=by
 induction cs with
 | nil=>intro j0 off A _;simp
 | cons c cs ih =>
  intro j0 off A h
  simp only [List.length_cons] at h
  simp only [List.zipIdx_cons,List.foldl_cons]
  rw [ih (j0+1) off _ (by simp;omega)]
  simp only [Array.toList_setIfInBounds,List.length_cons]
  have hlt:off+j0<A.toList.length:=by simp;omega
  apply List.ext_getElem?
  intro i
  simp only [List.getElem?_append,List.length_append,List.length_take,List.getElem?_take,List.getElem?_drop,List.getElem?_set,List.length_set,List.getElem?_cons,List.length_cons]
  have e1:min (off+(j0+1)) A.toList.length=off+j0+1:=by omega
  have e2:min (off+j0) A.toList.length=off+j0:=by omega
  rw [e1,e2]
  by_cases h1:i<off+j0
  ·simp [h1,show i<off+j0+1+cs.length by omega,show i<off+j0+1 by omega,show i<off+(j0+1) by omega,show i<off+j0+(cs.length+1) by omega,show off+j0≠i by omega]
  ·by_cases h2:i=off+j0
   ·subst h2
    have hlt':off+j0<A.size:=by simpa using hlt
    simp [hlt',show off+j0<off+j0+1+cs.length by omega]
   ·by_cases h3:i<off+j0+1+cs.length
    ·simp [h1,h3,show ¬ i<off+j0+1 by omega,show i<off+j0+(cs.length+1) by omega,show ¬ i-(off+j0)=0 by omega,show i-(off+j0)-1=i-(off+j0+1) by omega]
    ·simp [h1,h3,show ¬ i<off+j0+(cs.length+1) by omega,show off+(j0+1)+cs.length+(i-(off+j0+1+cs.length))=off+j0+(cs.length+1)+(i-(off+j0+(cs.length+1))) by omega,show off+j0≠off+j0+(cs.length+1)+(i-(off+j0+(cs.length+1))) by omega]
theorem fill_all (sz:Nat):∀ (vs:List Value) (k:Nat) (A:Array Value),(∀ v∈vs,v.cells.size=sz)→k*sz+vs.length*sz≤A.size →
  ∃ C,Instr.fill (fun i=>some (i*sz,sz)) A ((vs.zipIdx k).map fun p=>(p.2,p.1))=some C∧C.toList=A.toList.take (k*sz)++(vs.map (·.cells.toList)).flatten++A.toList.drop (k*sz+vs.length*sz):=by
 intro vs
 induction vs with
 | nil=>intro k A _ _;exact ⟨A,rfl,by simp⟩
 | cons v vs ih =>
  intro k A hv hA
  have hs:v.cells.size=sz:=hv v (by simp)
  have e1:(vs.length+1)*sz=vs.length*sz+sz:=by rw [Nat.add_mul];simp
  have e2:(k+1)*sz=k*sz+sz:=by rw [Nat.add_mul];simp
  simp only [List.length_cons] at hA
  have hf:=fold_set v.cells.toList 0 (k*sz) A (by simp [hs];omega)
  simp only [Nat.add_zero,Array.length_toList,hs] at hf
  have hsize:(v.cells.zipIdx.foldl (fun cs (c,j)=>cs.setIfInBounds (k*sz+j) c) A)=(v.cells.toList.zipIdx.foldl (fun (a:Array Value) (p:Value × Nat)=>a.setIfInBounds (k*sz+p.2) p.1) A):=by
   rw [← Array.foldl_toList];simp
  have hlen:(v.cells.toList.zipIdx.foldl (fun (a:Array Value) (p:Value × Nat)=>a.setIfInBounds (k*sz+p.2) p.1) A).size=A.size:=by
   rw [← Array.length_toList,hf];simp;omega
  obtain ⟨C,hC,hCl⟩:=ih (k+1) (v.cells.toList.zipIdx.foldl (fun (a:Array Value) (p:Value × Nat)=>a.setIfInBounds (k*sz+p.2) p.1) A) (fun u hu=>hv u (by simp [hu])) (by rw [hlen];omega)
  refine ⟨C,?_,?_⟩
  ·simp only [List.zipIdx_cons,List.map_cons,Instr.fill]
   rw [if_neg (by simp [hs];omega),hsize]
   exact hC
  ·rw [hCl,hf,e2]
   simp only [List.map_cons,List.flatten_cons,List.length_cons]
   have l1:(A.toList.take (k*sz)++v.cells.toList).length=k*sz+sz:=by simp [hs];omega
   rw [List.take_append_of_le_length (by omega),List.take_of_length_le (by omega),List.drop_append,l1]
   rw [List.drop_of_length_le (l:=A.toList.take (k*sz)++v.cells.toList) (by omega),List.drop_drop]
   simp only [List.nil_append,List.append_assoc]
   congr 4
   omega
theorem parts_eq {parts:Array (Nat × Operand)} {vs:List Value} {n:Nat} {tt:Array Value} (hp:parts.toList.map (·.1)=List.range n) (hev:(parts.toList.map (·.2)).map (evT tt)=vs) :
  vs.length=n∧(parts.map fun (p:Nat × Operand)=>(p.1,evT tt p.2))=((vs.zipIdx 0).map fun p=>(p.2,p.1)).toArray:=by
 have hlen:vs.length=n:=by
  have h1:(parts.toList.map (·.1)).length=n:=by rw [hp];simp
  have h2:((parts.toList.map (·.2)).map (evT tt)).length=vs.length:=by rw [hev]
  simp at h1 h2;omega
 refine ⟨hlen,?_⟩
 apply Array.ext'
 simp only [Array.toList_map]
 apply List.ext_getElem?
 intro i
 have h1:(parts.toList.map (·.1))[i]?=(List.range n)[i]?:=by rw [hp]
 have h2:((parts.toList.map (·.2)).map (evT tt))[i]?=vs[i]?:=by rw [hev]
 simp only [List.getElem?_map,List.getElem?_zipIdx,Nat.zero_add] at h1 h2 ⊢
 cases hpi:parts.toList[i]? with
 | none=>rw [hpi] at h2;simp only [Option.map_none] at h2;rw [← h2];rfl
 | some q =>
  rw [hpi] at h1 h2
  simp only [Option.map_some] at h1 h2 ⊢
  rw [← h2]
  have hi:i<n:=by
   have:=(List.getElem?_eq_some_iff.1 h1.symm).1;simpa using this
  simp only [List.getElem?_range hi,Option.some.injEq] at h1
  simp [h1]
theorem mo_buildSlice {t el sz n:Nat} {parts:Array (Nat × Operand)} {vs:List Value} {zv:Value} [p:SlT P t el] [s:Siz P el sz] [z:Zer P el zv] (hp:parts.toList.map (·.1)=List.range n) (hv:EvL e (parts.toList.map (·.2)) vs) (hz:zv.cells.size=sz) (hs:∀ v∈vs,v.cells.size=sz) (hn:n*sz≤16777216):Mo P e (.buildSlice t n parts) ty L fun v' L'=>∃ b,v'=.slice (some ⟨b,0,none⟩) n n∧L'=arr b 0 (vs.map (·.cells.toList)).flatten::L:=by
 intro M _ _ tt h Q X ag st q
 obtain ⟨hlen,hparts⟩:=parts_eq hp (hv.evT ag)
 show wpS P M (Sem.bind (Instr.buildSlice t n (parts.map fun (p:Nat × Operand)=>(p.1,evT tt p.2))) fun v=>pure (.value v)) h Q X
 rw [hparts]
 refine wpS_bind _ _ ?_
 unfold Instr.buildSlice
 refine wpS_underlying p.ok ?_
 refine wpS_sizeOf s.ok ?_
 rw [if_neg (by omega)]
 simp only [pure_bind]
 have fin:∀ A:Array Value,A.size=n*sz→∃ C,Instr.fill (fun i=>some (i*sz,sz)) A ((vs.zipIdx 0).map fun p=>(p.2,p.1))=some C∧wpS P M (Sem.bind (newRow el C) fun a=>pure (Value.slice (some a) n n)) h (fun a h=>wpS P M (pure (Next.value a)) h Q X) X:=by
  intro A hA
  obtain ⟨C,hC,hCl⟩:=fill_all sz vs 0 A hs (by rw [hA,hlen];simp)
  refine ⟨C,hC,?_⟩
  refine wpS_bind _ _ (wpS_newRow st fun bb h' s'=>?_)
  refine q _ _ h' _ (.inl rfl) ⟨bb,rfl,rfl⟩ ?_
  rw [hCl] at s'
  simp only [Nat.zero_mul,List.take_zero,List.nil_append,Nat.zero_add] at s'
  rw [List.drop_of_length_le (by simp [hA,hlen])] at s'
  simpa using s'
 by_cases h0:n*sz=0
 ·rw [if_pos h0]
  obtain ⟨C,hC,w⟩:=fin ((Array.range (n*sz)).map (fun x=>(#[]:Array Value)[x%(#[]:Array Value).size]!)) (by simp only [Array.size_map,Array.size_range])
  simp only [hC]
  exact w
 ·rw [if_neg h0]
  refine wpS_zeroValue z.ok ?_
  obtain ⟨C,hC,w⟩:=fin ((Array.range (n*sz)).map (fun x=>zv.cells[x%zv.cells.size]!)) (by simp only [Array.size_map,Array.size_range])
  simp only [hC]
  exact w
end
end Go.PB
namespace Go.PB
def over (vs:List Value) (k:Nat) (ws:List Value):List Value:=vs.take k++ws++vs.drop (k+ws.length)
theorem over_cons {vs ws:List Value} {k:Nat} {w:Value} (h:k+(ws.length+1)≤vs.length):over (vs.set k w) (k+1) ws=over vs k (w::ws):=by
 unfold over
 apply List.ext_getElem?
 intro i
 simp only [List.getElem?_append,List.length_append,List.length_take,List.getElem?_take,List.getElem?_drop,List.getElem?_set,List.length_set,List.getElem?_cons,List.length_cons]
 rw [show min (k+1) vs.length=k+1 by omega,show min k vs.length=k by omega]
 by_cases h1:i<k
 ·simp [h1,show i<k+1 by omega,show i<k+1+ws.length by omega,show i<k+(ws.length+1) by omega,show k≠i by omega]
 ·by_cases h2:i=k
  ·subst h2;simp [show i<vs.length by omega,show i<i+1+ws.length by omega]
  ·by_cases h3:i<k+1+ws.length
   ·simp [h1,h3,show ¬ i<k+1 by omega,show i<k+(ws.length+1) by omega,show ¬ i-k=0 by omega,show i-k-1=i-(k+1) by omega]
   ·simp [h1,h3,show ¬ i<k+(ws.length+1) by omega,show k+1+ws.length+(i-(k+1+ws.length))=k+(ws.length+1)+(i-(k+(ws.length+1))) by omega,show k≠k+(ws.length+1)+(i-(k+(ws.length+1))) by omega]
section
variable {P:Program} {e:Env} {L:List HProp} {ty:TypeId} {M:Mark→Prop}
theorem wpS_storeCells {b o:Nat} {Q:Unit→Hp→Prop} {X:Value→Hp→Prop}:∀ (ws:List Value) (vs:List Value) (k i:Nat) (a:Nat) (h:Hp),(∀ w∈ws,one w=true)→k+ws.length≤vs.length→a+i=o+k→Star (arr b o vs::L) h →
  (∀ h',Star (arr b o (over vs k ws)::L) h'→Q () h')→wpS P M (storeCells ⟨b,a,none⟩ ws i) h Q X:=by
 intro ws
 induction ws with
 | nil =>
  intro vs k i a h _ _ _ s q
  exact q h (by simpa [over] using s)
 | cons w ws ih =>
  intro vs k i a h h1 hk ha s q
  simp only [List.length_cons] at hk
  show wpS P M (Sem.bind (store (Addr.add ⟨b,a,none⟩ i) w) fun _=>storeCells ⟨b,a,none⟩ ws (i+1)) h Q X
  rw [add_none,ha]
  obtain ⟨hs1,hs2⟩:=star_store (k:=k) (v:=w) (by omega) s
  refine wpS_bind _ _ (wpS_store1 (h1 w (by simp)) hs1 ?_)
  refine ih (vs.set k w) (k+1) (i+1) a _ (fun u hu=>h1 u (by simp [hu])) (by simp;omega) (by omega) hs2 fun h' s'=>q h' ?_
  rwa [over_cons (by omega)] at s'
theorem mo_storeA {t n:Nat} {o x:Operand} {b c a k:Nat} {v:Value} {vs:List Value} {L':List HProp} [sz:Siz P t n] (ha:ev e o=some (.pointer (some ⟨b,a,none⟩))) (hx:ev e x=some v) (hv:v.cells.size=n) (h1:∀ w∈v.cells.toList,one w=true) (hc:a=c+k) (hk:k+n≤vs.length) (f:Foc L (arr b c vs) (arr b c (over vs k v.cells.toList)) L'):Mo P e (.store t o x) ty L fun v' L1=>v'=undef∧L1=L':=by
 intro M _ _ tt h Q X ag s q
 show wpS P M (Sem.bind (Instr.storeAt t (evT tt o) (evT tt x)) fun _=>pure .skip) h Q X
 rw [ag.ev ha,ag.ev hx]
 show wpS P M (Sem.bind (storeVar t ⟨b,a,none⟩ v) fun _=>pure .skip) h Q X
 refine wpS_bind _ _ ?_
 show wpS P M (Sem.bind (sizeOf t) fun n=>if v.cells.size≠n then (do stuck "storeVar: the value has not the size of the variable";storeCells ⟨b,a,none⟩ v.cells.toList) else storeCells ⟨b,a,none⟩ v.cells.toList) h _ X
 refine wpS_sizeOf sz.ok ?_
 rw [if_neg (by simp [hv])]
 obtain ⟨R,f1,f2⟩:=f.out
 refine wpS_storeCells v.cells.toList vs k 0 a h h1 (by simp [hv];omega) (by omega) (f1.star s) fun h' s'=>?_
 exact q undef L' h' _ (.inr ⟨rfl,rfl⟩) ⟨rfl,rfl⟩ (f2 s')
def vec (sz:Nat) (v:Value) (cs:List Value):HProp:=fun h =>
 (v=.slice none 0 0∧cs=[])∨∃ b o n c sp,v=.slice (some ⟨b,o,none⟩) n c∧cs.length=n*sz∧n≤c∧sp.length=(c-n)*sz∧arr b o (cs++sp) h
theorem vec_nil {sz:Nat} {h:Hp} (s:Star L h):Star (vec sz (.slice none 0 0) []::L) h :=
 ⟨⟨fun _ _=>none,fun _ _=>none,fun _=>none,fun _=>none⟩,h,⟨fun _ _ _ e=>by simp at e,fun _ _ _ e=>e,fun _ _ _ e=>by simp at e,fun _ _ _ e=>e,fun _ _=>.inl rfl,fun _ _ e=>by simp at e,fun _ _ e=>e,fun _=>.inl rfl,fun _ _ e=>by simp at e,fun _ _ e=>e⟩,.inl ⟨rfl,rfl⟩,s⟩
theorem vec_out {sz:Nat} {v:Value} {cs:List Value} {h:Hp} (s:Star (vec sz v cs::L) h) :
  (v=.slice none 0 0∧cs=[]∧Star L h)∨∃ b o n c sp,v=.slice (some ⟨b,o,none⟩) n c∧cs.length=n*sz∧n≤c∧sp.length=(c-n)*sz∧Star (arr b o (cs++sp)::L) h:=by
 obtain ⟨h1,h2,s1,hv,hL⟩:=s
 rcases hv with ⟨h3,h4⟩ | ⟨b,o,n,c,sp,h3,h4,h5,h6,h7⟩
 ·exact .inl ⟨h3,h4,star_drop (c:=fun _=>True) ⟨h1,h2,s1,trivial,hL⟩⟩
 ·exact .inr ⟨b,o,n,c,sp,h3,h4,h5,h6,h1,h2,s1,h7,hL⟩
theorem vec_in {sz b o n c:Nat} {cs sp:List Value} {h:Hp} (h1:cs.length=n*sz) (h2:n≤c) (h3:sp.length=(c-n)*sz) (s:Star (arr b o (cs++sp)::L) h):Star (vec sz (.slice (some ⟨b,o,none⟩) n c) cs::L) h :=
 star_map s (fun _ a=>.inr ⟨b,o,n,c,sp,rfl,h1,h2,h3,a⟩) (fun _ x=>x)
theorem vec_new {sz b n:Nat} {cs:List Value} {h:Hp} (h1:cs.length=n*sz) (s:Star (arr b 0 cs::L) h):Star (vec sz (.slice (some ⟨b,0,none⟩) n n) cs::L) h :=
 vec_in (sp:=[]) h1 (Nat.le_refl _) (by simp) (by simpa using s)
def sliceLen:Value→Nat
 | .slice _ n _=>n
 | _=>0
theorem growBy_le (m:Nat):∀ r c,c<m→Builtin.growBy m r c≤m+(m+768)/4:=by
 intro r
 induction r with
 | zero=>intro c h;simp only [Builtin.growBy];omega
 | succ r ih =>
  intro c h
  simp only [Builtin.growBy]
  rw [if_neg (by omega)]
  by_cases h2:c+(c+768)/4<m
  ·exact ih _ h2
  ·cases r with
   | zero=>simp only [Builtin.growBy];omega
   | succ r=>simp only [Builtin.growBy];rw [if_pos (by omega)];omega
theorem nextcap_le {m c:Nat} (h:c<m):Builtin.nextslicecap m c≤m+m/4+1024:=by
 unfold Builtin.nextslicecap
 split
 ·omega
 ·split
  ·omega
  ·have:=growBy_le m 4 c h;omega
theorem zeroCells_eq (z:Array Value) (n:Nat):(Builtin.zeroCells z n).toList=zeros n z.toList:=by
 unfold Builtin.zeroCells;exact range_zeros n z
theorem wpS_choose {α:Type} {qq:Question} {k:Nat→Sem α} {h:Hp} {Q:α→Hp→Prop} {X:Value→Hp→Prop} (hq:qq.forced=false) (w:∀ t,wpS P M (k (qq.cut t)) h Q X):wpS P M (Sem.bind (choose qq) k) h Q X:=by
 show wpS P M (.choose qq fun n=>k n) h Q X
 unfold wpS
 rw [if_neg (by rw [hq];simp)]
 exact w
theorem mo_append {st xt el by_ sz:Nat} {so xo:Operand} {sv:Value} {cs new:List Value} {xb:Option Addr} {xn xc:Nat} {R:List HProp} {zv:Value} {xe:Nat}
  [p:SlT P st el] [px:SlT P xt xe] [b:Byt P el by_] [s:Siz P el sz] [z:Zer P el zv] (hz:zv.cells.size=sz) (hby:(by_ == 0)=false)
  (hs:ev e so=some sv) (hx:ev e xo=some (.slice xb xn xc)) (hv:Has L (vec sz sv cs) R)
  (hnew:new.length=xn*sz) (hrd:xn=0∨∃ xbb xo',xb=some ⟨xbb,xo',none⟩∧Rds L xbb xo' new) (h1:∀ w∈new,one w=true)
  (hroom:((sliceLen sv+xn)+(sliceLen sv+xn)/4+1024)*by_≤281474976710656) :
  Mo P e (.call ⟨.builtin .append,#[so,xo],#[st,xt]⟩) ty L fun v' L'=>L'=vec sz v' (cs++new)::R:=by
 intro M hM _ tt h Q X ag st0 q
 show wpS P M (Sem.bind (Builtin.append_ #[st,xt] ty (#[so,xo].map (evT tt))) fun v=>pure (.value v)) h Q X
 rw [show #[so,xo].map (evT tt)=#[evT tt so,evT tt xo] by simp,ag.ev hs,ag.ev hx]
 refine wpS_bind _ _ ?_
 -- what is read
 have hread:∀ (M:Mark→Prop) (Q:Array Value→Hp→Prop) X,Q new.toArray h→wpS P M (Builtin.firstCells sz xn (.slice xb xn xc)) h Q X:=by
  intro M Q X hq
  rcases hrd with h3 | ⟨xbb,xo',h2,h3⟩
  ·subst h3
   have:new=[]:=List.length_eq_zero_iff.1 (by simpa using hnew)
   subst this
   cases xb with
   | none=>exact hq
   | some y =>
    show wpS P M (loadCells y (0*sz)) h Q X
    rw [Nat.zero_mul]
    exact hq
  ·subst h2
   exact wpS_loadCells (b:=xbb) (o:=xo') hnew.symm (fun j v hj=>h3 j v hj h st0) hq
 have hsv:=vec_out (hv.star st0)
 have key:∀ (base:Option Addr) (n c:Nat),sv=.slice base n c →
   wpS P M (Builtin.append_ #[st,xt] ty #[sv,.slice xb xn xc]) h (fun a h=>Q (.value a) h) X:=by
  intro base n c hsv0
  have hbase:base=none∧n=0∧c=0∧cs=[]∧Star R h∨∃ bb o sp,base=some ⟨bb,o,none⟩∧cs.length=n*sz∧n≤c∧sp.length=(c-n)*sz∧Star (arr bb o (cs++sp)::R) h:=by
   rcases hsv with ⟨h2,h3,h4⟩ | ⟨b',o',n',c',sp,h2,h3,h4,h5,h6⟩
   ·rw [hsv0] at h2;injection h2 with e1 e2 e3;exact .inl ⟨e1,e2,e3,h3,h4⟩
   ·rw [hsv0] at h2;injection h2 with e1 e2 e3;subst e1;subst e2;subst e3;exact .inr ⟨b',o',sp,rfl,h3,h4,h5,h6⟩
  rw [hsv0] at hroom ⊢
  simp only [sliceLen] at hroom
  unfold Builtin.append_
  have ht:#[st,xt][0]?=some st:=rfl
  have ht2:#[st,xt][1]?=some xt:=rfl
  simp only [ht,ht2]
  have e0:#[Value.slice base n c,Value.slice xb xn xc][0]?=some (Value.slice base n c):=rfl
  have e1:#[Value.slice base n c,Value.slice xb xn xc][1]?=some (Value.slice xb xn xc):=rfl
  simp only [e0,e1]
  refine wpS_underlying p.ok ?_
  refine wpS_sizeOf s.ok ?_
  simp only [bind_assoc,pure_bind]
  refine wpS_underlying px.ok ?_
  simp only [Bool.false_eq_true,if_false,Bool.not_false,if_true,Builtin.lenOf,pure_bind]
  have hlc:∀ bb o,base=some ⟨bb,o,none⟩→cs.length=n*sz:=by
   intro bb o hb
   rcases hbase with ⟨h2,_⟩ | ⟨_,_,_,_,h3,_⟩
   ·rw [h2] at hb;cases hb
   ·exact h3
  have hmul:(n+xn)*sz=n*sz+xn*sz:=Nat.add_mul ..
  by_cases hfit:n+xn≤c
  ·rw [if_pos hfit]
   refine wpS_bind _ _ (hread _ _ _ ?_)
   rcases hbase with ⟨h2,h3,h4,h5,h6⟩ | ⟨bb,o,sp,h2,h3,h4,h5,h6⟩
   ·subst h2;subst h3;subst h4;subst h5
    have:xn=0:=by omega
    subst this
    have:new=[]:=List.length_eq_zero_iff.1 (by simpa using hnew)
    subst this
    exact q _ _ h _ (.inl rfl) rfl (vec_nil h6)
   ·subst h2
    have hsp:(c-n)*sz=(c-(n+xn))*sz+xn*sz:=by rw [← Nat.add_mul];congr 1;omega
    show wpS P M (Sem.bind (storeCells (Addr.add ⟨bb,o,none⟩ (n*sz)) new.toArray.toList) fun _=>pure (Value.slice (some ⟨bb,o,none⟩) (n+xn) c)) h _ X
    rw [add_none]
    refine wpS_bind _ _ (wpS_storeCells new (cs++sp) (n*sz) 0 (o+n*sz) h h1 (by simp;omega) rfl h6 fun h' s'=>?_)
    refine q _ _ h' _ (.inl rfl) rfl ?_
    have hov:over (cs++sp) (n*sz) new=(cs++new)++sp.drop (xn*sz):=by
     unfold over
     rw [List.take_append_of_le_length (by omega),List.take_of_length_le (by omega),hnew,← h3,List.drop_append]
     rw [List.drop_of_length_le (by omega)]
     simp
    rw [hov] at s'
    exact vec_in (by simp;omega) hfit (by simp;omega) s'
  ·rw [if_neg hfit]
   refine wpS_bytes b.ok fun i hi=>?_
   have hnext:=nextcap_le (m:=n+xn) (c:=c) (by omega)
   have hprod:Builtin.nextslicecap (n+xn) c*by_≤281474976710656:=Nat.le_trans (Nat.mul_le_mul_right _ hnext) hroom
   have hby':by_≠0:=by simpa using hby
   rw [if_neg (by rintro ⟨_,h | h⟩;exact h;exact hby' (hi.symm.trans h))]
   refine wpS_bytes b.ok fun i2 hi2=>?_
   rw [hi2,if_neg (by omega)]
   refine wpS_choose rfl fun tt'=>?_
   obtain ⟨nc,hnc,hge⟩:∃ nc,(Question.appendCap (n+xn) c el).cut tt'=nc∧n+xn≤nc:=⟨_,rfl,by simp [Question.cut]⟩
   rw [hnc]
   refine wpS_bytes b.ok fun i3 hi3=>?_
   refine wpS_bind _ _ (wpS_askRoom hM ?_)
   have hold:∀ (M:Mark→Prop) (Q:Array Value→Hp→Prop) X,Q cs.toArray h→wpS P M (Builtin.firstCells sz n (.slice base n c)) h Q X:=by
    intro M Q X hq
    rcases hbase with ⟨h2,h3,h4,h5,h6⟩ | ⟨bb,o,sp,h2,h3,h4,h5,h6⟩
    ·subst h2;subst h5;exact hq
    ·subst h2
     refine wpS_loadCells (b:=bb) (o:=o) h3.symm (fun j v hj=>?_) hq
     exact Rd.row (k:=j) (by rw [List.getElem?_append_left (List.getElem?_eq_some_iff.1 hj).1];exact hj) rfl h h6
   have hcl:cs.length=n*sz:=by
    rcases hbase with ⟨h2,h3,h4,h5,h6⟩ | ⟨bb,o,sp,h2,h3,h4,h5,h6⟩
    ·subst h3;subst h5;simp
    ·exact h3
   have hR:Star R h:=star_drop (hv.star st0)
   refine wpS_bind _ _ (hold _ _ _ ?_)
   refine wpS_bind _ _ (hread _ _ _ ?_)
   refine wpS_zeroValue z.ok ?_
   refine wpS_bind _ _ (wpS_newRow hR fun b' h' s'=>?_)
   refine q _ _ h' _ (.inl rfl) rfl ?_
   simp only [Array.toList_append,zeroCells_eq] at s'
   exact vec_in (sp:=zeros (nc-(n+xn)) zv.cells.toList) (by simp;omega) hge (by rw [zeros_length,Array.length_toList,hz]) s'
 rcases hsv with ⟨h2,_,_⟩ | ⟨_,_,_,_,_,h2,_⟩
 ·exact key _ _ _ h2
 ·exact key _ _ _ h2
end
end Go.PB
namespace Go.PB
section
variable {P:Program} {e:Env} {L:List HProp} {ty:TypeId}
inductive Bd (e:Env):Option Operand→Nat→Nat→Prop
 | no {n:Nat}:Bd e none n n
 | yes {o:Operand} {n m:Nat} {k:IntKind} {j:Int}:ev e o=some (.int k j)→j=m→Bd e (some o) n m
theorem wpS_sliceBound {M:Mark→Prop} {k:IntKind} {j:Int} {m y:Nat} {c:BoundsCode} {h:Hp} {Q:Nat→Hp→Prop} {X:Value→Hp→Prop} (hj:j=m) (hm:m≤y) (q:Q m h):wpS P M (Instr.sliceBound (.int k j) y c) h Q X:=by
 subst hj
 show wpS P M (if 0≤(m:Int)∧(m:Int)≤(y:Int) then pure (m:Int).toNat else _) h Q X
 rw [if_pos ⟨by omega,by omega⟩]
 exact q
theorem mo_slice {t el sz:Nat} {o:Operand} {lo hi:Option Operand} {a:Option Addr} {n c l u:Nat} [p:SlT P t el] [s:Siz P el sz] (hx:ev e o=some (.slice a n c)) (hl:Bd e lo 0 l) (hu:Bd e hi n u) (h1:l≤u) (h2:u≤c) :
  Mo P e (.slice t o lo hi none) ty L fun v' L'=>v'=.slice (if c=l then a else a.map (·.add (l*sz))) (u-l) (c-l)∧L'=L:=by
 intro M _ _ tt h Q X ag st q
 show wpS P M (Sem.bind (Instr.sliceAt t (evT tt o) (lo.map (evT tt)) (hi.map (evT tt)) none) fun v=>pure (.value v)) h Q X
 rw [ag.ev hx]
 refine wpS_bind _ _ ?_
 unfold Instr.sliceAt
 refine wpS_underlying p.ok ?_
 show wpS P M (Instr.slice t (.slice a n c) (lo.map (evT tt)) (hi.map (evT tt)) none) h _ X
 unfold Instr.slice
 refine wpS_underlying p.ok ?_
 show wpS P M (Sem.bind (Instr.sliceBounds true n c (lo.map (evT tt)) (hi.map (evT tt)) none) fun b=>Sem.bind (sizeOf el) fun size=>pure (Value.slice (if b.2.2=b.1 then a else a.map (·.add (b.1*size))) (b.2.1-b.1) (b.2.2-b.1))) h _ X
 refine wpS_bind _ _ ?_
 have fin:wpS P M (Sem.bind (sizeOf el) fun size=>pure (Value.slice (if c=l then a else a.map (·.add (l*size))) (u-l) (c-l))) h (fun a h=>wpS P M (pure (Next.value a)) h Q X) X :=
  wpS_sizeOf s.ok (q _ L h _ (.inl rfl) ⟨rfl,rfl⟩ st)
 have low:∀ (R:Nat × Nat × Nat→Hp→Prop),R (l,u,c) h→wpS P M (match lo.map (evT tt) with | some v=>Sem.bind (Instr.sliceBound v u .sliceB) fun l=>pure (l,u,c) | none=>pure (0,u,c)) h R X:=by
  intro R hR
  cases hl with
  | no=>exact hR
  | yes he hj=>simp only [Option.map_some];rw [ag.ev he];exact wpS_bind _ _ (wpS_sliceBound hj h1 hR)
 unfold Instr.sliceBounds
 simp only [pure_bind]
 cases hu with
 | no =>
  cases hl with
  | no=>exact fin
  | yes he hj=>simp only [Option.map_some,Option.map_none,pure_bind];rw [ag.ev he];exact wpS_bind _ _ (wpS_sliceBound hj h1 fin)
 | yes he hj =>
  simp only [Option.map_some];rw [ag.ev he]
  refine wpS_bind _ _ (wpS_sliceBound hj h2 ?_)
  cases hl with
  | no=>exact fin
  | yes he hj=>simp only [Option.map_some];rw [ag.ev he];exact wpS_bind _ _ (wpS_sliceBound hj h1 fin)
class Exn (P:Program) (f:Nat) (en:outParam (Array Value→Sem Value)):Prop where
 ok:∃ fn,P.funcs[f]?=some fn∧(fn.name == "runtime.NumGoroutine")=false∧fn.body.isNone=true∧Extern.findNext fn=none∧Extern.find fn=some en
theorem callFunc_ext {M:Mark→Prop} {f:Nat} {en:Array Value→Sem Value} [x:Exn P f en] {args:Array Value} {h:Hp} {Q:Next→Hp→Prop} {X:Value→Hp→Prop} (hM:M (.extern f)) (w:wpS P M (en args) h (fun v h=>Q (.value v) h) X):wpS P M (callFunc f args) h Q X:=by
 obtain ⟨fn,hg,hn,hb,h1,h2⟩:=x.ok
 show wpS P M ((match P.funcs[f]? with
  | none=>stuck "call: no such function"
  | some fn =>
   if fn.name == "runtime.NumGoroutine" then pure .numGoroutine
   else if fn.body.isNone then (do
    mark (.extern f)
    if let some e:=Extern.findNext fn then return ← e args
    match Extern.find fn with
    | some e=>pure (.value (← e args))
    | none =>
     if fn.name.endsWith ".init" && !fn.name.startsWith "(" && !fn.name.startsWith "gosem." then pure (.value (.tuple #[]))
     else unsupported (.extern fn.name))
   else pure (.enter f args):Sem Next)) h Q X
 rw [hg]
 simp only [hn,hb,if_neg Bool.false_ne_true,if_true,h1,h2]
 refine ⟨hM,?_⟩
 show wpS P M (Sem.bind (en args) fun v=>pure (.value v)) h Q X
 exact wpS_bind _ _ w
theorem mo_ext {f:Nat} {en:Array Value→Sem Value} [x:Exn P f en] {args:List Operand} {vs:List Value} {tys:Array TypeId} {R:Value→List HProp→Prop} (ha:EvL e args vs)
  (hw:∀ (M:Mark→Prop) h (Q:Value→Hp→Prop) X,Star L h→(∀ v L' h',R v L'→Star L' h'→Q v h')→wpS P M (en vs.toArray) h Q X):Mo P e (.call ⟨.value (.func f),args.toArray,tys⟩) ty L R:=by
 intro M _ hM t h Q X ag s q
 have hargs:=ha.evT ag
 have hex:execOp (evT t) (opOf (.call ⟨.value (.func f),args.toArray,tys⟩) ty)=callFunc f vs.toArray:=by
  show callFunc f ((#[]++args.toArray.map (evT t))++#[])=_
  rw [List.map_toArray,hargs];simp
 rw [hex]
 exact callFunc_ext (hM f) (hw M h _ X s fun v L' h' r s'=>q v L' h' _ (.inl rfl) r s')
open Extern.Atomic in
theorem wpS_read {M:Mark→Prop} {k:IntKind} {b o:Nat} {n:Int} {h:Hp} {Q:Value→Hp→Prop} {X:Value→Hp→Prop} (hc:h.can ⟨b,o,none⟩ (.int k n)) (q:Q (.int k n) h):wpS P M (read (.int k) ⟨b,o,none⟩) h Q X:=by
 refine ⟨_,hc,?_⟩
 show wpS P M (if k=k then pure (Value.int k n) else _) h Q X
 rw [if_pos rfl]
 exact q
open Extern.Atomic in
theorem at_loadI {k:IntKind} {b o:Nat} {n:Int} (hr:Rd L b o (.int k n)):∀ (M:Mark→Prop) h (Q:Value→Hp→Prop) X,Star L h→(∀ v L' h',(v=.int k n∧L'=L)→Star L' h'→Q v h')→wpS P M (loadT (.int k) [Value.pointer (some ⟨b,o,none⟩)].toArray) h Q X:=by
 intro M h Q X s q
 exact wpS_read (hr h s) (q _ L h ⟨rfl,rfl⟩ s)
open Extern.Atomic in
theorem at_storeI {b o:Nat} {v:Value} {L1:List HProp} (hv:one v=true) (hw:Wt L b o v L1):∀ (M:Mark→Prop) h (Q:Value→Hp→Prop) X,Star L h→(∀ v L' h',(v=.tuple #[]∧L'=L1)→Star L' h'→Q v h')→wpS P M (storeT [Value.pointer (some ⟨b,o,none⟩),v].toArray) h Q X:=by
 intro M h Q X s q
 obtain ⟨h1,h2⟩:=hw h s
 show wpS P M (Sem.bind (store ⟨b,o,none⟩ v .atomic) fun _=>pure none_) h Q X
 refine wpS_bind _ _ ?_
 cases v <;> first | exact ⟨rfl,h1,q _ L1 _ ⟨rfl,rfl⟩ h2⟩ | cases hv
open Extern.Atomic in
theorem wpS_touches {M:Mark→Prop} {b o:Nat} {h:Hp} {Q:Bool→Hp→Prop} {X:Value→Hp→Prop} (hb:(h.own b o).isSome=true) (q:Q false h):wpS P M (touchesFrozen ⟨b,o,none⟩) h Q X:=by
 refine ⟨.inl ⟨o,.inl hb⟩,fun t n _ _=>?_⟩
 intro q' hq
 have:q'=false:=hq hb
 subst this
 exact q
open Extern.Atomic in
theorem at_casI {k:IntKind} {b o:Nat} {n x y:Int} {L1:List HProp} (hr:Rd L b o (.int k n)) (hw:Wt L b o (.int k y) L1):∀ (M:Mark→Prop) h (Q:Value→Hp→Prop) X,Star L h→(∀ v L' h',(v=.bool (decide (n=x))∧L'=if n=x then L1 else L)→Star L' h'→Q v h')→wpS P M (casT (.int k) [Value.pointer (some ⟨b,o,none⟩),.int k x,.int k y].toArray) h Q X:=by
 intro M h Q X s q
 obtain ⟨h1,h2⟩:=hw h s
 show wpS P M (Sem.bind (touchesFrozen ⟨b,o,none⟩) fun fz=>if fz then _ else _) h Q X
 refine wpS_bind _ _ (wpS_touches h1 ?_)
 rw [if_neg (by simp)]
 refine wpS_bind _ _ (wpS_read (hr h s) ?_)
 show wpS P M (if (n == x)=true then Sem.bind (store ⟨b,o,none⟩ (.int k y) .atomic) fun _=>pure (Value.bool (n == x)) else pure (Value.bool (n == x))) h Q X
 by_cases hx:n=x
 ·rw [if_pos (by simpa using hx)]
  exact ⟨rfl,h1,q _ L1 _ ⟨by simp [hx],by rw [if_pos hx]⟩ h2⟩
 ·rw [if_neg (by simpa using hx)]
  exact q _ L _ ⟨by simp [hx],by rw [if_neg hx]⟩ s
open Extern.Atomic in
theorem at_addI {k:IntKind} {b o:Nat} {n y r:Int} {L1:List HProp} (hr:Rd L b o (.int k n)) (hn:k.wrap (n+y)=r) (hw:Wt L b o (.int k r) L1):∀ (M:Mark→Prop) h (Q:Value→Hp→Prop) X,Star L h→(∀ v L' h',(v=.int k r∧L'=L1)→Star L' h'→Q v h')→wpS P M (update (Op.intArith .add) k true [Value.pointer (some ⟨b,o,none⟩),.int k y].toArray) h Q X:=by
 intro M h Q X s q
 obtain ⟨h1,h2⟩:=hw h s
 show wpS P M (Sem.bind (read (.int k) ⟨b,o,none⟩) fun old=>Sem.bind (asInt old) fun a=>Sem.bind (Op.intArith .add k a y) fun new=>Sem.bind (store ⟨b,o,none⟩ new .atomic) fun _=>pure new) h Q X
 refine wpS_bind _ _ (wpS_read (hr h s) ?_)
 subst hn
 exact ⟨rfl,h1,q _ L1 _ ⟨rfl,rfl⟩ h2⟩
class Met (P:Program) (t:Nat) (name:String) (f:outParam Nat):Prop where
 ok:(P.info? t).bind (fun i=>(i.methods.find? (·.name == name)).bind fun m=>if m.path.isEmpty then m.func else none)=some (f,true)
 ptr:(match P.underlying t with | some (.pointer _)=>true | _=>false)=true
end
section
variable {P:Program} {B:Hand} {kd:CallKind} {n:Nat} {K:Post B} {e:Env} {z:Z} {L:List HProp} {x:B.X}
theorem wpS_method {M:Mark→Prop} {fuel t f:Nat} {name:String} {v:Value} {h:Hp} {Q:FuncId × Value→Hp→Prop} {X:Value→Hp→Prop} [m:Met P t name f] (q:Q (f,v) h):wpS P M (method (fuel+1) t v name) h Q X:=by
 have h1:=m.ok
 have h2:=m.ptr
 cases hi:P.info? t with
 | none=>rw [hi] at h1;cases h1
 | some i =>
  rw [hi] at h1
  simp only [Option.bind_some] at h1
  cases hm:i.methods.find? (·.name == name) with
  | none=>rw [hm] at h1;cases h1
  | some md =>
   rw [hm] at h1
   simp only [Option.bind_some] at h1
   split at h1
   ·rename_i hp
    cases hu:P.underlying t with
    | none=>rw [hu] at h2;cases h2
    | some d =>
     rw [hu] at h2
     cases d with
     | pointer el =>
      unfold method
      refine wpS_typeInfo hi ?_
      simp only [hm]
      have hpath:md.path.toList=[]:=by have:=Array.isEmpty_iff.1 hp;rw [this]
      rw [hpath]
      show wpS P M (match md.func with | none=>_ | some (f,pr)=>_) h Q X
      rw [h1]
      show wpS P M (Sem.bind (receiverAt t (.val v) true _) fun r=>pure (f,r)) h Q X
      refine wpS_bind _ _ ?_
      unfold receiverAt
      exact wpS_underlying hu q
     | _=>cases h2
   ·cases h1
theorem wo_invoke {l:List OpG} {d:Option Nat} {ro:Operand} {t:Nat} {rv:Value} {name:String} {f:Nat} {args:List Operand} {vs:List Value} {tys:Array TypeId} {ty:TypeId} {g:Option (Nat × Bool)} {R:Value→List HProp→B.X→Prop}
  (hr:ev e ro=some (.iface t rv)) [m:Met P t name f] (ha:EvL e args vs) (hg:gYes e g) [en:Ent' P f] [pk:Pass K z] (tr:Tr P B f (rv::vs) L x R) (k:∀ v L' x',R v L' x'→Wo P B kd n l K (setE d v e) z L' x') :
  Wo P B kd n (⟨d,.call ⟨.invoke ro name,args.toArray,tys⟩,ty,g⟩::l) K e z L x:=by
 intro ops idx h1 h2 tt h a1 a2 a3
 obtain ⟨i,idx',oo,rfl,h3,h4,h5,h6,h7,h8⟩:=map_head h1
 refine wr_op h4 (wanted_yes a1 a2 h8 hg) ?_
 rw [execOp_of _ h6 h7]
 have hargs:=ha.evT a2
 show wpS P B.mark (invoke (.fn (.method name) #[]) (#[evT tt ro]++args.toArray.map (evT tt))) h _ _
 have he:(#[evT tt ro]++args.toArray.map (evT tt))=(.iface t rv::vs).toArray:=by
  rw [List.map_toArray,hargs,a2.ev hr]
  apply Array.ext'
  simp
 rw [he]
 have he2:((Value.iface t rv::vs).toArray.extract 1 (Value.iface t rv::vs).toArray.size)=vs.toArray:=by
  apply Array.ext'
  simp
 show wpS P B.mark (callMethod (.iface t rv) name ((Value.iface t rv::vs).toArray.extract 1 (Value.iface t rv::vs).toArray.size)) h _ _
 rw [he2]
 show wpS P B.mark (Sem.bind (method (P.types.size+Made.depth) t rv name) fun fr=>callFunc fr.1 (#[fr.2]++vs.toArray)) h _ _
 refine wpS_bind _ _ ?_
 have hd:0<Made.depth:=by decide
 have hfuel:P.types.size+Made.depth=(P.types.size+(Made.depth-1))+1:=by omega
 rw [hfuel]
 refine wpS_method (wpS_callFunc en.ok ?_)
 have hsame:#[rv]++vs.toArray=(rv::vs).toArray:=by simp
 rw [hsame]
 refine tr h .run _ a3 (fun v L' x' h' r s=>⟨rfl,?_⟩) (fun ch h' x' hc=>⟨rfl,pk.ok ch tt h' x' hc⟩)
 exact k v L' x' r ops idx' h3 (dOk_tail h2) _ h' ((setDst_size oo tt v).trans a1) (a2.setE h5 (by rw [a1];exact dOk_head h2) v) s
end
end Go.PB
namespace Go.PB
def edgesM (m:Region.Mode) (ops:Array Oper) (i:Nat):List Nat:=match ops[i]? with | some o=>(o.after.toList.filter fun e=>Region.binds m e).map (·.on) | none=>[]
def edges (ops:Array Oper) (i:Nat):List Nat:=edgesM .any ops i
def edgesOk (ops:Array Oper):Bool:=(List.range ops.size).all fun i=>(edges ops i).all fun j=>decide (j<i)
theorem edges_sub {ops:Array Oper} {i j:Nat} (m:Region.Mode) (h:j∈edges ops i):j∈edgesM m ops i:=by
 unfold edges edgesM at h
 unfold edgesM
 cases ho:ops[i]? with
 | none=>rw [ho] at h;simp at h
 | some o =>
  rw [ho] at h
  simp only [List.mem_map,List.mem_filter] at h ⊢
  obtain ⟨e,⟨h1,h2⟩,h3⟩:=h
  refine ⟨e,⟨h1,?_⟩,h3⟩
  unfold Region.binds at h2 ⊢
  split <;> simp_all
structure Wit (m:Region.Mode) (ops:Array Oper) (w:List Nat):Prop where
 all:∀ i,i<ops.size→i∈w
 lt:∀ i∈w,i<ops.size
 resp:∀ pre i post,w=pre++i::post→∀ j∈edgesM m ops i,j∈pre
def witB (m:Region.Mode) (ops:Array Oper):List Nat→List Nat→Bool
 | _,[]=>true
 | pre,i::post=>((edgesM m ops i).all fun j=>pre.contains j)&&witB m ops (i::pre) post
theorem witB_ok {m:Region.Mode} {ops:Array Oper}:∀ {w pre:List Nat},witB m ops pre w=true→∀ p i post,w=p++i::post→∀ j∈edgesM m ops i,j∈p∨j∈pre:=by
 intro w
 induction w with
 | nil=>intro pre _ p i post h;simp at h
 | cons a w ih =>
  intro pre h p i post hs j hj
  simp only [witB,Bool.and_eq_true,List.all_eq_true,List.contains_eq_mem,decide_eq_true_eq] at h
  cases p with
  | nil=>simp only [List.nil_append,List.cons.injEq] at hs;obtain ⟨rfl,rfl⟩:=hs;exact .inr (h.1 j hj)
  | cons b p =>
   simp only [List.cons_append,List.cons.injEq] at hs
   obtain ⟨rfl,rfl⟩:=hs
   rcases ih h.2 p i post rfl j hj with h1 | h1
   ·exact .inl (by simp [h1])
   ·rcases List.mem_cons.1 h1 with rfl | h1
    ·exact .inl (by simp)
    ·exact .inr h1
def witOk (m:Region.Mode) (ops:Array Oper) (w:List Nat):Bool:=((List.range ops.size).all fun i=>w.contains i)&&(w.all fun i=>decide (i<ops.size))&&witB m ops [] w
theorem witOk_ok {m:Region.Mode} {ops:Array Oper} {w:List Nat} (h:witOk m ops w=true):Wit m ops w:=by
 simp only [witOk,Bool.and_eq_true,List.all_eq_true,List.mem_range,List.contains_eq_mem,decide_eq_true_eq] at h
 exact ⟨h.1.1,h.1.2,fun pre i post hs j hj=>(witB_ok h.2 pre i post hs j hj).resolve_right (by simp)⟩
theorem nodup_len:∀ (l m:List Nat),l.Nodup→(∀ x∈l,x∈m)→l.length≤m.length:=by
 intro l
 induction l with
 | nil=>intro m _ _;simp
 | cons a l ih =>
  intro m hn hs
  have ha:=hs a (by simp)
  have hn':=List.nodup_cons.1 hn
  have:=ih (m.erase a) hn'.2 fun x hx=>(List.mem_erase_of_ne (show x≠a from fun e=>hn'.1 (by rw [← e];exact hx))).2 (hs x (by simp [hx]))
  rw [List.length_erase_of_mem ha] at this
  have:0<m.length:=List.length_pos_of_mem ha
  simp;omega
theorem nodup_full {l:List Nat} {n:Nat} (hn:l.Nodup) (hs:∀ x∈l,x<n) (hl:n≤l.length) {i:Nat} (hi:i<n):i∈l:=by
 apply Classical.byContradiction
 intro hno
 have:=nodup_len l ((List.range n).erase i) hn fun x hx=>(List.mem_erase_of_ne (show x≠i from fun e=>hno (by rw [← e];exact hx))).2 (by simpa using hs x hx)
 rw [List.length_erase_of_mem (by simpa using hi)] at this
 simp at this;omega
theorem nodup_rev {l:List Nat} (h:l.Nodup):l.reverse.Nodup:=by
 rw [List.nodup_iff_pairwise_ne] at h ⊢
 rw [List.pairwise_reverse]
 exact h.imp fun h e=>h e.symm
structure LinInv (m:Region.Mode) (ops:Array Oper) (listed:Array Bool) (acc:List Nat):Prop where
 sz:listed.size=ops.size
 mem:∀ i,i<ops.size→(listed.getD i true=true↔i∈acc)
 lt:∀ i∈acc,i<ops.size
 nd:acc.Nodup
 resp:∀ pre i post,acc.reverse=pre++i::post→∀ j∈edges ops i,j∈pre
theorem first_not {w acc:List Nat} (h:∃ i∈w,i∉acc):∃ pre i post,w=pre++i::post∧i∉acc∧∀ j∈pre,j∈acc:=by
 induction w with
 | nil=>obtain ⟨i,hi,_⟩:=h;simp at hi
 | cons a w ih =>
  by_cases ha:a∈acc
  ·obtain ⟨i,hi,hn⟩:=h
   have:∃ i∈w,i∉acc:=by
    rcases List.mem_cons.1 hi with rfl | hi
    ·exact absurd ha hn
    ·exact ⟨i,hi,hn⟩
   obtain ⟨pre,i,post,h1,h2,h3⟩:=ih this
   refine ⟨a::pre,i,post,by rw [h1];rfl,h2,fun j hj=>?_⟩
   rcases List.mem_cons.1 hj with rfl | hj
   ·exact ha
   ·exact h3 j hj
  ·exact ⟨[],a,w,rfl,ha,by simp⟩
theorem ready_iff {m:Region.Mode} {ops:Array Oper} {listed:Array Bool} {i:Nat} (hi:i<ops.size) :
  (((ops[i]?).map (·.after.all fun e=>!Region.binds m e||listed.getD e.on false)).getD false=true)↔∀ j∈edgesM m ops i,listed.getD j false=true:=by
 have ho:ops[i]?=some ops[i]:=by simp [hi]
 unfold edgesM
 rw [ho]
 simp only [Option.map_some,Option.getD_some]
 rw [Array.all_eq_true_iff_forall_mem]
 constructor
 ·intro h j hj
  simp only [List.mem_map,List.mem_filter] at hj
  obtain ⟨e,⟨h1,h2⟩,rfl⟩:=hj
  have:=h e (by simpa using h1)
  rw [h2] at this
  simpa using this
 ·intro h e he
  cases hb:Region.binds m e with
  | false=>rfl
  | true =>
   have:=h e.on (by simp only [List.mem_map,List.mem_filter];exact ⟨e,⟨by simpa using he,hb⟩,rfl⟩)
   simp [this]
theorem getD_true {listed:Array Bool} {j:Nat} (h:listed.getD j false=true):listed.getD j true=true∧j<listed.size:=by
 simp only [Array.getD_eq_getD_getElem?] at h ⊢
 cases hj:listed[j]? with
 | none=>rw [hj] at h;cases h
 | some b=>rw [hj] at h;exact ⟨h,(Array.getElem?_eq_some_iff.1 hj).1⟩
theorem lin_go {m:Region.Mode} {ops:Array Oper} {w:List Nat} (hw:Wit m ops w):∀ fuel t listed acc,LinInv m ops listed acc→acc.length+fuel=ops.size →
  ∃ idx,Region.linearise.go m ops fuel t listed acc=idx∧idx.Nodup∧(∀ i,i<ops.size↔i∈idx)∧∀ pre i post,idx=pre++i::post→∀ j∈edges ops i,j∈pre:=by
 intro fuel
 induction fuel with
 | zero =>
  intro t listed acc inv hl
  refine ⟨acc.reverse,rfl,nodup_rev inv.nd,fun i=>⟨fun hi=>?_,fun hi=>inv.lt i (by simpa using hi)⟩,inv.resp⟩
  simpa using nodup_full inv.nd inv.lt (by omega) hi
 | succ fuel ih =>
  intro t listed acc inv hl
  unfold Region.linearise.go
  generalize hrs:(List.range ops.size).filter (fun i=>!listed.getD i true&&((ops[i]?).map (·.after.all fun e=>!Region.binds m e||listed.getD e.on false)).getD false)=rs
  have hlist:∀ j,j∈acc→listed.getD j false=true:=by
   intro j hj
   have hlt:=inv.lt j hj
   have h3:=(inv.mem j hlt).2 hj
   have hs:j<listed.size:=by rw [inv.sz];exact hlt
   simp only [Array.getD_eq_getD_getElem?] at h3 ⊢
   simpa [hs] using h3
  -- some operation is ready
  have hne:rs≠[]:=by
   have hex:∃ i,i<ops.size∧i∉acc:=by
    apply Classical.byContradiction
    intro hno
    have:∀ i,i<ops.size→i∈acc:=fun i hi=>Classical.byContradiction fun h=>hno ⟨i,hi,h⟩
    have:=nodup_len (List.range ops.size) acc List.nodup_range (fun x hx=>this x (by simpa using hx))
    simp at this;omega
   obtain ⟨i0,hi0,hn0⟩:=hex
   obtain ⟨pre,i,post,h1,hn,h3⟩:=first_not ⟨i0,hw.all i0 hi0,hn0⟩
   have hi:i<ops.size:=hw.lt i (by rw [h1];simp)
   have:i∈rs:=by
    rw [← hrs,List.mem_filter]
    refine ⟨by simpa using hi,?_⟩
    have h1':listed.getD i true=false:=by
     cases h:listed.getD i true with
     | false=>rfl
     | true=>exact absurd ((inv.mem i hi).1 h) hn
    rw [h1',(ready_iff hi).2 (fun j hj=>hlist j (h3 j (hw.resp pre i post h1 j hj)))]
    rfl
   intro h;rw [h] at this;simp at this
  have hlt:t%rs.length<rs.length:=Nat.mod_lt _ (List.length_pos_iff.2 hne)
  have hget:rs[t%rs.length]?=some rs[t%rs.length]:=by simp [hlt]
  simp only [hrs]
  rw [hget]
  generalize hi:rs[t%rs.length]=i at *
  have hmem:i∈rs:=by rw [← hi];exact List.getElem_mem hlt
  rw [← hrs,List.mem_filter] at hmem
  obtain ⟨hir,hcond⟩:=hmem
  have hisz:i<ops.size:=by simpa using hir
  simp only [Bool.and_eq_true,Bool.not_eq_true'] at hcond
  have hnot:i∉acc:=fun h=>by have:=(inv.mem i hisz).2 h;rw [hcond.1] at this;cases this
  have hedge:∀ j∈edges ops i,j∈acc:=by
   intro j hj
   have h1:=getD_true ((ready_iff hisz).1 hcond.2 j (edges_sub m hj))
   exact (inv.mem j (by rw [← inv.sz];exact h1.2)).1 h1.1
  refine ih (t/rs.length) (listed.setIfInBounds i true) (i::acc) ⟨by simp [inv.sz],?_,?_,?_,?_⟩ (by simp;omega)
  ·intro k hk
   by_cases hki:k=i
   ·subst hki;simp [Array.getD_eq_getD_getElem?,inv.sz,hisz]
   ·have:(listed.setIfInBounds i true).getD k true=listed.getD k true:=by
     simp only [Array.getD_eq_getD_getElem?]
     rw [Array.getElem?_setIfInBounds_ne (fun e=>hki e.symm)]
    rw [this,inv.mem k hk]
    simp [hki]
  ·intro k hk
   rcases List.mem_cons.1 hk with rfl | hk
   ·exact hisz
   ·exact inv.lt k hk
  ·exact List.nodup_cons.2 ⟨hnot,inv.nd⟩
  ·intro pre k post hsplit j hj
   simp only [List.reverse_cons] at hsplit
   rcases List.append_eq_append_iff.1 hsplit with ⟨al,h1,h2⟩ | ⟨bs,h1,h2⟩
   ·cases al with
    | nil =>
     simp only [List.nil_append,List.cons.injEq] at h2
     obtain ⟨rfl,_⟩:=h2
     rw [h1];simpa using hedge j hj
    | cons a al=>simp at h2
   ·cases bs with
    | nil =>
     simp only [List.nil_append,List.cons.injEq] at h2
     obtain ⟨rfl,_⟩:=h2
     simp only [List.append_nil] at h1
     rw [← h1];simpa using hedge j hj
    | cons a bs =>
     simp only [List.cons_append,List.cons.injEq] at h2
     obtain ⟨rfl,_⟩:=h2
     exact inv.resp pre k bs h1 j hj
theorem linearise_ok {m:Region.Mode} {ops:Array Oper} {w:List Nat} (hw:Wit m ops w) (t:Nat) :
  (Region.linearise m ops t).Nodup∧(∀ i,i<ops.size↔i∈Region.linearise m ops t)∧∀ pre i post,Region.linearise m ops t=pre++i::post→∀ j∈edges ops i,j∈pre:=by
 unfold Region.linearise
 obtain ⟨idx,h1,h2⟩:=lin_go hw ops.size t (Array.replicate ops.size false) [] ⟨by simp,by intro i hi;simp [Array.getD_eq_getD_getElem?,hi],by simp,by simp,by intro pre i post h;simp at h⟩ (by simp)
 rw [h1];exact h2
def modesOk (ops:Array Oper):Bool:=edgesOk ops&&witOk .any ops (List.range ops.size)&&(!Region.departs ops||(witOk .text ops (List.range ops.size)&&witOk .gc ops (Region.linearise .gc ops 0)))
theorem schedule_ok {ops:Array Oper} (hok:modesOk ops=true) (mixed:Bool) (t:Nat) :
  (Region.schedule mixed ops t).Nodup∧(∀ i,i<ops.size↔i∈Region.schedule mixed ops t)∧∀ pre i post,Region.schedule mixed ops t=pre++i::post→∀ j∈edges ops i,j∈pre:=by
 simp only [modesOk,Bool.and_eq_true,Bool.or_eq_true,Bool.not_eq_true'] at hok
 obtain ⟨⟨_,h1⟩,h2⟩:=hok
 unfold Region.schedule
 split
 ·exact linearise_ok (witOk_ok h1) t
 ·rename_i hm
  simp only [Bool.or_eq_true,Bool.not_eq_true',not_or] at hm
  rcases h2 with h2 | ⟨h2,h3⟩
  ·exact absurd h2 hm.2
  ·split
   ·exact linearise_ok (witOk_ok h2) _
   ·exact linearise_ok (witOk_ok h3) _
theorem edge_lt {ops:Array Oper} (hok:edgesOk ops=true) {i j:Nat} (hj:j∈edges ops i):j<i:=by
 by_cases hi:i<ops.size
 ·simp only [edgesOk,List.all_eq_true,List.mem_range,decide_eq_true_eq] at hok
  exact hok i hi j hj
 ·unfold edges edgesM at hj
  rw [Array.getElem?_eq_none (by omega)] at hj
  simp at hj
end Go.PB
namespace Go.PB
def dstOf (ops:Array Oper) (i:Nat):Option Nat:=(ops[i]?).bind (·.dst)
def readsOf (n:Nat) (ops:Array Oper) (i:Nat):List Nat:=match ops[i]? with
 | none=>[]
 | some o=>(o.op.operands.toList.filterMap fun | .tmp t=>some t | _=>none)++(match o.guard with | some (j,_)=>[(dstOf ops j).getD n] | none=>[])
def guardOf (n:Nat) (ops:Array Oper) (o:Oper):Option (Nat × Bool):=o.guard.map fun (j,w)=>(((ops[j]?).bind (·.dst)).getD n,w)
def nodupB:List Nat→Bool
 | []=>true
 | a::l=>!l.contains a&&nodupB l
def okOrd (n:Nat) (ops:Array Oper) (ord:List Nat):Bool :=
 modesOk ops&&((List.range ops.size).all fun i=>ord.contains i)&&(ord.all fun i=>decide (i<ops.size))&&nodupB ord &&
 ((List.range ops.size).all fun i=>match dstOf ops i with | none=>true | some d=>decide (d<n)&&(List.range ops.size).all fun j=>j == i||!(dstOf ops j == some d)) &&
 ((List.range ops.size).all fun i=>(readsOf n ops i).all fun s=>(List.range ops.size).all fun j=>!(dstOf ops j == some s)||(if (ord.takeWhile fun q=>!(q == i)).contains j then (edges ops i).contains j else !(j == i)&&(edges ops j).contains i))
structure OkO (n:Nat) (ops:Array Oper) (ord:List Nat):Prop where
 md:modesOk ops=true
 ed:edgesOk ops=true
 all:∀ i,i<ops.size→i∈ord
 lt:∀ i∈ord,i<ops.size
 nd:ord.Nodup
 dn:∀ i d,dstOf ops i=some d→d<n
 dd:∀ i j d,dstOf ops i=some d→dstOf ops j=some d→i=j
 rd:∀ i s j,i<ops.size→s∈readsOf n ops i→dstOf ops j=some s→(j∈(ord.takeWhile fun q=>!(q == i))∧j∈edges ops i)∨(j∉(ord.takeWhile fun q=>!(q == i))∧j≠i∧i∈edges ops j)
theorem dstOf_lt {ops:Array Oper} {i d:Nat} (h:dstOf ops i=some d):i<ops.size:=by
 unfold dstOf at h
 cases ho:ops[i]? with
 | none=>rw [ho] at h;cases h
 | some o=>exact (Array.getElem?_eq_some_iff.1 ho).1
theorem nodupB_ok:∀ {l:List Nat},nodupB l=true→l.Nodup:=by
 intro l
 induction l with
 | nil=>intro _;simp
 | cons a l ih =>
  intro h
  simp only [nodupB,Bool.and_eq_true,Bool.not_eq_true',List.contains_eq_mem,decide_eq_false_iff_not] at h
  exact List.nodup_cons.2 ⟨h.1,ih h.2⟩
theorem okOrd_ok {n:Nat} {ops:Array Oper} {ord:List Nat} (h:okOrd n ops ord=true):OkO n ops ord:=by
 simp only [okOrd,Bool.and_eq_true,List.all_eq_true,List.mem_range,List.contains_eq_mem,decide_eq_true_eq,Bool.not_eq_true'] at h
 obtain ⟨⟨⟨⟨⟨h1,h3⟩,h4⟩,h5⟩,h6⟩,h7⟩:=h
 have h2:edgesOk ops=true:=by simp only [modesOk,Bool.and_eq_true] at h1;exact h1.1.1
 refine ⟨h1,h2,h3,h4,nodupB_ok h5,fun i d hd=>?_,fun i j d hi hj=>?_,fun i s j hi hs hj=>?_⟩
 ·have:=h6 i (dstOf_lt hd)
  rw [hd] at this
  simp only [Bool.and_eq_true,decide_eq_true_eq] at this
  exact this.1
 ·have:=h6 i (dstOf_lt hi)
  rw [hi] at this
  simp only [Bool.and_eq_true,List.all_eq_true,List.mem_range] at this
  have:=this.2 j (dstOf_lt hj)
  rw [hj] at this
  simp only [beq_self_eq_true,Bool.not_true,Bool.or_false,beq_iff_eq] at this
  exact this.symm
 ·have:=h7 i hi s hs j (dstOf_lt hj)
  rw [hj] at this
  simp only [beq_self_eq_true,Bool.not_true,Bool.false_or] at this
  split at this
  ·rename_i hm;exact .inl ⟨hm,by simpa using this⟩
  ·rename_i hm
   simp only [Bool.and_eq_true,Bool.not_eq_true',beq_eq_false_iff_ne,decide_eq_true_eq] at this
   exact .inr ⟨hm,this⟩
structure Pn where
 i:Nat
 v:Value
 e:Env
 st:Bool
structure InvA (n:Nat) (ops:Array Oper) (R:List Nat) (Pd:List Pn) (e:Env) (idx:List Nat) (t:Array Value):Prop where
 sz:t.size=n
 nd:idx.Nodup
 lt:∀ i∈idx,i<ops.size
 sub:∀ i∈idx,i∈R∨∃ p∈Pd,p.i=i
 all:∀ i∈R,i∈idx
 dj:∀ p∈Pd,p.i∉R
 pu:∀ p∈Pd,∀ q∈Pd,p.i=q.i→p=q
 resp:∀ pre i post,idx=pre++i::post→∀ j∈edges ops i,j∉post
 dn:∀ m,m<ops.size→m∉idx→∀ j∈edges ops m,j∉idx
 envok:∀ s v,lk e s=some v→(∃ p∈Pd,p.i∈idx∧dstOf ops p.i=some s∧p.v=v)∨(t[s]?=some v∧∀ p∈Pd,p.i∈idx→dstOf ops p.i≠some s)
 pok:∀ q∈Pd,q.i∈idx→∀ s v,lk q.e s=some v→(∃ p∈Pd,p.i∈idx∧p.i∈edges ops q.i∧dstOf ops p.i=some s∧p.v=v)∨(t[s]?=some v∧∀ j∈idx,dstOf ops j=some s→q.i∈edges ops j)
section
variable {n:Nat} {ops:Array Oper} {ord R:List Nat} {Pd:List Pn} {e:Env}
theorem InvA.pend (ok:OkO n ops ord) {i:Nat} {idx:List Nat} {t:Array Value} {o:Oper} (I:InvA n ops R Pd e (i::idx) t) (ho:ops[i]?=some o) {p:Pn} (hp:p∈Pd) (hpi:p.i=i) :
  Agree p.e t∧InvA n ops R Pd e idx (setDst o t p.v):=by
 subst hpi
 have hnd:=List.nodup_cons.1 I.nd
 have hnotpost:∀ j∈edges ops p.i,j∉idx:=I.resp [] p.i idx rfl
 have hdst:dstOf ops p.i=o.dst:=by simp [dstOf,ho]
 have hne:∀ j∈edges ops p.i,j≠p.i:=fun j hj h=>by have:=edge_lt ok.ed hj;omega
 have hset:∀ s,dstOf ops p.i≠some s→(setDst o t p.v)[s]?=t[s]?:=by
  intro s hs
  rw [hdst] at hs
  unfold setDst
  cases hd:o.dst with
  | none=>rfl
  | some d=>rw [hd] at hs;rw [Array.getElem?_setIfInBounds_ne (by intro h;exact hs (by rw [h]))]
 have hsame:∀ s,dstOf ops p.i=some s→(setDst o t p.v)[s]?=some p.v:=by
  intro s hs
  have hlt:=ok.dn _ _ hs
  rw [hdst] at hs
  unfold setDst
  rw [hs]
  simp [I.sz,hlt]
 refine ⟨?_,⟨(setDst_size o t p.v).trans I.sz,hnd.2,fun j hj=>I.lt j (by simp [hj]),fun j hj=>I.sub j (by simp [hj]),?_,I.dj,I.pu,?_,?_,?_,?_⟩⟩
 ·intro s v hs
  rcases I.pok p hp (by simp) s v hs with ⟨p',hp',h1,h2,h3,h4⟩ | ⟨h1,_⟩
  ·rcases List.mem_cons.1 h1 with h | h
   ·exact absurd h (hne _ h2)
   ·exact absurd h (hnotpost _ h2)
  ·exact h1
 ·intro j hj
  have:=I.all j hj
  rcases List.mem_cons.1 this with h | h
  ·exact absurd hj (h▸I.dj p hp)
  ·exact h
 ·intro pre j post h
  exact I.resp (p.i::pre) j post (by rw [h];rfl)
 ·intro m hm hnot j hj hji
  by_cases h:m=p.i
  ·subst h;exact hnotpost j hj hji
  ·exact I.dn m hm (by simp [h,hnot]) j hj (by simp [hji])
 ·intro s v hs
  rcases I.envok s v hs with ⟨p',hp',h1,h2,h3⟩ | ⟨h1,h2⟩
  ·rcases List.mem_cons.1 h1 with h | h
   ·have:p'=p:=I.pu p' hp' p hp h
    subst this
    refine .inr ⟨by rw [hsame s h2,h3],fun q hq hqi hqd=>?_⟩
    have:=ok.dd _ _ _ h2 hqd
    rw [← this] at hqi
    exact hnd.1 hqi
   ·exact .inl ⟨p',hp',h,h2,h3⟩
  ·exact .inr ⟨by rw [hset s (h2 p hp (by simp))];exact h1,fun q hq hqi=>h2 q hq (by simp [hqi])⟩
 ·intro q hq hqi s v hs
  rcases I.pok q hq (by simp [hqi]) s v hs with ⟨p',hp',h1,h2,h3,h4⟩ | ⟨h1,h2⟩
  ·rcases List.mem_cons.1 h1 with h | h
   ·have:p'=p:=I.pu p' hp' p hp h
    subst this
    refine .inr ⟨by rw [hsame s h3,h4],fun j hj hjd=>?_⟩
    have:=ok.dd _ _ _ h3 hjd
    rw [← this] at hj
    exact absurd hj hnd.1
   ·exact .inl ⟨p',hp',h,h2,h3,h4⟩
  ·refine .inr ⟨?_,fun j hj hjd=>h2 j (by simp [hj]) hjd⟩
   rw [hset s ?_]
   ·exact h1
   ·intro hd
    exact hnotpost _ (h2 p.i (by simp) hd) hqi
def anc (ops:Array Oper):Nat→Nat→List Nat
 | 0,_=>[]
 | f+1,j=>edges ops j++(edges ops j).flatMap (anc ops f)
theorem InvA.anc_out (ok:OkO n ops ord) {idx:List Nat} {t:Array Value} (I:InvA n ops R Pd e idx t):∀ f m,m<ops.size→m∉idx→∀ j∈anc ops f m,j∉idx:=by
 intro f
 induction f with
 | zero=>intro m _ _ j hj;simp [anc] at hj
 | succ f ih =>
  intro m hm hn j hj
  simp only [anc,List.mem_append,List.mem_flatMap] at hj
  rcases hj with hj | ⟨k,hk,hj⟩
  ·exact I.dn m hm hn j hj
  ·exact ih k (by have:=edge_lt ok.ed hk;omega) (I.dn m hm hn k hk) j hj
theorem anc_lt (hok:edgesOk ops=true):∀ f m,∀ j∈anc ops f m,j<m:=by
 intro f
 induction f with
 | zero=>intro m j hj;simp [anc] at hj
 | succ f ih =>
  intro m j hj
  simp only [anc,List.mem_append,List.mem_flatMap] at hj
  rcases hj with hj | ⟨k,hk,hj⟩
  ·exact edge_lt hok hj
  ·have:=edge_lt hok hk;have:=ih k j hj;omega
theorem InvA.first (ok:OkO n ops ord) {i:Nat} {idx:List Nat} {t:Array Value} (I:InvA n ops R Pd e (i::idx) t) {f j:Nat} (hj:j∈anc ops f i):j∉i::idx:=by
 have hlt:=anc_lt ok.ed f i j hj
 cases f with
 | zero=>simp [anc] at hj
 | succ f =>
  simp only [anc,List.mem_append,List.mem_flatMap] at hj
  have hout:∀ k∈edges ops i,k∉i::idx:=by
   intro k hk hm
   rcases List.mem_cons.1 hm with h | h
   ·have:=edge_lt ok.ed hk;omega
   ·exact I.resp [] i idx rfl k hk h
  rcases hj with hj | ⟨k,hk,hj⟩
  ·exact hout j hj
  ·refine I.anc_out ok f k ?_ (hout k hk) j hj
   have:=edge_lt ok.ed hk
   have:=I.lt i (by simp)
   omega
end
section
variable {P:Program} {B:Hand} {kd:CallKind} {n:Nat} {ops:Array Oper} {ord R:List Nat} {Pd:List Pn} {K:Post B} {e:Env} {z:Z} {L:List HProp} {x:B.X}
def PdOk (P:Program) (n:Nat) (ops:Array Oper) (L:List HProp) (p:Pn):Prop :=
 ∃ o,ops[p.i]?=some o∧((gYes p.e (guardOf n ops o)∧(if p.st=true then ∀ L,Mo P p.e o.op o.type L (fun v' L'=>v'=p.v∧L'=L) else Mo P p.e o.op o.type L (fun v' L'=>v'=p.v∧L'=L))) ∨
  (∃ g w,guardOf n ops o=some (g,w)∧lk p.e g=some (.bool (!w))∧p.v=undef))
theorem PdOk.mo {p:Pn} (h:PdOk P n ops L p):∃ o,ops[p.i]?=some o∧((gYes p.e (guardOf n ops o)∧Mo P p.e o.op o.type L (fun v' L'=>v'=p.v∧L'=L)) ∨
  (∃ g w,guardOf n ops o=some (g,w)∧lk p.e g=some (.bool (!w))∧p.v=undef)):=by
 obtain ⟨o,h1,h2⟩:=h
 refine ⟨o,h1,?_⟩
 rcases h2 with ⟨h2,h3⟩ | h2
 ·left
  refine ⟨h2,?_⟩
  split at h3
  ·exact h3 L
  ·exact h3
 ·exact .inr h2
variable (P B kd n) in
def Ap (ops:Array Oper) (ord R:List Nat) (Pd:List Pn) (K:Post B) (e:Env) (z:Z) (L:List HProp) (x:B.X):Prop :=
 (∃ pre,ord=pre++R∧∀ p∈Pd,p.i∈pre)→OkO n ops ord→(∀ p∈Pd,PdOk P n ops L p)→∀ idx t h,InvA n ops R Pd e idx t→Star L h→Wr P B kd ops idx K t z h x
theorem wanted_yes' {t:Array Value} {oo:Oper} {e:Env} (ht:t.size=n) (a:Agree e t) (hy:gYes e (guardOf n ops oo)):Region.wanted oo (yielded ops t)=true:=wanted_yes ht a rfl hy
theorem wanted_no' {t:Array Value} {oo:Oper} {e:Env} {g:Nat} {w:Bool} (ht:t.size=n) (a:Agree e t) (hg:guardOf n ops oo=some (g,w)) (hy:lk e g=some (.bool (!w))):Region.wanted oo (yielded ops t)=false:=wanted_no ht a hg.symm hy
theorem wr_quiet [Lets B] {i:Nat} {idx:List Nat} {t:Array Value} {h:Hp} {o:Oper} {e:Env} {v:Value} (ho:ops[i]?=some o) (hw:Region.wanted o (yielded ops t)=true) (a:Agree e t) (m:Mo P e o.op o.type L (fun v' L'=>v'=v∧L'=L)) (s:Star L h)
  (k:∀ h',Star L h'→Wr P B kd ops idx K (setDst o t v) z h' x):Wr P B kd ops (i::idx) K t z h x:=by
 refine wr_op ho hw ?_
 rw [execOp_of (op:=o.op) (ty:=o.type) _ rfl rfl]
 refine m _ Lets.noRoom Lets.ext t h _ _ a s fun v' L' h' nx hnx hr hs=>?_
 obtain ⟨rfl,rfl⟩:=hr
 rcases hnx with rfl | ⟨rfl,rfl⟩
 ·exact k h' hs
 ·exact k h' hs
theorem ap_run [Lets B] (ok:OkO n ops ord) (hpd:∀ p∈Pd,PdOk P n ops L p) (hnil:∀ t h,InvA n ops R Pd e [] t→Star L h→Wr P B kd ops [] K t z h x)
  (H:∀ i idx t h,i∈R→InvA n ops R Pd e (i::idx) t→Star L h→Wr P B kd ops (i::idx) K t z h x):∀ idx t h,InvA n ops R Pd e idx t→Star L h→Wr P B kd ops idx K t z h x:=by
 intro idx
 induction idx with
 | nil=>exact hnil
 | cons i idx ih =>
  intro t h I s
  rcases I.sub i (by simp) with hi | ⟨p,hp,hpi⟩
  ·exact H i idx t h hi I s
  ·obtain ⟨o,ho,hm⟩:=(hpd p hp).mo
   rw [hpi] at ho
   obtain ⟨ha,I'⟩:=I.pend ok ho hp hpi
   rcases hm with ⟨hg,hm⟩ | ⟨g,w,hg,hl,hv⟩
   ·exact wr_quiet ho (wanted_yes' I.sz ha hg) ha hm s fun h' s'=>ih _ _ I' s'
   ·rw [hv] at I'
    exact wr_skip ho (wanted_no' I.sz ha hg hl) (ih _ _ I' s)
theorem ap_end [Lets B] (w:At n e L fun t h=>K .normal t z h x):Ap P B kd n ops ord [] Pd K e z L x:=by
 intro _ ok hpd
 refine ap_run ok hpd (fun t h I s=>?_) (fun i _ _ _ hi=>by simp at hi)
 refine wr_nil (w t h I.sz (fun i v hi=>?_) s)
 rcases I.envok i v hi with ⟨p,_,h1,_⟩ | ⟨h1,_⟩
 ·simp at h1
 ·exact h1
def resE (ks:List Nat) (e:Env):Env:=ks.filterMap fun s=>(lk e s).map fun v=>(s,v)
theorem lk_resE {ks:List Nat} {e:Env} {s:Nat} {v:Value} (h:lk (resE ks e) s=some v):s∈ks∧lk e s=some v:=by
 induction ks with
 | nil=>simp [resE,lk] at h
 | cons k ks ih =>
  unfold resE at h
  rw [List.filterMap_cons] at h
  cases hk:lk e k with
  | none =>
   rw [hk] at h
   obtain ⟨h1,h2⟩:=ih h
   exact ⟨by simp [h1],h2⟩
  | some u =>
   rw [hk] at h
   simp only [Option.map_some,lk] at h
   split at h
   ·rename_i e1;subst e1;injection h with h;subst h;exact ⟨by simp,hk⟩
   ·obtain ⟨h1,h2⟩:=ih h;exact ⟨by simp [h1],h2⟩
theorem takeWhile_pre {pre R:List Nat} {i:Nat} (hn:(pre++i::R).Nodup):(pre++i::R).takeWhile (fun q=>!(q == i))=pre:=by
 induction pre with
 | nil=>simp
 | cons a pre ih =>
  simp only [List.cons_append,List.nodup_cons] at hn
  have:a≠i:=fun h=>hn.1 (by simp [h])
  simp [List.takeWhile_cons,this,ih hn.2]
theorem ap_promise_gen {i:Nat} {v:Value} {o:Oper} {st:Bool} (ho:ops[i]?=some o) (hok:PdOk P n ops L ⟨i,v,resE (readsOf n ops i) e,st⟩)
  (k:Ap P B kd n ops ord R (⟨i,v,resE (readsOf n ops i) e,st⟩::Pd) K (setE o.dst v e) z L x):Ap P B kd n ops ord (i::R) Pd K e z L x:=by
 rintro ⟨pre,hpre,hin⟩ ok hpd idx t h I s
 have hnd:(pre++i::R).Nodup:=hpre▸ok.nd
 have hnd2:i∉R:=(List.nodup_cons.1 (List.nodup_append.1 hnd).2.1).1
 have hipre:i∉pre:=fun h=>(List.nodup_append.1 hnd).2.2 i h i (by simp) rfl
 have hilt:i<ops.size:=(Array.getElem?_eq_some_iff.1 ho).1
 have htw:ord.takeWhile (fun q=>!(q == i))=pre:=by rw [hpre];exact takeWhile_pre hnd
 have hdst:dstOf ops i=o.dst:=by simp [dstOf,ho]
 have hiidx:i∈idx:=I.all i (by simp)
 refine k ⟨pre++[i],by rw [hpre];simp,?_⟩ ok ?_ idx t h ?_ s
 ·intro p hp
  rcases List.mem_cons.1 hp with rfl | hp
  ·simp
  ·simp [hin p hp]
 ·intro p hp
  rcases List.mem_cons.1 hp with rfl | hp
  ·exact hok
  ·exact hpd p hp
 ·refine ⟨I.sz,I.nd,I.lt,?_,fun j hj=>I.all j (by simp [hj]),?_,?_,I.resp,I.dn,?_,?_⟩
  ·intro j hj
   rcases I.sub j hj with h1 | ⟨p,hp,h1⟩
   ·rcases List.mem_cons.1 h1 with rfl | h1
    ·exact .inr ⟨_,List.mem_cons_self,rfl⟩
    ·exact .inl h1
   ·exact .inr ⟨p,by simp [hp],h1⟩
  ·intro p hp
   rcases List.mem_cons.1 hp with rfl | hp
   ·exact hnd2
   ·exact fun hh=>I.dj p hp (by simp [hh])
  ·intro p hp q hq hpq
   rcases List.mem_cons.1 hp with rfl | hp' <;> rcases List.mem_cons.1 hq with rfl | hq'
   ·rfl
   ·exact absurd (hin q hq') (by rw [← hpq];exact hipre)
   ·exact absurd (hin p hp') (by rw [hpq];exact hipre)
   ·exact I.pu p hp' q hq' hpq
  ·intro s u hs
   by_cases hsd:o.dst=some s
   ·have:u=v:=by rw [hsd] at hs;simp [setE,lk] at hs;exact hs.symm
    subst this
    exact .inl ⟨_,List.mem_cons_self,hiidx,hdst.trans hsd,rfl⟩
   ·have hs':lk e s=some u:=by
     cases hd:o.dst with
     | none=>rw [hd] at hs;exact hs
     | some d=>rw [hd] at hs hsd;simp only [setE,lk] at hs;rw [if_neg (by intro h;exact hsd (by rw [h]))] at hs;exact hs
    rcases I.envok s u hs' with ⟨p,hp,h1,h2,h3⟩ | ⟨h1,h2⟩
    ·exact .inl ⟨p,by simp [hp],h1,h2,h3⟩
    ·refine .inr ⟨h1,fun p hp hpi=>?_⟩
     rcases List.mem_cons.1 hp with rfl | hp
     ·rw [hdst];exact hsd
     ·exact h2 p hp hpi
  ·intro q hq hqi s u hs
   rcases List.mem_cons.1 hq with rfl | hq
   ·obtain ⟨hr,hl⟩:=lk_resE hs
    simp only at hqi hs ⊢
    rcases I.envok s u hl with ⟨p,hp,h1,h2,h3⟩ | ⟨h1,h2⟩
    ·left
     refine ⟨p,by simp [hp],h1,?_,h2,h3⟩
     rcases ok.rd i s p.i hilt hr h2 with ⟨_,h4⟩ | ⟨h4,_⟩
     ·exact h4
     ·rw [htw] at h4;exact absurd (hin p hp) h4
    ·refine .inr ⟨h1,fun j hj hjd=>?_⟩
     rcases ok.rd i s j hilt hr hjd with ⟨h4,_⟩ | ⟨_,_,h4⟩
     ·rw [htw] at h4
      rcases I.sub j hj with h5 | ⟨p,hp,rfl⟩
      ·exact absurd rfl ((List.nodup_append.1 hnd).2.2 j h4 j h5)
      ·exact absurd hjd (h2 p hp hj)
     ·exact h4
   ·rcases I.pok q hq hqi s u hs with ⟨p,hp,h1,h2,h3,h4⟩ | h1
    ·exact .inl ⟨p,by simp [hp],h1,h2,h3,h4⟩
    ·exact .inr h1
def nth:List Oper→Nat→Option Oper
 | [],_=>none
 | o::_,0=>some o
 | _::l,i+1=>nth l i
theorem nth_ok {l:List Oper} {i:Nat}:nth l i=l[i]?:=by
 induction l generalizing i with
 | nil=>rfl
 | cons a l ih=>cases i with
  | zero=>rfl
  | succ i=>simpa [nth] using ih
theorem nth_at {i:Nat} {o:Oper} (h:nth ops.toList i=some o):ops[i]?=some o:=by rw [nth_ok] at h;simpa using h
theorem ap_pure {i:Nat} {v:Value} {o:Oper} {d:Option Nat} (ho:nth ops.toList i=some o) (hd:o.dst=d) (hg:gYes (resE (readsOf n ops i) e) (guardOf n ops o)) (m:∀ L,Mo P (resE (readsOf n ops i) e) o.op o.type L fun v' L'=>v'=v∧L'=L)
  (k:Ap P B kd n ops ord R (⟨i,v,resE (readsOf n ops i) e,true⟩::Pd) K (setE d v e) z L x):Ap P B kd n ops ord (i::R) Pd K e z L x:=by
 subst hd
 have ho:=nth_at ho
 exact ap_promise_gen ho ⟨o,ho,.inl ⟨hg,by rw [if_pos rfl];exact m⟩⟩ k
theorem ap_read {i:Nat} {v:Value} {o:Oper} {d:Option Nat} (ho:nth ops.toList i=some o) (hd:o.dst=d) (hg:gYes (resE (readsOf n ops i) e) (guardOf n ops o)) (m:Mo P (resE (readsOf n ops i) e) o.op o.type L fun v' L'=>v'=v∧L'=L)
  (k:Ap P B kd n ops ord R (⟨i,v,resE (readsOf n ops i) e,false⟩::Pd) K (setE d v e) z L x):Ap P B kd n ops ord (i::R) Pd K e z L x:=by
 subst hd
 have ho:=nth_at ho
 exact ap_promise_gen ho ⟨o,ho,.inl ⟨hg,by rw [if_neg (by simp)];exact m⟩⟩ k
def pdKeep (ops:Array Oper) (i:Nat) (Pd:List Pn):List Pn:=Pd.filter fun p=>!(anc ops ops.size i).contains p.i
theorem InvA.loud (ok:OkO n ops ord) {i:Nat} {idx:List Nat} {t:Array Value} {o:Oper} {pre:List Nat} (hpre:ord=pre++i::R) (hin:∀ p∈Pd,p.i∈pre) (I:InvA n ops (i::R) Pd e (i::idx) t) (ho:ops[i]?=some o) (v:Value) :
  Agree (resE (readsOf n ops i) e) t∧InvA n ops R (pdKeep ops i Pd) (setE o.dst v e) idx (setDst o t v):=by
 have hnd:(pre++i::R).Nodup:=hpre▸ok.nd
 have hnd2:i∉R:=(List.nodup_cons.1 (List.nodup_append.1 hnd).2.1).1
 have hipre:i∉pre:=fun h=>(List.nodup_append.1 hnd).2.2 i h i (by simp) rfl
 have hilt:i<ops.size:=(Array.getElem?_eq_some_iff.1 ho).1
 have htw:ord.takeWhile (fun q=>!(q == i))=pre:=by rw [hpre];exact takeWhile_pre hnd
 have hdst:dstOf ops i=o.dst:=by simp [dstOf,ho]
 have hidx:=List.nodup_cons.1 I.nd
 have hfirst:∀ j∈anc ops ops.size i,j∉i::idx:=fun j hj=>I.first ok hj
 have hedge:∀ j∈edges ops i,j∉i::idx:=by
  intro j hj
  refine hfirst j ?_
  cases hs:ops.size with
  | zero=>omega
  | succ f=>simp [anc,hj]
 have hkeep:∀ p∈Pd,p.i∈idx→p∈pdKeep ops i Pd:=by
  intro p hp hpi
  simp only [pdKeep,List.mem_filter,Bool.not_eq_true',List.contains_eq_mem,decide_eq_false_iff_not]
  exact ⟨hp,fun h=>hfirst _ h (by simp [hpi])⟩
 have hsub:∀ p∈pdKeep ops i Pd,p∈Pd:=fun p hp=>(List.mem_filter.1 hp).1
 have hset:∀ s,o.dst≠some s→(setDst o t v)[s]?=t[s]?:=by
  intro s hs
  unfold setDst
  cases hd:o.dst with
  | none=>rfl
  | some d=>rw [hd] at hs;rw [Array.getElem?_setIfInBounds_ne (by intro h;exact hs (by rw [h]))]
 have hsame:∀ s,o.dst=some s→(setDst o t v)[s]?=some v:=by
  intro s hs
  have hlt:=ok.dn i s (by rw [hdst];exact hs)
  unfold setDst
  rw [hs]
  simp [I.sz,hlt]
 have hpne:∀ p∈Pd,p.i≠i:=fun p hp h=>hipre (h▸hin p hp)
 refine ⟨?_,⟨(setDst_size o t v).trans I.sz,hidx.2,fun j hj=>I.lt j (by simp [hj]),?_,?_,?_,fun p hp q hq=>I.pu p (hsub p hp) q (hsub q hq),?_,?_,?_,?_⟩⟩
 ·intro s u hs
  obtain ⟨hr,hl⟩:=lk_resE hs
  rcases I.envok s u hl with ⟨p,hp,h1,h2,h3⟩ | ⟨h1,_⟩
  ·rcases ok.rd i s p.i hilt hr h2 with ⟨_,h4⟩ | ⟨h4,_⟩
   ·exact absurd h1 (hedge _ h4)
   ·rw [htw] at h4;exact absurd (hin p hp) h4
  ·exact h1
 ·intro j hj
  rcases I.sub j (by simp [hj]) with h1 | ⟨p,hp,h1⟩
  ·rcases List.mem_cons.1 h1 with rfl | h1
   ·exact absurd hj hidx.1
   ·exact .inl h1
  ·exact .inr ⟨p,hkeep p hp (h1▸hj),h1⟩
 ·intro j hj
  rcases List.mem_cons.1 (I.all j (by simp [hj])) with rfl | h
  ·exact absurd hj hnd2
  ·exact h
 ·intro p hp hh
  exact I.dj p (hsub p hp) (by simp [hh])
 ·intro pr j post h
  exact I.resp (i::pr) j post (by rw [h];rfl)
 ·intro m hm hnot j hj hji
  by_cases h:m=i
  ·subst h;exact hedge j hj (by simp [hji])
  ·exact I.dn m hm (by simp [h,hnot]) j hj (by simp [hji])
 ·intro s u hs
  by_cases hsd:o.dst=some s
  ·have:u=v:=by rw [hsd] at hs;simp [setE,lk] at hs;exact hs.symm
   subst this
   refine .inr ⟨hsame s hsd,fun p hp hpi hpd=>?_⟩
   exact hpne p (hsub p hp) (ok.dd _ _ s hpd (by rw [hdst];exact hsd))
  ·have hs':lk e s=some u:=by
    cases hd:o.dst with
    | none=>rw [hd] at hs;exact hs
    | some d=>rw [hd] at hs hsd;simp only [setE,lk] at hs;rw [if_neg (by intro h;exact hsd (by rw [h]))] at hs;exact hs
   rcases I.envok s u hs' with ⟨p,hp,h1,h2,h3⟩ | ⟨h1,h2⟩
   ·rcases List.mem_cons.1 h1 with h | h
    ·exact absurd h (hpne p hp)
    ·exact .inl ⟨p,hkeep p hp h,h,h2,h3⟩
   ·exact .inr ⟨by rw [hset s hsd];exact h1,fun p hp hpi=>h2 p (hsub p hp) (by simp [hpi])⟩
 ·intro q hq hqi s u hs
  rcases I.pok q (hsub q hq) (by simp [hqi]) s u hs with ⟨p,hp,h1,h2,h3,h4⟩ | ⟨h1,h2⟩
  ·rcases List.mem_cons.1 h1 with h | h
   ·exact absurd h (hpne p hp)
   ·exact .inl ⟨p,hkeep p hp h,h,h2,h3,h4⟩
  ·refine .inr ⟨?_,fun j hj hjd=>h2 j (by simp [hj]) hjd⟩
   rw [hset s ?_]
   ·exact h1
   ·intro hd
    exact hedge _ (h2 i (by simp) (by rw [hdst];exact hd)) (by simp [hqi])
theorem pd_still {Pd':List Pn} {L L':List HProp} (hst:(Pd'.all (·.st))=true):∀ p∈Pd',PdOk P n ops L p→PdOk P n ops L' p:=by
 intro p hp ⟨o',h1,h2⟩
 have hs:=(List.all_eq_true.1 hst) p hp
 refine ⟨o',h1,?_⟩
 rcases h2 with ⟨h2,h3⟩ | h2
 ·rw [if_pos hs] at h3 ⊢;exact .inl ⟨h2,h3⟩
 ·exact .inr h2
theorem ap_loud_gen [Lets B] {i:Nat} {o:Oper} (ho:ops[i]?=some o) (hdom:(R.all fun j=>(anc ops ops.size j).contains i)=true) (hg:gYes (resE (readsOf n ops i) e) (guardOf n ops o))
  (w:∀ idx t h,t.size=n→Agree (resE (readsOf n ops i) e) t→Star L h→Region.wanted o (yielded ops t)=true →
   (∀ v L' x' h',Star L' h'→(∀ p∈pdKeep ops i Pd,PdOk P n ops L p→PdOk P n ops L' p)→Ap P B kd n ops ord R (pdKeep ops i Pd) K (setE o.dst v e) z L' x'→Wr P B kd ops idx K (setDst o t v) z h' x')→Wr P B kd ops (i::idx) K t z h x):Ap P B kd n ops ord (i::R) Pd K e z L x:=by
 rintro ⟨pre,hpre,hin⟩ ok hpd
 refine ap_run ok hpd (fun t h I s=>?_) (fun j idx t h hj I s=>?_)
 ·have:=I.all i (by simp);simp at this
 ·have hji:j=i:=by
   rcases List.mem_cons.1 hj with h1 | h1
   ·exact h1
   ·have:=(List.all_eq_true.1 hdom) j h1
    simp only [List.contains_eq_mem,decide_eq_true_eq] at this
    exact absurd (I.all i (by simp)) (I.first ok this)
  subst hji
  obtain ⟨ha,_⟩:=I.loud ok hpre hin ho undef
  refine w idx t h I.sz ha s (wanted_yes' I.sz ha hg) fun v L' x' h' s' hst hap=>?_
  obtain ⟨_,I'⟩:=I.loud ok hpre hin ho v
  refine hap ⟨pre++[j],by rw [hpre];simp,fun p hp=>by simp [hin p (List.mem_filter.1 hp).1]⟩ ok (fun p hp=>hst p hp (hpd p (List.mem_filter.1 hp).1)) idx _ h' I' s'
theorem ap_loud [Lets B] {i:Nat} {o:Oper} {d:Option Nat} {Pd':List Pn} {Q:Value→List HProp→Prop} (ho:nth ops.toList i=some o) (hd:o.dst=d) (hdom:(R.all fun j=>(anc ops ops.size j).contains i)=true) (hpd':pdKeep ops i Pd=Pd') (hst:(Pd'.all (·.st))=true) (hg:gYes (resE (readsOf n ops i) e) (guardOf n ops o))
  (m:Mo P (resE (readsOf n ops i) e) o.op o.type L Q) (k:∀ v L',Q v L'→Ap P B kd n ops ord R Pd' K (setE d v e) z L' x):Ap P B kd n ops ord (i::R) Pd K e z L x:=by
 subst hd
 subst hpd'
 have ho:=nth_at ho
 refine ap_loud_gen ho hdom hg fun idx t h ht ha s hw kk=>?_
 refine wr_op ho hw ?_
 rw [execOp_of (op:=o.op) (ty:=o.type) _ rfl rfl]
 refine m _ Lets.noRoom Lets.ext t h _ _ ha s fun v' L' h' nx hnx hr hs=>?_
 have:=kk v' L' x h' hs (pd_still hst) (k v' L' hr)
 rcases hnx with rfl | ⟨rfl,rfl⟩
 ·exact this
 ·exact this
theorem ap_loudR [Lets B] {i:Nat} {o:Oper} {d:Option Nat} {Pd':List Pn} {Q:Value→List HProp→Prop} (ho:nth ops.toList i=some o) (hd:o.dst=d) (hdom:(R.all fun j=>(anc ops ops.size j).contains i)=true) (hpd':pdKeep ops i Pd=Pd') (hg:gYes (resE (readsOf n ops i) e) (guardOf n ops o))
  (m:Mo P (resE (readsOf n ops i) e) o.op o.type L Q) (hre:∀ v L',Q v L'→∀ p∈Pd',p.st=true∨∃ o,nth ops.toList p.i=some o∧gYes p.e (guardOf n ops o)∧Mo P p.e o.op o.type L' (fun v' L1=>v'=p.v∧L1=L'))
  (k:∀ v L',Q v L'→Ap P B kd n ops ord R Pd' K (setE d v e) z L' x):Ap P B kd n ops ord (i::R) Pd K e z L x:=by
 subst hd
 subst hpd'
 have ho:=nth_at ho
 refine ap_loud_gen ho hdom hg fun idx t h ht ha s hw kk=>?_
 refine wr_op ho hw ?_
 rw [execOp_of (op:=o.op) (ty:=o.type) _ rfl rfl]
 refine m _ Lets.noRoom Lets.ext t h _ _ ha s fun v' L' h' nx hnx hr hs=>?_
 have:=kk v' L' x h' hs (fun p hp hk=>by
  by_cases hs:p.st=true
  ·exact pd_still (Pd':=[p]) (by simp [hs]) p (by simp) hk
  ·rcases hre v' L' hr p hp with h | ⟨o,h1,h2,h3⟩
   ·exact absurd h hs
   ·exact ⟨o,nth_at h1,.inl ⟨h2,by rw [if_neg hs];exact h3⟩⟩) (k v' L' hr)
 rcases hnx with rfl | ⟨rfl,rfl⟩
 ·exact this
 ·exact this
theorem ap_callv [Lets B] {i:Nat} {Pd':List Pn} {d:Option Nat} {fo:Operand} {args:List Operand} {tys:Array TypeId} {ty:TypeId} {pos:String} {aft:Array Edge} {gd:Option (Nat × Bool)} {fv:Value} {f:FuncId} {first cap vs:List Value} {Q:Value→List HProp→B.X→Prop} (ho:nth ops.toList i=some ⟨d,.call ⟨.value fo,args.toArray,tys⟩,ty,pos,aft,gd⟩)
  (hdom:(R.all fun j=>(anc ops ops.size j).contains i)=true) (hpd':pdKeep ops i Pd=Pd') (hst:(Pd'.all (·.st))=true) (hg:gYes (resE (readsOf n ops i) e) (guardOf n ops ⟨d,.call ⟨.value fo,args.toArray,tys⟩,ty,pos,aft,gd⟩))
  (hf:ev (resE (readsOf n ops i) e) fo=some fv) (hc:callee? fv=some (f,first,cap)) (hargs:EvL (resE (readsOf n ops i) e) args vs) [en:Ent' P f] [pk:Pass K z] (m:Tr P B f (first++vs++cap) L x Q)
  (k:∀ v L' x',Q v L' x'→Ap P B kd n ops ord R Pd' K (setE d v e) z L' x'):Ap P B kd n ops ord (i::R) Pd K e z L x:=by
 subst hpd'
 have ho:=nth_at ho
 refine ap_loud_gen ho hdom hg fun idx t h ht ha s hw kk=>?_
 refine wr_op ho hw ?_
 have hfv:evT t fo=fv:=ha.ev hf
 have hav:=hargs.evT ha
 have hex:execOp (evT t) ⟨d,.call ⟨.value fo,args.toArray,tys⟩,ty,pos,aft,gd⟩=callFunc f (first++vs++cap).toArray:=by
  show (do let d ← resolve (evT t) ⟨.value fo,args.toArray,tys⟩ ty;invoke d.target d.args:Sem Next)=_
  cases fv with
  | func fn fi ca =>
   cases fn with
   | func g =>
    simp only [callee?,Option.some.injEq,Prod.mk.injEq] at hc
    obtain ⟨rfl,rfl,rfl⟩:=hc
    simp only [resolve,hfv,Deferred.ofValue,List.map_toArray,hav]
    show callFunc g ((fi++vs.toArray)++ca)=_
    congr 1
    apply Array.ext'
    simp
   | _=>cases hc
  | _=>cases hc
 rw [hex]
 refine wpS_callFunc en.ok ?_
 refine m h .run _ s (fun v L' x' h' r s'=>⟨rfl,?_⟩) (fun ch h' x' hc=>⟨rfl,pk.ok ch t h' x' hc⟩)
 exact kk v L' x' h' s' (pd_still hst) (k v L' x' r)
theorem we_draw {id:Nat} (ord:List Nat) (hok:okOrd n ops ord=true) (w:Ap P B kd n ops ord ord [] K e z L x):We P B kd n (.region id ops true) K e z L x:=by
 intro t h a1 a2 a3
 have ok:=okOrd_ok hok
 refine wc_region_draw fun q=>?_
 obtain ⟨h1,h2,h3⟩:=schedule_ok ok.md (P.follows .mixedOrders) q
 generalize Region.schedule (P.follows .mixedOrders) ops q=idx at h1 h2 h3
 refine w ⟨[],rfl,fun p hp=>by simp at hp⟩ ok (fun p hp=>by simp at hp) idx t h ⟨a1,h1,fun i hi=>(h2 i).2 hi,fun i hi=>.inl (ok.all i ((h2 i).2 hi)),fun i hi=>(h2 i).1 (ok.lt i hi),fun p hp=>by simp at hp,fun p hp=>by simp at hp,?_,?_,?_,fun p hp=>by simp at hp⟩ a3
 ·intro pre i post hs j hj hjp
  have:=h3 pre i post hs j hj
  rw [hs] at h1
  exact (List.nodup_append.1 h1).2.2 j this j (by simp [hjp]) rfl
 ·intro m hm hno
  exact absurd ((h2 m).1 hm) hno
 ·intro s v hs
  exact .inr ⟨a2 s v hs,fun p hp=>by simp at hp⟩
end
end Go.PB
namespace Go.PB
theorem wrap_u64 {n:Int} (h1:0≤n) (h2:n<18446744073709551616):IntKind.u64.wrap n=n:=by
 unfold IntKind.wrap IntKind.signed IntKind.bits
 simp only [Bool.false_and,Bool.false_eq_true,if_false]
 omega
theorem wrap_u64_mod (n:Int):IntKind.u64.wrap n=n%18446744073709551616:=by
 unfold IntKind.wrap IntKind.signed IntKind.bits
 simp only [Bool.false_and,Bool.false_eq_true,if_false]
 rfl
theorem pow_le {k:Nat} (hk:k≤10):2^k≤1024:=Nat.le_trans (Nat.pow_le_pow_right (by omega) hk) (by decide)
theorem bv_and64 {a b:Nat} (ha:a<18446744073709551616) (hb:b<18446744073709551616):(BitVec.ofInt 64 (a:Int) &&& BitVec.ofInt 64 (b:Int)).toNat=a &&& b:=by
 rw [BitVec.ofInt_natCast,BitVec.ofInt_natCast,BitVec.toNat_and,BitVec.toNat_ofNat,BitVec.toNat_ofNat,Nat.mod_eq_of_lt (by omega),Nat.mod_eq_of_lt (by omega)]
theorem and_u64 {a b:Nat} (ha:a<18446744073709551616) (hb:b<18446744073709551616):IntKind.u64.wrap (BitVec.ofInt IntKind.u64.bits (a:Int) &&& BitVec.ofInt IntKind.u64.bits (b:Int)).toNat=((a &&& b:Nat):Int):=by
 show IntKind.u64.wrap (((BitVec.ofInt 64 (a:Int) &&& BitVec.ofInt 64 (b:Int)).toNat:Nat):Int)=_
 rw [bv_and64 ha hb]
 have:a &&& b≤a:=Nat.and_le_left
 exact wrap_u64 (by omega) (by omega)
theorem and_i64 {a b:Nat} (ha:a<9223372036854775808) (hb:b<9223372036854775808):IntKind.i64.wrap (BitVec.ofInt IntKind.i64.bits (a:Int) &&& BitVec.ofInt IntKind.i64.bits (b:Int)).toNat=((a &&& b:Nat):Int):=by
 show IntKind.i64.wrap (((BitVec.ofInt 64 (a:Int) &&& BitVec.ofInt 64 (b:Int)).toNat:Nat):Int)=_
 rw [bv_and64 (by omega) (by omega)]
 have:a &&& b≤a:=Nat.and_le_left
 exact wrap_i64 (by omega) (by omega)
theorem and_pow2 {p:Int} {n k:Nat} (hn:n=2^k) (hk:k≤10) (h0:0≤p) (h1:p<18446744073709551616):IntKind.u64.wrap (BitVec.ofInt IntKind.u64.bits p &&& BitVec.ofInt IntKind.u64.bits ((n:Int)-1)).toNat=((p.toNat%n:Nat):Int):=by
 have hpos:0<n:=by subst hn;exact Nat.two_pow_pos k
 have hle:=pow_le hk
 obtain ⟨q,rfl⟩:∃ q:Nat,p=q:=⟨p.toNat,by omega⟩
 have e1:((n:Int)-1)=((n-1:Nat):Int):=by omega
 rw [e1,and_u64 (by omega) (by omega),hn,Nat.and_two_pow_sub_one_eq_mod,Int.toNat_natCast]
theorem wrap_i64_s {n:Nat} (h:n<18446744073709551616):IntKind.i64.wrap (n:Int)=if n<9223372036854775808 then (n:Int) else (n:Int)-18446744073709551616:=by
 unfold IntKind.wrap IntKind.signed IntKind.bits
 simp only [Bool.true_and,decide_eq_true_eq]
 split <;> split <;> omega
theorem bin_lssT {P:Program} {xt:TypeId} {x y:Operand} {k:IntKind} {a b:Int} (h:a<b):Bin P .lss xt x y (.int k a) (.int k b) (.bool true):=by
 have t:=bin_lss (P:=P) (xt:=xt) (x:=x) (y:=y) (k:=k) (a:=a) (b:=b)
 rwa [decide_eq_true h] at t
theorem bin_lssF {P:Program} {xt:TypeId} {x y:Operand} {k:IntKind} {a b:Int} (h:¬ (a<b)):Bin P .lss xt x y (.int k a) (.int k b) (.bool false):=by
 have t:=bin_lss (P:=P) (xt:=xt) (x:=x) (y:=y) (k:=k) (a:=a) (b:=b)
 rwa [decide_eq_false h] at t
theorem bin_leqT {P:Program} {xt:TypeId} {x y:Operand} {k:IntKind} {a b:Int} (h:a≤b):Bin P .leq xt x y (.int k a) (.int k b) (.bool true):=by
 have t:=bin_leq (P:=P) (xt:=xt) (x:=x) (y:=y) (k:=k) (a:=a) (b:=b)
 rwa [decide_eq_true h] at t
theorem bin_leqF {P:Program} {xt:TypeId} {x y:Operand} {k:IntKind} {a b:Int} (h:¬ (a≤b)):Bin P .leq xt x y (.int k a) (.int k b) (.bool false):=by
 have t:=bin_leq (P:=P) (xt:=xt) (x:=x) (y:=y) (k:=k) (a:=a) (b:=b)
 rwa [decide_eq_false h] at t
theorem bin_gtrT {P:Program} {xt:TypeId} {x y:Operand} {k:IntKind} {a b:Int} (h:b<a):Bin P .gtr xt x y (.int k a) (.int k b) (.bool true):=by
 have t:=bin_gtr (P:=P) (xt:=xt) (x:=x) (y:=y) (k:=k) (a:=a) (b:=b)
 rwa [decide_eq_true h] at t
theorem bin_gtrF {P:Program} {xt:TypeId} {x y:Operand} {k:IntKind} {a b:Int} (h:¬ (b<a)):Bin P .gtr xt x y (.int k a) (.int k b) (.bool false):=by
 have t:=bin_gtr (P:=P) (xt:=xt) (x:=x) (y:=y) (k:=k) (a:=a) (b:=b)
 rwa [decide_eq_false h] at t
theorem bin_geqT {P:Program} {xt:TypeId} {x y:Operand} {k:IntKind} {a b:Int} (h:b≤a):Bin P .geq xt x y (.int k a) (.int k b) (.bool true):=by
 have t:=bin_geq (P:=P) (xt:=xt) (x:=x) (y:=y) (k:=k) (a:=a) (b:=b)
 rwa [decide_eq_true h] at t
theorem bin_geqF {P:Program} {xt:TypeId} {x y:Operand} {k:IntKind} {a b:Int} (h:¬ (b≤a)):Bin P .geq xt x y (.int k a) (.int k b) (.bool false):=by
 have t:=bin_geq (P:=P) (xt:=xt) (x:=x) (y:=y) (k:=k) (a:=a) (b:=b)
 rwa [decide_eq_false h] at t
theorem bin_eqlT {P:Program} {xt:TypeId} {x y:Operand} {k:IntKind} {a b:Int} (h:a=b):Bin P .eql xt x y (.int k a) (.int k b) (.bool true):=by
 have t:=bin_eql (P:=P) (xt:=xt) (x:=x) (y:=y) (k:=k) (a:=a) (b:=b)
 rwa [decide_eq_true h] at t
theorem bin_eqlF {P:Program} {xt:TypeId} {x y:Operand} {k:IntKind} {a b:Int} (h:¬ (a=b)):Bin P .eql xt x y (.int k a) (.int k b) (.bool false):=by
 have t:=bin_eql (P:=P) (xt:=xt) (x:=x) (y:=y) (k:=k) (a:=a) (b:=b)
 rwa [decide_eq_false h] at t
theorem bin_neqT {P:Program} {xt:TypeId} {x y:Operand} {k:IntKind} {a b:Int} (h:¬ (a=b)):Bin P .neq xt x y (.int k a) (.int k b) (.bool true):=by
 have t:=bin_neq (P:=P) (xt:=xt) (x:=x) (y:=y) (k:=k) (a:=a) (b:=b)
 rwa [decide_eq_false h] at t
theorem bin_neqF {P:Program} {xt:TypeId} {x y:Operand} {k:IntKind} {a b:Int} (h:a=b):Bin P .neq xt x y (.int k a) (.int k b) (.bool false):=by
 have t:=bin_neq (P:=P) (xt:=xt) (x:=x) (y:=y) (k:=k) (a:=a) (b:=b)
 rwa [decide_eq_true h] at t
end Go.PB
namespace Go.PB
open Go
section
section
variable {P:Program} {B:Hand} {kd:CallKind} {n:Nat} {K:Post B} {e:Env} {z:Z} {L:List HProp} {x:B.X}
theorem wR {id:Nat} {ops:Array Oper} {l:List OpG} (k:Wo P B kd n l K e z L x) (hl:opsOf n ops=l:=by simp only [opsOf,List.map_cons,List.map_nil,Option.map_none,Option.map_some,List.getElem?_toArray,List.getElem?_cons_zero,List.getElem?_cons_succ,Option.bind_some,Option.getD_some];exact rfl) (hd:dOk n l=true:=by exact rfl):We P B kd n (.region id ops false) K e z L x:=we_region l hl hd k
theorem wT {c:Operand} {a a':Code} {q:Bool} (k:We P B kd n a K e z L x) (hc:ev e c=some (.bool q):=by exact rfl) (hq:q=true:=by first | exact rfl | (simp <;> omega) | omega):We P B kd n (.cond c a a') K e z L x:=we_condT hc hq k
theorem wF {c:Operand} {a a':Code} {q:Bool} (k:We P B kd n a' K e z L x) (hc:ev e c=some (.bool q):=by exact rfl) (hq:q=false:=by first | exact rfl | (simp <;> omega) | omega):We P B kd n (.cond c a a') K e z L x:=we_condF hc hq k
variable [Lets B] {l:List OpG} {d:Option Nat} {ty:TypeId} {g:Option (Nat × Bool)}
theorem wS {t:TypeId} {o x1:Operand} {b c:Nat} {v:Value} {L1:List HProp} [sz:Siz P t 1] (k:Wo P B kd n l K (setE d undef e) z L1 x) (ha:ev e o=some (.pointer (some ⟨b,c,none⟩)):=by exact rfl) (hx:ev e x1=some v:=by exact rfl) (hv:one v=true:=by exact rfl) (hw:Wt L b c v L1:=by apply Wt.row0;(repeat (first | exact Foc.here | apply Foc.there));(first | exact Nat.lt_of_sub_eq_succ rfl | omega)) (hg:gYes e g:=by first | exact trivial | exact rfl):Wo P B kd n (⟨d,.store t o x1,ty,g⟩::l) K e z L x:=wo_pm (mo_store ha hx hv hw) hg k
theorem wM {o:Operand} {v:Value} (k:Wo P B kd n l K (setE d v e) z L x) (hx:ev e o=some v:=by exact rfl) (hg:gYes e g:=by first | exact trivial | exact rfl):Wo P B kd n (⟨d,.move o,ty,g⟩::l) K e z L x:=wo_po (mo_move hx) hg k
theorem wA {o:Operand} {v:Value} (k:Wo P B kd n l K (setE d v e) z L x) (hx:ev e o=some v:=by exact rfl) (hg:gYes e g:=by first | exact trivial | exact rfl):Wo P B kd n (⟨d,.assign o,ty,g⟩::l) K e z L x:=wo_po (mo_assign hx) hg k
theorem wN {o:Operand} {a:Addr} (k:Wo P B kd n l K (setE d (.pointer (some a)) e) z L x) (hx:ev e o=some (.pointer (some a)):=by exact rfl) (hg:gYes e g:=by first | exact trivial | exact rfl):Wo P B kd n (⟨d,.nilCheck o,ty,g⟩::l) K e z L x:=wo_po (mo_nilCheck hx) hg k
theorem wD {s f off ft fz:Nat} {o:Operand} {b c r:Nat} [p:Fld P s f off ft fz] (k:Wo P B kd n l K (setE d (.pointer (some ⟨b,r,none⟩)) e) z L x) (hz:(fz == 0)=false:=by exact rfl) (hx:ev e o=some (.pointer (some ⟨b,c,none⟩)):=by exact rfl) (hr:c+off=r:=by first | exact Nat.zero_add _ | exact rfl) (hg:gYes e g:=by first | exact trivial | exact rfl):Wo P B kd n (⟨d,.fieldAddr s o f,ty,g⟩::l) K e z L x:=wo_po (mo_fieldAddr hz hx hr) hg k
theorem wL {t:TypeId} {o:Operand} {b c:Nat} {v:Value} [p:Scal P t] (k:Wo P B kd n l K (setE d v e) z L x) (ha:ev e o=some (.pointer (some ⟨b,c,none⟩)):=by exact rfl) (hr:Rd L b c v:=by repeat (first | exact Rd.row0 rfl | exact Rd.row rfl rfl | exact Rd.still | apply Rd.there)) (hg:gYes e g:=by first | exact trivial | exact rfl):Wo P B kd n (⟨d,.load t o,ty,g⟩::l) K e z L x:=wo_po (mo_load ha hr) hg k
theorem wE {o:Operand} {st el:Nat} {a:Option Addr} {m c:Nat} [p:SlT P st el] (k:Wo P B kd n l K (setE d (.int .i64 m) e) z L x) (hx:ev e o=some (.slice a m c):=by exact rfl) (hg:gYes e g:=by first | exact trivial | exact rfl):Wo P B kd n (⟨d,.call ⟨.builtin .len,#[o],#[st]⟩,ty,g⟩::l) K e z L x:=wo_po (mo_len hx) hg k
theorem wK {c o o1:Operand} {v:Value} {q:Bool} (k:Wo P B kd n l K (setE d v e) z L x) (hc:ev e c=some (.bool q):=by exact rfl) (hq:q=true:=by exact rfl) (hx:ev e o=some v:=by exact rfl) (hg:gYes e g:=by first | exact trivial | exact rfl):Wo P B kd n (⟨d,.pick c o o1,ty,g⟩::l) K e z L x:=wo_po (mo_pickT hc hq hx) hg k
theorem wJ {c o o1:Operand} {v:Value} {q:Bool} (k:Wo P B kd n l K (setE d v e) z L x) (hc:ev e c=some (.bool q):=by exact rfl) (hq:q=false:=by exact rfl) (hx:ev e o1=some v:=by exact rfl) (hg:gYes e g:=by first | exact trivial | exact rfl):Wo P B kd n (⟨d,.pick c o o1,ty,g⟩::l) K e z L x:=wo_po (mo_pickF hc hq hx) hg k
theorem weqlT {xt yt:TypeId} {x1 y1:Operand} {kk:IntKind} {a b:Int} (k:Wo P B kd n l K (setE d (.bool true) e) z L x) (hx:ev e x1=some (.int kk a):=by exact rfl) (hy:ev e y1=some (.int kk b):=by exact rfl) (h:a=b:=by omega) (hg:gYes e g:=by first | exact trivial | exact rfl):Wo P B kd n (⟨d,.binOp .eql xt x1 y1 yt,ty,g⟩::l) K e z L x:=wo_po (mo_bin hx hy (bin_eqlT h)) hg k
theorem weqlF {xt yt:TypeId} {x1 y1:Operand} {kk:IntKind} {a b:Int} (k:Wo P B kd n l K (setE d (.bool false) e) z L x) (hx:ev e x1=some (.int kk a):=by exact rfl) (hy:ev e y1=some (.int kk b):=by exact rfl) (h:¬ (a=b):=by omega) (hg:gYes e g:=by first | exact trivial | exact rfl):Wo P B kd n (⟨d,.binOp .eql xt x1 y1 yt,ty,g⟩::l) K e z L x:=wo_po (mo_bin hx hy (bin_eqlF h)) hg k
theorem wneqT {xt yt:TypeId} {x1 y1:Operand} {kk:IntKind} {a b:Int} (k:Wo P B kd n l K (setE d (.bool true) e) z L x) (hx:ev e x1=some (.int kk a):=by exact rfl) (hy:ev e y1=some (.int kk b):=by exact rfl) (h:¬ (a=b):=by omega) (hg:gYes e g:=by first | exact trivial | exact rfl):Wo P B kd n (⟨d,.binOp .neq xt x1 y1 yt,ty,g⟩::l) K e z L x:=wo_po (mo_bin hx hy (bin_neqT h)) hg k
theorem wneqF {xt yt:TypeId} {x1 y1:Operand} {kk:IntKind} {a b:Int} (k:Wo P B kd n l K (setE d (.bool false) e) z L x) (hx:ev e x1=some (.int kk a):=by exact rfl) (hy:ev e y1=some (.int kk b):=by exact rfl) (h:a=b:=by omega) (hg:gYes e g:=by first | exact trivial | exact rfl):Wo P B kd n (⟨d,.binOp .neq xt x1 y1 yt,ty,g⟩::l) K e z L x:=wo_po (mo_bin hx hy (bin_neqF h)) hg k
theorem wlssT {xt yt:TypeId} {x1 y1:Operand} {kk:IntKind} {a b:Int} (k:Wo P B kd n l K (setE d (.bool true) e) z L x) (hx:ev e x1=some (.int kk a):=by exact rfl) (hy:ev e y1=some (.int kk b):=by exact rfl) (h:a<b:=by omega) (hg:gYes e g:=by first | exact trivial | exact rfl):Wo P B kd n (⟨d,.binOp .lss xt x1 y1 yt,ty,g⟩::l) K e z L x:=wo_po (mo_bin hx hy (bin_lssT h)) hg k
theorem wlssF {xt yt:TypeId} {x1 y1:Operand} {kk:IntKind} {a b:Int} (k:Wo P B kd n l K (setE d (.bool false) e) z L x) (hx:ev e x1=some (.int kk a):=by exact rfl) (hy:ev e y1=some (.int kk b):=by exact rfl) (h:¬ (a<b):=by omega) (hg:gYes e g:=by first | exact trivial | exact rfl):Wo P B kd n (⟨d,.binOp .lss xt x1 y1 yt,ty,g⟩::l) K e z L x:=wo_po (mo_bin hx hy (bin_lssF h)) hg k
theorem wleqT {xt yt:TypeId} {x1 y1:Operand} {kk:IntKind} {a b:Int} (k:Wo P B kd n l K (setE d (.bool true) e) z L x) (hx:ev e x1=some (.int kk a):=by exact rfl) (hy:ev e y1=some (.int kk b):=by exact rfl) (h:a≤b:=by omega) (hg:gYes e g:=by first | exact trivial | exact rfl):Wo P B kd n (⟨d,.binOp .leq xt x1 y1 yt,ty,g⟩::l) K e z L x:=wo_po (mo_bin hx hy (bin_leqT h)) hg k
theorem wleqF {xt yt:TypeId} {x1 y1:Operand} {kk:IntKind} {a b:Int} (k:Wo P B kd n l K (setE d (.bool false) e) z L x) (hx:ev e x1=some (.int kk a):=by exact rfl) (hy:ev e y1=some (.int kk b):=by exact rfl) (h:¬ (a≤b):=by omega) (hg:gYes e g:=by first | exact trivial | exact rfl):Wo P B kd n (⟨d,.binOp .leq xt x1 y1 yt,ty,g⟩::l) K e z L x:=wo_po (mo_bin hx hy (bin_leqF h)) hg k
theorem wgtrT {xt yt:TypeId} {x1 y1:Operand} {kk:IntKind} {a b:Int} (k:Wo P B kd n l K (setE d (.bool true) e) z L x) (hx:ev e x1=some (.int kk a):=by exact rfl) (hy:ev e y1=some (.int kk b):=by exact rfl) (h:b<a:=by omega) (hg:gYes e g:=by first | exact trivial | exact rfl):Wo P B kd n (⟨d,.binOp .gtr xt x1 y1 yt,ty,g⟩::l) K e z L x:=wo_po (mo_bin hx hy (bin_gtrT h)) hg k
theorem wgtrF {xt yt:TypeId} {x1 y1:Operand} {kk:IntKind} {a b:Int} (k:Wo P B kd n l K (setE d (.bool false) e) z L x) (hx:ev e x1=some (.int kk a):=by exact rfl) (hy:ev e y1=some (.int kk b):=by exact rfl) (h:¬ (b<a):=by omega) (hg:gYes e g:=by first | exact trivial | exact rfl):Wo P B kd n (⟨d,.binOp .gtr xt x1 y1 yt,ty,g⟩::l) K e z L x:=wo_po (mo_bin hx hy (bin_gtrF h)) hg k
theorem wgeqT {xt yt:TypeId} {x1 y1:Operand} {kk:IntKind} {a b:Int} (k:Wo P B kd n l K (setE d (.bool true) e) z L x) (hx:ev e x1=some (.int kk a):=by exact rfl) (hy:ev e y1=some (.int kk b):=by exact rfl) (h:b≤a:=by omega) (hg:gYes e g:=by first | exact trivial | exact rfl):Wo P B kd n (⟨d,.binOp .geq xt x1 y1 yt,ty,g⟩::l) K e z L x:=wo_po (mo_bin hx hy (bin_geqT h)) hg k
theorem wgeqF {xt yt:TypeId} {x1 y1:Operand} {kk:IntKind} {a b:Int} (k:Wo P B kd n l K (setE d (.bool false) e) z L x) (hx:ev e x1=some (.int kk a):=by exact rfl) (hy:ev e y1=some (.int kk b):=by exact rfl) (h:¬ (b≤a):=by omega) (hg:gYes e g:=by first | exact trivial | exact rfl):Wo P B kd n (⟨d,.binOp .geq xt x1 y1 yt,ty,g⟩::l) K e z L x:=wo_po (mo_bin hx hy (bin_geqF h)) hg k
theorem wadd {xt yt:TypeId} {x1 y1:Operand} {kk:IntKind} {a b r:Int} (k:Wo P B kd n l K (setE d (.int kk r) e) z L x) (hx:ev e x1=some (.int kk a):=by exact rfl) (hy:ev e y1=some (.int kk b):=by exact rfl) (h:kk.wrap (a+b)=r:=by exact wrap_i64 (by omega) (by omega)) (hg:gYes e g:=by first | exact trivial | exact rfl):Wo P B kd n (⟨d,.binOp .add xt x1 y1 yt,ty,g⟩::l) K e z L x:=wo_po (mo_bin hx hy (bin_add h)) hg k
theorem wsub {xt yt:TypeId} {x1 y1:Operand} {kk:IntKind} {a b r:Int} (k:Wo P B kd n l K (setE d (.int kk r) e) z L x) (hx:ev e x1=some (.int kk a):=by exact rfl) (hy:ev e y1=some (.int kk b):=by exact rfl) (h:kk.wrap (a-b)=r:=by exact wrap_i64 (by omega) (by omega)) (hg:gYes e g:=by first | exact trivial | exact rfl):Wo P B kd n (⟨d,.binOp .sub xt x1 y1 yt,ty,g⟩::l) K e z L x:=wo_po (mo_bin hx hy (bin_sub h)) hg k
end
section
variable {P:Program} {B:Hand} {kd:CallKind} {n:Nat} {ops:Array Oper} {ord R:List Nat} {Pd:List Pn} {K:Post B} {e:Env} {z:Z} {L:List HProp} {x:B.X} {i:Nat} {v:Value} {d:Option Nat} {ty:TypeId} {pos:String} {after:Array Edge} {g:Option (Nat × Bool)}
theorem aM {o:Operand} (k:Ap P B kd n ops ord R (⟨i,v,resE (readsOf n ops i) e,true⟩::Pd) K (setE d v e) z L x) (ho:nth ops.toList i=some ⟨d,.move o,ty,pos,after,g⟩:=by exact rfl) (hg:gYes (resE (readsOf n ops i) e) (guardOf n ops ⟨d,.move o,ty,pos,after,g⟩):=by first | exact trivial | exact rfl) (hx:ev (resE (readsOf n ops i) e) o=some v:=by exact rfl):Ap P B kd n ops ord (i::R) Pd K e z L x:=ap_pure ho rfl hg (fun L=>mo_move hx) k
theorem aA {o:Operand} (k:Ap P B kd n ops ord R (⟨i,v,resE (readsOf n ops i) e,true⟩::Pd) K (setE d v e) z L x) (ho:nth ops.toList i=some ⟨d,.assign o,ty,pos,after,g⟩:=by exact rfl) (hg:gYes (resE (readsOf n ops i) e) (guardOf n ops ⟨d,.assign o,ty,pos,after,g⟩):=by first | exact trivial | exact rfl) (hx:ev (resE (readsOf n ops i) e) o=some v:=by exact rfl):Ap P B kd n ops ord (i::R) Pd K e z L x:=ap_pure ho rfl hg (fun L=>mo_assign hx) k
theorem aN {o:Operand} {a:Addr} (k:Ap P B kd n ops ord R (⟨i,(.pointer (some a)),resE (readsOf n ops i) e,true⟩::Pd) K (setE d (.pointer (some a)) e) z L x) (ho:nth ops.toList i=some ⟨d,.nilCheck o,ty,pos,after,g⟩:=by exact rfl) (hg:gYes (resE (readsOf n ops i) e) (guardOf n ops ⟨d,.nilCheck o,ty,pos,after,g⟩):=by first | exact trivial | exact rfl) (hx:ev (resE (readsOf n ops i) e) o=some (.pointer (some a)):=by exact rfl):Ap P B kd n ops ord (i::R) Pd K e z L x:=ap_pure ho rfl hg (fun L=>mo_nilCheck hx) k
theorem aD {s f off ft fz:Nat} {o:Operand} {b c r:Nat} (k:Ap P B kd n ops ord R (⟨i,(.pointer (some ⟨b,r,none⟩)),resE (readsOf n ops i) e,true⟩::Pd) K (setE d (.pointer (some ⟨b,r,none⟩)) e) z L x) (ho:nth ops.toList i=some ⟨d,.fieldAddr s o f,ty,pos,after,g⟩:=by exact rfl) (hg:gYes (resE (readsOf n ops i) e) (guardOf n ops ⟨d,.fieldAddr s o f,ty,pos,after,g⟩):=by first | exact trivial | exact rfl) (p:Fld P s f off ft fz:=by infer_instance) (hz:(fz == 0)=false:=by exact rfl) (hx:ev (resE (readsOf n ops i) e) o=some (.pointer (some ⟨b,c,none⟩)):=by exact rfl) (hr:c+off=r:=by first | exact Nat.zero_add _ | exact rfl):Ap P B kd n ops ord (i::R) Pd K e z L x:=ap_pure ho rfl hg (fun L=>mo_fieldAddr (p:=p) hz hx hr) k
theorem aL {t:TypeId} {o:Operand} {b c:Nat} (k:Ap P B kd n ops ord R (⟨i,v,resE (readsOf n ops i) e,false⟩::Pd) K (setE d v e) z L x) (ho:nth ops.toList i=some ⟨d,.load t o,ty,pos,after,g⟩:=by exact rfl) (hg:gYes (resE (readsOf n ops i) e) (guardOf n ops ⟨d,.load t o,ty,pos,after,g⟩):=by first | exact trivial | exact rfl) (p:Scal P t:=by infer_instance) (ha:ev (resE (readsOf n ops i) e) o=some (.pointer (some ⟨b,c,none⟩)):=by exact rfl) (hr:Rd L b c v:=by repeat (first | exact Rd.row0 rfl | exact Rd.row rfl rfl | exact Rd.still | apply Rd.there)):Ap P B kd n ops ord (i::R) Pd K e z L x:=ap_read ho rfl hg (mo_load (p:=p) ha hr) k
end
section
variable {P:Program} {B:Hand} {kd:CallKind} {n:Nat} {e:Env} {L:List HProp} {x:B.X} {f:FuncId} {fn:Func} {t1 t2 t3:Nat} {v1 v2 v3:Value} {um:FrameMode} {Q:End→FrameMode→Hp→B.X→Prop} {R:Value→List HProp→B.X→Prop}
theorem or0 (hf:P.funcs[f]?=some fn) (hr:fn.results=#[]) (q:∀ v L' x' h',R v L' x'→Star L' h'→Q (.ret v) um h' x') (hR:R (.tuple #[]) L x):At n e L fun t h=>leave P B f kd Q .ret t ⟨[],um⟩ h x:=at_ret0 hf hr q (.inl rfl) hR
theorem or1 (hf:P.funcs[f]?=some fn) (hr:fn.results=#[.tmp t1]) (q:∀ v L' x' h',R v L' x'→Star L' h'→Q (.ret v) um h' x') (h1:lk e t1=some v1) (hR:R v1 L x):At n e L fun t h=>leave P B f kd Q .ret t ⟨[],um⟩ h x:=at_ret1 hf hr q (.inl rfl) h1 hR
theorem or2 (hf:P.funcs[f]?=some fn) (hr:fn.results=#[.tmp t1,.tmp t2]) (q:∀ v L' x' h',R v L' x'→Star L' h'→Q (.ret v) um h' x') (h1:lk e t1=some v1) (h2:lk e t2=some v2) (hR:R (.tuple #[v1,v2]) L x):At n e L fun t h=>leave P B f kd Q .ret t ⟨[],um⟩ h x:=at_ret2 hf hr q (.inl rfl) h1 h2 hR
theorem or3 (hf:P.funcs[f]?=some fn) (hr:fn.results=#[.tmp t1,.tmp t2,.tmp t3]) (q:∀ v L' x' h',R v L' x'→Star L' h'→Q (.ret v) um h' x') (h1:lk e t1=some v1) (h2:lk e t2=some v2) (h3:lk e t3=some v3) (hR:R (.tuple #[v1,v2,v3]) L x):At n e L fun t h=>leave P B f kd Q .ret t ⟨[],um⟩ h x:=at_ret3 hf hr q (.inl rfl) h1 h2 h3 hR
theorem on0 (hf:P.funcs[f]?=some fn) (hr:fn.results=#[]) (q:∀ v L' x' h',R v L' x'→Star L' h'→Q (.ret v) um h' x') (hR:R (.tuple #[]) L x):At n e L fun t h=>leave P B f kd Q .normal t ⟨[],um⟩ h x:=at_ret0 hf hr q (.inr rfl) hR
theorem on1 (hf:P.funcs[f]?=some fn) (hr:fn.results=#[.tmp t1]) (q:∀ v L' x' h',R v L' x'→Star L' h'→Q (.ret v) um h' x') (h1:lk e t1=some v1) (hR:R v1 L x):At n e L fun t h=>leave P B f kd Q .normal t ⟨[],um⟩ h x:=at_ret1 hf hr q (.inr rfl) h1 hR
theorem on2 (hf:P.funcs[f]?=some fn) (hr:fn.results=#[.tmp t1,.tmp t2]) (q:∀ v L' x' h',R v L' x'→Star L' h'→Q (.ret v) um h' x') (h1:lk e t1=some v1) (h2:lk e t2=some v2) (hR:R (.tuple #[v1,v2]) L x):At n e L fun t h=>leave P B f kd Q .normal t ⟨[],um⟩ h x:=at_ret2 hf hr q (.inr rfl) h1 h2 hR
theorem on3 (hf:P.funcs[f]?=some fn) (hr:fn.results=#[.tmp t1,.tmp t2,.tmp t3]) (q:∀ v L' x' h',R v L' x'→Star L' h'→Q (.ret v) um h' x') (h1:lk e t1=some v1) (h2:lk e t2=some v2) (h3:lk e t3=some v3) (hR:R (.tuple #[v1,v2,v3]) L x):At n e L fun t h=>leave P B f kd Q .normal t ⟨[],um⟩ h x:=at_ret3 hf hr q (.inr rfl) h1 h2 h3 hR
theorem gY {e:Env} {g:Option (Nat × Bool)} (h:gYes e g:=by first | exact trivial | exact rfl):gYes e g:=h
theorem oS {α:Type} {a b:α}:(some a).getD b=a:=rfl
end
end
end Go.PB
