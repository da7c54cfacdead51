/-
  Part 7 of 10.
-/
import Derived.Test.YtodgemainhokjaaSp6
import Derived.Test.YtodgemainhokjaaSp3
import Derived.Test.YtodgemainhokjaaSp2
import Derived.Test.YtodgemainhokjaaSp4
import Derived.Test.YtodgemainhokjaaSp5
set_option linter.unusedVariables false
set_option linter.unusedSimpArgs false
namespace Go.Proofs.Ytodgemainhokjaa
open Go Go.PB
attribute [local irreducible] Mo Bin Eql Tr Wo Ap Wle
section
abbrev sD (n:Nat):Wds:=rowDM (n+1) 18446744073709551616 60
section
variable {n m:Nat} {addr:Nat→Nat × Nat} {K:List (Nat × Nat × Value)} {A:Apart addr (n+1) K} {Z:HProp} {Pv:Nat × Mach.Th→HProp} {hPv:∀ q h,Star [Pv q] h→Pv q h} {sb says turn fin wg k:Nat} {Pm:HProp}
variable {cs:List Mach.Cl} {c v kt:Nat} {pre:List (Bool × List Nat)} {ws:List Nat}
theorem bhf (hn:n≤16) (hl:ws.length=n) (hb:∀ w∈ws,w<18446744073709551616) (hc:cs[c]?=some (Mach.swCl ws)) (h0:pre.length=c) (hP:∀ p r said h,Pm h→Pv (k,Mach.T cs c p r pre said) h) {K0:PlS→Prop}
  (hK:∀ s' r',s'.t=Mach.T cs c (8+2*ws.length) r' pre []→r' 0=0→r' 7=(v+2)%18446744073709551616→(∀ i,i<n+1→s'.f i=s'.g i)→K0 s') :
  ∀ (l:List Nat) (i x:Nat) (s:PlS) (r:Nat→Nat),ws.drop i=x::l→s.t=Mach.T cs c (8+2*i) r pre []→r 0=0→r 1=v→r 6=x→(∀ i,i<n+1→s.f i=s.g i) →
   WLoop (ka_ (sD n) addr (n+1) K A Z Pv hPv sb says turn fin wg k Pm) K0 (x::l) i s:=by
 intro l
 induction l with
 | nil =>
  intro i x s r hd ht h00 h1 h6 hfg
  have hlen:=congrArg List.length hd
  rw [List.length_drop,List.length_singleton] at hlen
  have hx:ws[i]?=some x:=by have:=congrArg (·[0]?) hd;simpa using this
  have hx64:=hb x (List.mem_of_getElem? hx)
  refine qs_ (op:=2) rfl fq_ hfg (by rw [ht];exact hP _ _ _) fun f1 ok1=>?_
  obtain ⟨r',o,a,b⟩:=Mach.sw_wl (i:=i) (w:=(sD n).W f1) (l:=rowOf (n+1) f1) hc h0 h00 h1 h6 (by omega) (by omega) rfl (by rw [hm_];omega) jq_
  exact ⟨upd f1 (1+i) x,_,by rw [ht];exact o,fun m1 _=>⟨by omega,hK _ r' rfl a b fun j hj=>ht_ hj⟩⟩
 | cons x1 l ih =>
  intro i x s r hd ht h00 h1 h6 hfg
  have hlen:=congrArg List.length hd
  rw [List.length_drop,List.length_cons,List.length_cons] at hlen
  have hx:ws[i]?=some x:=by have:=congrArg (·[0]?) hd;simpa using this
  have hx1:ws[i+1]?=some x1:=by have:=congrArg (·[1]?) hd;simpa using this
  have hd1:ws.drop (i+1)=x1::l:=by rw [← List.drop_drop,hd];rfl
  refine qs_ (op:=2) rfl fq_ hfg (by rw [ht];exact hP _ _ _) fun f1 ok1=>?_
  obtain ⟨r',o,a,b,d⟩:=Mach.sw_w (w:=(sD n).W f1) (l:=rowOf (n+1) f1) hc h0 h00 h1 h6 (by omega) (by omega) hx1 (hb x1 (List.mem_of_getElem? hx1)) rfl (by rw [hm_];omega) jq_
  exact ⟨upd f1 (1+i) x,_,by rw [ht];exact o,fun m1 _=>⟨by omega,ih (i+1) x1 _ r' hd1 rfl a b d fun j hj=>ht_ hj⟩⟩
def toldW (q:Option Nat):List Nat:=[if q.isSome=true then 0 else 50,q.getD 0]
theorem bhb (hn1:1≤n) (hn:n≤16) (hl:ws.length=n) (hb:∀ w∈ws,w<18446744073709551616) (hc:cs[c]?=some (Mach.swCl ws)) (h0:pre.length=c) (hP:∀ p r said h,Pm h→Pv (k,Mach.T cs c p r pre said) h)
  (nxt:∀ told,∃ t',Mach.onF 20 (Mach.Bt cs (c+1) (pre++[(true,told)]))=some t') {s:PlS} (ht:s.t=Mach.T cs c 0 (fun _=>0) pre []) (hfg:∀ i,i<n+1→s.f i=s.g i)
  {Q:Option Nat→PlS→Prop} (hQ:∀ q s',Mach.onF 20 (Mach.Bt cs (c+1) (pre++[(true,toldW q)]))=some s'.t→(∀ i,i<n+1→s'.f i=s'.g i)→Q q s') :
  wr_ (ka_ (sD n) addr (n+1) K A Z Pv hPv sb says turn fin wg k Pm) ws s Q:=by
 obtain ⟨x0,l0,hws⟩:∃ x0 l0,ws=x0::l0:=by
  cases ws with
  | nil=>simp at hl;omega
  | cons a b=>exact ⟨a,b,rfl⟩
 have hx0:ws[0]?=some x0:=by rw [hws];rfl
 unfold wr_
 refine qs_ (op:=1) rfl fq_ hfg (by rw [ht];exact hP _ _ _) fun f1 ok1=>?_
 have hv0:(rowOf (n+1) f1)[0]?=some (f1 0):=dg_ (by omega)
 obtain ⟨tb,htb⟩:=nxt (toldW none)
 by_cases hev:f1 0%2=0
 ·obtain ⟨r1,o,a,b,d⟩:=Mach.sw_0T (w:=(sD n).W f1) (l:=rowOf (n+1) f1) hc h0 rfl hv0 hev
  refine ⟨f1,_,by rw [ht];exact o,fun m1 _=>⟨by omega,?_⟩⟩
  show if f1 0%2=0 then _ else _
  rw [if_pos hev]
  refine qs_ (op:=5) rfl fq_ (fun i hi=>ht_ hi) (hP _ _ _) fun f2 ok2=>?_
  have hu0:(rowOf (n+1) f2)[0]?=some (f2 0):=dg_ (by omega)
  by_cases he:f2 0=f1 0
  ·obtain ⟨r2,o2,a2,b2,d2⟩:=Mach.sw_5T (w:=(sD n).W f2) (l:=rowOf (n+1) f2) hc h0 a b d rfl (he▸hu0) hx0 (hb x0 (List.mem_of_getElem? hx0)) jq_
   refine ⟨upd f2 0 ((f1 0+1)%18446744073709551616),_,o2,fun m2 _=>⟨by omega,?_⟩⟩
   show if f2 0=f1 0 then _ else _
   rw [if_pos he]
   show if true=true then _ else _
   rw [if_pos rfl]
   rw [hws]
   refine bhf hn hl hb hc h0 hP (fun s' r' ht' h00 h7 hfg'=>?_) l0 0 x0 _ r2 hws rfl a2 b2 d2 (fun i hi=>ht_ hi)
   refine qs_ (op:=2) rfl fq_ hfg' (by rw [ht'];exact hP _ _ _) fun f3 ok3=>?_
   obtain ⟨te,hte⟩:=nxt (toldW (some ((f1 0+2)%18446744073709551616)))
   refine ⟨upd f3 0 ((f1 0+2)%18446744073709551616),_,by rw [ht'];exact Mach.sw_z (w:=(sD n).W f3) (l:=rowOf (n+1) f3) hc h0 h00 h7 rfl (by rw [hm_];omega) jq_ hte,fun m3 _=>⟨by omega,?_⟩⟩
   exact hQ (some _) _ hte (fun i hi=>ht_ hi)
  ·refine ⟨f2,_,Mach.sw_5F (w:=(sD n).W f2) (l:=rowOf (n+1) f2) hc h0 a b rfl hu0 he htb,fun m2 _=>⟨by omega,?_⟩⟩
   show if f2 0=f1 0 then _ else _
   rw [if_neg he]
   show if false=true then _ else _
   rw [if_neg (by decide)]
   exact hQ none _ htb (fun i hi=>ht_ hi)
 ·refine ⟨f1,_,by rw [ht];exact Mach.sw_0F (w:=(sD n).W f1) (l:=rowOf (n+1) f1) hc h0 rfl hv0 hev htb,fun m1 _=>⟨by omega,?_⟩⟩
  show if f1 0%2=0 then _ else _
  rw [if_neg hev]
  exact hQ none _ htb (fun i hi=>ht_ hi)
theorem bjr (hn:n≤16) (hc:cs[c]?=some (Mach.srCl n kt)) (h0:pre.length=c) (hP:∀ p r said h,Pm h→Pv (k,Mach.T cs c p r pre said) h) {K0:List Nat→PlS→Prop}
  (hK:∀ ws s' r',s'.t=Mach.T cs c (5+n) r' pre []→Mach.SrR r' m→r' 1=v→ws.length=n→(∀ (j:Nat) x,ws[j]?=some x→r' (8+j)=x)→(∀ i,i<n+1→s'.f i=s'.g i)→K0 ws s') :
  ∀ (q:Nat) (acc:List Nat) (s:PlS) (r:Nat→Nat),acc.length+q=n→s.t=Mach.T cs c (5+acc.length) r pre []→Mach.SrR r m→r 1=v→(∀ (j:Nat) x,acc[j]?=some x→r (8+j)=x)→(∀ i,i<n+1→s.f i=s.g i) →
   RLoop (ka_ (sD n) addr (n+1) K A Z Pv hPv sb says turn fin wg k Pm) K0 q acc s:=by
 intro q
 induction q with
 | zero =>
  intro acc s r ha ht R h1 hr hfg
  exact hK acc s r (by rw [ht,show acc.length=n by omega]) R h1 (by omega) hr hfg
 | succ q ih =>
  intro acc s r ha ht R h1 hr hfg
  refine qs_ (op:=1) rfl fq_ hfg (by rw [ht];exact hP _ _ _) fun f1 ok1=>?_
  obtain ⟨r',o,R',a,b,d⟩:=Mach.sr_w (w:=(sD n).W f1) (l:=rowOf (n+1) f1) hc h0 (i:=acc.length) (by omega) hn R h1 rfl (dg_ (by omega))
  refine ⟨f1,_,by rw [ht];exact o,fun m1 _=>⟨by omega,?_⟩⟩
  refine ih (acc++[f1 (1+acc.length)]) _ r' (by simp;omega) (by dsimp only;rw [List.length_append];rfl) R' a (fun j x hj=>?_) (fun i hi=>ht_ hi)
  by_cases hjl:j<acc.length
  ·rw [List.getElem?_append_left hjl] at hj
   rw [d j hjl];exact hr j x hj
  ·rw [List.getElem?_append_right (by omega)] at hj
   have hlt:=(List.getElem?_eq_some_iff.1 hj).1
   simp only [List.length_singleton] at hlt
   obtain rfl:j=acc.length:=by omega
   rw [Nat.sub_self] at hj
   rw [b];exact Option.some.inj hj
def toldR (q:Option (List Nat × Nat)):List Nat:=[if q.isSome=true then 0 else 51,rdV q]++rdW q
theorem zc_ (hn1:1≤n) (hn:n≤16) (hc:cs[c]?=some (Mach.srCl n kt)) (h0:pre.length=c) (hP:∀ p r said h,Pm h→Pv (k,Mach.T cs c p r pre said) h)
  (nxt:∀ told,∃ t',Mach.onF 20 (Mach.Bt cs (c+1) (pre++[(true,told)]))=some t') (hm1:1≤m) (hm64:m<18446744073709551616) {s:PlS} {r:Nat→Nat} (ht:s.t=Mach.T cs c 2 r pre []) (R:Mach.SrR r m) (hfg:∀ i,i<n+1→s.f i=s.g i)
  {Q:Option (List Nat × Nat)→PlS→Prop} (hQ:∀ y s',Mach.onF 20 (Mach.Bt cs (c+1) (pre++[(true,toldR (some y))]))=some s'.t→(∀ i,i<n+1→s'.f i=s'.g i)→Q (some y) s')
  (hQ1:m=1→∀ s',Mach.onF 20 (Mach.Bt cs (c+1) (pre++[(true,toldR none)]))=some s'.t→(∀ i,i<n+1→s'.f i=s'.g i)→Q none s')
  (hQ2:1<m→∀ s' r',s'.t=Mach.T cs c 2 r' pre []→Mach.SrR r' (m-1)→(∀ i,i<n+1→s'.f i=s'.g i)→Q none s') :
  ReadT (ka_ (sD n) addr (n+1) K A Z Pv hPv sb says turn fin wg k Pm) n s Q:=by
 unfold ReadT
 obtain ⟨tb,htb⟩:=nxt (toldR none)
 refine qs_ (op:=1) rfl fq_ hfg (by rw [ht];exact hP _ _ _) fun f1 ok1=>?_
 have hv0:(rowOf (n+1) f1)[0]?=some (f1 0):=dg_ (by omega)
 by_cases hev:f1 0%2=0
 ·obtain ⟨r1,o,R1,a⟩:=Mach.sr_2T (w:=(sD n).W f1) (l:=rowOf (n+1) f1) hc h0 hn1 R rfl hv0 hev
  refine ⟨f1,_,by rw [ht];exact o,fun m1 _=>⟨by omega,?_⟩⟩
  show if f1 0%2=0 then _ else _
  rw [if_pos hev]
  refine bjr hn hc h0 hP (fun ws s' r' ht' R' h1 hl hr hfg'=>?_) n [] _ r1 (by simp) rfl R1 a (fun j x hj=>by simp at hj) (fun i hi=>ht_ hi)
  refine qs_ (op:=1) rfl fq_ hfg' (by rw [ht'];exact hP _ _ _) fun f2 ok2=>?_
  have hu0:(rowOf (n+1) f2)[0]?=some (f2 0):=dg_ (by omega)
  by_cases he:f2 0=f1 0
  ·obtain ⟨te,hte⟩:=nxt (toldR (some (ws,f1 0)))
   refine ⟨f2,_,by rw [ht'];exact Mach.sr_5T (w:=(sD n).W f2) (l:=rowOf (n+1) f2) hc h0 hn R' h1 hl hr rfl (he▸hu0) hte,fun m2 _=>⟨by omega,?_⟩⟩
   show if f2 0=f1 0 then _ else _
   rw [if_pos he]
   exact hQ (ws,f1 0) _ hte (fun i hi=>ht_ hi)
  ·by_cases hm:m=1
   ·subst hm
    refine ⟨f2,_,by rw [ht'];exact Mach.sr_5F (w:=(sD n).W f2) (l:=rowOf (n+1) f2) hc h0 R' h1 rfl hu0 he htb,fun m2 _=>⟨by omega,?_⟩⟩
    show if f2 0=f1 0 then _ else _
    rw [if_neg he]
    exact hQ1 rfl _ htb (fun i hi=>ht_ hi)
   ·obtain ⟨r2,o2,R2⟩:=Mach.sr_5R (w:=(sD n).W f2) (l:=rowOf (n+1) f2) hc h0 R' h1 rfl hu0 he (by omega) hm64
    refine ⟨f2,_,by rw [ht'];exact o2,fun m2 _=>⟨by omega,?_⟩⟩
    show if f2 0=f1 0 then _ else _
    rw [if_neg he]
    exact hQ2 (by omega) _ r2 rfl R2 (fun i hi=>ht_ hi)
 ·by_cases hm:m=1
  ·subst hm
   refine ⟨f1,_,by rw [ht];exact Mach.sr_2F (w:=(sD n).W f1) (l:=rowOf (n+1) f1) hc h0 R rfl hv0 hev htb,fun m1 _=>⟨by omega,?_⟩⟩
   show if f1 0%2=0 then _ else _
   rw [if_neg hev]
   exact hQ1 rfl _ htb (fun i hi=>ht_ hi)
  ·obtain ⟨r2,o2,R2⟩:=Mach.sr_2R (w:=(sD n).W f1) (l:=rowOf (n+1) f1) hc h0 R rfl hv0 hev (by omega) hm64
   refine ⟨f1,_,by rw [ht];exact o2,fun m1 _=>⟨by omega,?_⟩⟩
   show if f1 0%2=0 then _ else _
   rw [if_neg hev]
   exact hQ2 (by omega) _ r2 rfl R2 (fun i hi=>ht_ hi)
theorem bnk (hn1:1≤n) (hn:n≤16) (hc:cs[c]?=some (Mach.srCl n kt)) (h0:pre.length=c) (hP:∀ p r said h,Pm h→Pv (k,Mach.T cs c p r pre said) h)
  (nxt:∀ told,∃ t',Mach.onF 20 (Mach.Bt cs (c+1) (pre++[(true,told)]))=some t')
  {Q:Option (List Nat × Nat)→PlS→Prop} (hQ:∀ q s',Mach.onF 20 (Mach.Bt cs (c+1) (pre++[(true,toldR q)]))=some s'.t→(∀ i,i<n+1→s'.f i=s'.g i)→Q q s') :
  ∀ (m:Nat) (s:PlS) (r:Nat→Nat),m+1<18446744073709551616→s.t=Mach.T cs c 2 r pre []→Mach.SrR r (m+1)→(∀ i,i<n+1→s.f i=s.g i)→WaitT (ka_ (sD n) addr (n+1) K A Z Pv hPv sb says turn fin wg k Pm) n Q m s:=by
 intro m
 induction m with
 | zero =>
  intro s r hm ht R hfg
  exact zc_ hn1 hn hc h0 hP nxt (by omega) (by omega) ht R hfg (fun y s' h1 h2=>hQ (some y) s' h1 h2) (fun _ s' h1 h2=>hQ none s' h1 h2) (fun h=>by omega)
 | succ m ih =>
  intro s r hm ht R hfg
  refine zc_ hn1 hn hc h0 hP nxt (by omega) hm ht R hfg (fun y s' h1 h2=>?_) (fun h=>by omega) (fun _ s' r' h1 h2 h3=>?_)
  ·show if true=true then _ else _
   rw [if_pos rfl]
   exact hQ (some y) s' h1 h2
  ·show if false=true then _ else _
   rw [if_neg (by decide)]
   exact ih s' r' (by omega) h1 h2 h3
structure SDo where
 w:Bool
 l:List Nat
 t:Int
def hr_ (t:Int):Nat:=(t%4).toNat
def ge_ (n:Nat) (d:SDo):Mach.Cl:=if d.w=true then Mach.swCl (fs_ d.l n) else Mach.srCl n (hr_ d.t+1)
def DoneT {B:Hand} {gv:Value} (A:Acc B gv) (n:Nat) (d:SDo) (s:A.S) (R:List Nat→A.S→Prop):Prop :=
 if d.w=true then wr_ A (fs_ d.l n) s fun q s=>R (toldW q) s else WaitT A n (fun q s=>R (toldR q) s) (hr_ d.t) s
theorem ms_ {t:Int}:hr_ t+1<18446744073709551616:=by
 have h1:=Int.emod_nonneg t (by decide:(4:Int)≠0)
 have h2:=Int.emod_lt_of_pos t (by decide:(0:Int)<4)
 unfold hr_;omega
def ju_ (n:Nat) (cs:List Mach.Cl):Prop:=∀ (i:Nat) (cl:Mach.Cl),cs[i]?=some cl→∃ d:SDo,cl=ge_ n d∧∀ w∈d.l,w<18446744073709551616
theorem cnz {d:SDo} (hc:cs[c]?=some (ge_ n d)) (h0:pre.length=c):∃ t',Mach.onF 20 (Mach.Bt cs c pre)=some t':=by
 unfold ge_ at hc
 by_cases h:d.w=true
 ·rw [if_pos h] at hc;exact ⟨_,Mach.sw_on hc h0⟩
 ·rw [if_neg h] at hc
  obtain ⟨r,h1,_⟩:=Mach.sr_on hc h0 ms_
  exact ⟨_,h1⟩
theorem ccg (hcs:ju_ n cs) (h0:pre.length=c):∃ t',Mach.onF 20 (Mach.Bt cs c pre)=some t':=by
 cases h:cs[c]? with
 | none=>exact ⟨_,Mach.on_over (f:=19) h⟩
 | some cl =>
  obtain ⟨d,rfl,_⟩:=hcs c cl h
  exact cnz h h0
theorem bqr {d:SDo} (hn1:1≤n) (hn:n≤16) (hd:∀ w∈d.l,w<18446744073709551616) (hcs:ju_ n cs) (hc:cs[c]?=some (ge_ n d)) (h0:pre.length=c) (hP:∀ p r said h,Pm h→Pv (k,Mach.T cs c p r pre said) h)
  {s:PlS} (ht:Mach.onF 20 (Mach.Bt cs c pre)=some s.t) (hfg:∀ i,i<n+1→s.f i=s.g i) :
  DoneT (ka_ (sD n) addr (n+1) K A Z Pv hPv sb says turn fin wg k Pm) n d s fun told s'=>Mach.onF 20 (Mach.Bt cs (c+1) (pre++[(true,told)]))=some s'.t∧∀ i,i<n+1→s'.f i=s'.g i:=by
 have nxt:∀ told,∃ t',Mach.onF 20 (Mach.Bt cs (c+1) (pre++[(true,told)]))=some t':=fun told=>ccg hcs (by simp [h0])
 unfold ge_ at hc
 unfold DoneT
 by_cases h:d.w=true
 ·rw [if_pos h] at hc ⊢
  rw [Mach.sw_on hc h0] at ht
  exact bhb hn1 hn dz_ (sa_ hn hd) hc h0 hP nxt (Option.some.inj ht).symm hfg fun q s' a b=>⟨a,b⟩
 ·rw [if_neg h] at hc ⊢
  obtain ⟨r,h1,R⟩:=Mach.sr_on hc h0 ms_
  rw [h1] at ht
  exact bnk hn1 hn hc h0 hP nxt (fun q s' a b=>⟨a,b⟩) _ s r ms_ (Option.some.inj ht).symm R hfg
end
section
variable {n:Nat} {cs:List Mach.Cl} {c v kt:Nat} {pre:List (Bool × List Nat)} {ws:List Nat}
theorem bng (hn:n≤16) (hl:ws.length=n) (hb:∀ w∈ws,w<18446744073709551616) (hc:cs[c]?=some (Mach.swCl ws)) (h0:pre.length=c)
  (hK:∀ r',r' 0=0→r' 7=(v+2)%18446744073709551616→GoodT (sD n) (Mach.T cs c (8+2*ws.length) r' pre [])) :
  ∀ (l:List Nat) (i x:Nat) (r:Nat→Nat),ws.drop i=x::l→r 0=0→r 1=v→r 6=x→GoodT (sD n) (Mach.T cs c (8+2*i) r pre []):=by
 intro l
 induction l with
 | nil =>
  intro i x r hd h00 h1 h6
  have hlen:=congrArg List.length hd
  rw [List.length_drop,List.length_singleton] at hlen
  have hx:ws[i]?=some x:=by have:=congrArg (·[0]?) hd;simpa using this
  have hx64:=hb x (List.mem_of_getElem? hx)
  refine jo_ (m:=(2,1+i)) fq_ fun f1 ok1=>?_
  obtain ⟨r',o,a,b⟩:=Mach.sw_wl (i:=i) (w:=(sD n).W f1) (l:=rowOf (n+1) f1) hc h0 h00 h1 h6 (by omega) (by omega) rfl (by rw [hm_];omega) jq_
  exact ⟨upd f1 (1+i) x,_,o,xq_ ok1 hx64,hK r' a b⟩
 | cons x1 l ih =>
  intro i x r hd h00 h1 h6
  have hlen:=congrArg List.length hd
  rw [List.length_drop,List.length_cons,List.length_cons] at hlen
  have hx:ws[i]?=some x:=by have:=congrArg (·[0]?) hd;simpa using this
  have hx64:=hb x (List.mem_of_getElem? hx)
  have hx1:ws[i+1]?=some x1:=by have:=congrArg (·[1]?) hd;simpa using this
  have hd1:ws.drop (i+1)=x1::l:=by rw [← List.drop_drop,hd];rfl
  refine jo_ (m:=(2,1+i)) fq_ fun f1 ok1=>?_
  obtain ⟨r',o,a,b,d⟩:=Mach.sw_w (w:=(sD n).W f1) (l:=rowOf (n+1) f1) hc h0 h00 h1 h6 (by omega) (by omega) hx1 (hb x1 (List.mem_of_getElem? hx1)) rfl (by rw [hm_];omega) jq_
  exact ⟨upd f1 (1+i) x,_,o,xq_ ok1 hx64,ih (i+1) x1 r' hd1 a b d⟩
theorem bnc (hn1:1≤n) (hn:n≤16) (hl:ws.length=n) (hb:∀ w∈ws,w<18446744073709551616) (hc:cs[c]?=some (Mach.swCl ws)) (h0:pre.length=c)
  (nxt:∀ told,∃ t',Mach.onF 20 (Mach.Bt cs (c+1) (pre++[(true,told)]))=some t'∧GoodT (sD n) t'):GoodT (sD n) (Mach.T cs c 0 (fun _=>0) pre []):=by
 obtain ⟨x0,l0,hws⟩:∃ x0 l0,ws=x0::l0:=by
  cases ws with
  | nil=>simp at hl;omega
  | cons a b=>exact ⟨a,b,rfl⟩
 have hx0:ws[0]?=some x0:=by rw [hws];rfl
 refine jo_ (m:=(1,0)) fq_ fun f1 ok1=>?_
 have hv0:(rowOf (n+1) f1)[0]?=some (f1 0):=dg_ (by omega)
 obtain ⟨tb,htb,gb⟩:=nxt (toldW none)
 by_cases hev:f1 0%2=0
 ·obtain ⟨r1,o,a,b,d⟩:=Mach.sw_0T (w:=(sD n).W f1) (l:=rowOf (n+1) f1) hc h0 rfl hv0 hev
  refine ⟨f1,_,o,ok1,?_⟩
  refine jo_ (m:=(5,0)) fq_ fun f2 ok2=>?_
  have hu0:(rowOf (n+1) f2)[0]?=some (f2 0):=dg_ (by omega)
  by_cases he:f2 0=f1 0
  ·obtain ⟨r2,o2,a2,b2,d2⟩:=Mach.sw_5T (w:=(sD n).W f2) (l:=rowOf (n+1) f2) hc h0 a b d rfl (he▸hu0) hx0 (hb x0 (List.mem_of_getElem? hx0)) jq_
   refine ⟨upd f2 0 ((f1 0+1)%18446744073709551616),_,o2,xq_ ok2 (Nat.mod_lt _ (by decide)),?_⟩
   refine bng hn hl hb hc h0 (fun r' h00 h7=>?_) l0 0 x0 r2 hws a2 b2 d2
   refine jo_ (m:=(2,0)) fq_ fun f3 ok3=>?_
   obtain ⟨te,hte,ge⟩:=nxt (toldW (some ((f1 0+2)%18446744073709551616)))
   exact ⟨upd f3 0 ((f1 0+2)%18446744073709551616),_,Mach.sw_z (w:=(sD n).W f3) (l:=rowOf (n+1) f3) hc h0 h00 h7 rfl (by rw [hm_];omega) jq_ hte,xq_ ok3 (Nat.mod_lt _ (by decide)),ge⟩
  ·exact ⟨f2,_,Mach.sw_5F (w:=(sD n).W f2) (l:=rowOf (n+1) f2) hc h0 a b rfl hu0 he htb,ok2,gb⟩
 ·exact ⟨f1,_,Mach.sw_0F (w:=(sD n).W f1) (l:=rowOf (n+1) f1) hc h0 rfl hv0 hev htb,ok1,gb⟩
theorem zb_ {m:Nat} (hn:n≤16) (hc:cs[c]?=some (Mach.srCl n kt)) (h0:pre.length=c)
  (hK:∀ (ws:List Nat) (r':Nat→Nat),Mach.SrR r' m→r' 1=v→ws.length=n→(∀ (j:Nat) x,ws[j]?=some x→r' (8+j)=x)→GoodT (sD n) (Mach.T cs c (5+n) r' pre [])) :
  ∀ (q:Nat) (acc:List Nat) (r:Nat→Nat),acc.length+q=n→Mach.SrR r m→r 1=v→(∀ (j:Nat) x,acc[j]?=some x→r (8+j)=x)→GoodT (sD n) (Mach.T cs c (5+acc.length) r pre []):=by
 intro q
 induction q with
 | zero =>
  intro acc r ha R h1 hr
  have e:acc.length=n:=by omega
  rw [e]
  exact hK acc r R h1 e hr
 | succ q ih =>
  intro acc r ha R h1 hr
  refine jo_ (m:=(1,1+acc.length)) fq_ fun f1 ok1=>?_
  obtain ⟨r',o,R',a,b,d⟩:=Mach.sr_w (w:=(sD n).W f1) (l:=rowOf (n+1) f1) hc h0 (i:=acc.length) (by omega) hn R h1 rfl (dg_ (by omega))
  refine ⟨f1,_,o,ok1,?_⟩
  have g:=ih (acc++[f1 (1+acc.length)]) r' (by simp;omega) R' a (fun j x hj=>?_)
  ·rwa [List.length_append,List.length_singleton] at g
  ·by_cases hjl:j<acc.length
   ·rw [List.getElem?_append_left hjl] at hj
    rw [d j hjl];exact hr j x hj
   ·rw [List.getElem?_append_right (by omega)] at hj
    have hlt:=(List.getElem?_eq_some_iff.1 hj).1
    simp only [List.length_singleton] at hlt
    obtain rfl:j=acc.length:=by omega
    rw [Nat.sub_self] at hj
    rw [b];exact Option.some.inj hj
theorem btx (hn1:1≤n) (hn:n≤16) (hc:cs[c]?=some (Mach.srCl n kt)) (h0:pre.length=c)
  (nxt:∀ told,∃ t',Mach.onF 20 (Mach.Bt cs (c+1) (pre++[(true,told)]))=some t'∧GoodT (sD n) t') :
  ∀ (m:Nat) (r:Nat→Nat),m+1<18446744073709551616→Mach.SrR r (m+1)→GoodT (sD n) (Mach.T cs c 2 r pre []):=by
 obtain ⟨tb,htb,gb⟩:=nxt (toldR none)
 intro m
 induction m with
 | zero =>
  intro r hm R
  refine jo_ (m:=(1,0)) fq_ fun f1 ok1=>?_
  have hv0:(rowOf (n+1) f1)[0]?=some (f1 0):=dg_ (by omega)
  by_cases hev:f1 0%2=0
  ·obtain ⟨r1,o,R1,a⟩:=Mach.sr_2T (w:=(sD n).W f1) (l:=rowOf (n+1) f1) hc h0 hn1 R rfl hv0 hev
   refine ⟨f1,_,o,ok1,?_⟩
   refine zb_ hn hc h0 (fun ws r' R' h1 hl hr=>?_) n [] r1 (by simp) R1 a (fun j x hj=>by simp at hj)
   refine jo_ (m:=(1,0)) fq_ fun f2 ok2=>?_
   have hu0:(rowOf (n+1) f2)[0]?=some (f2 0):=dg_ (by omega)
   by_cases he:f2 0=f1 0
   ·obtain ⟨te,hte,ge⟩:=nxt (toldR (some (ws,f1 0)))
    exact ⟨f2,_,Mach.sr_5T (w:=(sD n).W f2) (l:=rowOf (n+1) f2) hc h0 hn R' h1 hl hr rfl (he▸hu0) hte,ok2,ge⟩
   ·exact ⟨f2,_,Mach.sr_5F (w:=(sD n).W f2) (l:=rowOf (n+1) f2) hc h0 R' h1 rfl hu0 he htb,ok2,gb⟩
  ·exact ⟨f1,_,Mach.sr_2F (w:=(sD n).W f1) (l:=rowOf (n+1) f1) hc h0 R rfl hv0 hev htb,ok1,gb⟩
 | succ m ih =>
  intro r hm R
  refine jo_ (m:=(1,0)) fq_ fun f1 ok1=>?_
  have hv0:(rowOf (n+1) f1)[0]?=some (f1 0):=dg_ (by omega)
  by_cases hev:f1 0%2=0
  ·obtain ⟨r1,o,R1,a⟩:=Mach.sr_2T (w:=(sD n).W f1) (l:=rowOf (n+1) f1) hc h0 hn1 R rfl hv0 hev
   refine ⟨f1,_,o,ok1,?_⟩
   refine zb_ hn hc h0 (fun ws r' R' h1 hl hr=>?_) n [] r1 (by simp) R1 a (fun j x hj=>by simp at hj)
   refine jo_ (m:=(1,0)) fq_ fun f2 ok2=>?_
   have hu0:(rowOf (n+1) f2)[0]?=some (f2 0):=dg_ (by omega)
   by_cases he:f2 0=f1 0
   ·obtain ⟨te,hte,ge⟩:=nxt (toldR (some (ws,f1 0)))
    exact ⟨f2,_,Mach.sr_5T (w:=(sD n).W f2) (l:=rowOf (n+1) f2) hc h0 hn R' h1 hl hr rfl (he▸hu0) hte,ok2,ge⟩
   ·obtain ⟨r2,o2,R2⟩:=Mach.sr_5R (w:=(sD n).W f2) (l:=rowOf (n+1) f2) hc h0 R' h1 rfl hu0 he (by omega) hm
    exact ⟨f2,_,o2,ok2,ih r2 (by omega) R2⟩
  ·obtain ⟨r2,o2,R2⟩:=Mach.sr_2R (w:=(sD n).W f1) (l:=rowOf (n+1) f1) hc h0 R rfl hv0 hev (by omega) hm
   exact ⟨f1,_,o2,ok1,ih r2 (by omega) R2⟩
theorem cch (hn1:1≤n) (hn:n≤16) (hcs:ju_ n cs):∀ (m c:Nat) (pre:List (Bool × List Nat)),cs.length-c=m→pre.length=c→∃ t',Mach.onF 20 (Mach.Bt cs c pre)=some t'∧GoodT (sD n) t':=by
 intro m
 induction m with
 | zero =>
  intro c pre hm h0
  have h:cs[c]?=none:=List.getElem?_eq_none_iff.2 (by omega)
  exact ⟨_,Mach.on_over (f:=19) h,.over rfl⟩
 | succ m ih =>
  intro c pre hm h0
  have hlt:c<cs.length:=by omega
  have h:cs[c]?=some cs[c]:=List.getElem?_eq_getElem hlt
  obtain ⟨d,e,hd⟩:=hcs c _ h
  rw [e] at h
  have nxt:∀ told,∃ t',Mach.onF 20 (Mach.Bt cs (c+1) (pre++[(true,told)]))=some t'∧GoodT (sD n) t':=fun told=>ih (c+1) _ (by omega) (by simp [h0])
  unfold ge_ at h
  by_cases hw:d.w=true
  ·rw [if_pos hw] at h
   exact ⟨_,Mach.sw_on h h0,bnc hn1 hn dz_ (sa_ hn hd) h h0 nxt⟩
  ·rw [if_neg hw] at h
   obtain ⟨r,h1,R⟩:=Mach.sr_on h h0 ms_
   exact ⟨_,h1,btx hn1 hn h h0 nxt _ r ms_ R⟩
theorem bck (hn1:1≤n) (hn:n≤16) (hcs:ju_ n cs):∃ t',Mach.onF 20 (Mach.Bt cs 0 [])=some t'∧Mach.onF (sD n).fu { calls:=cs }=some t'∧GoodT (sD n) t':=by
 obtain ⟨t',h1,h2⟩:=cch hn1 hn hcs cs.length 0 [] (by omega) rfl
 exact ⟨t',h1,Mach.onF_more (k:=40) h1,h2⟩
end
end
section
theorem vn_ {α:Type} {f:α→List Value} {k:Nat} (hf:∀ a,(f a).length=k) {b:α} {v:Value} {j:Nat} (hj:j<k):∀ (l:List α) (i:Nat) (a:α),l[i]?=some a→(f a).set j v=f b→((l.map f).flatten).set (k*i+j) v=((l.set i b).map f).flatten:=by
 intro l
 induction l with
 | nil=>intro i a h;simp at h
 | cons c l ih =>
  intro i a h hs
  cases i with
  | zero =>
   have e:c=a:=by simpa using h
   subst e
   rw [List.map_cons,List.flatten_cons,Nat.mul_zero,Nat.zero_add,List.set_append_left _ _ (by rw [hf];exact hj),hs]
   rfl
  | succ i =>
   rw [List.map_cons,List.flatten_cons,List.set_append_right _ _ (by rw [hf,Nat.mul_add];omega),hf,show k*(i+1)+j-k=k*i+j by rw [Nat.mul_add];omega,ih i a (by simpa using h) hs]
   rfl
theorem hx_ {code:List Mach.In}:((code.map inC).flatten).length=code.length*7:=gu_ (k:=7) (fun _=>rfl) _
theorem hy_ {code new:List Mach.In}:(code.map inC).flatten++(new.map inC).flatten=((code++new).map inC).flatten:=by rw [List.map_append,List.flatten_append]
theorem gx_ {code:List Mach.In}:∀ w∈(code.map inC).flatten,one w=true:=by
 intro w hw
 obtain ⟨l,hl,hw⟩:=List.mem_flatten.1 hw
 obtain ⟨y,_,rfl⟩:=List.mem_map.1 hl
 simp only [inC,List.mem_cons,List.not_mem_nil,or_false] at hw
 rcases hw with rfl | rfl | rfl | rfl | rfl | rfl | rfl <;> rfl
theorem cfm {code:List Mach.In} {i v:Nat} {y:Mach.In} (h:code[i]?=some y):((code.map inC).flatten).set (7*i+6) (num v)=((code.set i ⟨y.op,y.on,y.a,y.b,y.c,y.d,v⟩).map inC).flatten :=
 vn_ (k:=7) (fun _=>rfl) (by omega) code i y h rfl
section
variable {B:Hand} [Lets B] {L F:List HProp} {x:B.X} {n k:Nat} {ws:List Nat}
theorem xj_ {kb ko m c i v:Nat} {code:List Mach.In} {y:Mach.In} (hh:Has L (vec 7 (.slice (some ⟨kb,ko,none⟩) m c) (code.map inC).flatten) F) (h:code[i]?=some y):Wt L kb (ko+7*i+6) (num v) (vec 7 (.slice (some ⟨kb,ko,none⟩) m c) ((code.set i ⟨y.op,y.on,y.a,y.b,y.c,y.d,v⟩).map inC).flatten::F):=by
 have hlt:=(List.getElem?_eq_some_iff.1 h).1
 rw [← cfm h,Nat.add_assoc]
 exact mg_ hh (by rw [hx_];omega)
def rwInv (n cb:Nat) (wv:Value) (x:B.X) (L:List HProp):PB.Inv (Nat × Value) B.X where
 e:=fun i=>[(0,wv),(2,.pointer (some ⟨cb,0,none⟩)),(3,.int .u64 (n:Nat)),(4,i.2),(5,.int .u64 (i.1:Nat))]
 L:=fun i=>vec 7 i.2 (((Mach.swPre 0 (Mach.swMid i.1)).map inC).flatten)::arr cb 0 [.slice none 0 0,.slice none 0 0]::L
 x:=fun _=>x
 ok:=fun i=>i.1≤n
theorem bnx {i:Nat}:Mach.swMid (i+1)=Mach.swMid i++[⟨17,0,6,0,0,0,i⟩,⟨2,0,6,0,0,0,1+i⟩]:=by
 unfold Mach.swMid
 rw [kp_,List.flatten_append]
 simp
theorem wa_ {b:Nat} {l l':List Mach.In}:Mach.swPre b l++l'=Mach.swPre b (l++l'):=rfl
theorem qx_ {b:Nat} {l:List Mach.In}:(Mach.swPre b l).length=7+l.length:=by simp [Mach.swPre];omega
set_option maxHeartbeats 1000000 in
theorem bfp {a:Option Addr} {c:Nat} (hn:ws.length≤16) (hr:RdsO L a ws.length (ws.map num)):Tr Try.prog B 54 [.slice a ws.length c] L x fun w L' x'=>∃ ka kc da dc,w=.agg #[.slice ka (16+2*ws.length) kc,.slice da ws.length dc]∧L'=clC (.slice ka (16+2*ws.length) kc) (.slice da ws.length dc) (Mach.swCl ws)::L∧x'=x:=by
 refine Tr.post (R:=fun w L' x'=>∃ ka kc da dc,w=.agg #[.slice ka (16+2*ws.length) kc,.slice da ws.length dc]∧x'=x∧∀ h,Star L' h→Star (clC (.slice ka (16+2*ws.length) kc) (.slice da ws.length dc) (Mach.swCl ws)::L) h) ?_
  (by rintro v L' x' ⟨ka,kc,da,dc,rfl,rfl,hs⟩;exact ⟨_,⟨ka,kc,da,dc,rfl,rfl,rfl⟩,hs⟩)
 obtain ⟨n,hwn⟩:∃ n,ws.length=n:=⟨_,rfl⟩
 rw [hwn] at hn hr ⊢
 have cv:∀ n:Nat,n<1000→IntKind.u64.wrap ((n:Nat):Int)=((n:Nat):Int):=fun n hn=>wrap_u64 (by omega) (by omega)
 refine be_ Try.func54 rfl Try.ntmps54 (by simp) fun um Q _ hQ=>?_
 simp only [argE,Nat.zero_add,Nat.reduceAdd]
 repeat (first | (apply wo_mo;apply cn_;exact trivial) | refine bb_ ?_ | (refine wR ?_;try simp only [oS]))
 rintro v' L' ⟨cb,rfl,rfl⟩
 repeat (first | (apply wo_po;apply ff_;exact rfl;exact cv n (by omega);exact trivial) | (apply wo_po;apply fh_;(repeat (first | exact EvL.nil | apply EvL.cons rfl));exact rfl;exact trivial) | (apply wo_mo;apply bi_ (sz:=7);exact rfl;(repeat (first | exact EvL.nil | apply EvL.cons rfl));exact rfl;(repeat (first | exact List.forall_mem_nil _ | refine List.forall_mem_cons.2 ⟨rfl,?_⟩));omega;exact trivial) | refine bb_ ?_ | (refine wR ?_;try simp only [oS]) | refine ba_ ?_ | refine wM ?_ | refine wA ?_ | refine wE ?_)
 rintro v' L' ⟨kb,rfl,rfl⟩
 repeat (first | refine bb_ ?_ | (refine wR ?_;try simp only [oS]) | refine ba_ ?_ | refine wA ?_ | refine bd_ ?_)
 refine dd_ (vec 7 (.slice (some ⟨kb,0,none⟩) 7 7) (((Mach.swPre 0 (Mach.swMid 0)).map inC).flatten)::arr cb 0 [.slice none 0 0,.slice none 0 0]::L) (fun h st=>hq_ (n:=7) rfl st) ?_
 refine ck_ (rwInv n cb (.slice a n c) x L) (fun i=>n-i.1) (0,.slice (some ⟨kb,0,none⟩) 7 7) (Nat.zero_le _) ⟨rfl,rfl,rfl,rfl,rfl,trivial⟩ .refl rfl ?_
 rintro ⟨i,sv⟩ hi
 replace hi:i≤n:=hi
 simp only [rwInv]
 refine de_ (bo_ .here (bg_ (by omega))) ?_
 rintro ⟨ka,m,kc,rfl,hm,_⟩
 obtain rfl:m=7+2*i:=by rw [hx_,qx_,Mach.swMid_len] at hm;omega
 by_cases hlt:i<n
 ·have h1:IntKind.u64.wrap (1+(i:Int))=((1+i:Nat):Int):=(wrap_u64 (by omega) (by omega)).trans (by omega)
  have h2:IntKind.u64.wrap ((i:Int)+1)=((i+1:Nat):Int):=(wrap_u64 (by omega) (by omega)).trans (by omega)
  repeat (first | (apply wo_po;apply bs_;exact rfl;exact rfl;apply dy_;exact h1;exact trivial) | (apply wo_po;apply fh_;(repeat (first | exact EvL.nil | apply EvL.cons rfl));exact rfl;exact trivial) | (apply wo_mo;apply bi_ (sz:=7);exact rfl;(repeat (first | exact EvL.nil | apply EvL.cons rfl));exact rfl;(repeat (first | exact List.forall_mem_nil _ | refine List.forall_mem_cons.2 ⟨rfl,?_⟩));omega;exact trivial) | refine wlssT ?_ | refine bb_ ?_ | (refine wR ?_;try simp only [oS]) | refine ba_ ?_ | refine wM ?_ | refine wT ?_ | refine bk_ ?_ | refine bd_ ?_)
  rintro v' L' ⟨nb,rfl,rfl⟩
  repeat (first | (apply wo_mo;apply cc_ (sz:=7) (new:=(([⟨17,0,6,0,0,0,i⟩,⟨2,0,6,0,0,0,1+i⟩]:List Mach.In).map inC).flatten);exact rfl;exact rfl;exact rfl;exact rfl;exact (.there .here);exact rfl;exact .inr ⟨_,_,rfl,Rds.all .here⟩;exact gx_;(simp only [cd_];omega);exact trivial))
  rintro v' L' hL
  rw [hy_,wa_,← bnx] at hL
  subst hL
  repeat (first | (apply wo_po;apply bs_;exact rfl;exact rfl;apply dy_;exact h2;exact gY) | (refine wR ?_;try simp only [oS]) | refine ba_ ?_ | refine wM ?_ | refine wA ?_)
  refine cr_ (I:=rwInv n cb (.slice a n c) x L) (R:=fun j=>n-j.1<n-i) (i+1,v') (by show n-(i+1)<n-i;omega) (show i+1≤n by omega) ⟨rfl,rfl,rfl,rfl,rfl,trivial⟩ (.take .here (.drop .refl)) rfl
 ·obtain rfl:i=n:=by omega
  repeat (first | (apply wo_po;apply fh_;(repeat (first | exact EvL.nil | apply EvL.cons rfl));exact rfl;exact trivial) | (apply wo_mo;apply bi_ (sz:=7);exact rfl;(repeat (first | exact EvL.nil | apply EvL.cons rfl));exact rfl;(repeat (first | exact List.forall_mem_nil _ | refine List.forall_mem_cons.2 ⟨rfl,?_⟩));omega;exact trivial) | refine wlssF ?_ | refine bb_ ?_ | (refine wR ?_;try simp only [oS]) | refine ba_ ?_ | refine wM ?_ | refine wF ?_ | refine ch_ ?_)
  rintro v' L' ⟨nb,rfl,rfl⟩
  repeat (first | (apply wo_mo;apply cc_ (sz:=7) (new:=((Mach.swEnd.take 5).map inC).flatten);exact rfl;exact rfl;exact rfl;exact rfl;exact (.there .here);exact rfl;exact .inr ⟨_,_,rfl,Rds.all .here⟩;exact gx_;(simp only [cd_];omega);exact trivial))
  rintro v' L' hL
  rw [hy_,wa_] at hL
  subst hL
  refine cm_ (bo_ .here (bg_ (by omega))) ?_
  rintro ⟨ka2,m2,kc2,rfl,hm2,_⟩
  obtain rfl:m2=12+2*i:=by rw [hx_,qx_,List.length_append,Mach.swMid_len] at hm2;simp [Mach.swEnd] at hm2;omega
  repeat (first | (apply wo_po;apply ff_;exact rfl;exact cv (12+2*i) (by omega);exact trivial) | (apply wo_po;apply fh_;(repeat (first | exact EvL.nil | apply EvL.cons rfl));exact rfl;exact trivial) | (apply wo_mo;apply bi_ (sz:=7);exact rfl;(repeat (first | exact EvL.nil | apply EvL.cons rfl));exact rfl;(repeat (first | exact List.forall_mem_nil _ | refine List.forall_mem_cons.2 ⟨rfl,?_⟩));omega;exact trivial) | refine bb_ ?_ | (refine wR ?_;try simp only [oS]) | refine ba_ ?_ | refine wM ?_ | refine wA ?_ | refine wE ?_)
  rintro v' L' ⟨nb2,rfl,rfl⟩
  repeat (first | (apply wo_mo;apply cc_ (sz:=7) (new:=((Mach.swEnd.drop 5).map inC).flatten);exact rfl;exact rfl;exact rfl;exact rfl;exact (.there .here);exact rfl;exact .inr ⟨_,_,rfl,Rds.all .here⟩;exact gx_;(simp only [cd_];omega);exact trivial))
  rintro v' L' hL
  rw [hy_,wa_,List.append_assoc,List.take_append_drop] at hL
  subst hL
  refine cm_ (bo_ .here (bg_ (by omega))) ?_
  rintro ⟨ka3,m3,kc3,rfl,hm3,_,hz3,hy3⟩
  obtain rfl:m3=16+2*i:=by rw [hx_,qx_,List.length_append,Mach.swMid_len] at hm3;simp [Mach.swEnd] at hm3;omega
  cases ka3 with
  | none=>have:=hz3 rfl;omega
  | some ad =>
  obtain ⟨kb0,ko,sp⟩:=ad
  cases hy3 _ rfl
  have w3:∀ {G:List HProp},Wt (vec 7 (.slice (some ⟨kb0,ko,none⟩) (16+2*i) kc3) ((Mach.swPre 0 (Mach.swMid i++Mach.swEnd)).map inC).flatten::G) kb0 (ko+7*3+6) (num (12+2*i)) (vec 7 (.slice (some ⟨kb0,ko,none⟩) (16+2*i) kc3) (((Mach.swPre 0 (Mach.swMid i++Mach.swEnd)).set 3 ⟨19,0,3,2,0,0,12+2*i⟩).map inC).flatten::G):=fun {G}=>xj_ (i:=3) (y:=⟨19,0,3,2,0,0,0⟩) .here rfl
  have w6:∀ {G:List HProp},Wt (vec 7 (.slice (some ⟨kb0,ko,none⟩) (16+2*i) kc3) (((Mach.swPre 0 (Mach.swMid i++Mach.swEnd)).set 3 ⟨19,0,3,2,0,0,12+2*i⟩).map inC).flatten::G) kb0 (ko+7*6+6) (num (12+2*i)) (vec 7 (.slice (some ⟨kb0,ko,none⟩) (16+2*i) kc3) ((Mach.swPre (12+2*i) (Mach.swMid i++Mach.swEnd)).map inC).flatten::G):=fun {G}=>xj_ (i:=6) (y:=⟨19,0,5,0,0,0,0⟩) .here rfl
  repeat (first | (apply wo_po;apply bz_ (r:=ko+7*3);exact rfl;exact rfl;omega;omega;omega;exact trivial) | (apply wo_pm;apply cf_ (v:=num (12+2*i));exact rfl;exact rfl;exact rfl;exact w3;exact trivial) | (apply wo_po;apply bz_ (r:=ko+7*6);exact rfl;exact rfl;omega;omega;omega;exact trivial) | (apply wo_pm;apply cf_ (v:=num (12+2*i));exact rfl;exact rfl;exact rfl;exact w6;exact trivial) | refine bb_ ?_ | (refine wR ?_;try simp only [oS]) | refine ba_ ?_ | refine wM ?_ | refine wA ?_ | refine wD ?_)
  refine bt_ (.cons rfl .nil) trivial (vq_ hr.there.there.there.there (by omega)) ?_
  rintro dv L' x' ⟨rfl,rfl⟩
  refine cm_ (bo_ .here (bg_ (by omega))) ?_
  rintro ⟨da,dn,dc,rfl,hdn,_⟩
  obtain rfl:dn=i:=by rw [List.length_map] at hdn;omega
  repeat (first | (apply wo_po;apply fh_;(repeat (first | exact EvL.nil | apply EvL.cons rfl));exact rfl;exact trivial) | (apply wo_pm;apply ct_ (b:=cb) (c:=0) (k:=0) (a:=0) (vs:=[.slice none 0 0,.slice none 0 0]);exact rfl;exact rfl;exact rfl;(intro w hw;simp [Value.cells] at hw;rcases hw with rfl | rfl <;> rfl);exact rfl;exact Nat.le_refl 2;exact (.there (.there (.there (.there .here))));exact trivial) | refine ba_ ?_ | refine bw_ ?_)
  refine fw_ (rs:=[.cell 2 68]) Try.func54 Try.results54 hQ (.inl rfl) (.cons (.cell (vs:=[.slice (some ⟨kb0,ko,none⟩) (16+2*dn) kc3,.slice da dn dc]) rfl rfl (Rds.all (.there (.there (.there (.there .here)))))) .nil) ?_
  refine ⟨_,_,_,_,rfl,rfl,fun h st=>?_⟩
  subst hwn
  exact bn_ (bj_ (M:=[_,_]) (Ent.star (.take (.there .here) (.take .here (.drop (.drop (.drop .refl))))) st)) (fun _ z=>z) fun _ z=>z
def rtInv (n k cb:Nat) (x:B.X) (L:List HProp):PB.Inv (Nat × Value) B.X where
 e:=fun i=>[(0,.int .i64 (n:Nat)),(1,.int .u64 (k:Nat)),(4,.pointer (some ⟨cb,0,none⟩)),(5,i.2),(6,.int .i64 (i.1:Nat))]
 L:=fun i=>vec 7 i.2 (((Mach.srPre k 0 (Mach.srMid i.1)).map inC).flatten)::arr cb 0 [.slice none 0 0,.slice none 0 0]::L
 x:=fun _=>x
 ok:=fun i=>i.1≤n
def srA8 (a:Nat):List Mach.In:=[⟨1,0,4,0,0,0,0⟩,⟨19,0,4,1,0,0,a⟩,⟨9,0,6,6,2,0,0⟩,⟨20,0,0,6,0,0,2⟩,⟨6,0,5,0,0,0,51⟩,⟨22,0,5,0,0,0,0⟩,⟨22,0,0,0,0,0,0⟩,⟨23,0,0,0,0,0,0⟩]
def bpj (n k cb:Nat) (x:B.X) (L:List HProp):PB.Inv (Nat × Value) B.X where
 e:=fun i=>[(0,.int .i64 (n:Nat)),(4,.pointer (some ⟨cb,0,none⟩)),(5,i.2),(9,.int .i64 (i.1:Nat))]
 L:=fun i=>vec 7 i.2 (((Mach.srPre k (7+n) (Mach.srMid n++(Mach.srAft (13+n)++Mach.srTell i.1))).map inC).flatten)::arr cb 0 [.slice none 0 0,.slice none 0 0]::L
 x:=fun _=>x
 ok:=fun i=>i.1≤n
theorem bpd {i:Nat}:Mach.srMid (i+1)=Mach.srMid i++[⟨1,0,8+i,0,0,0,1+i⟩]:=by
 unfold Mach.srMid
 rw [kp_]
theorem bhz {i:Nat}:Mach.srTell (i+1)=Mach.srTell i++[⟨22,0,8+i,0,0,0,0⟩]:=by
 unfold Mach.srTell
 rw [kp_]
theorem gj_ {n:Nat}:(Mach.srMid n).length=n:=by simp [Mach.srMid]
theorem tb_ {n:Nat}:(Mach.srTell n).length=n:=by simp [Mach.srTell]
theorem kg_ {k b:Nat} {l l':List Mach.In}:Mach.srPre k b l++l'=Mach.srPre k b (l++l'):=rfl
theorem kf_ {k b:Nat} {l:List Mach.In}:(Mach.srPre k b l).length=5+l.length:=by simp [Mach.srPre];omega
theorem bvh {k b j:Nat} {l:List Mach.In}:(Mach.srPre k b l)[5+j]?=l[j]?:=by rw [Nat.add_comm];rfl
theorem bvg {k b j:Nat} {l:List Mach.In} {y:Mach.In}:(Mach.srPre k b l).set (5+j) y=Mach.srPre k b (l.set j y):=by rw [Nat.add_comm];rfl
set_option maxHeartbeats 2000000 in
theorem qg_ (h1:1≤n) (hn:n≤16):Tr Try.prog B 34 [.int .i64 (n:Nat),.int .u64 (k:Nat)] L x fun w L' x'=>∃ ka kc,w=.agg #[.slice ka (16+2*n) kc,.slice none 0 0]∧L'=clC (.slice ka (16+2*n) kc) (.slice none 0 0) (Mach.srCl n k)::L∧x'=x:=by
 refine Tr.post (R:=fun w L' x'=>∃ ka kc,w=.agg #[.slice ka (16+2*n) kc,.slice none 0 0]∧x'=x∧∀ h,Star L' h→Star (clC (.slice ka (16+2*n) kc) (.slice none 0 0) (Mach.srCl n k)::L) h) ?_
  (by rintro v L' x' ⟨ka,kc,rfl,rfl,hs⟩;exact ⟨_,⟨ka,kc,rfl,rfl,rfl⟩,hs⟩)
 have cv:∀ n:Nat,n<1000→IntKind.u64.wrap ((n:Nat):Int)=((n:Nat):Int):=fun n hn=>wrap_u64 (by omega) (by omega)
 refine be_ Try.func34 rfl Try.ntmps34 (by simp) fun um Q _ hQ=>?_
 simp only [argE,Nat.zero_add,Nat.reduceAdd]
 repeat (first | (apply wo_mo;apply cn_;exact trivial) | refine bb_ ?_ | (refine wR ?_;try simp only [oS]))
 rintro v' L' ⟨cb,rfl,rfl⟩
 repeat (first | (apply wo_po;apply fh_;(repeat (first | exact EvL.nil | apply EvL.cons rfl));exact rfl;exact trivial) | (apply wo_mo;apply bi_ (sz:=7);exact rfl;(repeat (first | exact EvL.nil | apply EvL.cons rfl));exact rfl;(repeat (first | exact List.forall_mem_nil _ | refine List.forall_mem_cons.2 ⟨rfl,?_⟩));omega;exact trivial) | refine bb_ ?_ | (refine wR ?_;try simp only [oS]) | refine ba_ ?_ | refine wM ?_)
 rintro v' L' ⟨kb,rfl,rfl⟩
 repeat (first | refine bb_ ?_ | (refine wR ?_;try simp only [oS]) | refine ba_ ?_ | refine wA ?_ | refine bd_ ?_)
 refine dd_ (vec 7 (.slice (some ⟨kb,0,none⟩) 5 5) (((Mach.srPre k 0 (Mach.srMid 0)).map inC).flatten)::arr cb 0 [.slice none 0 0,.slice none 0 0]::L) (fun h st=>hq_ (n:=5) rfl st) ?_
 refine ck_ (rtInv n k cb x L) (fun i=>n-i.1) (0,.slice (some ⟨kb,0,none⟩) 5 5) (Nat.zero_le _) ⟨rfl,rfl,rfl,rfl,rfl,trivial⟩ .refl rfl ?_
 rintro ⟨i,sv⟩ hi
 replace hi:i≤n:=hi
 simp only [rtInv]
 refine de_ (bo_ .here (bg_ (by omega))) ?_
 rintro ⟨ka,m,kc,rfl,hm,_⟩
 obtain rfl:m=5+i:=by rw [hx_,kf_,gj_] at hm;omega
 by_cases hlt:i<n
 ·have h8:IntKind.i64.wrap (8+(i:Int))=((8+i:Nat):Int):=(fk_ (by omega) (by omega)).trans (by omega)
  have h1i:IntKind.i64.wrap (1+(i:Int))=((1+i:Nat):Int):=(fk_ (by omega) (by omega)).trans (by omega)
  repeat (first | (apply wo_po;apply bs_;exact rfl;exact rfl;apply dy_;exact h8;exact trivial) | (apply wo_po;apply bs_;exact rfl;exact rfl;apply dy_;exact h1i;exact trivial) | (apply wo_po;apply ff_;exact rfl;exact cv (1+i) (by omega);exact trivial) | (apply wo_po;apply fh_;(repeat (first | exact EvL.nil | apply EvL.cons rfl));exact rfl;exact trivial) | (apply wo_mo;apply bi_ (sz:=7);exact rfl;(repeat (first | exact EvL.nil | apply EvL.cons rfl));exact rfl;(repeat (first | exact List.forall_mem_nil _ | refine List.forall_mem_cons.2 ⟨rfl,?_⟩));omega;exact trivial) | refine wlssT ?_ | refine bb_ ?_ | (refine wR ?_;try simp only [oS]) | refine ba_ ?_ | refine wM ?_ | refine wT ?_ | refine bk_ ?_ | refine bd_ ?_)
  rintro v' L' ⟨nb,rfl,rfl⟩
  repeat (first | (apply wo_mo;apply cc_ (sz:=7) (new:=(([⟨1,0,8+i,0,0,0,1+i⟩]:List Mach.In).map inC).flatten);exact rfl;exact rfl;exact rfl;exact rfl;exact (.there .here);exact rfl;exact .inr ⟨_,_,rfl,Rds.all .here⟩;exact gx_;(simp only [cd_];omega);exact trivial))
  rintro v' L' hL
  rw [hy_,kg_,← bpd] at hL
  subst hL
  repeat (first | (refine wR ?_;try simp only [oS]) | refine ba_ ?_ | refine wM ?_ | refine wA ?_ | refine wadd ?_)
  refine cr_ (I:=rtInv n k cb x L) (R:=fun j=>n-j.1<n-i) (i+1,v') (by show n-(i+1)<n-i;omega) (show i+1≤n by omega) ⟨rfl,rfl,rfl,rfl,rfl,trivial⟩ (.take .here (.drop .refl)) rfl
 ·obtain rfl:i=n:=by omega
  repeat (first | (apply wo_po;apply fh_;(repeat (first | exact EvL.nil | apply EvL.cons rfl));exact rfl;exact trivial) | (apply wo_mo;apply bi_ (sz:=7);exact rfl;(repeat (first | exact EvL.nil | apply EvL.cons rfl));exact rfl;(repeat (first | exact List.forall_mem_nil _ | refine List.forall_mem_cons.2 ⟨rfl,?_⟩));omega;exact trivial) | refine wlssF ?_ | refine bb_ ?_ | (refine wR ?_;try simp only [oS]) | refine ba_ ?_ | refine wM ?_ | refine wF ?_ | refine ch_ ?_)
  rintro v' L' ⟨nb,rfl,rfl⟩
  repeat (first | (apply wo_mo;apply cc_ (sz:=7) (new:=(((srA8 0).take 2).map inC).flatten);exact rfl;exact rfl;exact rfl;exact rfl;exact (.there .here);exact rfl;exact .inr ⟨_,_,rfl,Rds.all .here⟩;exact gx_;(simp only [cd_];omega);exact trivial))
  rintro v' L' hL
  rw [hy_,kg_] at hL
  subst hL
  refine cm_ (bo_ .here (bg_ (by omega))) ?_
  rintro ⟨ka2,m2,kc2,rfl,hm2,_⟩
  obtain rfl:m2=7+i:=by rw [hx_,kf_,List.length_append,gj_] at hm2;simp [srA8] at hm2;omega
  have hs:IntKind.i64.wrap (((7+i:Nat):Int)-1)=((6+i:Nat):Int):=(fk_ (by omega) (by omega)).trans (by omega)
  repeat (first | (apply wo_po;apply bs_;exact rfl;exact rfl;apply ps_;exact hs;exact trivial) | (apply wo_po;apply ff_;exact rfl;exact cv (7+i) (by omega);exact trivial) | (apply wo_po;apply fh_;(repeat (first | exact EvL.nil | apply EvL.cons rfl));exact rfl;exact trivial) | (apply wo_mo;apply bi_ (sz:=7);exact rfl;(repeat (first | exact EvL.nil | apply EvL.cons rfl));exact rfl;(repeat (first | exact List.forall_mem_nil _ | refine List.forall_mem_cons.2 ⟨rfl,?_⟩));omega;exact trivial) | refine bb_ ?_ | (refine wR ?_;try simp only [oS]) | refine ba_ ?_ | refine wM ?_ | refine wA ?_ | refine wE ?_)
  rintro v' L' ⟨nb2,rfl,rfl⟩
  repeat (first | (apply wo_mo;apply cc_ (sz:=7) (new:=(((srA8 0).drop 2).map inC).flatten);exact rfl;exact rfl;exact rfl;exact rfl;exact (.there .here);exact rfl;exact .inr ⟨_,_,rfl,Rds.all .here⟩;exact gx_;(simp only [cd_];omega);exact trivial))
  rintro v' L' hL
  rw [hy_,kg_,List.append_assoc,List.take_append_drop] at hL
  subst hL
  refine cm_ (bo_ .here (bg_ (by omega))) ?_
  rintro ⟨ka3,m3,kc3,rfl,hm3,_,hz3,hy3⟩
  obtain rfl:m3=13+i:=by rw [hx_,kf_,List.length_append,gj_] at hm3;simp [srA8] at hm3;omega
  cases ka3 with
  | none=>have:=hz3 rfl;omega
  | some ad =>
  obtain ⟨kb0,ko,sp⟩:=ad
  cases hy3 _ rfl
  have w4:∀ {G:List HProp},Wt (vec 7 (.slice (some ⟨kb0,ko,none⟩) (13+i) kc3) ((Mach.srPre k 0 (Mach.srMid i++srA8 0)).map inC).flatten::G) kb0 (ko+7*4+6) (num (7+i)) (vec 7 (.slice (some ⟨kb0,ko,none⟩) (13+i) kc3) ((Mach.srPre k (7+i) (Mach.srMid i++srA8 0)).map inC).flatten::G):=fun {G}=>xj_ (i:=4) (y:=⟨19,0,3,2,0,0,0⟩) .here rfl
  have e6:∀ b,(Mach.srPre k (7+i) (Mach.srMid i++srA8 b))[6+i]?=some ⟨19,0,4,1,0,0,b⟩:=fun b=>by
   rw [show 6+i=5+(i+1) by omega,bvh,List.getElem?_append_right (by rw [gj_];omega),gj_,Nat.add_sub_cancel_left];rfl
  have e7:(Mach.srPre k (7+i) (Mach.srMid i++srA8 0)).set (6+i) ⟨19,0,4,1,0,0,13+i⟩=Mach.srPre k (7+i) (Mach.srMid i++srA8 (13+i)):=by
   rw [show 6+i=5+(i+1) by omega,bvg,List.set_append_right _ _ (by rw [gj_];omega),gj_,Nat.add_sub_cancel_left];rfl
  have w6:∀ {G:List HProp},Wt (vec 7 (.slice (some ⟨kb0,ko,none⟩) (13+i) kc3) ((Mach.srPre k (7+i) (Mach.srMid i++srA8 0)).map inC).flatten::G) kb0 (ko+7*(6+i)+6) (num (13+i)) (vec 7 (.slice (some ⟨kb0,ko,none⟩) (13+i) kc3) ((Mach.srPre k (7+i) (Mach.srMid i++srA8 (13+i))).map inC).flatten::G):=fun {G}=>by
   rw [← e7];exact xj_ .here (e6 0)
  repeat (first | (apply wo_po;apply bz_ (r:=ko+7*4);exact rfl;exact rfl;omega;omega;omega;exact trivial) | (apply wo_pm;apply cf_ (v:=num (7+i));exact rfl;exact rfl;exact rfl;exact w4;exact trivial) | (apply wo_po;apply ff_;exact rfl;exact cv (13+i) (by omega);exact trivial) | (apply wo_po;apply bz_ (r:=ko+7*(6+i));exact rfl;exact rfl;omega;omega;omega;exact trivial) | (apply wo_pm;apply cf_ (v:=num (13+i));exact rfl;exact rfl;exact rfl;exact w6;exact trivial) | (apply wo_po;apply fh_;(repeat (first | exact EvL.nil | apply EvL.cons rfl));exact rfl;exact trivial) | (apply wo_mo;apply bi_ (sz:=7);exact rfl;(repeat (first | exact EvL.nil | apply EvL.cons rfl));exact rfl;(repeat (first | exact List.forall_mem_nil _ | refine List.forall_mem_cons.2 ⟨rfl,?_⟩));omega;exact trivial) | refine bb_ ?_ | (refine wR ?_;try simp only [oS]) | refine ba_ ?_ | refine wM ?_ | refine wA ?_ | refine wD ?_ | refine wE ?_)
  rintro v' L' ⟨nb3,rfl,rfl⟩
  repeat (first | (apply wo_mo;apply cc_ (sz:=7) (new:=(([⟨22,0,0,0,0,0,0⟩,⟨22,0,1,0,0,0,0⟩]:List Mach.In).map inC).flatten);exact rfl;exact rfl;exact rfl;exact rfl;exact (.there .here);exact rfl;exact .inr ⟨_,_,rfl,Rds.all .here⟩;exact gx_;(simp only [cd_];omega);exact trivial))
  rintro v' L' hL
  rw [hy_,kg_,List.append_assoc,show srA8 (13+i)++([⟨22,0,0,0,0,0,0⟩,⟨22,0,1,0,0,0,0⟩]:List Mach.In)=Mach.srAft (13+i)++Mach.srTell 0 from rfl] at hL
  subst hL
  repeat (first | refine bb_ ?_ | (refine wR ?_;try simp only [oS]) | refine ba_ ?_ | refine wA ?_ | refine bd_ ?_)
  refine ck_ (bpj i k cb x L) (fun j=>i-j.1) (0,v') (Nat.zero_le _) ⟨rfl,rfl,rfl,rfl,trivial⟩ (.take .here (.drop (.drop (.drop .refl)))) rfl ?_
  rintro ⟨q,sv⟩ hq
  replace hq:q≤i:=hq
  simp only [bpj]
  refine de_ (bo_ .here (bg_ (by omega))) ?_
  rintro ⟨ka4,m4,kc4,rfl,hm4,_⟩
  obtain rfl:m4=15+i+q:=by rw [hx_,kf_,List.length_append,gj_,List.length_append,tb_] at hm4;simp [Mach.srAft] at hm4;omega
  by_cases hlt2:q<i
  ·have h8:IntKind.i64.wrap (8+(q:Int))=((8+q:Nat):Int):=(fk_ (by omega) (by omega)).trans (by omega)
   repeat (first | (apply wo_po;apply bs_;exact rfl;exact rfl;apply dy_;exact h8;exact trivial) | (apply wo_po;apply fh_;(repeat (first | exact EvL.nil | apply EvL.cons rfl));exact rfl;exact trivial) | (apply wo_mo;apply bi_ (sz:=7);exact rfl;(repeat (first | exact EvL.nil | apply EvL.cons rfl));exact rfl;(repeat (first | exact List.forall_mem_nil _ | refine List.forall_mem_cons.2 ⟨rfl,?_⟩));omega;exact trivial) | refine wlssT ?_ | refine bb_ ?_ | (refine wR ?_;try simp only [oS]) | refine ba_ ?_ | refine wM ?_ | refine wT ?_ | refine bk_ ?_ | refine bd_ ?_)
   rintro v' L' ⟨nb4,rfl,rfl⟩
   repeat (first | (apply wo_mo;apply cc_ (sz:=7) (new:=(([⟨22,0,8+q,0,0,0,0⟩]:List Mach.In).map inC).flatten);exact rfl;exact rfl;exact rfl;exact rfl;exact (.there .here);exact rfl;exact .inr ⟨_,_,rfl,Rds.all .here⟩;exact gx_;(simp only [cd_];omega);exact trivial))
   rintro v' L' hL
   rw [hy_,kg_,List.append_assoc,List.append_assoc,← bhz] at hL
   subst hL
   repeat (first | (refine wR ?_;try simp only [oS]) | refine ba_ ?_ | refine wM ?_ | refine wA ?_ | refine wadd ?_)
   refine cr_ (I:=bpj i k cb x L) (R:=fun j=>i-j.1<i-q) (q+1,v') (by show i-(q+1)<i-q;omega) (show q+1≤i by omega) ⟨rfl,rfl,rfl,rfl,trivial⟩ (.take .here (.drop .refl)) rfl
  ·obtain rfl:q=i:=by omega
   repeat (first | (apply wo_po;apply fh_;(repeat (first | exact EvL.nil | apply EvL.cons rfl));exact rfl;exact trivial) | (apply wo_mo;apply bi_ (sz:=7);exact rfl;(repeat (first | exact EvL.nil | apply EvL.cons rfl));exact rfl;(repeat (first | exact List.forall_mem_nil _ | refine List.forall_mem_cons.2 ⟨rfl,?_⟩));omega;exact trivial) | refine wlssF ?_ | refine bb_ ?_ | (refine wR ?_;try simp only [oS]) | refine ba_ ?_ | refine wM ?_ | refine wF ?_ | refine ch_ ?_)
   rintro v' L' ⟨nb4,rfl,rfl⟩
   repeat (first | (apply wo_mo;apply cc_ (sz:=7) (new:=(([⟨23,0,0,0,0,0,0⟩]:List Mach.In).map inC).flatten);exact rfl;exact rfl;exact rfl;exact rfl;exact (.there .here);exact rfl;exact .inr ⟨_,_,rfl,Rds.all .here⟩;exact gx_;(simp only [cd_];omega);exact trivial))
   rintro v' L' hL
   rw [hy_,kg_,List.append_assoc,List.append_assoc] at hL
   subst hL
   refine cm_ (bo_ .here (bg_ (by omega))) ?_
   rintro ⟨ka5,m5,kc5,rfl,hm5,_⟩
   obtain rfl:m5=16+2*q:=by rw [hx_,kf_,List.length_append,gj_,List.length_append,List.length_append,tb_] at hm5;simp [Mach.srAft] at hm5;omega
   repeat (first | (apply wo_po;apply fh_;(repeat (first | exact EvL.nil | apply EvL.cons rfl));exact rfl;exact trivial) | (apply wo_pm;apply ct_ (b:=cb) (c:=0) (k:=0) (a:=0) (vs:=[.slice none 0 0,.slice none 0 0]);exact rfl;exact rfl;exact rfl;(intro w hw;simp [Value.cells] at hw;rcases hw with rfl | rfl <;> rfl);exact rfl;exact Nat.le_refl 2;exact (.there (.there .here));exact trivial) | refine ba_ ?_ | refine bw_ ?_)
   refine fw_ (rs:=[.cell 4 68]) Try.func34 Try.results34 hQ (.inl rfl) (.cons (.cell (vs:=[.slice ka5 (16+2*q) kc5,.slice none 0 0]) rfl rfl (Rds.all (.there (.there .here)))) .nil) ?_
   exact ⟨_,_,rfl,rfl,fun h st=>cmj (cl:=Mach.srCl q k) rfl rfl (Ent.star (.take .here (.drop (.drop .refl))) st)⟩
theorem bfq {a:Option Addr} {c:Nat} (hn:ws.length≤16) (hb:∀ w∈ws,w<18446744073709551616) (hr:RdsO L a ws.length (ws.map num)):Tr Try.prog B 30 [.slice a ws.length c] L x fun w L' x'=>∃ wv lv,w=.agg #[wv,lv]∧L'=wvC wv lv ⟨[0::ws],1⟩::L∧x'=x:=by
 refine Tr.post (R:=fun v L' x'=>∃ wv lv,v=.agg #[wv,lv]∧x'=x∧∀ h,Star L' h→Star (wvC wv lv ⟨[0::ws],1⟩::L) h) ?_
  (by rintro v L' x' ⟨wv,lv,rfl,rfl,hs⟩;exact ⟨_,⟨wv,lv,rfl,rfl,rfl⟩,hs⟩)
 refine be_ Try.func30 rfl Try.ntmps30 (by simp) fun um Q _ hQ=>?_
 simp only [argE,Nat.zero_add,Nat.reduceAdd]
 repeat (first | (apply wo_mo;apply cn_;exact trivial) | refine bb_ ?_ | (refine wR ?_;try simp only [oS]))
 rintro v' L' ⟨cb,rfl,rfl⟩
 repeat (first | (apply wo_mo;apply bi_ (sz:=1) (vs:=[num 0]);exact rfl;exact .cons rfl .nil;exact rfl;(intro v hv;cases (List.mem_singleton.1 hv);exact rfl);omega;exact trivial) | refine bb_ ?_ | (refine wR ?_;try simp only [oS]) | refine ba_ ?_)
 rintro v' L' ⟨wb,rfl,rfl⟩
 refine dt_ (vec 1 (.slice (some ⟨wb,0,none⟩) 1 1) [num 0]::arr cb 0 [.slice none 0 0,.slice none 0 0]::L) (fun h st=>hq_ (n:=1) rfl st) ?_
 repeat (first | (apply wo_mo;apply cc_ (sz:=1) (new:=ws.map num);exact rfl;exact rfl;exact rfl;exact rfl;exact .here;(simp);exact hr.there.there.2;exact vg_;(simp only [cd_];omega);exact trivial) | refine bb_ ?_ | (refine wR ?_;try simp only [oS]) | refine ba_ ?_ | refine wM ?_ | refine wA ?_)
 rintro v' L' rfl
 refine cm_ (bo_ .here (bg_ (by omega))) ?_
 rintro ⟨va,vn,vc,rfl,hvn,_⟩
 repeat (first | (apply wo_mo;apply bi_ (sz:=1) (vs:=[.slice va vn vc]);exact rfl;exact .cons rfl .nil;exact rfl;(intro v hv;cases (List.mem_singleton.1 hv);exact rfl);omega;exact trivial))
 rintro v' L' ⟨rb,rfl,rfl⟩
 repeat (first | (apply wo_mo;apply bi_ (sz:=1) (vs:=[.slice none 0 0]);exact rfl;exact .cons rfl .nil;exact rfl;(intro v hv;cases (List.mem_singleton.1 hv);exact rfl);omega;exact trivial))
 rintro v' L' ⟨lb,rfl,rfl⟩
 repeat (first | (apply wo_po;apply dn_ (pv:=[(0,.slice (some ⟨rb,0,none⟩) 1 1),(1,.slice (some ⟨lb,0,none⟩) 1 1)]);exact rfl;exact .cons rfl (.cons rfl .nil);exact rfl;exact trivial) | (apply wo_pm;apply ct_ (c:=0) (k:=0) (a:=0) (vs:=[.slice none 0 0,.slice none 0 0]);exact rfl;exact rfl;exact rfl;(intro w hw;simp [Value.cells] at hw;rcases hw with rfl | rfl <;> rfl);exact rfl;exact Nat.le_refl 2;exact (.there (.there (.there .here)));exact trivial) | refine ba_ ?_ | refine bw_ ?_)
 refine fw_ (rs:=[.cell 2 77]) Try.func30 Try.results30 hQ (.inl rfl) (.cons (.cell (vs:=[.slice (some ⟨rb,0,none⟩) 1 1,.slice (some ⟨lb,0,none⟩) 1 1]) rfl rfl (Rds.all (.there (.there (.there .here))))) .nil) ?_
 refine ⟨_,_,rfl,rfl,fun h st=>?_⟩
 have s1:Star (arr lb 0 [.slice none 0 0]::arr rb 0 [.slice va vn vc]::vec 1 (.slice va vn vc) ((0::ws).map num)::L) h:=Ent.star (.take .here (.take .here (.take .here (.drop .refl)))) st
 refine bdx (wl:=[(.slice va vn vc,0::ws)]) (lw:=[.slice none 0 0]) rfl ?_ rfl ?_
 ·refine ⟨by show 1<1000000;omega,by show 1<1000000;omega,fun l hl=>?_,fun l hl v hv=>?_⟩
  ·cases (List.mem_singleton.1 hl);simp;omega
  ·cases (List.mem_singleton.1 hl)
   rcases List.mem_cons.1 hv with rfl | hv
   ·omega
   ·exact hb v hv
 ·refine bn_ (hq_ (n:=1) (sz:=1) rfl s1) (fun _ y=>y) fun _ y=>?_
  refine bj_ (M:=[_]) (di_ ?_)
  refine bn_ (hq_ (n:=1) (sz:=1) rfl y) (fun _ y=>y) fun _ z=>?_
  exact bj_ (M:=[_]) z
end
end
section
structure SE where
 d:SDo
 a:Option Addr
 c:Nat
def seV (y:SE):List Value:=[.bool y.d.w,.slice y.a y.d.l.length y.c,.int .i64 y.d.t]
structure DoAt (L:List HProp) (a:Option Addr) (l:List SE):Prop where
 rng:∀ y∈l,(-9223372036854775808≤y.d.t∧y.d.t≤9223372036854775807)∧∀ w∈y.d.l,w<18446744073709551616
 at_:∀ (i:Nat) y,l[i]?=some y→∃ b o,a=some ⟨b,o,none⟩∧Rds L b (o+3*i) (seV y)∧RdsO L y.a y.d.l.length (y.d.l.map num)
def mo_ (l:List Nat):List Nat:=if l=[] then [7] else l.take 16
theorem bbj {l:List Nat}:1≤(mo_ l).length∧(mo_ l).length≤16:=by
 unfold mo_
 split
 ·exact ⟨Nat.le_refl 1,by decide⟩
 ·rename_i h
  have:=List.length_pos_iff.2 h
  rw [List.length_take];omega
theorem bxz {l:List Nat} (h:∀ w∈l,w<18446744073709551616):∀ w∈mo_ l,w<18446744073709551616:=by
 unfold mo_
 split
 ·intro w hw;cases (List.mem_singleton.1 hw);decide
 ·exact fun w hw=>h w (List.mem_of_mem_take hw)
theorem bkj {P:Program} {e:Env} {ty:TypeId} {L:List HProp} {t el sz n c u:Nat} {a:Option Addr} {k:IntKind} {j:Int} {o hi:Operand} [p:SlT P t el] [s:Siz P el sz] (hx:ev e o=some (.slice a n c)) (hh:ev e hi=some (.int k j)) (hj:j=(u:Nat)) (hu:u≤c) :
  Mo P e (.slice t o none (some hi) none) ty L fun v' L'=>v'=.slice a u c∧L'=L:=by
 have h:=bkk (P:=P) (e:=e) (ty:=ty) (L:=L) (t:=t) (l:=0) (u:=u) hx .no (.yes hh hj) (Nat.zero_le _) hu
 have e1:(if c=0 then a else a.map (·.add (0*sz)))=a:=by
  split
  ·rfl
  ·cases a with
   | none=>rfl
   | some y=>simp [Addr.add]
 rw [e1] at h
 exact h
section
variable {B:Hand} [Lets B] {L F:List HProp} {x:B.X}
theorem cgf {a:Option Addr} {c:Nat} {l:List Nat} (hr:RdsO L a l.length (l.map num)) (hc:l.length≤c) :
  Tr Try.prog B 24 [.slice a l.length c] L x fun v L' x'=>L'=vec 1 v ((mo_ l).map num)::L∧x'=x:=by
 refine Tr.post (R:=fun v L' x'=>x'=x∧∀ h,Star L' h→Star (vec 1 v ((mo_ l).map num)::L) h) ?_
  (by rintro v L' x' ⟨rfl,h2⟩;exact ⟨_,⟨rfl,rfl⟩,h2⟩)
 refine be_ Try.func24 rfl Try.ntmps24 (by simp) fun um Q _ hQ=>?_
 simp only [argE,Nat.zero_add,Nat.reduceAdd]
 by_cases h0:l=[]
 ·subst h0
  repeat (first | (apply wo_mo;apply bi_ (sz:=1) (vs:=[num 7]);exact rfl;exact .cons rfl .nil;exact rfl;(intro v hv;cases (List.mem_singleton.1 hv);exact rfl);omega;exact trivial) | refine bb_ ?_ | (refine wR ?_;try simp only [oS]) | refine ba_ ?_ | refine wM ?_ | refine wA ?_ | (apply wo_po;apply bs_;exact rfl;exact rfl;exact jp_;exact gY) | refine wE ?_ | refine wT ?_)
  rintro v' L' ⟨nb,rfl,rfl⟩
  repeat (first | refine ba_ ?_ | refine wA ?_ | refine bw_ ?_)
  (first | refine or1 Try.func24 Try.results24 hQ rfl ?_ | refine on1 Try.func24 Try.results24 hQ rfl ?_)
  exact ⟨rfl,fun h st=>hq_ (n:=1) rfl st⟩
 ·have hpos:0<l.length:=List.length_pos_iff.2 h0
  have e:mo_ l=l.take 16:=if_neg h0
  by_cases h16:16<l.length
  ·have e2:(l.take 16).length=16:=by rw [List.length_take];omega
   have hr2:RdsO L a 16 ((l.take 16).map num):=by
    obtain ⟨b,o,rfl,h⟩:=hr.rds (by omega)
    refine ⟨by rw [List.length_map,e2],.inr ⟨b,o,rfl,fun i v hi=>?_⟩⟩
    have hi16:=(List.getElem?_eq_some_iff.1 hi).1
    rw [List.length_map,e2] at hi16
    rw [List.getElem?_map,List.getElem?_take_of_lt hi16,← List.getElem?_map] at hi
    exact h i v hi
   repeat (first | (apply wo_po;apply bkj (u:=16);exact rfl;exact rfl;exact rfl;omega;exact trivial) | refine wgtrT ?_ | refine weqlF ?_ | refine bb_ ?_ | (refine wR ?_;try simp only [oS]) | refine ba_ ?_ | refine wM ?_ | refine wA ?_ | refine wE ?_ | refine wT ?_ | refine wF ?_ | refine bk_ ?_)
   refine bt_ (.cons rfl .nil) trivial (vq_ hr2 (by omega)) ?_
   rintro v L' x' ⟨rfl,rfl⟩
   repeat (first | refine ba_ ?_ | refine wA ?_ | refine bw_ ?_)
   (first | refine or1 Try.func24 Try.results24 hQ rfl ?_ | refine on1 Try.func24 Try.results24 hQ rfl ?_)
   exact ⟨rfl,fun h st=>by rw [e];exact st⟩
  ·have e2:l.take 16=l:=List.take_of_length_le (by omega)
   repeat (first | refine wgtrF ?_ | refine weqlF ?_ | refine bb_ ?_ | (refine wR ?_;try simp only [oS]) | refine ba_ ?_ | refine wM ?_ | refine wA ?_ | refine wE ?_ | refine wF ?_ | refine bk_ ?_)
   refine bt_ (.cons rfl .nil) trivial (vq_ hr (by omega)) ?_
   rintro v L' x' ⟨rfl,rfl⟩
   repeat (first | refine ba_ ?_ | refine wA ?_ | refine bw_ ?_)
   (first | refine or1 Try.func24 Try.results24 hQ rfl ?_ | refine on1 Try.func24 Try.results24 hQ rfl ?_)
   exact ⟨rfl,fun h st=>by rw [e,e2];exact st⟩
theorem bcc {t:Int} (ht:-9223372036854775808≤t∧t≤9223372036854775807):IntKind.i64.wrap (1+t%4)=((hr_ t+1:Nat):Int):=by
 have h1:=Int.emod_nonneg t (by decide:(4:Int)≠0)
 have h2:=Int.emod_lt_of_pos t (by decide:(0:Int)<4)
 unfold hr_
 exact (fk_ (by omega) (by omega)).trans (by omega)
theorem cbk {t:Int}:hr_ t<4:=by
 have h1:=Int.emod_nonneg t (by decide:(4:Int)≠0)
 have h2:=Int.emod_lt_of_pos t (by decide:(0:Int)<4)
 unfold hr_;omega
theorem cmm {n:Nat} (h1:1≤n) (hn:n≤16) {y:SE} (ht:-9223372036854775808≤y.d.t∧y.d.t≤9223372036854775807) (hl:RdsO L y.a y.d.l.length (y.d.l.map num)) :
  Tr Try.prog B 26 [.agg #[.bool y.d.w,.slice y.a y.d.l.length y.c,.int .i64 y.d.t],.int .i64 (n:Nat)] L x fun w L' x'=>∃ ka m kc da dc,w=.agg #[.slice ka m kc,.slice da (ge_ n y.d).data.length dc]∧L'=clC (.slice ka m kc) (.slice da (ge_ n y.d).data.length dc) (ge_ n y.d)::L∧x'=x:=by
 refine Tr.post (R:=fun w L' x'=>∃ ka m kc da dc,w=.agg #[.slice ka m kc,.slice da (ge_ n y.d).data.length dc]∧x'=x∧∀ h,Star L' h→Star (clC (.slice ka m kc) (.slice da (ge_ n y.d).data.length dc) (ge_ n y.d)::L) h) ?_
  (by rintro v L' x' ⟨ka,m,kc,da,dc,rfl,rfl,hs⟩;exact ⟨_,⟨ka,m,kc,da,dc,rfl,rfl,rfl⟩,hs⟩)
 obtain ⟨⟨w,l,t⟩,a,c⟩:=y
 dsimp only at ht hl ⊢
 have hconv:IntKind.u64.wrap ((hr_ t+1:Nat):Int)=((hr_ t+1:Nat):Int):=by have:=cbk (t:=t);exact wrap_u64 (by omega) (by omega)
 refine be_ Try.func26 rfl Try.ntmps26 (by simp) fun um Q _ hQ=>?_
 simp only [argE,Nat.zero_add,Nat.reduceAdd]
 repeat (first | (apply wo_mo;apply cy_;exact rfl;exact trivial) | refine bb_ ?_ | (refine wR ?_;try simp only [oS]))
 rintro v' L' ⟨cb,rfl,rfl⟩
 refine gq_ (arr cb 0 [.bool w,.slice a l.length c,.int .i64 t]::L) .refl ?_
 repeat (first | (apply wo_mo;apply cn_;exact trivial))
 rintro v' L' ⟨ab,rfl,rfl⟩
 cases w
 ·have e:ge_ n ⟨false,l,t⟩=Mach.srCl n (hr_ t+1):=rfl
  repeat (first | refine bb_ ?_ | (refine wR ?_;try simp only [oS]) | refine ba_ ?_ | refine wM ?_ | refine wD ?_ | refine wL ?_ | refine wF ?_ | refine bk_ ?_)
  refine bt_ (.cons rfl (.cons rfl .nil)) trivial (vy_ ht (by omega)) ?_
  rintro v' L' x' ⟨rfl,rfl,rfl⟩
  repeat (first | (apply wo_po;apply bs_;exact rfl;exact rfl;apply dy_;exact bcc ht;exact trivial) | (apply wo_po;apply ff_;exact rfl;exact hconv;exact trivial))
  refine bt_ (.cons rfl (.cons rfl .nil)) trivial (qg_ (k:=hr_ t+1) h1 hn) ?_
  rintro v' L' x' ⟨ka,kc,rfl,rfl,rfl⟩
  repeat (first | (apply wo_pm;apply ct_ (c:=0) (k:=0) (a:=0) (vs:=[.slice none 0 0,.slice none 0 0]);exact rfl;exact rfl;exact rfl;(intro w hw;simp [Value.cells] at hw;rcases hw with rfl | rfl <;> rfl);exact rfl;exact Nat.le_refl 2;exact (.there .here);exact trivial) | refine ba_ ?_ | refine bw_ ?_)
  refine fw_ (rs:=[.cell 4 68]) Try.func26 Try.results26 hQ (.inl rfl) (.cons (.cell (vs:=[.slice ka (16+2*n) kc,.slice none 0 0]) rfl rfl (Rds.all (.there .here))) .nil) ?_
  exact ⟨ka,16+2*n,kc,none,0,rfl,rfl,fun h st=>by rw [e];exact Ent.star (.take .here (.drop (.drop .refl))) st⟩
 ·have e:ge_ n ⟨true,l,t⟩=Mach.swCl (fs_ l n):=rfl
  have e2:(Mach.swCl (fs_ l n)).data.length=n:=dz_
  repeat (first | refine bb_ ?_ | (refine wR ?_;try simp only [oS]) | refine ba_ ?_ | refine wM ?_ | refine wD ?_ | refine wL ?_ | refine wT ?_)
  refine bt_ (.cons rfl (.cons rfl .nil)) trivial (bjd hn hl.there.there) ?_
  rintro sv L' x' ⟨rfl,rfl⟩
  refine cm_ (bo_ .here (bg_ (by omega))) ?_
  rintro ⟨sa,sn,sc,rfl,hsn,_,hsz,hsy⟩
  obtain rfl:n=sn:=by rw [List.length_map,dz_] at hsn;omega
  have hw:RdsO (vec 1 (.slice sa n sc) ((fs_ l n).map num)::arr ab 0 [.slice none 0 0,.slice none 0 0]::arr cb 0 [.bool true,.slice a l.length c,.int .i64 t]::L) sa (fs_ l n).length ((fs_ l n).map num):=by
   rw [dz_];exact rdsoV .here (by rw [List.length_map,dz_]) hsz hsy
  have hcall:=fun X=>bfp (B:=B) (x:=X) (c:=sc) (ws:=fs_ l n) (by rw [dz_];exact hn) hw
  simp only [dz_] at hcall
  skip
  refine bt_ (.cons rfl .nil) trivial (hcall _) ?_
  rintro v' L' x' ⟨ka,kc,da,dc,rfl,rfl,rfl⟩
  repeat (first | (apply wo_pm;apply ct_ (c:=0) (k:=0) (a:=0) (vs:=[.slice none 0 0,.slice none 0 0]);exact rfl;exact rfl;exact rfl;(intro w hw;simp [Value.cells] at hw;rcases hw with rfl | rfl <;> rfl);exact rfl;exact Nat.le_refl 2;exact (.there (.there .here));exact trivial) | refine ba_ ?_ | refine bw_ ?_)
  refine fw_ (rs:=[.cell 4 68]) Try.func26 Try.results26 hQ (.inl rfl) (.cons (.cell (vs:=[.slice ka (16+2*n) kc,.slice da n dc]) rfl rfl (Rds.all (.there (.there .here)))) .nil) ?_
  exact ⟨ka,16+2*n,kc,da,dc,by rw [e,e2];rfl,rfl,fun h st=>by rw [e,e2];exact Ent.star (.take .here (.drop (.drop (.drop .refl)))) st⟩
variable {gv:Value} {A:Acc B gv} {r n:Nat}
def bqt (A:Acc B gv) (n:Nat) (wa:Option Addr) (wc v e:Nat) (s:A.S) (cb:Nat) (cv:List Value) (F:List HProp):PB.Inv (Nat × List Nat) B.X where
 e:=fun i=>[(9,.slice wa n wc),(10,.int .u64 (v:Nat)),(11,.int .i64 (e:Nat)),(12,.int .i64 (i.1:Nat))]
 L:=fun i=>vec 1 (.slice wa n wc) (i.2.map num)::A.C s::arr cb 0 cv::F
 x:=fun _=>A.x s
 ok:=fun i=>i.1≤n∧i.2.length=n
def wn_ (A:Acc B gv) (n:Nat) (wa:Option Addr) (wc:Nat) (ov:Value) (told:List Nat) (s:A.S) (cb:Nat) (cv:List Value) (F:List HProp):PB.Inv (Nat × List Nat) B.X where
 e:=fun i=>[(14,.slice wa n wc),(17,ov),(18,.int .i64 (i.1:Nat))]
 L:=fun i=>vec 1 (.slice wa n wc) (i.2.map num)::vec 1 ov (told.map num)::A.C s::arr cb 0 cv::F
 x:=fun _=>A.x s
 ok:=fun i=>i.1≤n∧i.2.length=n
set_option maxHeartbeats 2000000 in
theorem bsx (R:SeqAt A r n) {y:SE} (ht:-9223372036854775808≤y.d.t∧y.d.t≤9223372036854775807) (hd:∀ w∈y.d.l,w<18446744073709551616) {s:A.S} {Qd:List Nat→A.S→Prop} (hs:DoneT A n y.d s Qd) (hh:Has L (A.C s) F) (hl:RdsO F y.a y.d.l.length (y.d.l.map num)) (hl2:RdsO L y.a y.d.l.length (y.d.l.map num)) :
  Tr Try.prog B 28 [.pointer (some ⟨r,0,none⟩),gv,.agg #[.bool y.d.w,.slice y.a y.d.l.length y.c,.int .i64 y.d.t],.int .i64 (n:Nat)] L (A.x s) fun v' L' x'=>∃ told s',Qd told s'∧L'=vec 1 v' (told.map num)::A.C s'::F∧x'=A.x s':=by
 refine Tr.post (R:=fun v' L' x'=>∃ told s',Qd told s'∧x'=A.x s'∧∀ h,Star L' h→Star (vec 1 v' (told.map num)::A.C s'::F) h) ?_
  (by rintro v L' x' ⟨told,s',h1,rfl,hs⟩;exact ⟨_,⟨told,s',h1,rfl,rfl⟩,hs⟩)
 obtain ⟨⟨w,l,t⟩,a,c⟩:=y
 dsimp only at ht hd hs hl hl2 ⊢
 have hlo:=R.lo
 have hhi:=R.hi
 have cv:∀ n:Nat,n<1000→IntKind.u64.wrap ((n:Nat):Int)=((n:Nat):Int):=fun n hn=>wrap_u64 (by omega) (by omega)
 unfold DoneT at hs
 refine be_ Try.func28 rfl Try.ntmps28 (by simp) fun um Q _ hQ=>?_
 simp only [argE,Nat.zero_add,Nat.reduceAdd]
 repeat (first | (apply wo_mo;apply cy_;exact rfl;exact trivial) | refine bb_ ?_ | (refine wR ?_;try simp only [oS]))
 rintro v' L' ⟨cb,rfl,rfl⟩
 refine gq_ (arr cb 0 [.bool w,.slice a l.length c,.int .i64 t]::L) .refl ?_
 cases w
 ·simp only [Bool.false_eq_true,if_false] at hs
  repeat (first | refine bb_ ?_ | (refine wR ?_;try simp only [oS]) | refine ba_ ?_ | refine wA ?_ | refine wD ?_ | refine wL ?_ | refine wF ?_ | refine bk_ ?_)
  refine bt_ (.cons rfl (.cons rfl .nil)) trivial (vy_ ht (by omega)) ?_
  rintro v' L' x' ⟨rfl,rfl,rfl⟩
  obtain ⟨k,hk⟩:∃ k,hr_ t=k:=⟨_,rfl⟩
  have hk4:=cbk (t:=t)
  have htv:=bcc ht
  rw [hk] at hs hk4 htv
  cases k with
  | zero =>
   repeat (first | (apply wo_po;apply bs_;exact rfl;exact rfl;apply dy_;exact htv;exact trivial) | refine weqlT ?_ | refine bb_ ?_ | (refine wR ?_;try simp only [oS]) | refine ba_ ?_ | refine wM ?_ | refine wA ?_ | refine wT ?_)
   refine bt_ (.cons rfl (.cons rfl .nil)) trivial (va_ R (Q:=fun q s=>Qd (toldR q) s) hs (.there hh)) ?_
   rintro v1 L1 x1 ⟨q,s',rv,h1,hg,rfl,rfl,rfl⟩
   obtain ⟨e,he⟩:∃ e:Nat,(if q.isSome=true then 0 else 51)=e:=⟨_,rfl⟩
   have he2:(if q.isSome=true then (0:Int) else 51)=(e:Nat):=by rw [← he];split <;> rfl
   have he3:e<100:=by rw [← he];split <;> omega
   rw [he2]
   have htw:toldR q=[e,rdV q]++rdW q:=by unfold toldR;rw [he]
   have hm16:(rdW q).length≤16:=by
    cases q with
    | none=>exact Nat.zero_le _
    | some y=>have:=(hg y rfl).1;show y.1.length≤16;omega
   refine cm_ (bo_ (.there .here) (bg_ (by omega))) ?_
   rintro ⟨ra,rn,rc,rfl,hrn,_,hrz,hry⟩
   rw [List.length_map] at hrn
   obtain rfl:(rdW q).length=rn:=by omega
   repeat (first | (apply wo_po;apply ff_;exact rfl;exact cv e (by omega);exact trivial) | (apply wo_mo;apply bi_ (sz:=1) (vs:=[num e,num (rdV q)]);exact rfl;exact .cons rfl (.cons rfl .nil);exact rfl;(repeat (first | exact List.forall_mem_nil _ | refine List.forall_mem_cons.2 ⟨rfl,?_⟩));omega;exact trivial) | refine bb_ ?_ | (refine wR ?_;try simp only [oS]) | refine ba_ ?_ | refine wM ?_ | refine wA ?_ | (apply wo_po;apply cx_;exact rfl;exact rfl;exact gY))
   rintro v' L' ⟨vb,rfl,rfl⟩
   refine dt_ (vec 1 (.slice (some ⟨vb,0,none⟩) 2 2) [num e,num (rdV q)]::A.C s'::vec 1 (.slice ra (rdW q).length rc) ((rdW q).map num)::arr cb 0 [.bool false,.slice a l.length c,.int .i64 t]::F) (fun h st=>hq_ (n:=2) rfl st) ?_
   repeat (first | (apply wo_mo;apply cc_ (sz:=1) (new:=(rdW q).map num);exact rfl;exact rfl;exact rfl;exact rfl;exact .here;(rw [List.length_map,Nat.mul_one]);exact (rdsoV (.there (.there .here)) (List.length_map ..) hrz hry).2;exact vg_;(simp only [cd_];omega);exact trivial) | refine wM ?_)
   rintro ov L' rfl
   repeat (first | refine bb_ ?_ | (refine wR ?_;try simp only [oS]) | refine ba_ ?_ | refine wA ?_ | refine bd_ ?_)
   refine ck_ (wn_ A (rdW q).length ra rc ov (toldR q) s' cb [.bool false,.slice a l.length c,.int .i64 t] F) (fun i=>(rdW q).length-i.1) (0,rdW q) ⟨Nat.zero_le _,rfl⟩ ⟨rfl,rfl,rfl,trivial⟩ (by
    show Ent _ (vec 1 _ _::vec 1 ov ((toldR q).map num)::_)
    rw [htw,List.map_append]
    exact (.take (.there (.there .here)) (.take .here .refl))) rfl ?_
   rintro ⟨i,li⟩ ⟨hi,hil⟩
   dsimp only [wn_] at hi hil ⊢
   by_cases hlt:i<(rdW q).length
   ·have hsy1:∃ b o,ra=some ⟨b,o,none⟩:=by
     cases ra with
     | none=>have:=hrz rfl;omega
     | some ad =>
      obtain ⟨b,o,sp⟩:=ad
      cases hry _ rfl
      exact ⟨b,o,rfl⟩
    obtain ⟨sb,so,rfl⟩:=hsy1
    repeat (first | (apply wo_po;apply bz_ (r:=so+i);exact rfl;exact rfl;omega;omega;omega;exact trivial) | (apply wo_pm;apply cf_ (v:=num 98);exact rfl;exact rfl;exact rfl;exact mg_ (i:=i) .here (by rw [List.length_map];omega);exact trivial) | refine wlssT ?_ | refine bb_ ?_ | (refine wR ?_;try simp only [oS]) | refine ba_ ?_ | refine wM ?_ | refine wA ?_ | refine wadd ?_ | refine wE ?_ | refine wT ?_ | refine bk_ ?_ | refine bd_ ?_)
    refine cr_ (I:=wn_ A (rdW q).length (some ⟨sb,so,none⟩) rc ov (toldR q) s' cb [.bool false,.slice a l.length c,.int .i64 t] F) (R:=fun j=>(rdW q).length-j.1<(rdW q).length-i) (i+1,li.set i 98) (by show (rdW q).length-(i+1)<(rdW q).length-i;omega) ⟨by show i+1≤(rdW q).length;omega,by show (li.set i 98).length=(rdW q).length;rw [List.length_set];exact hil⟩ ⟨rfl,rfl,rfl,trivial⟩ ?_ rfl
    show Ent _ (vec 1 _ ((li.set i 98).map num)::_)
    rw [List.map_set]
    exact .refl
   ·repeat (first | refine wlssF ?_ | refine bb_ ?_ | (refine wR ?_;try simp only [oS]) | refine ba_ ?_ | refine wM ?_ | refine wA ?_ | refine wE ?_ | refine wF ?_ | refine bw_ ?_ | refine ch_ ?_)
    (first | refine or1 Try.func28 Try.results28 hQ rfl ?_ | refine on1 Try.func28 Try.results28 hQ rfl ?_)
    exact ⟨toldR q,s',h1,rfl,fun h st=>Ent.star (.take (.there .here) (.take (.there .here) (.drop (.drop .refl)))) st⟩
  | succ k =>
   repeat (first | (apply wo_po;apply bs_;exact rfl;exact rfl;apply dy_;exact htv;exact trivial) | refine weqlF ?_ | refine bb_ ?_ | (refine wR ?_;try simp only [oS]) | refine ba_ ?_ | refine wM ?_ | refine wA ?_ | refine wF ?_)
   refine bt_ (.cons rfl (.cons rfl (.cons rfl .nil))) trivial (chq R (k:=k+1) (G:=fun q s=>Qd (toldR q) s) (by omega) hs (.there hh)) ?_
   rintro v1 L1 x1 ⟨q,s',rv,h1,hg,rfl,rfl,rfl⟩
   obtain ⟨e,he⟩:∃ e:Nat,(if q.isSome=true then 0 else 51)=e:=⟨_,rfl⟩
   have he2:(if q.isSome=true then (0:Int) else 51)=(e:Nat):=by rw [← he];split <;> rfl
   have he3:e<100:=by rw [← he];split <;> omega
   rw [he2]
   have htw:toldR q=[e,rdV q]++rdW q:=by unfold toldR;rw [he]
   have hm16:(rdW q).length≤16:=by
    cases q with
    | none=>exact Nat.zero_le _
    | some y=>have:=(hg y rfl).1;show y.1.length≤16;omega
   refine cm_ (bo_ (.there .here) (bg_ (by omega))) ?_
   rintro ⟨ra,rn,rc,rfl,hrn,_,hrz,hry⟩
   rw [List.length_map] at hrn
   obtain rfl:(rdW q).length=rn:=by omega
   repeat (first | (apply wo_po;apply ff_;exact rfl;exact cv e (by omega);exact trivial) | (apply wo_mo;apply bi_ (sz:=1) (vs:=[num e,num (rdV q)]);exact rfl;exact .cons rfl (.cons rfl .nil);exact rfl;(repeat (first | exact List.forall_mem_nil _ | refine List.forall_mem_cons.2 ⟨rfl,?_⟩));omega;exact trivial) | refine bb_ ?_ | (refine wR ?_;try simp only [oS]) | refine ba_ ?_ | refine wM ?_ | refine wA ?_ | (apply wo_po;apply cx_;exact rfl;exact rfl;exact gY))
   rintro v' L' ⟨vb,rfl,rfl⟩
   refine dt_ (vec 1 (.slice (some ⟨vb,0,none⟩) 2 2) [num e,num (rdV q)]::A.C s'::vec 1 (.slice ra (rdW q).length rc) ((rdW q).map num)::arr cb 0 [.bool false,.slice a l.length c,.int .i64 t]::F) (fun h st=>hq_ (n:=2) rfl st) ?_
   repeat (first | (apply wo_mo;apply cc_ (sz:=1) (new:=(rdW q).map num);exact rfl;exact rfl;exact rfl;exact rfl;exact .here;(rw [List.length_map,Nat.mul_one]);exact (rdsoV (.there (.there .here)) (List.length_map ..) hrz hry).2;exact vg_;(simp only [cd_];omega);exact trivial) | refine wM ?_)
   rintro ov L' rfl
   repeat (first | refine bb_ ?_ | (refine wR ?_;try simp only [oS]) | refine ba_ ?_ | refine wA ?_ | refine bd_ ?_)
   refine ck_ (wn_ A (rdW q).length ra rc ov (toldR q) s' cb [.bool false,.slice a l.length c,.int .i64 t] F) (fun i=>(rdW q).length-i.1) (0,rdW q) ⟨Nat.zero_le _,rfl⟩ ⟨rfl,rfl,rfl,trivial⟩ (by
    show Ent _ (vec 1 _ _::vec 1 ov ((toldR q).map num)::_)
    rw [htw,List.map_append]
    exact (.take (.there (.there .here)) (.take .here .refl))) rfl ?_
   rintro ⟨i,li⟩ ⟨hi,hil⟩
   dsimp only [wn_] at hi hil ⊢
   by_cases hlt:i<(rdW q).length
   ·have hsy1:∃ b o,ra=some ⟨b,o,none⟩:=by
     cases ra with
     | none=>have:=hrz rfl;omega
     | some ad =>
      obtain ⟨b,o,sp⟩:=ad
      cases hry _ rfl
      exact ⟨b,o,rfl⟩
    obtain ⟨sb,so,rfl⟩:=hsy1
    repeat (first | (apply wo_po;apply bz_ (r:=so+i);exact rfl;exact rfl;omega;omega;omega;exact trivial) | (apply wo_pm;apply cf_ (v:=num 98);exact rfl;exact rfl;exact rfl;exact mg_ (i:=i) .here (by rw [List.length_map];omega);exact trivial) | refine wlssT ?_ | refine bb_ ?_ | (refine wR ?_;try simp only [oS]) | refine ba_ ?_ | refine wM ?_ | refine wA ?_ | refine wadd ?_ | refine wE ?_ | refine wT ?_ | refine bk_ ?_ | refine bd_ ?_)
    refine cr_ (I:=wn_ A (rdW q).length (some ⟨sb,so,none⟩) rc ov (toldR q) s' cb [.bool false,.slice a l.length c,.int .i64 t] F) (R:=fun j=>(rdW q).length-j.1<(rdW q).length-i) (i+1,li.set i 98) (by show (rdW q).length-(i+1)<(rdW q).length-i;omega) ⟨by show i+1≤(rdW q).length;omega,by show (li.set i 98).length=(rdW q).length;rw [List.length_set];exact hil⟩ ⟨rfl,rfl,rfl,trivial⟩ ?_ rfl
    show Ent _ (vec 1 _ ((li.set i 98).map num)::_)
    rw [List.map_set]
    exact .refl
   ·repeat (first | refine wlssF ?_ | refine bb_ ?_ | (refine wR ?_;try simp only [oS]) | refine ba_ ?_ | refine wM ?_ | refine wA ?_ | refine wE ?_ | refine wF ?_ | refine bw_ ?_ | refine ch_ ?_)
    (first | refine or1 Try.func28 Try.results28 hQ rfl ?_ | refine on1 Try.func28 Try.results28 hQ rfl ?_)
    exact ⟨toldR q,s',h1,rfl,fun h st=>Ent.star (.take (.there .here) (.take (.there .here) (.drop (.drop .refl)))) st⟩
 ·simp only [if_true] at hs
  repeat (first | refine bb_ ?_ | (refine wR ?_;try simp only [oS]) | refine ba_ ?_ | refine wM ?_ | refine wA ?_ | refine wD ?_ | refine wL ?_ | refine wT ?_)
  refine bt_ (.cons rfl (.cons rfl .nil)) trivial (bjd hhi hl2.there) ?_
  rintro sv L' x' ⟨rfl,rfl⟩
  refine cm_ (bo_ .here (bg_ (by omega))) ?_
  rintro ⟨sa,sn,sc,rfl,hsn,_,hsz,hsy⟩
  obtain rfl:n=sn:=by rw [List.length_map,dz_] at hsn;omega
  repeat (first | refine bb_ ?_ | (refine wR ?_;try simp only [oS]) | refine ba_ ?_ | refine wM ?_ | refine wA ?_)
  refine bt_ (.cons rfl (.cons rfl (.cons rfl .nil))) trivial (ya_ R dz_ (sa_ hhi hd) hs (.there (.there hh)) (rdsoV .here (by rw [List.length_map,dz_]) hsz hsy)) ?_
  rintro v1 L1 x1 ⟨q,s',h1,rfl,rfl,rfl⟩
  obtain ⟨e,he⟩:∃ e:Nat,(if q.isSome=true then 0 else 50)=e:=⟨_,rfl⟩
  have he2:(if q.isSome=true then (0:Int) else 50)=(e:Nat):=by rw [← he];split <;> rfl
  have he3:e<100:=by rw [← he];split <;> omega
  rw [he2]
  have htw:toldW q=[e,q.getD 0]:=by unfold toldW;rw [he]
  rw [htw] at h1
  repeat (first | refine bb_ ?_ | (refine wR ?_;try simp only [oS]) | refine ba_ ?_ | refine wM ?_ | refine wA ?_ | (apply wo_po;apply cx_;exact rfl;exact rfl;exact gY) | refine bd_ ?_)
  refine ck_ (bqt A n sa sc (q.getD 0) e s' cb [.bool true,.slice a l.length c,.int .i64 t] F) (fun i=>n-i.1) (0,fs_ l n) ⟨Nat.zero_le _,dz_⟩ ⟨rfl,rfl,rfl,rfl,trivial⟩ (.take (.there .here) .refl) rfl ?_
  rintro ⟨i,li⟩ ⟨hi,hil⟩
  dsimp only [bqt] at hi hil ⊢
  by_cases hlt:i<n
  ·have hsy1:∃ b o,sa=some ⟨b,o,none⟩:=by
    cases sa with
    | none=>have:=hsz rfl;omega
    | some ad =>
     obtain ⟨b,o,sp⟩:=ad
     cases hsy _ rfl
     exact ⟨b,o,rfl⟩
   obtain ⟨sb,so,rfl⟩:=hsy1
   repeat (first | (apply wo_po;apply bz_ (r:=so+i);exact rfl;exact rfl;omega;omega;omega;exact trivial) | (apply wo_pm;apply cf_ (v:=num 99);exact rfl;exact rfl;exact rfl;exact mg_ (i:=i) .here (by rw [List.length_map];omega);exact trivial) | refine wlssT ?_ | refine bb_ ?_ | (refine wR ?_;try simp only [oS]) | refine ba_ ?_ | refine wM ?_ | refine wA ?_ | refine wadd ?_ | refine wE ?_ | refine wT ?_ | refine bk_ ?_ | refine bd_ ?_)
   refine cr_ (I:=bqt A n (some ⟨sb,so,none⟩) sc (q.getD 0) e s' cb [.bool true,.slice a l.length c,.int .i64 t] F) (R:=fun j=>n-j.1<n-i) (i+1,li.set i 99) (by show n-(i+1)<n-i;omega) ⟨by show i+1≤n;omega,by show (li.set i 99).length=n;rw [List.length_set];exact hil⟩ ⟨rfl,rfl,rfl,rfl,trivial⟩ ?_ rfl
   show Ent _ (vec 1 _ ((li.set i 99).map num)::_)
   rw [List.map_set]
   exact .refl
  ·repeat (first | (apply wo_po;apply ff_;exact rfl;exact cv e (by omega);exact trivial) | (apply wo_mo;apply bi_ (sz:=1) (vs:=[num e,num (q.getD 0)]);exact rfl;exact .cons rfl (.cons rfl .nil);exact rfl;(repeat (first | exact List.forall_mem_nil _ | refine List.forall_mem_cons.2 ⟨rfl,?_⟩));omega;exact trivial) | refine wlssF ?_ | refine bb_ ?_ | (refine wR ?_;try simp only [oS]) | refine ba_ ?_ | refine wM ?_ | refine wE ?_ | refine wF ?_ | refine ch_ ?_)
   rintro v' L' ⟨vb,rfl,rfl⟩
   repeat (first | refine ba_ ?_ | refine wA ?_ | refine bw_ ?_)
   (first | refine or1 Try.func28 Try.results28 hQ rfl ?_ | refine on1 Try.func28 Try.results28 hQ rfl ?_)
   exact ⟨[e,q.getD 0],s',h1,rfl,fun h st=>hq_ (n:=2) rfl (Ent.star (.take .here (.drop (.take .here (.drop .refl)))) st)⟩
end
end
end Go.Proofs.Ytodgemainhokjaa
namespace Go.Proofs.Ytodgemainhokjaa
open Go Go.PB
attribute [local irreducible] Mo Bin Eql Tr Wo Ap
section
theorem cpw {x y:Operand} {a0 b0 a1 b1 a2 b2:Int}:Eql Try.prog 147 x y (.agg #[.int .i64 a0,.int .u8 a1,.int .i64 a2]) (.agg #[.int .i64 b0,.int .u8 b1,.int .i64 b2]) (decide (a0=b0∧a1=b1∧a2=b2)) :=
 haveI p0:Und Try.prog 147 _:=⟨Try.underlying147⟩
 haveI p1:Und Try.prog 127 _:=⟨Try.underlying127⟩
 bqq (t1:=127) (p:=p0) (p1:=p1) (by kernel_rfl) (by kernel_rfl) (by kernel_rfl) (by decide) (by decide) (by decide) (by decide) rfl rfl rfl rfl rfl (by kernel_rfl) (by kernel_rfl) (by kernel_rfl)
def RdTr (L:List HProp) (a:Option Addr) (l:List (Nat × (Int × Int))):Prop:=∀ (i:Nat) t,l[i]?=some t→∃ b o,a=some ⟨b,o,none⟩∧Rds L b (o+3*i) [.int .i64 (t.1:Nat),.int .u8 t.2.1,.int .i64 t.2.2]
def RdI (L:List HProp) (a:Option Addr) (l:List Nat):Prop:=∀ (i:Nat) k,l[i]?=some k→∃ b o,a=some ⟨b,o,none⟩∧Rd L b (o+i) (.int .i64 (k:Nat))
theorem RdTr.there {L:List HProp} {a:Option Addr} {l:List (Nat × (Int × Int))} {d:HProp} (h:RdTr L a l):RdTr (d::L) a l:=fun i t hi=>by
 obtain ⟨b,o,e,r⟩:=h i t hi
 exact ⟨b,o,e,fun j v hj=>.there (r j v hj)⟩
theorem RdI.there {L:List HProp} {a:Option Addr} {l:List Nat} {d:HProp} (h:RdI L a l):RdI (d::L) a l:=fun i t hi=>by
 obtain ⟨b,o,e,r⟩:=h i t hi
 exact ⟨b,o,e,.there r⟩
section
variable {B:Hand} [Lets B] {L F:List HProp} {x:B.X}
def mv_ (x:B.X) (j p q:Nat) (n:Nat) (u1 u2 v1 v2:Value) (L:List HProp):Inv Nat B.X where
 e:=fun i=>[(2,.pointer (some ⟨p,0,none⟩)),(3,.pointer (some ⟨q,0,none⟩)),(j,.int .i64 (i:Nat))]
 L:=fun _=>arr q 0 [v1,v2]::arr p 0 [u1,u2]::L
 x:=fun _=>x
 ok:=fun i=>i≤n
theorem yx_ {a1 a2 a3 a4:Option Addr} {c1 c2 c3 c4:Nat} {tr:List (Nat × (Int × Int))} {cut:List Nat} (h1:RdTr L a1 tr) (h3:RdTr L a3 tr) (h2:RdI L a2 cut) (h4:RdI L a4 cut) (hl:tr.length<1000000000) (hl2:cut.length<1000000000) :
  Tr Try.prog B 31 [.agg #[.slice a1 tr.length c1,.slice a2 cut.length c2],.agg #[.slice a3 tr.length c3,.slice a4 cut.length c4]] L x fun v L' x'=>v=.bool true∧L'=L∧x'=x:=by
 refine Tr.post (R:=fun v L' x'=>v=.bool true∧x'=x∧∀ h,Star L' h→Star L h) ?_
  (by rintro v L' x' ⟨rfl,rfl,h2⟩;exact ⟨_,⟨rfl,rfl,rfl⟩,h2⟩)
 refine be_ Try.func31 rfl Try.ntmps31 (by simp) fun um Q _ hQ=>?_
 simp only [argE,Nat.zero_add,Nat.reduceAdd]
 repeat (first | (apply wo_mo;apply cy_;exact rfl;exact trivial) | refine bb_ ?_ | (refine wR ?_;try simp only [oS]))
 rintro v' L' ⟨p,rfl,rfl⟩
 repeat (first | (apply wo_mo;apply cy_;exact rfl;exact trivial))
 rintro v' L' ⟨q,rfl,rfl⟩
 refine gq_ (arr q 0 [.slice a3 tr.length c3,.slice a4 cut.length c4]::arr p 0 [.slice a1 tr.length c1,.slice a2 cut.length c2]::L) .refl ?_
 repeat (first | refine wneqF ?_ | refine bb_ ?_ | (refine wR ?_;try simp only [oS]) | refine ba_ ?_ | refine wM ?_ | refine wA ?_ | refine wJ ?_ | refine wD ?_ | refine wL ?_ | refine wE ?_ | refine wF ?_ | refine bk_ ?_ | refine bd_ ?_)
 refine ck_ (mv_ x 5 p q tr.length (.slice a1 tr.length c1) (.slice a2 cut.length c2) (.slice a3 tr.length c3) (.slice a4 cut.length c4) L) (fun i=>tr.length-i) 0 (Nat.zero_le _) ⟨rfl,rfl,rfl,trivial⟩ .refl rfl ?_
 intro i hi
 replace hi:i≤tr.length:=hi
 simp only [mv_]
 by_cases hlt:i<tr.length
 ·obtain ⟨t,ht⟩:∃ t,tr[i]?=some t:=⟨tr[i],List.getElem?_eq_getElem hlt⟩
  obtain ⟨b1,o1,rfl,r1⟩:=h1 i t ht
  obtain ⟨b3,o3,rfl,r3⟩:=h3 i t ht
  have r1:Rds (arr q 0 [.slice (some ⟨b3,o3,none⟩) tr.length c3,.slice a4 cut.length c4]::arr p 0 [.slice (some ⟨b1,o1,none⟩) tr.length c1,.slice a2 cut.length c2]::L) b1 (o1+3*i) [.int .i64 (t.1:Nat),.int .u8 t.2.1,.int .i64 t.2.2]:=fun j v hj=>.there (.there (r1 j v hj))
  have r3:Rds (arr q 0 [.slice (some ⟨b3,o3,none⟩) tr.length c3,.slice a4 cut.length c4]::arr p 0 [.slice (some ⟨b1,o1,none⟩) tr.length c1,.slice a2 cut.length c2]::L) b3 (o3+3*i) [.int .i64 (t.1:Nat),.int .u8 t.2.1,.int .i64 t.2.2]:=fun j v hj=>.there (.there (r3 j v hj))
  have heq:=cpw (x:=.tmp 34) (y:=.tmp 39) (a0:=(t.1:Nat)) (b0:=(t.1:Nat)) (a1:=t.2.1) (b1:=t.2.1) (a2:=t.2.2) (b2:=t.2.2)
  rw [show decide ((((t.1:Nat):Int)=(t.1:Nat))∧t.2.1=t.2.1∧t.2.2=t.2.2)=true by simp] at heq
  repeat (first | refine wlssT ?_ | refine bb_ ?_ | (refine wR ?_;try simp only [oS]) | refine ba_ ?_ | refine wM ?_ | refine wD ?_ | refine wL ?_ | refine wE ?_ | refine wT ?_ | refine bk_ ?_ | refine bd_ ?_)
  refine bx_ (List.range' 0 11) (by kernel_rfl) ?_
  repeat (first | (apply bh_;exact rfl;exact rfl;exact trivial;intro L;apply bz_ (r:=o1+3*i);exact rfl;exact rfl;omega;omega;omega) | (apply bh_;exact rfl;exact rfl;exact trivial;intro L;apply bz_ (r:=o3+3*i);exact rfl;exact rfl;omega;omega;omega) | (apply bm_;exact rfl;exact rfl;exact trivial;apply cg_ (vs:=[.int .i64 (t.1:Nat),.int .u8 t.2.1,.int .i64 t.2.2]);exact rfl;exact rfl;exact r1) | (apply bm_;exact rfl;exact rfl;exact trivial;apply cg_ (vs:=[.int .i64 (t.1:Nat),.int .u8 t.2.1,.int .i64 t.2.2]);exact rfl;exact rfl;exact r3) | (apply bh_;exact rfl;exact rfl;exact trivial;intro L;apply bs_;exact rfl;exact rfl;apply wo_;exact heq) | refine aM ?_ | refine aD ?_ | refine aL ?_ | refine ca_ ?_)
  repeat (first | (refine wR ?_;try simp only [oS]) | refine ba_ ?_ | refine wM ?_ | refine wA ?_ | refine wadd ?_ | refine wF ?_ | refine bk_ ?_)
  refine cr_ (I:=mv_ x 5 p q tr.length (.slice (some ⟨b1,o1,none⟩) tr.length c1) (.slice a2 cut.length c2) (.slice (some ⟨b3,o3,none⟩) tr.length c3) (.slice a4 cut.length c4) L) (R:=fun j=>tr.length-j<tr.length-i) (i+1) (by omega) (show i+1≤tr.length by omega) ?_ .refl rfl
  exact ⟨rfl,rfl,rfl,trivial⟩
 obtain rfl:i=tr.length:=by omega
 repeat (first | refine wlssF ?_ | refine bb_ ?_ | (refine wR ?_;try simp only [oS]) | refine ba_ ?_ | refine wM ?_ | refine wA ?_ | refine wD ?_ | refine wL ?_ | refine wE ?_ | refine wF ?_ | refine bd_ ?_ | refine ch_ ?_)
 refine ck_ (mv_ x 6 p q cut.length (.slice a1 tr.length c1) (.slice a2 cut.length c2) (.slice a3 tr.length c3) (.slice a4 cut.length c4) L) (fun i=>cut.length-i) 0 (Nat.zero_le _) ⟨rfl,rfl,rfl,trivial⟩ .refl rfl ?_
 intro i hi
 replace hi:i≤cut.length:=hi
 simp only [mv_]
 by_cases hlt:i<cut.length
 ·obtain ⟨t,ht⟩:∃ t,cut[i]?=some t:=⟨cut[i],List.getElem?_eq_getElem hlt⟩
  obtain ⟨b1,o1,rfl,r1⟩:=h2 i t ht
  obtain ⟨b3,o3,rfl,r3⟩:=h4 i t ht
  have r1:Rd (arr q 0 [.slice a3 tr.length c3,.slice (some ⟨b3,o3,none⟩) cut.length c4]::arr p 0 [.slice a1 tr.length c1,.slice (some ⟨b1,o1,none⟩) cut.length c2]::L) b1 (o1+i) (.int .i64 (t:Nat)):=.there (.there r1)
  have r3:Rd (arr q 0 [.slice a3 tr.length c3,.slice (some ⟨b3,o3,none⟩) cut.length c4]::arr p 0 [.slice a1 tr.length c1,.slice (some ⟨b1,o1,none⟩) cut.length c2]::L) b3 (o3+i) (.int .i64 (t:Nat)):=.there (.there r3)
  repeat (first | refine wlssT ?_ | refine bb_ ?_ | (refine wR ?_;try simp only [oS]) | refine ba_ ?_ | refine wM ?_ | refine wD ?_ | refine wL ?_ | refine wE ?_ | refine wT ?_ | refine bk_ ?_ | refine bd_ ?_)
  refine bx_ (List.range' 0 11) (by kernel_rfl) ?_
  repeat (first | (apply bh_;exact rfl;exact rfl;exact trivial;intro L;apply bz_ (r:=o1+i);exact rfl;exact rfl;omega;omega;omega) | (apply bh_;exact rfl;exact rfl;exact trivial;intro L;apply bz_ (r:=o3+i);exact rfl;exact rfl;omega;omega;omega) | (apply bm_;exact rfl;exact rfl;exact trivial;apply bc_;exact rfl;exact r1) | (apply bm_;exact rfl;exact rfl;exact trivial;apply bc_;exact rfl;exact r3) | refine aM ?_ | refine aD ?_ | (apply bh_;exact rfl;exact rfl;exact gY;intro L;apply bs_;exact rfl;exact rfl;exact bgm) | refine aL ?_ | refine ca_ ?_)
  rw [show (!decide (((t:Nat):Int)=((t:Nat):Int)))=false by simp]
  repeat (first | (refine wR ?_;try simp only [oS]) | refine ba_ ?_ | refine wM ?_ | refine wA ?_ | refine wadd ?_ | refine wF ?_ | refine bk_ ?_)
  refine cr_ (I:=mv_ x 6 p q cut.length (.slice a1 tr.length c1) (.slice (some ⟨b1,o1,none⟩) cut.length c2) (.slice a3 tr.length c3) (.slice (some ⟨b3,o3,none⟩) cut.length c4) L) (R:=fun j=>cut.length-j<cut.length-i) (i+1) (by omega) (show i+1≤cut.length by omega) ?_ .refl rfl
  exact ⟨rfl,rfl,rfl,trivial⟩
 obtain rfl:i=cut.length:=by omega
 repeat (first | refine wlssF ?_ | refine bb_ ?_ | (refine wR ?_;try simp only [oS]) | refine ba_ ?_ | refine wM ?_ | refine wA ?_ | refine wD ?_ | refine wL ?_ | refine wE ?_ | refine wF ?_ | refine bw_ ?_ | refine ch_ ?_)
 (first | refine or1 Try.func31 Try.results31 hQ rfl ?_ | refine on1 Try.func31 Try.results31 hQ rfl ?_)
 exact ⟨rfl,rfl,fun h st=>Ent.star (.drop (.drop .refl)) st⟩
end
end
section
def GotAt (L:List HProp) (v:Value) (pre:List (List Nat)):Prop:=∃ a c,v=.slice a pre.length c∧∀ (j:Nat) ws,pre[j]?=some ws→∃ b o a' c',a=some ⟨b,o,none⟩∧Rd L b (o+j) (.slice a' ws.length c')∧RdV L a' ws
def brc (L:List HProp) (a:Option Addr) (l:List (List (List Nat))):Prop:=∀ (k:Nat) pre,l[k]?=some pre→∃ b o v,a=some ⟨b,o,none⟩∧Rd L b (o+k) v∧GotAt L v pre
def AnsAt (L:List HProp) (v:Value) (ans:List (Bool × List Nat)):Prop:=∃ a c,v=.slice a ans.length c∧∀ (j:Nat) y,ans[j]?=some y→∃ b o a' c',a=some ⟨b,o,none⟩∧Rd L b (o+2*j) (.bool y.1)∧Rd L b (o+2*j+1) (.slice a' y.2.length c')∧RdV L a' y.2
def brd (L:List HProp) (a:Option Addr) (l:List (List (Bool × List Nat))):Prop:=∀ (k:Nat) ans,l[k]?=some ans→∃ b o v,a=some ⟨b,o,none⟩∧Rd L b (o+k) v∧AnsAt L v ans
def Told (ans:List (Bool × List Nat)) (pre:List (List Nat)):Prop:=∃ tail,ans=pre.map (fun w=>(true,w))++tail∧∀ y∈tail,y.1=false
section
variable {B:Hand} [Lets B] {L F:List HProp} {x:B.X}
def yy_ (x:B.X) (u v:Value) (n:Nat) (L:List HProp):Inv Nat B.X where
 e:=fun i=>[(0,u),(1,v),(5,.int .i64 (i:Nat))]
 L:=fun _=>L
 x:=fun _=>x
 ok:=fun i=>i≤n
def ty_ (x:B.X) (u v:Value) (i n m:Nat) (L:List HProp):Inv Nat B.X where
 e:=fun j=>[(0,u),(1,v),(5,.int .i64 (i:Nat)),(6,.int .i64 (min j m:Nat)),(7,.int .i64 (j:Nat))]
 L:=fun _=>L
 x:=fun _=>x
 ok:=fun j=>j≤n
theorem xh_ {ga aa:Option Addr} {gc ac:Nat} {got:List (List (List Nat))} {anss:List (List (Bool × List Nat))} (hg:brc L ga got) (ha:brd L aa anss) (hlen:got.length=anss.length) (htold:∀ (k:Nat) pre ans,got[k]?=some pre→anss[k]?=some ans→Told ans pre)
  (hl:anss.length<1000000000) (hl2:∀ a∈anss,a.length<1000000000) (hl3:∀ a∈anss,∀ y∈a,y.2.length<1000000000) :
  Tr Try.prog B 32 [.slice ga anss.length gc,.slice aa anss.length ac] L x fun v L' x'=>v=.bool true∧L'=L∧x'=x:=by
 refine be_ Try.func32 rfl Try.ntmps32 (by simp) fun um Q _ hQ=>?_
 simp only [argE,Nat.zero_add,Nat.reduceAdd]
 repeat (first | refine wneqF ?_ | refine bb_ ?_ | (refine wR ?_;try simp only [oS]) | refine ba_ ?_ | refine wM ?_ | refine wA ?_ | refine wE ?_ | refine wF ?_ | refine bk_ ?_ | refine bd_ ?_)
 refine ck_ (yy_ x (.slice ga anss.length gc) (.slice aa anss.length ac) anss.length L) (fun i=>anss.length-i) 0 (Nat.zero_le _) ⟨rfl,rfl,rfl,trivial⟩ .refl rfl ?_
 intro i hi
 replace hi:i≤anss.length:=hi
 simp only [yy_]
 by_cases hlt:i<anss.length
 ·obtain ⟨ans,hans⟩:∃ t,anss[i]?=some t:=⟨anss[i],List.getElem?_eq_getElem hlt⟩
  obtain ⟨pre,hpre⟩:∃ t,got[i]?=some t:=⟨got[i]'(by omega),List.getElem?_eq_getElem (by omega)⟩
  have hn:=hl2 ans (List.mem_of_getElem? hans)
  have hn3:=hl3 ans (List.mem_of_getElem? hans)
  obtain ⟨tail,htl,hfalse⟩:=htold i pre ans hpre hans
  have hle:pre.length≤ans.length:=by rw [htl];simp
  obtain ⟨gb,go,gv,rfl,rg,ga2,gc2,rfl,hg2⟩:=hg i pre hpre
  obtain ⟨ab,ao,av,rfl,ra,aa2,ac2,rfl,ha2⟩:=ha i ans hans
  repeat (first | refine wlssT ?_ | refine bb_ ?_ | (refine wR ?_;try simp only [oS]) | refine ba_ ?_ | refine wM ?_ | refine wA ?_ | refine wE ?_ | refine wT ?_ | refine bk_ ?_ | refine bd_ ?_)
  refine ck_ (ty_ x (.slice (some ⟨gb,go,none⟩) anss.length gc) (.slice (some ⟨ab,ao,none⟩) anss.length ac) i ans.length pre.length L) (fun i=>ans.length-i) 0 (Nat.zero_le _) ⟨rfl,rfl,rfl,(by rw [Nat.zero_min];rfl),rfl,trivial⟩ .refl rfl ?_
  intro j hj
  replace hj:j≤ans.length:=hj
  simp only [ty_]
  by_cases hjl:j<ans.length
  ·obtain ⟨⟨q,ws⟩,hy⟩:∃ y,ans[j]?=some y:=⟨ans[j],List.getElem?_eq_getElem hjl⟩
   obtain ⟨b2,o2,a2,c2,rfl,r1,r2,rv⟩:=ha2 j _ hy
   simp only at r1 r2 rv
   by_cases hjp:j<pre.length
   ·have hyy:ans[j]?=some (true,pre[j]):=by
     rw [htl,List.getElem?_append_left (by simpa using hjp)];simp [hjp]
    rw [hy] at hyy
    obtain ⟨rfl,rfl⟩:q=true∧ws=pre[j]:=by simpa using hyy
    obtain ⟨b3,o3,a3,c3,rfl,s1,sv⟩:=hg2 j pre[j] (List.getElem?_eq_getElem hjp)
    have hwl:=hn3 _ (List.mem_of_getElem? hy)
    simp only at hwl
    rw [show min j pre.length=j by omega]
    obtain ⟨ws,hws⟩:∃ ws,pre[j]=ws:=⟨_,rfl⟩
    rw [hws] at r2 rv s1 sv hwl
    repeat (first | (apply wo_po;apply ce_;exact rfl;exact rfl;omega;exact trivial) | (apply wo_po;apply fm_;exact rfl;exact rfl;omega;exact trivial) | (apply wo_po;apply bc_;exact rfl;exact ra;exact trivial) | (apply wo_po;apply bc_;exact rfl;exact r1;exact trivial) | refine wlssT ?_ | refine bb_ ?_ | (refine wR ?_;try simp only [oS]) | refine ba_ ?_ | refine wM ?_ | refine wD ?_ | (apply wo_po;apply gb_;exact rfl;exact gY) | refine wE ?_ | refine wT ?_ | refine wF ?_ | refine bk_ ?_ | refine bd_ ?_)
    refine bx_ (List.range' 0 26) (by kernel_rfl) ?_
    repeat (first | (apply bh_;exact rfl;exact rfl;exact gY;intro L;apply bs_;exact rfl;exact rfl;exact (bbh (by omega))) | (apply bh_;exact rfl;exact rfl;exact gY;intro L;apply ce_;exact rfl;exact rfl;omega) | (apply bh_;exact rfl;exact rfl;exact gY;intro L;apply fm_;exact rfl;exact rfl;omega) | (apply bm_;exact rfl;exact rfl;exact gY;apply bc_;exact rfl;(first | exact ra | exact rg | exact s1 | exact r2)) | refine aM ?_ | refine aD ?_ | (apply bh_;exact rfl;exact rfl;exact gY;intro L;apply ks_;exact rfl))
    refine ja_ (Pd':=[]) rfl rfl (by kernel_rfl) rfl rfl rfl (.cons rfl (.cons rfl .nil)) (mj_ (l:=ws) (l':=ws) rfl rfl (by omega) sv rv) (fun v L' x' _ p hp=>by cases hp) ?_
    rintro v L' x' ⟨rfl,eL,ex⟩
    subst L' x'
    rw [show decide (ws=ws)=true from decide_eq_true rfl]
    repeat (first | (apply bh_;exact rfl;exact rfl;exact gY;intro L;apply gb_;exact rfl) | (apply bh_;exact rfl;exact rfl;exact gY;intro L;apply bkm;exact rfl;exact rfl;exact rfl) | refine ca_ ?_)
    repeat (first | (refine wR ?_;try simp only [oS]) | refine ba_ ?_ | refine wM ?_ | refine wA ?_ | refine wadd ?_ | refine wF ?_ | refine bk_ ?_)
    refine cr_ (I:=ty_ _ _ _ i ans.length pre.length L) (R:=fun k=>ans.length-k<ans.length-j) (j+1) (by omega) (show j+1≤ans.length by omega) ?_ .refl rfl
    refine ⟨rfl,rfl,rfl,?_,rfl,trivial⟩
    rw [show min (j+1) pre.length=j+1 by omega];rfl
   ·have hq:q=false:=by
     rw [htl,List.getElem?_append_right (by simpa using hjp)] at hy
     exact hfalse _ (List.mem_of_getElem? hy)
    subst hq
    repeat (first | (apply wo_po;apply ce_;exact rfl;exact rfl;omega;exact trivial) | (apply wo_po;apply fm_;exact rfl;exact rfl;omega;exact trivial) | (apply wo_po;apply bc_;exact rfl;exact ra;exact trivial) | (apply wo_po;apply bc_;exact rfl;exact r1;exact trivial) | refine wlssT ?_ | refine bb_ ?_ | (refine wR ?_;try simp only [oS]) | refine ba_ ?_ | refine wM ?_ | refine wA ?_ | refine wD ?_ | (apply wo_po;apply gb_;exact rfl;exact gY) | refine wadd ?_ | refine wE ?_ | refine wT ?_ | refine bk_ ?_ | refine bd_ ?_ | refine ch_ ?_)
    refine cr_ (I:=ty_ _ _ _ i ans.length pre.length L) (R:=fun k=>ans.length-k<ans.length-j) (j+1) (by omega) (show j+1≤ans.length by omega) ?_ .refl rfl
    refine ⟨rfl,rfl,rfl,?_,rfl,trivial⟩
    rw [show min (j+1) pre.length=min j pre.length by omega];rfl
  ·obtain rfl:j=ans.length:=by omega
   rw [show min ans.length pre.length=pre.length by omega]
   repeat (first | (apply wo_po;apply ce_;exact rfl;exact rfl;omega;exact trivial) | (apply wo_po;apply bc_;exact rfl;(first | exact ra | exact rg);exact trivial) | refine wlssF ?_ | refine wneqF ?_ | refine bb_ ?_ | (refine wR ?_;try simp only [oS]) | refine ba_ ?_ | refine wM ?_ | refine wA ?_ | refine wadd ?_ | refine wE ?_ | refine wF ?_ | refine bk_ ?_ | refine ch_ ?_)
   refine cr_ (I:=yy_ x _ _ anss.length L) (R:=fun k=>anss.length-k<anss.length-i) (i+1) (by omega) (show i+1≤anss.length by omega) ?_ .refl rfl
   exact ⟨rfl,rfl,rfl,trivial⟩
 obtain rfl:i=anss.length:=by omega
 repeat (first | refine wlssF ?_ | refine bb_ ?_ | (refine wR ?_;try simp only [oS]) | refine ba_ ?_ | refine wM ?_ | refine wA ?_ | refine wE ?_ | refine wF ?_ | refine bw_ ?_ | refine ch_ ?_)
 (first | refine or1 Try.func32 Try.results32 hQ rfl ?_ | refine on1 Try.func32 Try.results32 hQ rfl ?_)
 exact ⟨rfl,rfl,rfl⟩
end
end
end Go.Proofs.Ytodgemainhokjaa
namespace Go.PB.Mach
section
def AnsOk (t:Th):Prop:=∃ (pre:List (List Nat)) (tail:List (Bool × List Nat)),t.ans=pre.map (fun w=>(true,w))++tail∧pre.length=t.call∧tail.length≤1∧∀ y∈tail,y.1=false
theorem xb_ {pre:List (List Nat)} {y:Bool × List Nat} {c:Nat} {g:Bool × List Nat→Bool × List Nat} (h:pre.length=c):(pre.map (fun w=>(true,w))++[y]).modify c g=pre.map (fun w=>(true,w))++[g y]:=by
 subst h
 induction pre with
 | nil=>rfl
 | cons a l ih=>simp only [List.map_cons,List.cons_append,List.length_cons,List.modify_succ_cons,ih]
theorem cgd {t:Th} (h:AnsOk t):∃ (pre:List (List Nat)) (y:Bool × List Nat),t.begun.ans=pre.map (fun w=>(true,w))++[y]∧pre.length=t.begun.call∧y.1=false:=by
 obtain ⟨pre,tail,e,hp,hl,hf⟩:=h
 unfold Th.begun
 match tail,hl with
 | [],_ =>
  rw [if_pos (by rw [e];simp [hp])]
  exact ⟨pre,(false,[]),by simp [e],hp,rfl⟩
 | [y],_ =>
  rw [if_neg (by rw [e];simp [hp])]
  exact ⟨pre,y,e,hp,hf y (by simp)⟩
theorem cmf {t:Th} {pre:List (List Nat)} {y:Bool × List Nat} (e:t.ans=pre.map (fun w=>(true,w))++[y]) (hp:pre.length=t.call):AnsOk t.done:=by
 refine ⟨pre++[y.2],[],?_,by simp [Th.done,hp],by simp,fun z hz=>by simp at hz⟩
 unfold Th.done
 simp only
 rw [e,xb_ hp]
 simp
theorem cpg {t:Th} {i:In} {pre:List (List Nat)} {y:Bool × List Nat} (e:t.ans=pre.map (fun w=>(true,w))++[y]) (hp:pre.length=t.call) (hy:y.1=false):AnsOk (own t i):=by
 have base:∀ u:Th,u.ans=t.ans→u.call=t.call→AnsOk u:=fun u h1 h2=>⟨pre,[y],by rw [h1,e],by rw [h2,hp],by simp,fun z hz=>by rw [List.mem_singleton.1 hz];exact hy⟩
 unfold own
 simp only
 split <;> first
  | exact base _ rfl rfl
  | (split <;> exact base _ rfl rfl)
  | skip
 ·refine ⟨pre,[(y.1,y.2++[t.r i.a])],?_,hp,by simp,fun z hz=>by rw [List.mem_singleton.1 hz];exact hy⟩
  unfold Th.tell
  simp only
  rw [e,xb_ hp]
theorem on_ok:∀ {f:Nat} {t t':Th},AnsOk t→onF f t=some t'→AnsOk t':=by
 intro f
 induction f with
 | zero=>intro t t' _ h;cases h
 | succ f ih =>
  intro t t' ha h
  unfold onF at h
  obtain ⟨pre,y,e,hp,hy⟩:=cgd ha
  split at h
  ·cases h;exact ha
  split at h
  ·cases h;exact ha
  split at h
  ·cases h;exact ⟨pre,[y],e,hp,by simp,fun z hz=>by rw [List.mem_singleton.1 hz];exact hy⟩
  split at h
  ·exact ih (cmf e hp) h
  ·exact ih (cpg e hp hy) h
theorem op_ok {f:Nat} {w w':Wd} {t t':Th} (ha:AnsOk t) (h:opF f w t=some (w',t')):AnsOk t':=by
 unfold opF at h
 split at h
 ·simp only [Option.map_eq_some_iff] at h
  obtain ⟨u,hu,e⟩:=h
  cases e
  exact on_ok (t:={ t with pc:=t.pc+1,r:=_ }) ha hu
 ·cases h
theorem tt_ {f:Nat} {s s':St} {k:Nat} (h:∀ t∈s.l,AnsOk t) (ht:turn f s k=some s'):∀ t∈s'.l,AnsOk t:=by
 unfold turn at ht
 split at ht
 ·rename_i t hk
  simp only [Option.map_eq_some_iff] at ht
  obtain ⟨y,hy,rfl⟩:=ht
  intro u hu
  rcases List.mem_or_eq_of_mem_set hu with hu | rfl
  ·exact h u hu
  ·exact op_ok (w':=y.1) (h t (List.mem_of_getElem? hk)) hy
 ·cases ht;exact h
theorem pr_ {f:Nat}:∀ {o:List (Option Nat)} {s s':St},(∀ t∈s.l,AnsOk t)→byOrder f s o=some s'→∀ t∈s'.l,AnsOk t
 | [],s,s',h,e=>by cases e;exact h
 | none::o,s,s',h,e=>pr_ (o:=o) h e
 | some k::o,s,s',h,e=>by
  unfold byOrder at e
  split at e
  ·cases ht:turn f s k with
   | none=>rw [ht] at e;cases e
   | some s1=>rw [ht] at e;exact pr_ (tt_ h ht) e
  ·exact pr_ h e
theorem tz_ {f:Nat}:∀ {m k:Nat} {s:St} {q:Bool} {y:St × Bool},(∀ t∈s.l,AnsOk t)→round f m k s q=some y→∀ t∈y.1.l,AnsOk t
 | 0,k,s,q,y,h,e=>by cases e;exact h
 | m+1,k,s,q,y,h,e=>by
  unfold round at e
  split at e
  ·cases ht:turn f s k with
   | none=>rw [ht] at e;cases e
   | some s1=>rw [ht] at e;exact tz_ (tt_ h ht) e
  ·exact tz_ h e
theorem bcp {f:Nat}:∀ {g:Nat} {s s':St},(∀ t∈s.l,AnsOk t)→rounds f g s=some s'→∀ t∈s'.l,AnsOk t
 | 0,s,s',h,e=>by cases e
 | g+1,s,s',h,e=>by
  unfold rounds at e
  cases hr:round f s.l.length 0 s false with
  | none=>rw [hr] at e;cases e
  | some y =>
   rw [hr,Option.bind_some] at e
   split at e
   ·exact bcp (tz_ h hr) e
   ·cases e;exact tz_ h hr
theorem bms {f:Nat}:∀ {l l':List Th},(∀ t∈l,AnsOk t)→begin_ f l=some l'→∀ t∈l',AnsOk t
 | [],l',h,e=>by cases e;exact fun t ht=>by simp at ht
 | t::l,l',h,e=>by
  unfold begin_ at e
  cases ho:onF f t with
  | none=>rw [ho] at e;cases e
  | some u =>
   rw [ho,Option.bind_some] at e
   simp only [Option.map_eq_some_iff] at e
   obtain ⟨l1,h1,rfl⟩:=e
   intro v hv
   rcases List.mem_cons.1 hv with rfl | hv
   ·exact on_ok (h t (by simp)) ho
   ·exact bms (fun w hw=>h w (by simp [hw])) h1 v hv
theorem play_ok {f g:Nat} {w:Wd} {o:List (Option Nat)} {l:List (List Cl)} {st:St} (h:play f g w o l=some st):∀ t∈st.l,AnsOk t:=by
 unfold play at h
 cases hb:begin_ f (l.map fun c=>{ calls:=c }) with
 | none=>rw [hb] at h;cases h
 | some l1 =>
  rw [hb,Option.bind_some] at h
  have h1:=bms (fun t ht=>by
   obtain ⟨c,_,rfl⟩:=List.mem_map.1 ht
   exact ⟨[],[],rfl,rfl,by simp,fun y hy=>by simp at hy⟩) hb
  cases hbo:byOrder f ⟨w,l1,[]⟩ o with
  | none=>rw [hbo] at h;cases h
  | some s1 =>
   rw [hbo,Option.bind_some] at h
   exact bcp (pr_ (s:=⟨w,l1,[]⟩) h1 hbo) h
def AnsN (m:Nat) (t:Th):Prop:=t.ans.length≤m∧∀ y∈t.ans,y.2.length≤m
theorem AnsN.le {m m':Nat} {t:Th} (h:AnsN m t) (hm:m≤m'):AnsN m' t:=⟨Nat.le_trans h.1 hm,fun y hy=>Nat.le_trans (h.2 y hy) hm⟩
theorem zp_ {p:Bool × List Nat→Prop} {g:Bool × List Nat→Bool × List Nat} {l:List (Bool × List Nat)} {c:Nat} (h:∀ y∈l,p y∧p (g y)):∀ y∈l.modify c g,p y:=fun y hy=>by
 obtain ⟨i,hi⟩:=List.mem_iff_getElem?.1 hy
 rw [List.getElem?_modify] at hi
 obtain ⟨z,hz,rfl⟩:=Option.map_eq_some_iff.1 hi
 have:=h z (List.mem_of_getElem? hz)
 split
 ·exact this.2
 ·exact this.1
theorem cms {m:Nat} {t:Th} (h:AnsN m t):t.begun.ans.length≤m+1∧∀ y∈t.begun.ans,y.2.length≤m:=by
 unfold Th.begun
 split
 ·refine ⟨by simp [h.1],fun y hy=>?_⟩
  rcases List.mem_append.1 hy with hy | hy
  ·exact h.2 y hy
  ·rw [List.mem_singleton.1 hy];exact Nat.zero_le _
 ·exact ⟨Nat.le_succ_of_le h.1,h.2⟩
theorem own_n {m:Nat} {t:Th} {i:In} (h:t.ans.length≤m+1∧∀ y∈t.ans,y.2.length≤m):AnsN (m+1) (own t i):=by
 have base:∀ u:Th,u.ans=t.ans→AnsN (m+1) u:=fun u h1=>⟨h1▸h.1,fun y hy=>Nat.le_succ_of_le (h.2 y (h1▸hy))⟩
 unfold own
 simp only
 split <;> first
  | exact base _ rfl
  | (split <;> exact base _ rfl)
  | skip
 refine ⟨by unfold Th.tell;simpa using h.1,?_⟩
 unfold Th.tell
 refine zp_ (p:=fun y=>y.2.length≤m+1) fun y hy=>⟨Nat.le_succ_of_le (h.2 y hy),?_⟩
 simpa using h.2 y hy
theorem cpx {m:Nat} {t:Th} (h:t.ans.length≤m+1∧∀ y∈t.ans,y.2.length≤m):AnsN (m+1) t.done:=by
 refine ⟨by unfold Th.done;simpa using h.1,?_⟩
 unfold Th.done
 exact zp_ (p:=fun y=>y.2.length≤m+1) fun y hy=>⟨Nat.le_succ_of_le (h.2 y hy),Nat.le_succ_of_le (h.2 y hy)⟩
theorem on_n:∀ {f m:Nat} {t t':Th},AnsN m t→onF f t=some t'→AnsN (m+f) t':=by
 intro f
 induction f with
 | zero=>intro m t t' _ h;cases h
 | succ f ih =>
  intro m t t' ha h
  unfold onF at h
  have hb:=cms ha
  split at h
  ·cases h;exact ha.le (by omega)
  split at h
  ·cases h;exact AnsN.le (t:={ t with over:=true }) ha (by omega)
  split at h
  ·cases h;exact ⟨by have:=hb.1;omega,fun y hy=>by have:=hb.2 y hy;omega⟩
  split at h
  ·exact (ih (cpx hb) h).le (by omega)
  ·exact (ih (own_n hb) h).le (by omega)
theorem op_n {f m:Nat} {w w':Wd} {t t':Th} (ha:AnsN m t) (h:opF f w t=some (w',t')):AnsN (m+f) t':=by
 unfold opF at h
 split at h
 ·simp only [Option.map_eq_some_iff] at h
  obtain ⟨u,hu,e⟩:=h
  cases e
  exact on_n (t:={ t with pc:=t.pc+1,r:=_ }) ha hu
 ·cases h
def StN (f:Nat) (s:St):Prop:=∀ t∈s.l,AnsN (f*(s.tr.length+1)) t
theorem cbj {f:Nat} {s s':St} {k:Nat} (h:StN f s) (ht:turn f s k=some s'):StN f s':=by
 unfold turn at ht
 split at ht
 ·rename_i t hk
  simp only [Option.map_eq_some_iff] at ht
  obtain ⟨y,hy,rfl⟩:=ht
  intro u hu
  show AnsN (f*((s.tr++[(k,t.mark)]).length+1)) u
  have e:f*((s.tr++[(k,t.mark)]).length+1)=f*(s.tr.length+1)+f:=by rw [List.length_append];show f*(s.tr.length+1+1)=_;rw [Nat.mul_succ]
  rw [e]
  rcases List.mem_or_eq_of_mem_set hu with hu | rfl
  ·exact (h u hu).le (by omega)
  ·exact op_n (w':=y.1) (h t (List.mem_of_getElem? hk)) hy
 ·cases ht;exact h
theorem sk_ {f:Nat}:∀ {o:List (Option Nat)} {s s':St},StN f s→byOrder f s o=some s'→StN f s'
 | [],s,s',h,e=>by cases e;exact h
 | none::o,s,s',h,e=>sk_ (o:=o) h e
 | some k::o,s,s',h,e=>by
  unfold byOrder at e
  split at e
  ·cases ht:turn f s k with
   | none=>rw [ht] at e;cases e
   | some s1=>rw [ht] at e;exact sk_ (cbj h ht) e
  ·exact sk_ h e
theorem xr_ {f:Nat}:∀ {m k:Nat} {s:St} {q:Bool} {y:St × Bool},StN f s→round f m k s q=some y→StN f y.1
 | 0,k,s,q,y,h,e=>by cases e;exact h
 | m+1,k,s,q,y,h,e=>by
  unfold round at e
  split at e
  ·cases ht:turn f s k with
   | none=>rw [ht] at e;cases e
   | some s1=>rw [ht] at e;exact xr_ (cbj h ht) e
  ·exact xr_ h e
theorem bjq {f:Nat}:∀ {g:Nat} {s s':St},StN f s→rounds f g s=some s'→StN f s'
 | 0,s,s',h,e=>by cases e
 | g+1,s,s',h,e=>by
  unfold rounds at e
  cases hr:round f s.l.length 0 s false with
  | none=>rw [hr] at e;cases e
  | some y =>
   rw [hr,Option.bind_some] at e
   split at e
   ·exact bjq (xr_ h hr) e
   ·cases e;exact xr_ h hr
theorem btg {f:Nat}:∀ {l l':List Th},(∀ t∈l,AnsN 0 t)→begin_ f l=some l'→∀ t∈l',AnsN f t
 | [],l',h,e=>by cases e;exact fun t ht=>by simp at ht
 | t::l,l',h,e=>by
  unfold begin_ at e
  cases ho:onF f t with
  | none=>rw [ho] at e;cases e
  | some u =>
   rw [ho,Option.bind_some] at e
   simp only [Option.map_eq_some_iff] at e
   obtain ⟨l1,h1,rfl⟩:=e
   intro v hv
   rcases List.mem_cons.1 hv with rfl | hv
   ·have:=on_n (h t (by simp)) ho
    rwa [Nat.zero_add] at this
   ·exact btg (fun w hw=>h w (by simp [hw])) h1 v hv
theorem play_n {f g:Nat} {w:Wd} {o:List (Option Nat)} {l:List (List Cl)} {st:St} (h:play f g w o l=some st):StN f st:=by
 unfold play at h
 cases hb:begin_ f (l.map fun c=>{ calls:=c }) with
 | none=>rw [hb] at h;cases h
 | some l1 =>
  rw [hb,Option.bind_some] at h
  have h1:StN f ⟨w,l1,[]⟩:=fun t ht=>by
   have:=btg (fun t ht=>by
    obtain ⟨c,_,rfl⟩:=List.mem_map.1 ht
    exact ⟨Nat.le_refl 0,fun y hy=>by simp at hy⟩) hb t ht
   exact this.le (by show f≤f*(0+1);omega)
  cases hbo:byOrder f ⟨w,l1,[]⟩ o with
  | none=>rw [hbo] at h;cases h
  | some s1 =>
   rw [hbo,Option.bind_some] at h
   exact bjq (sk_ h1 hbo) h
end
end Go.PB.Mach
namespace Go.PB
open Go
section
def Dup (c:HProp):Prop:=∀ (L:List HProp) (h:Hp),Star (c::L) h→Star (c::c::L) h
theorem vo_ {b o:Nat} {vs:List Value}:Dup (fro b o vs):=fun L h s=>xw_ s
theorem cff {W:World}:Dup (base W):=fun L h s=>by
 obtain ⟨h1,h2,s1,ha,hL⟩:=s
 exact ⟨⟨fun _ _=>none,h1.ro,fun _=>none,fun _=>none⟩,h,⟨fun _ _ _ e=>s1.r1 _ _ _ e,fun _ _ _ e=>e,fun _ _ _ e=>by simp at e,fun _ _ _ e=>e,fun _ _=>.inl rfl,fun _ _ e=>by simp at e,fun _ _ e=>e,fun _=>.inl rfl,fun _ _ e=>by simp at e,fun _ _ e=>e⟩,ha,h1,h2,s1,ha,hL⟩
theorem qr_ {c:HProp} {M L:List HProp} {h:Hp} (s:Star (all (c::M)::L) h):Star (c::all M::L) h :=
 bn_ (bq_ (M:=c::M) s) (fun _ z=>z) fun _ z=>bj_ z
theorem kv_ {c:HProp} {M L:List HProp} {h:Hp} (s:Star (c::all M::L) h):Star (all (c::M)::L) h :=
 bj_ (M:=c::M) (bn_ s (fun _ z=>z) fun _ z=>bq_ z)
theorem bgf:∀ {M:List HProp},(∀ c∈M,Dup c)→Dup (all M)
 | [],_=>fun L h s=>bj_ (M:=[]) s
 | c::M,hM=>fun L h s=>by
  have s1:=hM c (by simp) _ _ (qr_ s)
  have s2:Star (all M::c::c::L) h:=Ent.star (.take (.there (.there .here)) (.take .here (.take .here .refl))) s1
  have s3:=bgf (fun d hd=>hM d (by simp [hd])) _ _ s2
  have s4:Star (c::all M::c::all M::L) h:=Ent.star (.take (.there (.there .here)) (.take .here (.take (.there .here) (.take .here .refl)))) s3
  exact kv_ (bn_ s4 (fun _ z=>z) fun _ z=>bn_ z (fun _ z=>z) fun _ z=>kv_ z)
theorem bmf {c:HProp} (hc:Dup c) {L:List HProp} {h:Hp} (s:Star (c::L) h):∀ n,Star (all (List.replicate n c)::c::L) h
 | 0=>bj_ (M:=[]) s
 | n+1=>by
  have s1:=bmf hc s n
  have s2:=hc _ _ (cs_ s1)
  have s3:Star (c::all (List.replicate n c)::c::L) h:=Ent.star (.take .here (.take (.there .here) (.take .here .refl))) s2
  rw [List.replicate_succ]
  exact kv_ s3
theorem yp_:∀ {As Bs L:List HProp} {h:Hp},As.length=Bs.length→Star (all As::all Bs::L) h→Star (all (List.zipWith (fun a b=>all [a,b]) As Bs)::L) h
 | [],[],L,h,_,s=>bj_ (M:=[]) (ci_ (ci_ s))
 | [],b::Bs,L,h,e,s=>by simp at e
 | a::As,[],L,h,e,s=>by simp at e
 | a::As,b::Bs,L,h,e,s=>by
  have s1:=qr_ s
  have s2:Star (all (b::Bs)::a::all As::L) h:=Ent.star (.take (.there (.there .here)) (.take .here (.take .here .refl))) s1
  have s3:=qr_ s2
  have s4:Star (all As::all Bs::a::b::L) h:=Ent.star (.take (.there (.there (.there .here))) (.take (.there .here) (.take (.there .here) (.take .here .refl)))) s3
  have s5:=yp_ (by simpa using e) s4
  have s6:Star (a::b::all (List.zipWith (fun a b=>all [a,b]) As Bs)::L) h:=Ent.star (.take (.there .here) (.take (.there .here) (.take .here .refl))) s5
  exact kv_ (bj_ (M:=[_,_]) s6)
theorem bmx:∀ {As Bs L:List HProp} {h:Hp},As.length=Bs.length→(∀ (i:Nat) a b,As[i]?=some a→Bs[i]?=some b→∀ h,a h→b h)→Star (all As::L) h→Star (all Bs::L) h
 | [],[],L,h,_,_,s=>s
 | [],b::Bs,L,h,e,_,s=>by simp at e
 | a::As,[],L,h,e,_,s=>by simp at e
 | a::As,b::Bs,L,h,e,m,s=>by
  have s1:=qr_ s
  refine kv_ (bn_ s1 (m 0 a b rfl rfl) fun h z=>?_)
  exact bmx (by simpa using e) (fun i a b ha hb=>m (i+1) a b ha hb) z
theorem wc_:∀ {M L:List HProp} {h:Hp},Star (M++L) h→Star (all L::M) h
 | [],L,h,s=>bj_ (L:=[]) (by rw [List.append_nil];exact s)
 | c::M,L,h,s=>cs_ (bn_ (L:=M++L) s (fun _ z=>z) fun _ z=>wc_ z)
theorem btn {n:Nat} {v:Value}:zeros n [v]=List.replicate n v:=by
 unfold zeros
 induction n with
 | zero=>rfl
 | succ n ih=>rw [List.replicate_succ,List.flatten_cons,ih,List.replicate_succ];rfl
theorem bgs {Y:Type}:∀ {M:List HProp} {C:Nat→Y→HProp} {Q:Nat→Y→Prop} (hM:∀ (k:Nat) c,M[k]?=some c→∀ h,c h→∃ y,Q k y∧C k y h) {L:List HProp} {h:Hp},Star (all M::L) h →
  ∃ ys:List Y,(ys.length=M.length∧∀ (k:Nat) y,ys[k]?=some y→Q k y)∧Star (all (ys.mapIdx C)::L) h
 | [],C,Q,hM,L,h,s=>⟨[],⟨rfl,fun k y hy=>by simp at hy⟩,s⟩
 | c::M,C,Q,hM,L,h,s=>by
  obtain ⟨h1,h2,sp,hc,hr⟩:=qr_ s
  obtain ⟨y,hq,hy⟩:=hM 0 c rfl h1 hc
  obtain ⟨ys,⟨hl,hQ⟩,hs⟩:=bgs (C:=fun k=>C (k+1)) (Q:=fun k=>Q (k+1)) (fun k c hk=>hM (k+1) c hk) hr
  refine ⟨y::ys,⟨by simp [hl],fun k z hz=>?_⟩,?_⟩
  ·cases k with
   | zero=>cases hz;exact hq
   | succ k=>exact hQ k z hz
  ·rw [List.mapIdx_cons]
   exact kv_ ⟨h1,h2,sp,hy,hs⟩
theorem cjt {M L:List HProp} {c:HProp} {k b o:Nat} {v:Value} (e:M[k]?=some c) (r:Rd [c] b o v):Rd (all M::L) b o v:=fun h s=>by
 obtain ⟨h1,h2,sp,hc,hr⟩:=PB.star_pick e s
 exact (Rd.of (R:=all (M.eraseIdx k)::L) .here r) h ⟨h1,h2,sp,hc,hr⟩
end
end Go.PB
namespace Go.Proofs.Ytodgemainhokjaa
open Go Go.PB
attribute [local irreducible] Mo Bin Eql Tr Wo Ap Wle
section
def gotC (gb k:Nat) (pre:List (List Nat)):HProp:=fun h=>∃ y:Value × List (Value × List Nat),y.2.map (·.2)=pre∧all [arr gb k [y.1],vec 1 y.1 (y.2.map (·.1)),all (y.2.map rowT)] h
def hw_ (t:Mach.Th):List (List Nat):=(t.ans.filter (·.1)).map (·.2)
def rgPv (gb:Nat) (q:Nat × Mach.Th):HProp:=fun h=>Star [gotC gb q.1 (hw_ q.2)] h
theorem xt_ {gb:Nat}:∀ q h,Star [rgPv gb q] h→rgPv gb q h:=fun q h st=>bq_ (M:=[_]) st
def yesA (pre:List (List Nat)):List (Bool × List Nat):=pre.map fun w=>(true,w)
theorem bzg {pre:List (List Nat)}:(yesA pre).length=pre.length:=by simp [yesA]
theorem btp {pre:List (List Nat)} {w:List Nat}:yesA pre++[(true,w)]=yesA (pre++[w]):=by simp [yesA]
theorem ti_ {pre:List (List Nat)}:((yesA pre).filter (·.1)).map (·.2)=pre:=by
 induction pre with
 | nil=>rfl
 | cons a l ih=>simp only [yesA,List.map_cons] at ih ⊢;simp [List.filter_cons,ih]
theorem cfg {cs:List Mach.Cl} {c p:Nat} {r:Nat→Nat} {pre:List (List Nat)} {said:List Nat}:hw_ (Mach.T cs c p r (yesA pre) said)=pre:=by
 unfold hw_ Mach.T
 simp only [List.filter_append,List.map_append,ti_]
 simp
theorem cjd {t:Mach.Th} (h:Mach.AnsOk t):Told t.ans (hw_ t):=by
 obtain ⟨pre,tail,e,hp,hl,hf⟩:=h
 have h1:tail.filter (·.1)=[]:=List.filter_eq_nil_iff.2 fun y hy=>by rw [hf y hy];decide
 have h2:hw_ t=pre:=by
  unfold hw_
  rw [e,List.filter_append,h1,List.append_nil]
  exact ti_
 rw [h2]
 exact ⟨tail,e,hf⟩
theorem gn_ {M L:List HProp} {b o:Nat} {v:Value} (r:Rd M b o v):Rd (all M::L) b o v:=fun h s =>
 r h (ci_ (wc_ (bq_ s)))
theorem bjx {L F:List HProp} {a:Option Addr} {n c:Nat} {cs:List Value} (hh:Has L (vec 1 (.slice a n c) cs) F) (hn:cs.length=n*1) (hz:a=none→n=0) (hy:∀ y,a=some y→y=⟨y.block,y.off,none⟩):RdsO L a n cs:=by
 refine ⟨by omega,?_⟩
 cases a with
 | none=>exact .inl (hz rfl)
 | some y =>
  obtain ⟨b,o,sp⟩:=y
  cases hy _ rfl
  exact .inr ⟨b,o,rfl,fun i v hi=>df_ hh hi⟩
def Shp (v:Value) (n:Nat):Prop:=∃ a c,v=.slice a n c∧(a=none→n=0)∧∀ y,a=some y→y=⟨y.block,y.off,none⟩
theorem brx {v:Value} {cs:List Value} {h:Hp} (hv:vec 1 v cs h):Shp v cs.length:=by
 obtain ⟨a,n,c,rfl,hn,_,hz,hy⟩:=bg_ (by omega) h hv
 obtain rfl:n=cs.length:=by omega
 exact ⟨a,c,rfl,hz,hy⟩
theorem bjg {ι:Type} {f:ι→Value × List Nat} {l:List ι} {h:Hp} (s:all (l.map fun y=>vec 1 (f y).1 ((f y).2.map num)) h):∀ z∈l,Shp (f z).1 (f z).2.length:=fun z hz=>by
 obtain ⟨i,hi⟩:=List.mem_iff_getElem?.1 hz
 have s1:Star (all (l.map fun y=>vec 1 (f y).1 ((f y).2.map num))::[]) h:=qb_ s
 obtain ⟨h1,h2,sp,hc,hr⟩:=PB.star_pick (i:=i) (c:=vec 1 (f z).1 ((f z).2.map num)) (by rw [List.getElem?_map,hi];rfl) s1
 have:=brx hc
 simpa using this
def gotY (gb k:Nat) (y:Value × List (Value × List Nat)):HProp:=all [arr gb k [y.1],vec 1 y.1 (y.2.map (·.1)),all (y.2.map rowT)]
def GotQ (l:List (List (List Nat))) (k:Nat) (y:Value × List (Value × List Nat)):Prop:=l[k]?=some (y.2.map (·.2))∧Shp y.1 y.2.length∧∀ z∈y.2,Shp z.1 z.2.length
theorem ckt {gb:Nat} {l:List Mach.Th} {L:List HProp} {h:Hp} (s:Star (all (l.mapIdx fun k t=>rgPv gb (k,t))::L) h) :
  ∃ ys:List (Value × List (Value × List Nat)),(ys.length=l.length∧∀ (k:Nat) y,ys[k]?=some y→GotQ (l.map hw_) k y)∧Star (all (ys.mapIdx (gotY gb))::L) h:=by
 obtain ⟨ys,⟨h1,h2⟩,h3⟩:=bgs (C:=gotY gb) (Q:=GotQ (l.map hw_)) (fun k c hk h hc=>by
  rw [List.getElem?_mapIdx,Option.map_eq_some_iff] at hk
  obtain ⟨t,ht,rfl⟩:=hk
  obtain ⟨h1,h2,sp,⟨y,hy,hc⟩,_⟩:=hc
  have sg:gotY gb k y h1:=hc
  have hh:=xt_ (gb:=gb) (k,t)
  refine ⟨y,⟨?_,?_,?_⟩,?_⟩
  ·rw [List.getElem?_map,ht,hy];rfl
  ·obtain ⟨g1,g2,sp1,_,g3,g4,sp2,hv,_⟩:=hc
   simpa using brx hv
  ·obtain ⟨g1,g2,sp1,_,g3,g4,sp2,hv,g5,g6,sp3,hr,_⟩:=hc
   exact bjg (f:=fun y:Value × List Nat=>y) hr
  ·have s1:Star (gotY gb k y::[]) h:=⟨h1,h2,sp,sg,‹_›⟩
   exact bq_ (M:=[_,_,_]) s1) s
 exact ⟨ys,⟨by simpa using h1,h2⟩,h3⟩
theorem Rd.deep {M L F:List HProp} {c:HProp} {k b o:Nat} {v:Value} (hh:Has L (all M) F) (e:M[k]?=some c) (r:Rd [c] b o v):Rd L b o v:=Rd.of hh (cjt e r)
theorem ckv {gb:Nat} {l:List (List (List Nat))} {ys:List (Value × List (Value × List Nat))} {L F:List HProp} (hh:Has L (all (ys.mapIdx (gotY gb))) F) (hl:ys.length=l.length) (hq:∀ (k:Nat) y,ys[k]?=some y→GotQ l k y):brc L (some ⟨gb,0,none⟩) l:=fun k pre hk=>by
 have hlt:=(List.getElem?_eq_some_iff.1 hk).1
 obtain ⟨y,hy⟩:∃ y,ys[k]?=some y:=⟨ys[k]'(by omega),List.getElem?_eq_getElem _⟩
 obtain ⟨q1,⟨a,c,ev,hz,hs⟩,q3⟩:=hq k y hy
 rw [hk] at q1
 obtain rfl:pre=y.2.map (·.2):=by simpa using q1
 have e:(ys.mapIdx (gotY gb))[k]?=some (gotY gb k y):=by rw [List.getElem?_mapIdx,hy];rfl
 refine ⟨gb,0,y.1,rfl,Rd.deep hh e (gn_ (Rd.row (k:=0) rfl (by omega))),a,c,by rw [ev];simp,fun j ws hj=>?_⟩
 rw [List.getElem?_map,Option.map_eq_some_iff] at hj
 obtain ⟨z,hz1,rfl⟩:=hj
 obtain ⟨a',c',ev',hz',hs'⟩:=q3 z (List.mem_of_getElem? hz1)
 have hjl:=(List.getElem?_eq_some_iff.1 hz1).1
 cases a with
 | none=>have:=hz rfl;omega
 | some w =>
  obtain ⟨b,o,sp⟩:=w
  cases hs _ rfl
  refine ⟨b,o,a',c',rfl,?_,fun i v hi=>?_⟩
  ·refine Rd.deep hh e (gn_ (M:=[_,_,_]) (df_ (cs:=y.2.map (·.1)) (by rw [ev];exact (.there .here)) ?_))
   rw [List.getElem?_map,hz1,← ev'];rfl
  ·cases a' with
   | none=>have:=hz' rfl;have:=(List.getElem?_eq_some_iff.1 hi).1;omega
   | some w' =>
    obtain ⟨b',o',sp'⟩:=w'
    cases hs' _ rfl
    have e2:(y.2.map rowT)[j]?=some (rowT z):=by rw [List.getElem?_map,hz1];rfl
    refine ⟨b',o',rfl,Rd.deep hh e (gn_ (M:=[_,_,_]) (Rd.deep (.there (.there .here)) e2 (df_ (n:=z.2.length) (sz:=1) (c:=c') (F:=[]) (cs:=z.2.map num) ?_ (by rw [List.getElem?_map,hi];rfl))))⟩
    have:rowT z=vec 1 (.slice (some ⟨b',o',none⟩) z.2.length c') (z.2.map num):=by unfold rowT;rw [ev']
    rw [this]
    exact .here
def ansY (_k:Nat) (y:Value × List (Bool × Value × List Nat)):HProp:=all [vec 2 y.1 (y.2.map ansV).flatten,all (y.2.map ansT)]
def AnsQ (os:List (Value × List (Bool × List Nat))) (k:Nat) (y:Value × List (Bool × Value × List Nat)):Prop:=os[k]?=some (y.1,y.2.map ansOf)∧Shp y.1 y.2.length∧∀ z∈y.2,Shp z.2.1 z.2.2.length
theorem cnc {os:List (Value × List (Bool × List Nat))} {L:List HProp} {h:Hp} (s:Star (all (os.map ansK)::L) h) :
  ∃ ys:List (Value × List (Bool × Value × List Nat)),(ys.length=os.length∧∀ (k:Nat) y,ys[k]?=some y→AnsQ os k y)∧Star (all (ys.mapIdx ansY)::L) h:=by
 obtain ⟨ys,⟨h1,h2⟩,h3⟩:=bgs (C:=ansY) (Q:=AnsQ os) (fun k c hk h hc=>by
  rw [List.getElem?_map,Option.map_eq_some_iff] at hk
  obtain ⟨y,hy,rfl⟩:=hk
  obtain ⟨al,hal,hc⟩:=hc
  refine ⟨(y.1,al),⟨?_,?_,?_⟩,hc⟩
  ·rw [hy,hal]
  ·obtain ⟨g1,g2,sp1,hv,_⟩:=hc
   obtain ⟨a,n,c,e,hn,_,hz,hs⟩:=bg_ (by omega) _ hv
   obtain rfl:n=al.length:=by rw [gu_ (k:=2) (fun _=>rfl)] at hn;omega
   exact ⟨a,c,e,hz,hs⟩
  ·obtain ⟨g1,g2,sp1,hv,g5,g6,sp3,hr,_⟩:=hc
   exact bjg (f:=fun y:Bool × Value × List Nat=>y.2) hr) s
 exact ⟨ys,⟨by simpa using h1,h2⟩,h3⟩
theorem cnd {os:List (Value × List (Bool × List Nat))} {ys:List (Value × List (Bool × Value × List Nat))} {a:Option Addr} {n c:Nat} {L F F':List HProp} (hv:Has L (vec 1 (.slice a n c) (os.map (·.1))) F') (hn:(os.map (·.1)).length=n*1) (hz:a=none→n=0) (hs:∀ y,a=some y→y=⟨y.block,y.off,none⟩)
  (hh:Has L (all (ys.mapIdx ansY)) F) (hl:ys.length=os.length) (hq:∀ (k:Nat) y,ys[k]?=some y→AnsQ os k y):brd L a (os.map (·.2)):=fun k ans hk=>by
 have hlt:=(List.getElem?_eq_some_iff.1 hk).1
 simp only [List.length_map] at hlt hn
 obtain ⟨y,hy⟩:∃ y,ys[k]?=some y:=⟨ys[k]'(by omega),List.getElem?_eq_getElem _⟩
 obtain ⟨q1,⟨ya,yc,ev,yz,yh⟩,q3⟩:=hq k y hy
 rw [List.getElem?_map,q1] at hk
 obtain rfl:ans=y.2.map ansOf:=by simpa using hk.symm
 have e:(ys.mapIdx ansY)[k]?=some (ansY k y):=by rw [List.getElem?_mapIdx,hy];rfl
 cases a with
 | none=>have:=hz rfl;omega
 | some w =>
  obtain ⟨b,o,sp⟩:=w
  cases hs _ rfl
  refine ⟨b,o,y.1,rfl,df_ hv (by rw [List.getElem?_map,q1];rfl),ya,yc,by rw [ev];simp,fun j q hj=>?_⟩
  rw [List.getElem?_map,Option.map_eq_some_iff] at hj
  obtain ⟨z,hz1,rfl⟩:=hj
  obtain ⟨a',c',ev',hz',hs'⟩:=q3 z (List.mem_of_getElem? hz1)
  have hjl:=(List.getElem?_eq_some_iff.1 hz1).1
  cases ya with
  | none=>have:=yz rfl;omega
  | some w =>
   obtain ⟨b1,o1,sp⟩:=w
   cases yh _ rfl
   have hf:∀ i,i<2→((y.2.map ansV).flatten)[2*j+i]?=(ansV z)[i]?:=fun i hi=>ku_ (f:=ansV) (k:=2) (fun _=>rfl) _ _ _ _ hz1 hi
   refine ⟨b1,o1,a',c',rfl,?_,?_,fun i v hi=>?_⟩
   ·exact Rd.deep hh e (gn_ (M:=[_,_]) (df_ (i:=2*j) (cs:=(y.2.map ansV).flatten) (by rw [ev];exact .here) (hf 0 (by omega))))
   ·have:=Rd.deep (b:=b1) (o:=o1+(2*j+1)) (v:=z.2.1) hh e (gn_ (M:=[_,_]) (df_ (i:=2*j+1) (cs:=(y.2.map ansV).flatten) (by rw [ev];exact .here) (hf 1 (by omega))))
    rw [ev',← Nat.add_assoc] at this
    exact this
   ·cases a' with
    | none=>have:=hz' rfl;have:=(List.getElem?_eq_some_iff.1 hi).1;simp only [ansOf] at this;omega
    | some w' =>
     obtain ⟨b',o',sp'⟩:=w'
     cases hs' _ rfl
     have e2:(y.2.map ansT)[j]?=some (ansT z):=by rw [List.getElem?_map,hz1];rfl
     refine ⟨b',o',rfl,Rd.deep hh e (gn_ (M:=[_,_]) (Rd.deep (.there .here) e2 (df_ (n:=z.2.2.length) (sz:=1) (c:=c') (F:=[]) (cs:=z.2.2.map num) ?_ (by rw [List.getElem?_map];simp only [ansOf] at hi;rw [hi];rfl))))⟩
     have:ansT z=vec 1 (.slice (some ⟨b',o',none⟩) z.2.2.length c') (z.2.2.map num):=by unfold ansT;rw [ev']
     rw [this]
     exact .here
theorem bnn:∀ {l:List (Nat × Nat × Nat)},(l.map trC).flatten=trCP (l.map fun e=>(e.1,mkII e.2))
 | []=>rfl
 | e::l=>by
  have:=bnn (l:=l)
  simp only [List.map_cons,List.flatten_cons,trCP,this]
  rfl
theorem bjw {L F:List HProp} {a:Option Addr} {n c:Nat} {tr:List (Nat × (Int × Int))} (hh:Has L (vec 3 (.slice a n c) (trCP tr)) F) (hn:tr.length=n) (hz:a=none→n=0) (hs:∀ y,a=some y→y=⟨y.block,y.off,none⟩):RdTr L a tr:=fun i t hi=>by
 have hlt:=(List.getElem?_eq_some_iff.1 hi).1
 cases a with
 | none=>have:=hz rfl;omega
 | some w =>
  obtain ⟨b,o,sp⟩:=w
  cases hs _ rfl
  refine ⟨b,o,rfl,fun j v hj=>?_⟩
  have hjl:=(List.getElem?_eq_some_iff.1 hj).1
  rw [Nat.add_assoc]
  refine df_ hh ?_
  exact (ku_ (f:=fun t:Nat × (Int × Int)=>[Value.int .i64 (t.1:Nat),.int .u8 t.2.1,.int .i64 t.2.2]) (k:=3) (fun _=>rfl) _ _ _ _ hi (by simpa using hjl)).trans hj
theorem cqc {st:Mach.St}:(Mach.St.cut st).length≤st.l.length:=by
 unfold Mach.St.cut
 exact Nat.le_trans (List.length_filter_le _ _) (by simp)
theorem bhs {ι:Type} {P:ι→Prop} {c:ι→HProp} {L:List HProp} {h:Hp} (s:∃ y,P y∧Star (c y::L) h):Star ((fun h=>∃ y,P y∧c y h)::L) h:=by
 obtain ⟨y,hp,h1,h2,sp,hc,hr⟩:=s
 exact ⟨h1,h2,sp,⟨y,hp,hc⟩,hr⟩
theorem bsd {L F:List HProp} {a:Option Addr} {n c:Nat} {l:List Nat} (hh:Has L (vec 1 (.slice a n c) (cutC l)) F) (hn:l.length=n) (hz:a=none→n=0) (hs:∀ y,a=some y→y=⟨y.block,y.off,none⟩):RdI L a l:=fun i t hi=>by
 have hlt:=(List.getElem?_eq_some_iff.1 hi).1
 cases a with
 | none=>have:=hz rfl;omega
 | some w =>
  obtain ⟨b,o,sp⟩:=w
  cases hs _ rfl
  exact ⟨b,o,rfl,df_ hh (by unfold cutC;rw [List.getElem?_map,hi];rfl)⟩
end
section
theorem bjz {L F:List HProp} {c:HProp} {a:Option Addr} {n:Nat} {vs:List Value} (hh:Has L c F) (h:RdsO [c] a n vs):RdsO L a n vs :=
 ⟨h.1,h.2.imp id fun ⟨b,o,e,r⟩=>⟨b,o,e,fun i v hi=>Rd.of hh (r i v hi)⟩⟩
structure ThRo (Ro:HProp) (p8 ib rb gt wb qb qo nt qc gb gc k r n:Nat) (wa:Option Addr) (wc:Nat) (a:Option Addr) (c:Nat) (l:List SE):Prop where
 h1:Rd [Ro] p8 0 (.slice (some ⟨qb,qo,none⟩) nt qc)
 h2:Rd [Ro] qb (qo+k) (.slice a l.length c)
 h3:∀ (i:Nat) y,l[i]?=some y→∃ b o,a=some ⟨b,o,none⟩∧Rds [Ro] b (o+3*i) [.bool y.d.w,.slice y.a y.d.l.length y.c,.int .i64 y.d.t]∧RdsO [Ro] y.a y.d.l.length (y.d.l.map Go.PB.num)
 h4:Rd [Ro] ib 0 (.int .i64 (k:Nat))
 h5:Rd [Ro] rb 0 (.pointer (some ⟨r,0,none⟩))
 h6:Rd [Ro] gt 0 (.slice (some ⟨gb,0,none⟩) nt gc)
 h7:Rd [Ro] wb 0 (.slice wa n wc)
 hk:k<nt
 hl:l.length≤6
 ok:∀ y∈l,(-9223372036854775808≤y.d.t∧y.d.t≤9223372036854775807)∧∀ w∈y.d.l,w<18446744073709551616
def fz_ (n:Nat) (l:List SE):List Mach.Cl:=l.map fun y=>ge_ n y.d
theorem qo_ {n:Nat} {l:List SE} (h:∀ y∈l,∀ w∈y.d.l,w<18446744073709551616):ju_ n (fz_ n l):=fun i cl hi=>by
 simp only [fz_,List.getElem?_map,Option.map_eq_some_iff] at hi
 obtain ⟨y,hy,rfl⟩:=hi
 exact ⟨_,rfl,h y (List.mem_of_getElem? hy)⟩
section
variable {n r gb k:Nat} {sb says turn fin wg:Nat}
abbrev seqG (n r gb:Nat):Game:=wG (sD n) (sAddr r) (n+1) (sK r n) (all []) (rgPv gb)
abbrev seqP (n r sb says turn fin gb k:Nat) (pre:List (List Nat)) (f:Nat→Nat):HProp:=plC (sAddr r) (n+1) (sK r n) (all []) sb says turn fin (gotC gb k pre) f
theorem ccj {M:HProp} (h1:1≤n) (h2:n≤16):SeqAt (ka_ (sD n) (sAddr r) (n+1) (sK r n) (pi_ r n) (all []) (rgPv gb) xt_ sb says turn fin wg k M) r n where
 lo:=h1
 hi:=h2
 hdr:=fun s=>gn_ (fun h hs=>by
  obtain ⟨h1,h2,s1,hc,_⟩:=hs
  exact ⟨rfl,.inl (s1.o1 _ _ _ (hc.2 (r,1,.int .i64 (n:Nat)) (by simp [sK])))⟩)
 a0:=rfl
 a:=fun i _=>yz_
def thInv (n r gb k sb says turn fin wg p8 ib rb gt wb:Nat) (l:List SE) (Ro:HProp) (F:List HProp):PB.Inv (Nat × List (List Nat) × PlS) TX where
 e:=fun i=>[(0,gateV sb),(1,.pointer (some ⟨p8,0,none⟩)),(2,.pointer (some ⟨ib,0,none⟩)),(3,.pointer (some ⟨gt,0,none⟩)),(4,.pointer (some ⟨rb,0,none⟩)),(5,.pointer (some ⟨wb,0,none⟩)),(7,.int .i64 (i.1:Nat))]
 L:=fun i=>seqP n r sb says turn fin gb k i.2.1 i.2.2.f::Ro::F
 x:=fun i=>tx (seqG n r gb) says turn fin wg (.busy i.2.2.g ((k,i.2.2.t):Nat × Mach.Th) i.2.2.n)
 ok:=fun i=>i.1≤l.length∧i.2.1.length=i.1∧Mach.onF (20) (Mach.Bt (fz_ n l) i.1 (yesA i.2.1))=some i.2.2.t∧∀ q,q<n+1→i.2.2.f q=i.2.2.g q
set_option maxHeartbeats 2000000 in
theorem cnt {p8 ib rb gt wb qb qo nt qc gc c wc:Nat} {wa a:Option Addr} {l:List SE} {Ro:HProp} (hn1:1≤n) (hn16:n≤16) (O:ThRo Ro p8 ib rb gt wb qb qo nt qc gb gc k r n wa wc a c l) {t0:Mach.Th} (ht0:Mach.onF (20) (Mach.Bt (fz_ n l) 0 [])=some t0) :
  ThrOk (seqG n r gb) (fun s=>(s,((k,t0):Nat × Mach.Th))) (.func (.func 27) #[] #[.pointer (some ⟨p8,0,none⟩),.pointer (some ⟨ib,0,none⟩),.pointer (some ⟨gt,0,none⟩),.pointer (some ⟨rb,0,none⟩),.pointer (some ⟨wb,0,none⟩)]) (all [Ro,gotC gb k []]) where
 run:=by
  refine ⟨_,_,_,rfl,inferInstance,fun sb says turn fin wg (s:Nat→Nat) m F hok=>?_⟩
  show Tr Try.prog tH _ [gateV sb,.pointer (some ⟨p8,0,none⟩),.pointer (some ⟨ib,0,none⟩),.pointer (some ⟨gt,0,none⟩),.pointer (some ⟨rb,0,none⟩),.pointer (some ⟨wb,0,none⟩)] _ (tx (seqG n r gb) says turn fin wg (.busy s ((k,t0):Nat × Mach.Th) m)) _
  refine cv_ (seqP n r sb says turn fin gb k [] s::Ro::F) (fun hp st=>?_) ?_
  ·have s1:Star (wds (sAddr r) (n+1) (sK r n) s::all []::seatR sb says turn fin::all [Ro,gotC gb k []]::F) hp:=bq_ (M:=[_,_]) st
   have s2:Star (Ro::gotC gb k []::wds (sAddr r) (n+1) (sK r n) s::all []::seatR sb says turn fin::F) hp:=bq_ (M:=[_,_]) (Ent.star (.take (.there (.there (.there .here))) .refl) s1)
   exact bj_ (M:=[_,_,_,_]) (Ent.star (.take (.there (.there .here)) (.take (.there (.there .here)) (.take (.there (.there .here)) (.take (.there .here) .refl)))) s2)
  refine be_ Try.func27 rfl Try.ntmps27 (by simp) fun um Q _ hQ=>?_
  simp only [argE,Nat.zero_add,Nat.reduceAdd]
  repeat (first | refine bb_ ?_ | (refine wR ?_;try simp only [oS]) | refine ba_ ?_ | refine wA ?_ | refine bd_ ?_)
  refine ck_ (thInv n r gb k sb says turn fin wg p8 ib rb gt wb l Ro F) (fun i=>l.length-i.1) (0,[],⟨s,s,t0,m⟩) ⟨Nat.zero_le _,rfl,ht0,fun _ _=>rfl⟩ ⟨rfl,rfl,rfl,rfl,rfl,rfl,rfl,trivial⟩ .refl rfl ?_
  rintro ⟨i,pre,s⟩ ⟨hi,hpre,hon,hfg⟩
  dsimp only at hi hpre hon hfg
  simp only [thInv]
  have q1:∀ {c:HProp},Rd (c::Ro::F) p8 0 (.slice (some ⟨qb,qo,none⟩) nt qc):=fun {c}=>.there (Rd.of .here O.h1)
  have q2:∀ {c':HProp},Rd (c'::Ro::F) qb (qo+k) (.slice a l.length c):=fun {c}=>.there (Rd.of .here O.h2)
  have q4:∀ {c:HProp},Rd (c::Ro::F) ib 0 (.int .i64 (k:Nat)):=fun {c}=>.there (Rd.of .here O.h4)
  have q5:∀ {c:HProp},Rd (c::Ro::F) rb 0 (.pointer (some ⟨r,0,none⟩)):=fun {c}=>.there (Rd.of .here O.h5)
  have q7:∀ {c:HProp},Rd (c::Ro::F) wb 0 (.slice wa n wc):=fun {c}=>.there (Rd.of .here O.h7)
  have hkn:=O.hk
  have hl16:=O.hl
  by_cases hlt:i<l.length
  ·obtain ⟨y,hy⟩:∃ y,l[i]?=some y:=⟨l[i],List.getElem?_eq_getElem hlt⟩
   obtain ⟨b3,o3,rfl,r3,r3w⟩:=O.h3 i y hy
   have q3:∀ {c':HProp},Rds (c'::Ro::F) b3 (o3+3*i) [.bool y.d.w,.slice y.a y.d.l.length y.c,.int .i64 y.d.t]:=fun {c} q v hq=>.there (Rd.of .here (r3 q v hq))
   obtain ⟨hy1,hy2⟩:=O.ok y (List.mem_of_getElem? hy)
   have hcl:(fz_ n l)[i]?=some (ge_ n y.d):=by
    simp only [fz_,List.getElem?_map,hy,Option.map_some]
   -- got[k]'s cell,seen
   refine dd_ (gotC gb k pre::wds (sAddr r) (n+1) (sK r n) s.f::all []::seatR sb says turn fin::Ro::F) (fun hp st=>by
    have s1:Star (wds (sAddr r) (n+1) (sK r n) s.f::all []::seatR sb says turn fin::gotC gb k pre::Ro::F) hp:=bq_ (M:=[_,_,_,_]) st
    exact Ent.star (.take (.there (.there (.there .here))) .refl) s1) ?_
   refine we_ex (d:=fun (y:Value × List (Value × List Nat)) h=>y.2.map (·.2)=pre∧gotY gb k y h) .here fun y=>jv_ .here fun hsn=>?_
   obtain ⟨gv,sl⟩:=y
   simp only at hsn
   refine de_ (p:=∃ ga gn gcap,gv=.slice ga gn gcap∧gn=i) (fun hp st=>by
    have s1:Star (arr gb k [gv]::vec 1 gv (sl.map (·.1))::all (sl.map rowT)::_) hp:=bq_ (M:=[_,_,_]) st
    obtain ⟨ga,gn,gcap,e,hgn,_⟩:=bo_ (.there .here) (bg_ (by omega)) hp s1
    have hsl:sl.length=pre.length:=by rw [← hsn];simp
    exact ⟨ga,gn,gcap,e,by simp at hgn;omega⟩) ?_
   rintro ⟨ga,gn,gcap,rfl,rfl⟩
   have hsl:sl.length=pre.length:=by rw [← hsn];simp
   obtain ⟨M,hM⟩:∃ M,M=gotY gb k (.slice ga gn gcap,sl):=⟨_,rfl⟩
   rw [← hM]
   refine dd_ (plC (sAddr r) (n+1) (sK r n) (all []) sb says turn fin M s.f::Ro::F) (fun hp st=>bj_ (M:=[_,_,_,_]) (Ent.star (.take (.there .here) (.take (.there .here) (.take (.there .here) (.take .here .refl)))) st)) ?_
   have hMg:∀ h,M h→gotC gb k pre h:=fun h z=>⟨(.slice ga gn gcap,sl),hsn,by rw [hM] at z;exact z⟩
   have hdone:=bqr (addr:=sAddr r) (K:=sK r n) (A:=pi_ r n) (Z:=all []) (Pv:=rgPv gb) (hPv:=xt_) (sb:=sb) (says:=says) (turn:=turn) (fin:=fin) (wg:=wg) (k:=k) (Pm:=M) hn1 hn16 hy2 (qo_ fun y hy=>(O.ok y hy).2) hcl (by rw [bzg];exact hpre)
    (fun p r said hp hm=>qb_ (by rw [cfg];exact hMg _ hm)) hon hfg
   have w0:∀ {f:Nat→Nat},Rd (plC (sAddr r) (n+1) (sK r n) (all []) sb says turn fin M f::Ro::F) gb (0+k) (.slice ga gn gcap):=fun {f}=>by
    rw [hM]
    exact gn_ (.there (.there (.there (gn_ (Rd.row (k:=0) rfl (by omega))))))
   have w6:∀ {c:HProp},Rd (c::Ro::F) gt 0 (.slice (some ⟨gb,0,none⟩) nt gc):=fun {c}=>.there (Rd.of .here O.h6)
   repeat (first | (apply wo_po;apply ce_;exact rfl;exact rfl;omega;exact trivial) | (apply wo_po;apply bc_;exact rfl;(first | exact q1 | exact q2 | exact q4);exact trivial) | refine wlssT ?_ | refine bb_ ?_ | (refine wR ?_;try simp only [oS]) | refine ba_ ?_ | refine wM ?_ | refine wE ?_ | refine wT ?_ | refine bk_ ?_ | refine bd_ ?_)
   refine bx_ (List.range' 0 22) (by kernel_rfl) ?_
   repeat (first | (apply bh_;exact rfl;exact rfl;exact trivial;intro L;apply ks_;exact rfl) | (apply bh_;exact rfl;exact rfl;exact trivial;intro L;apply ce_;exact rfl;exact rfl;omega) | (apply bh_;exact rfl;exact rfl;exact trivial;intro L;apply bz_ (r:=o3+3*gn);exact rfl;exact rfl;omega;omega;omega) | (apply bm_;exact rfl;exact rfl;exact trivial;apply bc_;exact rfl;(first | exact q1 | exact q2 | exact q4 | exact q5 | exact q7 | exact w0 | exact w6)) | (apply bm_;exact rfl;exact rfl;exact trivial;apply cg_ (vs:=[.bool y.d.w,.slice y.a y.d.l.length y.c,.int .i64 y.d.t]);exact rfl;exact rfl;exact q3) | refine aM ?_)
   refine ja_ rfl rfl rfl trivial rfl rfl (.cons rfl (.cons rfl (.cons rfl (.cons rfl .nil)))) (bsx (y:=y) (A:=ka_ (sD n) (sAddr r) (n+1) (sK r n) (pi_ r n) (all []) (rgPv gb) xt_ sb says turn fin wg k M) (ccj hn1 hn16) hy1 hy2 hdone .here (bjz .here r3w) (bjz (.there .here) r3w)) ?_ ?_
   ·rintro v1 L' x' ⟨told,s',_,rfl,_⟩ p hp
    replace hp:=(List.mem_filter.1 hp).1
    simp only [List.mem_cons,List.not_mem_nil,or_false] at hp
    repeat (rcases hp with rfl | hp;· first | exact .inl rfl | exact .inr ⟨_,rfl,trivial,bc_ rfl (by first | exact .there w0 | exact Rd.of (.there (.there .here)) O.h1 | exact Rd.of (.there (.there .here)) O.h2 | exact Rd.of (.there (.there .here)) O.h4 | exact Rd.of (.there (.there .here)) O.h5 | exact Rd.of (.there (.there .here)) O.h6 | exact Rd.of (.there (.there .here)) O.h7)⟩ | exact .inr ⟨_,rfl,trivial,cg_ (vs:=[.bool y.d.w,.slice y.a y.d.l.length y.c,.int .i64 y.d.t]) rfl rfl (fun q w hq=>Rd.of (.there (.there .here)) (r3 q w hq))⟩)
   rintro bv L' x' ⟨told,s',⟨hon',hfg'⟩,rfl,rfl⟩
   refine gp_ (bo_ .here (bg_ (by omega))) ?_
   rintro ⟨ba,bn,bcap,rfl,hbn,_⟩
   have v0:Rd (arr gb k [.slice ga gn gcap]::vec 1 (.slice ga gn gcap) (sl.map (·.1))::all (sl.map rowT)::wds (sAddr r) (n+1) (sK r n) s'.f::all []::seatR sb says turn fin::vec 1 (.slice ba bn bcap) (told.map Go.PB.num)::Ro::F) gb (0+k) (.slice ga gn gcap):=Rd.row (k:=0) rfl (by omega)
   refine bgn (L':=arr gb k [.slice ga gn gcap]::vec 1 (.slice ga gn gcap) (sl.map (·.1))::all (sl.map rowT)::wds (sAddr r) (n+1) (sK r n) s'.f::all []::seatR sb says turn fin::vec 1 (.slice ba bn bcap) (told.map Go.PB.num)::Ro::F) (fun hp st=>by
    have s1:Star (wds (sAddr r) (n+1) (sK r n) s'.f::all []::seatR sb says turn fin::M::vec 1 (.slice ba bn bcap) (told.map Go.PB.num)::Ro::F) hp:=bq_ (M:=[_,_,_,_]) (cs_ st)
    rw [hM] at s1
    exact bq_ (M:=[_,_,_]) (Ent.star (.take (.there (.there (.there .here))) .refl) s1)) (fun p hp=>?_) ?_
   ·replace hp:=(List.mem_filter.1 hp).1
    simp only [List.mem_cons,List.not_mem_nil,or_false] at hp
    repeat (rcases hp with rfl | hp;· first | exact .inl rfl | exact .inr ⟨_,rfl,trivial,bc_ rfl (by first | exact v0 | exact Rd.of (.there (.there (.there (.there (.there (.there (.there .here))))))) O.h1 | exact Rd.of (.there (.there (.there (.there (.there (.there (.there .here))))))) O.h2 | exact Rd.of (.there (.there (.there (.there (.there (.there (.there .here))))))) O.h4 | exact Rd.of (.there (.there (.there (.there (.there (.there (.there .here))))))) O.h5 | exact Rd.of (.there (.there (.there (.there (.there (.there (.there .here))))))) O.h6 | exact Rd.of (.there (.there (.there (.there (.there (.there (.there .here))))))) O.h7)⟩ | exact .inr ⟨_,rfl,trivial,cg_ (vs:=[.bool y.d.w,.slice y.a y.d.l.length y.c,.int .i64 y.d.t]) rfl rfl (fun q w hq=>Rd.of (.there (.there (.there (.there (.there (.there (.there .here))))))) (r3 q w hq))⟩)
   refine gf_ rfl rfl rfl rfl trivial (bi_ (sz:=1) (vs:=[.slice ba bn bcap]) rfl (.cons rfl .nil) rfl (by intro v hv;cases (List.mem_singleton.1 hv);exact rfl) (by omega)) ?_ ?_
   ·rintro v' L' ⟨sb2,rfl,rfl⟩ p hp
    replace hp:=(List.mem_filter.1 (List.mem_filter.1 hp).1).1
    simp only [List.mem_cons,List.not_mem_nil,or_false] at hp
    repeat (rcases hp with rfl | hp;· first | exact .inl rfl | exact .inr ⟨_,rfl,trivial,bc_ rfl (by first | exact .there v0 | exact Rd.of (.there (.there (.there (.there (.there (.there (.there (.there .here)))))))) O.h1 | exact Rd.of (.there (.there (.there (.there (.there (.there (.there (.there .here)))))))) O.h2 | exact Rd.of (.there (.there (.there (.there (.there (.there (.there (.there .here)))))))) O.h4 | exact Rd.of (.there (.there (.there (.there (.there (.there (.there (.there .here)))))))) O.h5 | exact Rd.of (.there (.there (.there (.there (.there (.there (.there (.there .here)))))))) O.h6 | exact Rd.of (.there (.there (.there (.there (.there (.there (.there (.there .here)))))))) O.h7)⟩ | exact .inr ⟨_,rfl,trivial,cg_ (vs:=[.bool y.d.w,.slice y.a y.d.l.length y.c,.int .i64 y.d.t]) rfl rfl (fun q w hq=>Rd.of (.there (.there (.there (.there (.there (.there (.there (.there .here)))))))) (r3 q w hq))⟩)
   rintro v' L' ⟨sb2,rfl,rfl⟩
   refine gf_ rfl rfl rfl rfl trivial (cc_ (sz:=1) (new:=[.slice ba bn bcap]) rfl rfl rfl rfl (.there (.there .here)) rfl (.inr ⟨_,_,rfl,Rds.all .here⟩) (by intro v hv;cases (List.mem_singleton.1 hv);exact rfl) (by simp only [cd_];omega)) ?_ ?_
   ·rintro vw L' rfl p hp
    replace hp:=(List.mem_filter.1 (List.mem_filter.1 (List.mem_filter.1 hp).1).1).1
    simp only [List.mem_cons,List.not_mem_nil,or_false] at hp
    have v0:Rd (vec 1 vw (sl.map (·.1)++[.slice ba bn bcap])::arr sb2 0 [.slice ba bn bcap]::arr gb k [.slice ga gn gcap]::all (sl.map rowT)::wds (sAddr r) (n+1) (sK r n) s'.f::all []::seatR sb says turn fin::vec 1 (.slice ba bn bcap) (told.map Go.PB.num)::Ro::F) gb (0+k) (.slice ga gn gcap):=.there (.there (Rd.row (k:=0) rfl (by omega)))
    repeat (rcases hp with rfl | hp;· first | exact .inl rfl | exact .inr ⟨_,rfl,trivial,bc_ rfl (by first | exact v0 | exact Rd.of (.there (.there (.there (.there (.there (.there (.there (.there .here)))))))) O.h1 | exact Rd.of (.there (.there (.there (.there (.there (.there (.there (.there .here)))))))) O.h2 | exact Rd.of (.there (.there (.there (.there (.there (.there (.there (.there .here)))))))) O.h4 | exact Rd.of (.there (.there (.there (.there (.there (.there (.there (.there .here)))))))) O.h5 | exact Rd.of (.there (.there (.there (.there (.there (.there (.there (.there .here)))))))) O.h6 | exact Rd.of (.there (.there (.there (.there (.there (.there (.there (.there .here)))))))) O.h7)⟩ | exact .inr ⟨_,rfl,trivial,cg_ (vs:=[.bool y.d.w,.slice y.a y.d.l.length y.c,.int .i64 y.d.t]) rfl rfl (fun q w hq=>Rd.of (.there (.there (.there (.there (.there (.there (.there (.there .here)))))))) (r3 q w hq))⟩)
   rintro v' L' rfl
   refine gp_ (bo_ .here (bg_ (by omega))) ?_
   rintro ⟨va,vn,vc,rfl,_⟩
   repeat (first | (apply bh_;exact rfl;exact rfl;exact trivial;intro L;apply ce_;exact rfl;exact rfl;omega))
   refine cb_ rfl rfl rfl rfl rfl trivial (cf_ rfl rfl rfl (Wt.row (k:=0) (vs:=[.slice ga gn gcap]) (Nat.lt_succ_self 0) (by omega) (.there (.there .here)))) ?_
   rintro v' L' ⟨rfl,rfl⟩
   refine ca_ ?_
   repeat (first | (refine wR ?_;try simp only [oS]) | refine ba_ ?_ | refine wM ?_ | refine wA ?_ | refine wadd ?_)
   refine dv_ (B:=tH) (I:=thInv n r gb k sb says turn fin wg p8 ib rb gt wb l Ro F) (R:=fun q=>l.length-q.1<l.length-gn) (gn+1,pre++[told],s') (by show l.length-(gn+1)<l.length-gn;omega) ⟨by show gn+1≤l.length;omega,by simp [hpre],by rw [← btp];exact hon',hfg'⟩ ?_ (fun hp st=>?_) rfl
   ·exact ⟨rfl,rfl,rfl,rfl,rfl,rfl,rfl,trivial⟩
   ·have s1:Star (all (sl.map rowT)::rowT (Value.slice ba bn bcap,told)::vec 1 (.slice va vn vc) (sl.map (·.1)++[.slice ba bn bcap])::arr gb k [.slice va vn vc]::wds (sAddr r) (n+1) (sK r n) s'.f::all []::seatR sb says turn fin::Ro::F) hp:=Ent.star (.take (.there (.there (.there .here))) (.take (.there (.there (.there (.there (.there (.there .here)))))) (.take .here (.drop (.take .here .refl))))) st
    have s2:=bq_ s1
    have s3:Star (all ((sl++[((Value.slice ba bn bcap,told):Value × List Nat)]).map rowT)::vec 1 (.slice va vn vc) ((sl++[((Value.slice ba bn bcap,told):Value × List Nat)]).map (·.1))::arr gb k [.slice va vn vc]::wds (sAddr r) (n+1) (sK r n) s'.f::all []::seatR sb says turn fin::Ro::F) hp:=bj_ (by
     rw [List.map_append,List.map_append,List.append_assoc]
     exact s2)
    have s4:=bj_ (M:=[_,_,_]) (Ent.star (.take (.there (.there .here)) (.take (.there .here) (.take .here .refl))) s3)
    have s5:Star (gotC gb k (pre++[told])::wds (sAddr r) (n+1) (sK r n) s'.f::all []::seatR sb says turn fin::Ro::F) hp:=bn_ s4 (fun h z=>⟨(Value.slice va vn vc,sl++[((Value.slice ba bn bcap,told):Value × List Nat)]),(show List.map (·.2) (sl++[((Value.slice ba bn bcap,told):Value × List Nat)])=pre++[told] from by rw [List.map_append];exact congrArg (·++[told]) hsn),z⟩) fun _ z=>z
    exact bj_ (M:=[_,_,_,_]) (Ent.star (.take (.there .here) (.take (.there .here) (.take (.there .here) (.take .here .refl)))) s5)
  ·obtain rfl:i=l.length:=by omega
   repeat (first | (apply wo_po;apply ce_;exact rfl;exact rfl;omega;exact trivial) | (apply wo_po;apply bc_;exact rfl;(first | exact q1 | exact q2 | exact q4);exact trivial) | refine wlssF ?_ | refine bb_ ?_ | (refine wR ?_;try simp only [oS]) | refine ba_ ?_ | refine wM ?_ | refine wE ?_ | refine wF ?_ | refine ch_ ?_)
   (first | refine or0 Try.func27 Try.results27 hQ ?_ | refine on0 Try.func27 Try.results27 hQ ?_)
   have hnone:(fz_ n l)[l.length]?=none:=List.getElem?_eq_none_iff.2 (by simp [fz_])
   rw [Mach.on_over (f:=19) hnone] at hon
   have hst:=(Option.some.inj hon).symm
   refine ⟨s.g,((k,s.t):Nat × Mach.Th),s.n,rfl,?_,fun hp st=>?_⟩
   ·show mPlan _ (k,s.t)=none
    unfold mPlan
    rw [if_pos (by rw [hst])]
   ·have s1:Star (wds (sAddr r) (n+1) (sK r n) s.f::all []::seatR sb says turn fin::gotC gb k pre::Ro::F) hp:=bq_ (M:=[_,_,_,_]) st
    have s2:=bj_ (M:=[_,_]) (bn_ s1 (kd_ hfg) fun _ z=>z)
    have e:hw_ s.t=pre:=by rw [hst];exact ti_
    refine bn_ s2 (fun _ z=>z) fun hq z=>bn_ z (fun _ z=>z) fun hq z=>bn_ z (fun hq z=>?_) fun hq z=>ci_ z
    show Star [gotC gb k (hw_ s.t)] hq
    rw [e];exact qb_ z
end
end
end Go.Proofs.Ytodgemainhokjaa
namespace Go.Proofs.Ytodgemainhokjaa
open Go Go.PB
attribute [local irreducible] Mo Bin Eql Tr Wo Ap
section
theorem bqd {P:Program} {e:Env} {ty:TypeId} {L:List HProp} {t el sz n c u:Nat} {a:Option Addr} {k:IntKind} {j:Int} {o hi:Operand} [p:SlT P t el] [s:Siz P el sz] (hx:ev e o=some (.slice a n c)) (hh:ev e hi=some (.int k j)) (hj:j=(u:Nat)) (hu:u≤c) :
  Mo P e (.slice t o none (some hi) none) ty L fun v' L'=>v'=.slice a u c∧L'=L:=by
 have h:=bkk (P:=P) (e:=e) (ty:=ty) (L:=L) (t:=t) (l:=0) (u:=u) hx .no (.yes hh hj) (Nat.zero_le _) hu
 have e1:(if c=0 then a else a.map (·.add (0*sz)))=a:=by
  split
  ·rfl
  ·cases a with
   | none=>rfl
   | some y=>simp [Addr.add]
 rw [e1] at h
 exact h
abbrev RW:=Option Addr × Nat × List SE
def rv (y:RW):Value:=.slice y.1 y.2.2.length y.2.1
def ThsAt (L:List HProp) (a:Option Addr) (rs:List RW):Prop:=∀ (i:Nat) y,rs[i]?=some y→∃ b o,a=some ⟨b,o,none⟩∧Rd L b (o+i) (rv y)∧DoAt L y.1 y.2.2∧y.2.2.length≤y.2.1
def cutR (y:RW):RW:=(y.1,y.2.1,y.2.2.take 6)
def fewR (rs:List RW):List RW:=if rs=[] then [(none,0,[])] else (rs.take 4).map cutR
section
variable {B:Hand} [Lets B] {L F:List HProp} {x:B.X}
def bgc (x:B.X) (a:Option Addr) (c:Nat) (rs:List RW) (L:List HProp):Inv (Nat × Value) B.X where
 e:=fun i=>[(0,.slice a rs.length c),(3,i.2),(4,.int .i64 (i.1:Nat))]
 L:=fun i=>vec 1 i.2 (((rs.take i.1).map cutR).map rv)::L
 x:=fun _=>x
 ok:=fun i=>i.1≤rs.length∧i.1≤4
theorem cqb {a:Option Addr} {c:Nat} {rs:List RW} (hr:ThsAt L a rs) :
  Tr Try.prog B 25 [.slice a rs.length c] L x fun v L' x'=>L'=vec 1 v ((fewR rs).map rv)::L∧x'=x:=by
 refine Tr.post (R:=fun v L' x'=>x'=x∧∀ h,Star L' h→Star (vec 1 v ((fewR rs).map rv)::L) h) ?_
  (by rintro v L' x' ⟨rfl,h2⟩;exact ⟨_,⟨rfl,rfl⟩,h2⟩)
 refine be_ Try.func25 rfl Try.ntmps25 (by simp) fun um Q _ hQ=>?_
 simp only [argE,Nat.zero_add,Nat.reduceAdd]
 repeat (first | refine bb_ ?_ | (refine wR ?_;try simp only [oS]) | refine ba_ ?_ | refine wA ?_ | refine bd_ ?_)
 refine dd_ (vec 1 (.slice none 0 0) (((rs.take 0).map cutR).map rv)::L) (fun h st=>di_ st) ?_
 refine ck_ (bgc x a c rs L) (fun i=>rs.length-i.1) (0,.slice none 0 0) ⟨Nat.zero_le _,Nat.zero_le _⟩ ⟨rfl,rfl,rfl,trivial⟩ .refl rfl ?_
 rintro ⟨i,v⟩ ⟨hil,hi4⟩
 simp only at hil hi4
 simp only [bgc]
 refine de_ (bo_ .here (bg_ (by omega))) ?_
 rintro ⟨va,vn,vc,rfl,hvn,_⟩
 have hvn:vn=i:=by simp at hvn;omega
 subst hvn
 by_cases hgo:vn<rs.length∧vn<4
 ·obtain ⟨hlt,h4⟩:=hgo
  obtain ⟨y,hy⟩:∃ k,rs[vn]?=some k:=⟨rs[vn],List.getElem?_eq_getElem hlt⟩
  obtain ⟨b,o,rfl,hrd,hdo,hcap⟩:=hr vn y hy
  obtain ⟨ya,yc,yl⟩:=y
  simp only [rv] at hrd hdo hcap
  have hrk:∀ {d:HProp},Rd (d::L) b (o+vn) (.slice ya yl.length yc):=fun {d}=>.there hrd
  have hcr:cutR (ya,yc,yl)=(ya,yc,yl.take 6):=rfl
  obtain ⟨m,hm⟩:∃ m,(yl.take 6).length=m:=⟨_,rfl⟩
  have hm':=hm
  rw [List.length_take] at hm'
  have hgoal:rv (cutR (ya,yc,yl))=.slice ya m yc:=by rw [hcr];show Value.slice ya (yl.take 6).length yc=_;rw [hm]
  by_cases h8:6<yl.length
  ·have e8:m=6:=by omega
   subst e8
   repeat (first | (apply wo_po;apply ce_;exact rfl;exact rfl;omega;exact trivial) | (apply wo_po;apply bc_;exact rfl;exact hrk;exact trivial) | (apply wo_po;apply bqd (u:=6);exact rfl;exact rfl;exact rfl;omega;exact trivial) | refine wlssT ?_ | refine wgtrT ?_ | refine bb_ ?_ | (refine wR ?_;try simp only [oS]) | refine ba_ ?_ | refine wM ?_ | refine wA ?_ | refine wK ?_ | refine wE ?_ | refine wT ?_ | refine bk_ ?_ | refine bd_ ?_)
   repeat (first | (apply wo_mo;apply bi_ (sz:=1) (vs:=[.slice ya 6 yc]);exact rfl;exact .cons rfl .nil;exact rfl;(intro v hv;cases (List.mem_singleton.1 hv);exact rfl);omega;exact trivial))
   rintro v' L' ⟨sb2,rfl,rfl⟩
   repeat (first | (apply wo_mo;apply cc_ (sz:=1) (new:=[.slice ya 6 yc]);exact rfl;exact rfl;exact rfl;exact rfl;exact (.there .here);exact rfl;exact .inr ⟨_,_,rfl,Rds.all .here⟩;(intro v hv;cases (List.mem_singleton.1 hv);exact rfl);(simp only [cd_];omega);exact trivial))
   rintro v' L' rfl
   repeat (first | (refine wR ?_;try simp only [oS]) | refine ba_ ?_ | refine wM ?_ | refine wA ?_ | refine wadd ?_)
   refine cr_ (I:=bgc x (some ⟨b,o,none⟩) c rs L) (R:=fun j=>rs.length-j.1<rs.length-vn) (vn+1,v') (by show rs.length-(vn+1)<rs.length-vn;omega) ⟨by show vn+1≤rs.length;omega,by show vn+1≤4;omega⟩ ?_ ?_ rfl
   exact ⟨rfl,rfl,rfl,trivial⟩
   show Ent _ (vec 1 v' (((rs.take (vn+1)).map cutR).map rv)::_)
   rw [show ((rs.take (vn+1)).map cutR).map rv=((rs.take vn).map cutR).map rv++[.slice ya 6 yc] by rw [List.take_add_one,hy];simp only [Option.toList_some,List.map_append,List.map_cons,List.map_nil,hgoal]]
   exact (.take .here (.drop .refl))
  ·have e8:m=yl.length:=by omega
   subst e8
   repeat (first | (apply wo_po;apply ce_;exact rfl;exact rfl;omega;exact trivial) | (apply wo_po;apply bc_;exact rfl;exact hrk;exact trivial) | refine wlssT ?_ | refine wgtrF ?_ | refine bb_ ?_ | (refine wR ?_;try simp only [oS]) | refine ba_ ?_ | refine wM ?_ | refine wA ?_ | refine wK ?_ | refine wE ?_ | refine wT ?_ | refine wF ?_ | refine bk_ ?_ | refine bd_ ?_)
   repeat (first | (apply wo_mo;apply bi_ (sz:=1) (vs:=[.slice ya yl.length yc]);exact rfl;exact .cons rfl .nil;exact rfl;(intro v hv;cases (List.mem_singleton.1 hv);exact rfl);omega;exact trivial))
   rintro v' L' ⟨sb2,rfl,rfl⟩
   repeat (first | (apply wo_mo;apply cc_ (sz:=1) (new:=[.slice ya yl.length yc]);exact rfl;exact rfl;exact rfl;exact rfl;exact (.there .here);exact rfl;exact .inr ⟨_,_,rfl,Rds.all .here⟩;(intro v hv;cases (List.mem_singleton.1 hv);exact rfl);(simp only [cd_];omega);exact trivial))
   rintro v' L' rfl
   repeat (first | (refine wR ?_;try simp only [oS]) | refine ba_ ?_ | refine wM ?_ | refine wA ?_ | refine wadd ?_)
   refine cr_ (I:=bgc x (some ⟨b,o,none⟩) c rs L) (R:=fun j=>rs.length-j.1<rs.length-vn) (vn+1,v') (by show rs.length-(vn+1)<rs.length-vn;omega) ⟨by show vn+1≤rs.length;omega,by show vn+1≤4;omega⟩ ?_ ?_ rfl
   exact ⟨rfl,rfl,rfl,trivial⟩
   show Ent _ (vec 1 v' (((rs.take (vn+1)).map cutR).map rv)::_)
   rw [show ((rs.take (vn+1)).map cutR).map rv=((rs.take vn).map cutR).map rv++[.slice ya yl.length yc] by rw [List.take_add_one,hy];simp only [Option.toList_some,List.map_append,List.map_cons,List.map_nil,hgoal]]
   exact (.take .here (.drop .refl))
 ·have hend:rs.take vn=rs.take 4:=by
   by_cases h4:vn=4
   ·rw [h4]
   ·have:vn=rs.length:=by omega
    rw [this,List.take_length,List.take_of_length_le (by omega)]
  rw [hend]
  by_cases h0:rs=[]
  ·subst h0
   obtain rfl:vn=0:=by simp at hil;omega
   repeat (first | (apply wo_mo;apply bi_ (sz:=1) (vs:=[.slice none 0 0]);exact rfl;exact .cons rfl .nil;exact rfl;(intro v hv;cases (List.mem_singleton.1 hv);exact rfl);omega;exact trivial) | refine wlssF ?_ | refine weqlT ?_ | refine bb_ ?_ | (refine wR ?_;try simp only [oS]) | refine ba_ ?_ | refine wM ?_ | (apply wo_no;exact rfl) | refine wJ ?_ | refine wE ?_ | refine wT ?_ | refine wF ?_ | refine ch_ ?_)
   rintro v' L' ⟨nb,rfl,rfl⟩
   repeat (first | (apply wo_mo;apply cc_ (sz:=1) (new:=[.slice none 0 0]);exact rfl;exact rfl;exact rfl;exact rfl;exact (.there .here);exact rfl;exact .inr ⟨_,_,rfl,Rds.all .here⟩;(intro v hv;cases (List.mem_singleton.1 hv);exact rfl);(simp only [cd_];omega);exact trivial))
   rintro v' L' rfl
   repeat (first | refine bb_ ?_ | (refine wR ?_;try simp only [oS]) | refine ba_ ?_ | refine wM ?_ | refine wA ?_ | refine bw_ ?_)
   (first | refine or1 Try.func25 Try.results25 hQ rfl ?_ | refine on1 Try.func25 Try.results25 hQ rfl ?_)
   exact ⟨rfl,fun h st=>Ent.star (.take .here (.drop .refl)) st⟩
  ·have he:fewR rs=(rs.take 4).map cutR:=if_neg h0
   have hpos:0<rs.length:=List.length_pos_iff.2 h0
   have hvp:0<vn:=by omega
   by_cases hv:vn<rs.length
   ·obtain rfl:vn=4:=by omega
    repeat (first | refine wlssT ?_ | refine wlssF ?_ | refine weqlF ?_ | refine bb_ ?_ | (refine wR ?_;try simp only [oS]) | refine ba_ ?_ | refine wM ?_ | refine wA ?_ | refine wK ?_ | refine wE ?_ | refine wF ?_ | refine bw_ ?_ | refine bk_ ?_ | refine ch_ ?_)
    (first | refine or1 Try.func25 Try.results25 hQ rfl ?_ | refine on1 Try.func25 Try.results25 hQ rfl ?_)
    exact ⟨rfl,fun h st=>by rw [he];exact st⟩
   ·obtain rfl:vn=rs.length:=by omega
    repeat (first | refine wlssF ?_ | refine weqlF ?_ | refine bb_ ?_ | (refine wR ?_;try simp only [oS]) | refine ba_ ?_ | refine wM ?_ | refine wA ?_ | (apply wo_no;exact rfl) | refine wJ ?_ | refine wE ?_ | refine wF ?_ | refine bw_ ?_ | refine bk_ ?_ | refine ch_ ?_)
    (first | refine or1 Try.func25 Try.results25 hQ rfl ?_ | refine on1 Try.func25 Try.results25 hQ rfl ?_)
    exact ⟨rfl,fun h st=>by rw [he];exact st⟩
end
end
section
theorem star_pick {c:HProp} {F:List HProp}:∀ {M:List HProp} {i:Nat} {h:Hp},M[i]?=some c→Star (M++F) h→∃ R,Star (c::R) h
 | [],i,h,hi,s=>by simp at hi
 | d::M,0,h,hi,s=>by cases hi;exact ⟨_,s⟩
 | d::M,i+1,h,hi,s=>by
  obtain ⟨h1,h2,sp,hd,hr⟩:=s
  obtain ⟨R,hR⟩:=star_pick (M:=M) (i:=i) hi hr
  refine ⟨d::R,?_⟩
  exact cs_ ⟨h1,h2,sp,hd,hR⟩
end
section
abbrev CD:=(Option Addr × Nat) × Nat × (Option Addr × Nat) × Mach.Cl
def cdV (y:CD):List Value:=[.slice y.1.1 y.2.1 y.1.2,.slice y.2.2.1.1 y.2.2.2.data.length y.2.2.1.2]
def cdK (y:CD):HProp:=clC (.slice y.1.1 y.2.1 y.1.2) (.slice y.2.2.1.1 y.2.2.2.data.length y.2.2.1.2) y.2.2.2
def cwD (a:Option Addr) (c:Nat) (ys:List CD):CW:=⟨a,c,fun i=>match ys[i]? with | some y=>y.1 | none=>(none,0),fun i=>match ys[i]? with | some y=>y.2.2.1 | none=>(none,0)⟩
theorem bmj {a:Option Addr} {n c:Nat} {ys:List CD} {F:List HProp} {h:Hp} (s:Star (vec 2 (.slice a n c) (ys.map cdV).flatten::all (ys.map cdK)::F) h):codeC (cwD a c ys) (ys.map (·.2.2.2)) h:=by
 intro i cl hi
 rw [List.getElem?_map,Option.map_eq_some_iff] at hi
 obtain ⟨y,hy,rfl⟩:=hi
 obtain ⟨a',n',c',e,hn,_,hz,hya⟩:=bo_ (L:=vec 2 (.slice a n c) (ys.map cdV).flatten::all (ys.map cdK)::F) .here (bg_ (by omega)) h s
 cases e
 have hlen:(ys.map cdV).flatten.length=ys.length*2:=gu_ (k:=2) (fun _=>rfl) ys
 have hil:=(List.getElem?_eq_some_iff.1 hy).1
 cases a with
 | none=>have:=hz rfl;omega
 | some ad =>
  obtain ⟨cb,co,sp⟩:=ad
  cases hya _ rfl
  have key:∀ j v,(cdV y)[j]?=some v→j<2→h.can ⟨cb,co+2*i+j,none⟩ v:=fun j v hj hj2=>by
   have:=(df_ (i:=2*i+j) (v:=v) (L:=vec 2 (.slice (some ⟨cb,co,none⟩) n c) (ys.map cdV).flatten::all (ys.map cdK)::F) .here (by rw [ku_ (k:=2) (fun _=>rfl) ys i j y hy hj2];exact hj)) h s
   rwa [← Nat.add_assoc] at this
  obtain ⟨R,s2⟩:=star_pick (M:=ys.map cdK) (i:=i) (c:=cdK y) (by rw [List.getElem?_map,hy];rfl) (bq_ (cs_ s))
  have s3:Star (vec 7 (.slice y.1.1 y.2.1 y.1.2) (y.2.2.2.code.map inC).flatten::vec 1 (.slice y.2.2.1.1 y.2.2.2.data.length y.2.2.1.2) (y.2.2.2.data.map num)::R) h:=bq_ (M:=[_,_]) s2
  obtain ⟨ya,yn,yc,e,hn7,_,hz7,hy7⟩:=bo_ (L:=vec 7 (.slice y.1.1 y.2.1 y.1.2) (y.2.2.2.code.map inC).flatten::vec 1 (.slice y.2.2.1.1 y.2.2.2.data.length y.2.2.1.2) (y.2.2.2.data.map num)::R) .here (bg_ (by omega)) h s3
  obtain ⟨da,dn,dc,e2,hn1,_,hz1,hy1⟩:=bo_ (L:=vec 7 (.slice y.1.1 y.2.1 y.1.2) (y.2.2.2.code.map inC).flatten::vec 1 (.slice y.2.2.1.1 y.2.2.2.data.length y.2.2.1.2) (y.2.2.2.data.map num)::R) (.there .here) (bg_ (by omega)) h s3
  simp only [Value.slice.injEq] at e e2
  obtain ⟨e1,_,e3⟩:=e
  obtain ⟨d1,_,d3⟩:=e2
  have h7:(y.2.2.2.code.map inC).flatten.length=y.2.2.2.code.length*7:=gu_ (k:=7) (fun _=>rfl) _
  have hm:y.2.1=y.2.2.2.code.length:=by omega
  refine ⟨cb,co,rfl,?_,?_,fun j z hz'=>?_,fun j v hv=>?_⟩
  ·have:=key 0 _ rfl (by omega)
   simp only [cwD,hy]
   rw [← hm];exact this
  ·have:=key 1 _ rfl (by omega)
   simp only [cwD,hy]
   exact this
  ·have hjl:=(List.getElem?_eq_some_iff.1 hz').1
   cases ya with
   | none=>have:=hz7 rfl;omega
   | some w =>
    obtain ⟨kb,ko,sp⟩:=w
    cases hy7 _ rfl
    refine ⟨kb,ko,by simp only [cwD,hy];exact e1,fun m v hmv=>?_⟩
    have hm7:m<7:=(List.getElem?_eq_some_iff.1 hmv).1
    rw [e1] at s3
    have:=(df_ (i:=7*j+m) (v:=v) (L:=vec 7 (.slice (some ⟨kb,ko,none⟩) y.2.1 y.1.2) (y.2.2.2.code.map inC).flatten::vec 1 (.slice y.2.2.1.1 y.2.2.2.data.length y.2.2.1.2) (y.2.2.2.data.map num)::R) .here (by rw [ku_ (k:=7) (fun _=>rfl) _ _ _ _ hz' hm7];exact hmv)) h s3
    rwa [← Nat.add_assoc] at this
  ·have hjl:=(List.getElem?_eq_some_iff.1 hv).1
   cases da with
   | none=>have:=hz1 rfl;simp at hn1;omega
   | some w =>
    obtain ⟨kb,ko,sp⟩:=w
    cases hy1 _ rfl
    refine ⟨kb,ko,by simp only [cwD,hy];exact d1,?_⟩
    rw [d1] at s3
    exact (df_ (i:=j) (v:=num v) (L:=vec 7 (.slice y.1.1 y.2.1 y.1.2) (y.2.2.2.code.map inC).flatten::vec 1 (.slice (some ⟨kb,ko,none⟩) y.2.2.2.data.length y.2.2.1.2) (y.2.2.2.data.map num)::R) (.there .here) (by rw [List.getElem?_map,hv];rfl)) h s3
end
end Go.Proofs.Ytodgemainhokjaa
namespace Go.Proofs.Ytodgemainhokjaa
open Go Go.PB
attribute [local irreducible] Mo Bin Eql Tr Wo Ap Wle
section
theorem ww_ {g:Game}:∀ {ts:List (Thr g)} {s:g.σ},(∀ t∈ts,∀ s,(t.ini s).1=s)→(startF ts s).1=s
 | [],s,_=>rfl
 | t::ts,s,h=>by
  show (startF ts (t.ini s).1).1=s
  rw [h t (by simp) s]
  exact ww_ fun u hu=>h u (by simp [hu])
section
variable {D:Wds} {U:(Nat→Nat)→HProp} {Pv:Nat × Mach.Th→HProp} {F:List HProp}
theorem ccn {p:PS (mG D U Pv)} {k:Int} (h:∃ st,Rel p st):∃ st,Rel (takeF p k).1 st:=by
 obtain ⟨st,h⟩:=h
 by_cases h0:k<0
 ·have ht:takeF p k=(p,false):=by unfold takeF;rw [if_pos h0]
  rw [ht];exact ⟨st,h⟩
 ·obtain ⟨n,rfl⟩:∃ n:Nat,k=n:=⟨k.toNat,by omega⟩
  obtain ⟨st',_,h2,_⟩:=yn_ h n
  exact ⟨st',h2⟩
theorem bvq {ts:List (Thr (mG D U Pv))} {cc:List (List Mach.Cl)} {s0:(mG D U Pv).σ} (hb:Begins D U Pv 0 ts cc) (h0:D.ok s0):∃ st,Rel (D:=D) (U:=U) (Pv:=Pv) ⟨(startF ts s0).1,(startF ts s0).2,[]⟩ st:=by
 obtain ⟨l,h1,h2,h3,h4,h5⟩:=wp_ ts cc 0 s0 hb
 exact ⟨⟨D.W s0,l,[]⟩,⟨congrArg D.W h4.symm,(pg_ ts (show (mG D U Pv).σ from s0)).trans h2.symm,fun k=>(h5 k).trans (by rw [Nat.zero_add]),rfl,Nat.zero_le _,h3,(show D.ok (startF ts (show (mG D U Pv).σ from s0)).1 from h4.symm▸h0)⟩⟩
theorem cjs {p:PS (mG D U Pv)} {st:Mach.St} (h:Rel p st) {n:Nat} (hn:n=st.l.length):cutN (mG D U Pv) p.qs n=Mach.St.cut st:=by
 subst hn
 unfold cutN Mach.St.cut
 apply List.filter_congr
 intro k _
 have hq:=h.qs k
 cases hl:st.l[k]? with
 | none=>rw [hl] at hq;rw [hq];rfl
 | some t =>
  rw [hl] at hq
  rw [hq]
  show ((mPlan D (k,t)).isSome)=!t.over
  unfold mPlan
  cases ho:t.over <;> simp [ho]
theorem cjz {qs:List (Nat × Mach.Th)} {l:List Mach.Th} (hq:∀ k:Nat,qs[k]?=(l[k]?).map fun t=>(k,t)):qs.map Pv=l.mapIdx fun k t=>Pv (k,t):=by
 apply List.ext_getElem?
 intro k
 rw [List.getElem?_map,List.getElem?_mapIdx,hq k]
 cases l[k]? <;> rfl
theorem bws {oa ta:Option Addr} {on oc tn tc:Nat} {order:List Int} {ts:List (Thr (mG D U Pv))} {cc:List (List Mach.Cl)} {s0:(mG D U Pv).σ} (hb:Begins D U Pv 0 ts cc) (h0:D.ok s0) (hini:∀ t∈ts,∀ s,(t.ini s).1=s) (hts:∀ t∈ts,ThrOk (mG D U Pv) t.ini t.fv t.M) (h1:0<ts.length) (h16:ts.length≤16) (hor:order.length≤16384)
  (hrt:RdsO F ta tn (ts.map Thr.fv)) (hro:RdsO F oa on (order.map fun k=>.int .i64 k)) :
  Tr Try.prog mT 18 [.slice oa on oc,.slice ta tn tc] (U s0::all (ts.map Thr.M)::F) .idle fun v L' x' =>
   ∃ tv cv st f',v=.tuple #[.agg #[tv,cv],.int .i64 0]∧x'=.idle∧Mach.play D.fu 16385 (D.W s0) (order.map fun k=>if k<0 then none else some k.toNat) cc=some st∧st.w=D.W f'∧st.tr.length≤16384∧st.l.length=cc.length ∧
    L'=vec 3 tv (trCP (st.tr.map fun e=>(e.1,mkII e.2)))::vec 1 cv (cutC (Mach.St.cut st))::U f'::all (st.l.mapIdx fun k t=>Pv (k,t))::F:=by
 obtain ⟨st,hp,hr,hl⟩:=bkc (o:=order) hb h0
 refine Tr.mono (bkb (g:=mG D U Pv) (order:=order) (ts:=ts) (s0:=s0) (fun p=>∃ st,Rel p st) (fun j hj=>?_) (bvq hb h0) (fun p k h=>ccn h) (fun p ⟨st,h⟩ _=>h.ok) (fun _ _ z=>z) hts h1 h16 hor hrt hro) ?_
 ·have e:(startF (ts.take j) s0).1=s0:=ww_ fun t ht=>hini t (List.mem_of_mem_take ht)
  rw [e];exact h0
 ·rintro v L' x' ⟨tv,cv,rfl,rfl,rfl⟩
  refine ⟨tv,cv,st,(playF ts s0 order).s,rfl,rfl,hp,hr.w,hr.le,hl,?_⟩
  rw [hr.tr,cjs hr (by rw [hl,hb.len])]
  exact congrArg (fun z=>vec 3 tv (trCP (st.tr.map fun e=>(e.1,mkII e.2)))::vec 1 cv (cutC (Mach.St.cut st))::U (playF ts s0 order).s::all z::F) (cjz (Pv:=Pv) hr.qs)
end
end
section
theorem bcn {b:Nat} {v:Value} {L:List HProp}:∀ (n o:Nat) {h:Hp},Star (arr b o (List.replicate n v)::L) h→Star (all ((List.range' o n).map fun i=>arr b i [v])::L) h
 | 0,o,h,s=>bj_ (M:=[]) (ci_ s)
 | n+1,o,h,s=>by
  rw [List.replicate_succ] at s
  have s1:Star (arr b o [v]::arr b (o+1) (List.replicate n v)::L) h:=bht (us:=[v]) s
  rw [List.range'_succ,List.map_cons]
  exact kv_ (bn_ s1 (fun _ z=>z) fun _ z=>bcn n (o+1) z)
theorem ckw {gb i:Nat}:∀ h,arr gb i [.slice none 0 0] h→gotC gb i [] h:=fun h z=>by
 refine ⟨(.slice none 0 0,[]),rfl,?_⟩
 have s:Star (arr gb i [.slice none 0 0]::[]) h:=qb_ z
 have s1:Star (vec 1 (.slice none 0 0) []::all []::arr gb i [.slice none 0 0]::[]) h:=di_ (bj_ (M:=[]) s)
 exact Ent.star (.take (.there (.there .here)) (.take .here (.take .here .refl))) s1
theorem chr {b o n c:Nat} {cs:List Value}:∀ h,vec 1 (.slice (some ⟨b,o,none⟩) n c) cs h→∃ sp,arr b o (cs++sp) h:=fun h z=>by
 rcases z with ⟨e,_⟩ | ⟨b',o',n',c',sp,e,h1,h2,h3,h4⟩
 ·cases e
 ·cases e;exact ⟨sp,h4⟩
abbrev TH:=Nat × (Option Addr × Nat × List CD)
def boxes (ts:List TH):List HProp:=ts.mapIdx fun i y=>arr y.1 0 [.int .i64 (i:Nat)]
def thM (RoS:HProp) (gb i:Nat) (t:TH):HProp:=all [all [RoS,arr t.1 0 [.int .i64 (i:Nat)]],gotC gb i []]
theorem deal {RoS:HProp} (hd:Dup RoS) {gb:Nat} {ts:List TH} {L:List HProp} {h:Hp} (s:Star (RoS::all (boxes ts)::arr gb 0 (List.replicate ts.length (.slice none 0 0))::L) h):Star (all (ts.mapIdx (thM RoS gb))::RoS::L) h:=by
 have s1:=bmf hd s ts.length
 have s2:Star (all (List.replicate ts.length RoS)::all (boxes ts)::arr gb 0 (List.replicate ts.length (.slice none 0 0))::RoS::L) h:=Ent.star (.take .here (.take (.there .here) (.take (.there .here) (.take .here .refl)))) s1
 have s3:=yp_ (by simp [boxes]) s2
 have s4:=bcn ts.length 0 (cs_ s3)
 have s5:Star (all ((List.range' 0 ts.length).map fun i=>gotC gb i [])::_) h:=bmx (by simp) (fun i a b ha hb=>by
  rw [List.getElem?_map,Option.map_eq_some_iff] at ha hb
  obtain ⟨k,hk,rfl⟩:=ha
  obtain ⟨k',hk',rfl⟩:=hb
  rw [hk] at hk'
  cases hk'
  exact ckw) s4
 have s6:=yp_ (by simp [boxes]) (cs_ s5)
 have e:List.zipWith (fun a b=>all [a,b]) (List.zipWith (fun a b=>all [a,b]) (List.replicate ts.length RoS) (boxes ts)) ((List.range' 0 ts.length).map fun i=>gotC gb i [])=ts.mapIdx (thM RoS gb):=by
  apply List.ext_getElem?
  intro i
  by_cases hi:i<ts.length
  ·simp [boxes,thM,hi,List.getElem?_zipWith,List.getElem?_range']
  ·have h1:(ts.mapIdx (thM RoS gb))[i]?=none:=List.getElem?_eq_none_iff.2 (by simp;omega)
   rw [h1]
   apply List.getElem?_eq_none_iff.2
   simp [boxes];omega
 rw [e] at s6
 exact s6
def t0Of (t:TH):Mach.Th:=(Mach.onF (20) (Mach.Bt (t.2.2.2.map (·.2.2.2)) 0 [])).getD (Mach.Bt [] 0 [])
abbrev rpF (p8 rb gt wb:Nat) (y:TH):Value:=.func (.func 27) #[] #[.pointer (some ⟨p8,0,none⟩),.pointer (some ⟨y.1,0,none⟩),.pointer (some ⟨gt,0,none⟩),.pointer (some ⟨rb,0,none⟩),.pointer (some ⟨wb,0,none⟩)]
def gh_ (n r p8 rb gt wb gb:Nat) (RoS:HProp) (ts:List TH):List (Thr (seqG n r gb)):=ts.mapIdx fun i t=>⟨rpF p8 rb gt wb t,fun s=>(s,((i,t0Of t):Nat × Mach.Th)),thM RoS gb i t⟩
def ccOf (ts:List TH):List (List Mach.Cl):=ts.map fun t=>t.2.2.2.map (·.2.2.2)
theorem bnq {n r p8 rb gt wb gb:Nat} {RoS:HProp} {ts:List TH} (hn1:1≤n) (hn16:n≤16) (hc:∀ t∈ts,ju_ n (t.2.2.2.map (·.2.2.2))):Begins (sD n) (fun f=>all [wds (sAddr r) (n+1) (sK r n) f,all []]) (rgPv gb) 0 (gh_ n r p8 rb gt wb gb RoS ts) (ccOf ts) where
 len:=by simp [gh_,ccOf]
 ini:=fun k t c ht hcc=>by
  simp only [ccOf,List.getElem?_map,Option.map_eq_some_iff] at hcc
  obtain ⟨y,hy,rfl⟩:=hcc
  simp only [gh_,List.getElem?_mapIdx,hy,Option.map_some,Option.some.injEq] at ht
  subst ht
  obtain ⟨t',h1,h2,h3⟩:=bck hn1 hn16 (hc y (List.mem_of_getElem? hy))
  refine ⟨t',h2,h3,fun s=>?_⟩
  show (s,((k,t0Of y):Nat × Mach.Th))=_
  unfold t0Of
  rw [h1,Nat.zero_add];rfl
abbrev roS (qb qo qc p8 rb gt wb gb r n:Nat) (wa:Option Addr) (wc:Nat) (rs:List RW) (sp:List Value) (L:List HProp):HProp:=all [fro qb qo (rs.map rv++sp),fro p8 0 [.slice (some ⟨qb,qo,none⟩) rs.length qc],fro rb 0 [.pointer (some ⟨r,0,none⟩)],fro wb 0 [.slice wa n wc],fro gt 0 [.slice (some ⟨gb,0,none⟩) rs.length rs.length],all L]
theorem cjf {n r p8 rb gt wb gb qb qo qc wc:Nat} {wa:Option Addr} {rs:List RW} {sp:List Value} {L:List HProp} {ts:List TH} (hn1:1≤n) (hn16:n≤16) (hrow:∀ (i:Nat) y,rs[i]?=some y→DoAt L y.1 y.2.2∧y.2.2.length≤6) (hts:ts.length=rs.length)
  (hg:∀ (i:Nat) t y,ts[i]?=some t→rs[i]?=some y→t.2.2.2.map (·.2.2.2)=fz_ n y.2.2):∀ t∈gh_ n r p8 rb gt wb gb (roS qb qo qc p8 rb gt wb gb r n wa wc rs sp L) ts,ThrOk (seqG n r gb) t.ini t.fv t.M:=by
 intro t ht
 obtain ⟨i,hi⟩:=List.mem_iff_getElem?.1 ht
 simp only [gh_,List.getElem?_mapIdx,Option.map_eq_some_iff] at hi
 obtain ⟨y,hy,rfl⟩:=hi
 have hil:=(List.getElem?_eq_some_iff.1 hy).1
 obtain ⟨z,hz⟩:∃ z,rs[i]?=some z:=⟨rs[i]'(by omega),List.getElem?_eq_getElem (by omega)⟩
 obtain ⟨hdo,h16⟩:=hrow i z hz
 have hcl:=hg i y z hy hz
 obtain ⟨t',h1,_,_⟩:=bck hn1 hn16 (qo_ (l:=z.2.2) fun y hy=>(hdo.rng y hy).2)
 have ht0:t0Of y=t':=by unfold t0Of;rw [hcl,h1];rfl
 have lift:∀ {b1 o v},Rd [fro qb qo (rs.map rv++sp),fro p8 0 [.slice (some ⟨qb,qo,none⟩) rs.length qc],fro rb 0 [.pointer (some ⟨r,0,none⟩)],fro wb 0 [.slice wa n wc],fro gt 0 [.slice (some ⟨gb,0,none⟩) rs.length rs.length],all L] b1 o v→Rd [all [roS qb qo qc p8 rb gt wb gb r n wa wc rs sp L,arr y.1 0 [.int .i64 (i:Nat)]]] b1 o v:=fun h=>gn_ (gn_ h)
 have O:ThRo (all [roS qb qo qc p8 rb gt wb gb r n wa wc rs sp L,arr y.1 0 [.int .i64 (i:Nat)]]) p8 y.1 rb gt wb qb qo rs.length qc gb rs.length i r n wa wc z.1 z.2.1 z.2.2 :=
  {
   h1:=lift (.there (Rd.fro (k:=0) rfl rfl))
   h2:=lift (Rd.fro (k:=i) (by rw [List.getElem?_append_left (by rw [List.length_map];omega),List.getElem?_map,hz];rfl) rfl)
   h3:=fun q w hw=>by
    obtain ⟨b',o',e,r1,r2⟩:=hdo.at_ q w hw
    exact ⟨b',o',e,fun m v hm=>lift (.there (.there (.there (.there (.there (gn_ (r1 m v hm))))))),r2.1,r2.2.imp id fun ⟨b2,o2,e2,r3⟩=>⟨b2,o2,e2,fun m v hm=>lift (.there (.there (.there (.there (.there (gn_ (r3 m v hm)))))))⟩⟩
   h4:=gn_ (.there (.row0 rfl))
   h5:=lift (.there (.there (Rd.fro (k:=0) rfl rfl)))
   h6:=lift (.there (.there (.there (.there (Rd.fro (k:=0) rfl rfl)))))
   h7:=lift (.there (.there (.there (Rd.fro (k:=0) rfl rfl))))
   hk:=by omega
   hl:=h16
   ok:=hdo.rng }
 show ThrOk (seqG n r gb) (fun s=>(s,((i,t0Of y):Nat × Mach.Th))) (rpF p8 rb gt wb y) (thM _ gb i y)
 rw [ht0]
 exact cnt hn1 hn16 O h1
theorem cns {n r p8 rb gt wb gb:Nat} {RoS:HProp} {ts:List TH}:(gh_ n r p8 rb gt wb gb RoS ts).map Thr.M=ts.mapIdx (thM RoS gb):=by
 apply List.ext_getElem?
 intro k
 simp only [gh_,List.getElem?_map,List.getElem?_mapIdx]
 cases ts[k]? <;> rfl
theorem cjg {n r p8 rb gt wb gb:Nat} {RoS:HProp} {ts:List TH}:(gh_ n r p8 rb gt wb gb RoS ts).map Thr.fv=ts.map (rpF p8 rb gt wb):=by
 apply List.ext_getElem?
 intro k
 simp only [gh_,List.getElem?_map,List.getElem?_mapIdx]
 cases ts[k]? <;> rfl
theorem cbp {n r p8 rb gt wb gb:Nat} {RoS:HProp} {ts:List TH}:∀ t∈gh_ n r p8 rb gt wb gb RoS ts,∀ s,(t.ini s).1=s:=fun t ht s=>by
 obtain ⟨i,hi⟩:=List.mem_iff_getElem?.1 ht
 simp only [gh_,List.getElem?_mapIdx,Option.map_eq_some_iff] at hi
 obtain ⟨y,hy,rfl⟩:=hi
 rfl
end
end Go.Proofs.Ytodgemainhokjaa
namespace Go.Proofs.Ytodgemainhokjaa
open Go Go.PB
attribute [local irreducible] Mo Bin Eql Tr Wo Ap Wle
attribute [local instance] Pass.of_no
section
theorem cl_ok {cl:Mach.Cl} (h1:∀ x∈cl.code,x.ok=true) (h2:∀ v∈cl.data,v<18446744073709551616) (h3:cl.code.length<1000000) (h4:cl.data.length<1000000):cl.ok=true:=by
 unfold Mach.Cl.ok
 simp only [Bool.and_eq_true,List.all_eq_true,decide_eq_true_eq]
 exact ⟨⟨⟨h1,h2⟩,h3⟩,h4⟩
theorem sw_ok {ws:List Nat} (hn:ws.length≤16) (hb:∀ w∈ws,w<18446744073709551616):(Mach.swCl ws).ok=true:=by
 obtain ⟨n,hn0⟩:∃ n,ws.length=n:=⟨_,rfl⟩
 refine cl_ok (fun x hx=>?_) hb ?_ (by show ws.length<1000000;omega)
 ·simp only [Mach.swCl,Mach.swPre,hn0,List.mem_cons,List.mem_append] at hx
  rw [hn0] at hn
  rcases hx with rfl | rfl | rfl | rfl | rfl | rfl | rfl | hx | hx
  ·rfl
  ·rfl
  ·rfl
  ·simp [Mach.In.ok];omega
  ·rfl
  ·rfl
  ·simp [Mach.In.ok];omega
  ·obtain ⟨l,hl,hx⟩:=List.mem_flatten.1 hx
   obtain ⟨i,hi,rfl⟩:=List.mem_map.1 hl
   have hi:=List.mem_range.1 hi
   simp only [List.mem_cons,List.not_mem_nil,or_false] at hx
   rcases hx with rfl | rfl
   ·simp [Mach.In.ok];omega
   ·simp [Mach.In.ok];omega
  ·simp only [Mach.swEnd,List.mem_cons,List.not_mem_nil,or_false] at hx
   rcases hx with rfl | rfl | rfl | rfl | rfl | rfl | rfl | rfl | rfl <;> rfl
 ·show (Mach.swPre _ (Mach.swMid ws.length++Mach.swEnd)).length<1000000
  rw [qx_,List.length_append,Mach.swMid_len]
  simp [Mach.swEnd];omega
theorem sr_ok {n k:Nat} (hn:n≤16) (hk:k<18446744073709551616):(Mach.srCl n k).ok=true:=by
 refine cl_ok (fun x hx=>?_) (fun v hv=>by cases hv) ?_ (by show 0<1000000;omega)
 ·simp only [Mach.srCl,Mach.srPre,Mach.srAft,List.mem_cons,List.mem_append,List.not_mem_nil,or_false] at hx
  rcases hx with rfl | rfl | rfl | rfl | rfl | hx | hx | hx | rfl
  ·rfl
  ·simp [Mach.In.ok];omega
  ·rfl
  ·rfl
  ·simp [Mach.In.ok];omega
  ·obtain ⟨i,hi,rfl⟩:=List.mem_map.1 hx
   have hi:=List.mem_range.1 hi
   simp [Mach.In.ok];omega
  ·rcases hx with rfl | rfl | rfl | rfl | rfl | rfl | rfl | rfl | rfl | rfl
   ·rfl
   ·simp [Mach.In.ok];omega
   ·rfl
   ·rfl
   ·rfl
   ·rfl
   ·rfl
   ·rfl
   ·rfl
   ·rfl
  ·obtain ⟨i,hi,rfl⟩:=List.mem_map.1 hx
   have hi:=List.mem_range.1 hi
   simp [Mach.In.ok];omega
  ·rfl
 ·show (Mach.srPre k _ (Mach.srMid n++(Mach.srAft _++(Mach.srTell n++[_])))).length<1000000
  rw [kf_,List.length_append,gj_,List.length_append,List.length_append,tb_]
  simp [Mach.srAft];omega
theorem cmn {n:Nat} {d:SDo} (hn:n≤16) (hd:∀ w∈d.l,w<18446744073709551616):(ge_ n d).ok=true:=by
 unfold ge_
 split
 ·exact sw_ok (by rw [dz_];exact hn) (sa_ hn hd)
 ·exact sr_ok hn ms_
theorem cmp {B:Hand} [Lets B] {L:List HProp} {x:B.X} {n:Nat} (h1:1≤n) (hn:n≤16) {y:SE} (ht:-9223372036854775808≤y.d.t∧y.d.t≤9223372036854775807) (hl:RdsO L y.a y.d.l.length (y.d.l.map num)) :
  Tr Try.prog B 26 [.agg #[.bool y.d.w,.slice y.a y.d.l.length y.c,.int .i64 y.d.t],.int .i64 (n:Nat)] L x fun w L' x'=>∃ z:CD,z.2.2.2=ge_ n y.d∧w=.agg #[.slice z.1.1 z.2.1 z.1.2,.slice z.2.2.1.1 z.2.2.2.data.length z.2.2.1.2]∧L'=cdK z::L∧x'=x :=
 (cmm h1 hn ht hl).mono fun w L' x' ⟨ka,m,kc,da,dc,e1,e2,e3⟩=>⟨((ka,kc),m,(da,dc),ge_ n y.d),rfl,e1,e2,e3⟩
def lastT (n:Nat) (f:Nat→Nat):List Nat:=if f 0%2=0 then [0,f 0]++(List.range n).map fun i=>f (1+i) else [51,0]
theorem cjq {n v m kt:Nat} {f:Nat→Nat} {cs:List Mach.Cl} {c:Nat} {pre:List (Bool × List Nat)} (hn:n≤16) (hc:cs[c]?=some (Mach.srCl n kt)) (h0:pre.length=c) :
  ∀ (q:Nat) (acc:List Nat) (r:Nat→Nat),acc.length+q=n→Mach.SrR r m→r 1=v→(∀ (j:Nat) x,acc[j]?=some x→r (8+j)=x) →
   ∃ r' ms,Mach.Runs 60 ((sD n).W f) (Mach.T cs c (5+acc.length) r pre []) ms ((sD n).W f) (Mach.T cs c (5+n) r' pre [])∧ms.length=q∧Mach.SrR r' m∧r' 1=v∧∀ (j:Nat) x,(acc++(List.range' acc.length q).map fun i=>f (1+i))[j]?=some x→r' (8+j)=x:=by
 intro q
 induction q with
 | zero =>
  intro acc r ha R h1 hr
  have e:acc.length=n:=by omega
  exact ⟨r,[],by rw [e];exact .nil,rfl,R,h1,by simpa using hr⟩
 | succ q ih =>
  intro acc r ha R h1 hr
  obtain ⟨r1,o,R1,a,b,d⟩:=Mach.sr_w (w:=(sD n).W f) (l:=rowOf (n+1) f) hc h0 (i:=acc.length) (by omega) hn R h1 rfl (dg_ (by omega))
  obtain ⟨r',ms,g1,g2,g3,g4,g5⟩:=ih (acc++[f (1+acc.length)]) r1 (by simp;omega) R1 a (fun j x hj=>by
   by_cases hjl:j<acc.length
   ·rw [List.getElem?_append_left hjl] at hj
    rw [d j hjl];exact hr j x hj
   ·rw [List.getElem?_append_right (by omega)] at hj
    have hlt:=(List.getElem?_eq_some_iff.1 hj).1
    simp only [List.length_singleton] at hlt
    obtain rfl:j=acc.length:=by omega
    rw [Nat.sub_self] at hj
    rw [b];exact Option.some.inj hj)
  rw [List.length_append,List.length_singleton] at g1 g5
  refine ⟨r',_,.cons o g1,by rw [List.length_cons,g2],g3,g4,fun j x hj=>g5 j x ?_⟩
  rw [List.range'_succ] at hj
  simpa using hj
theorem bqm {n:Nat} {f:Nat→Nat} (h1:1≤n) (hn:n≤16):∃ g ms,Mach.Comes 60 g ((sD n).W f) (Mach.srCl n 1) ((sD n).W f) (lastT n f) ms∧ms.length≤16384:=by
 have hc:[Mach.srCl n 1][0]?=some (Mach.srCl n 1):=rfl
 have h0:([]:List (Bool × List Nat)).length=0:=rfl
 obtain ⟨r,hon,R⟩:=Mach.sr_on (cs:=[Mach.srCl n 1]) (c:=0) (pre:=[]) hc h0 (by decide)
 have hon2:Mach.onF 60 (Mach.T [Mach.srCl n 1] 0 0 (fun _=>0) [] [])=some (Mach.T [Mach.srCl n 1] 0 2 r [] []):=by
  rw [← Mach.on_begin (f:=59) hc h0]
  exact Mach.onF_more (k:=40) hon
 have hv0:(rowOf (n+1) f)[0]?=some (f 0):=dg_ (by omega)
 have over:∀ told,Mach.onF 20 (Mach.Bt [Mach.srCl n 1] 1 ([]++[(true,told)]))=some { Mach.Bt [Mach.srCl n 1] 1 [(true,told)] with over:=true }:=fun told=>Mach.on_over (cs:=[Mach.srCl n 1]) (c:=1) (f:=19) rfl
 unfold lastT
 by_cases hev:f 0%2=0
 ·rw [if_pos hev]
  obtain ⟨r1,o1,R1,a1⟩:=Mach.sr_2T (w:=(sD n).W f) (l:=rowOf (n+1) f) hc h0 h1 R rfl hv0 hev
  obtain ⟨r2,ms,g1,g2,R2,a2,g5⟩:=cjq (f:=f) hn hc h0 n [] r1 (by simp) R1 a1 (fun j x hj=>by simp at hj)
  have o3:=Mach.sr_5T (w:=(sD n).W f) (l:=rowOf (n+1) f) (ws:=(List.range n).map fun i=>f (1+i)) hc h0 hn R2 a2 (by simp) (fun j x hj=>g5 j x (by rw [List.range_eq_range'] at hj;simpa using hj)) rfl hv0 (over _)
  refine ⟨_,_,Mach.comes_runs (f:=59) hon2 (.cons o1 (g1.trans (.cons o3 .nil))) ?_,?_⟩
  ·simp [g2];omega
  ·simp [g2];omega
 ·rw [if_neg hev]
  have o1:=Mach.sr_2F (w:=(sD n).W f) (l:=rowOf (n+1) f) hc h0 R rfl hv0 hev (over _)
  exact ⟨_,_,Mach.comes_runs (f:=59) hon2 (.cons o1 .nil) (by simp),by simp⟩
section
variable {B:Hand} [Lets B] {L F G:List HProp} {x:B.X}
theorem mp_ {wv lv kv dv:Value} {w w':Mach.Wd} {cl:Mach.Cl} {g:Nat} {told:List Nat} {ms:List (Nat × Nat)} (h:Mach.Comes 60 g w cl w' told ms) (hcl:cl.ok=true) (hl:ms.length≤16384) (hh:Has L (wvC wv lv w) G) (hc:Has G (clC kv dv cl) F) :
  Tr Try.prog B 33 [.agg #[wv,lv],.agg #[kv,dv]] L x fun v L' x'=>∃ toldV wv' lv' marksV:Value,v=.tuple #[toldV,.agg #[wv',lv'],marksV]∧L'=vec 1 toldV (told.map num)::wvC wv' lv' w'::vec 2 marksV (ms.map mkC).flatten::wvC wv lv w::F∧x'=x:=by
 obtain ⟨st,t,hp,rfl,h2,h3,h4⟩:=h
 have e:st.tr.map (·.2)=ms:=by rw [h4];simp [Function.comp_def]
 have hlen:st.tr.length=ms.length:=by rw [h4];simp
 exact (cgm hp (by omega) hcl (by omega) h2 h3 hh hc).mono fun v L' x' ⟨a,b,c,d,e1,e2,e3⟩=>⟨a,b,c,d,e1,by rw [e2,e],e3⟩
end
theorem bxk {L F:List HProp} {n r:Nat} {f:Nat→Nat} (h1:1≤n) (hn:n≤16) (hh:Has L (sC r n f) F) :
  Tr Try.prog mT 28 [.pointer (some ⟨r,0,none⟩),.nilIface,.agg #[.bool false,.slice none 0 0,.int .i64 0],.int .i64 (n:Nat)] L .idle fun w L' x'=>L'=vec 1 w ((lastT n f).map num)::sC r n f::F∧x'=.idle:=by
 have hD:DoneT (sLone (B:=mT) .idle r n) n ⟨false,[],0⟩ f fun t s=>t=lastT n f∧s=f:=by
  refine (iff_of_eq (if_neg (show ¬ false=true by decide))).mpr ?_
  have e0:hr_ (0:Int)=0:=rfl
  dsimp only
  rw [e0]
  unfold lastT
  refine ⟨by show 0<n+1;omega,?_⟩
  by_cases hev:f 0%2=0
  ·show if f 0%2=0 then _ else _
   rw [if_pos hev]
   refine te_ n [] (by simp) ⟨by show 0<n+1;omega,?_⟩
   show if f 0=f 0 then _ else _
   rw [if_pos rfl]
   refine ⟨?_,rfl⟩
   rw [if_pos hev,List.range_eq_range']
   rfl
  ·show if f 0%2=0 then _ else _
   rw [if_neg hev]
   refine ⟨?_,rfl⟩
   rw [if_neg hev]
   rfl
 refine (bsx (A:=sLone (B:=mT) .idle r n) (s:=f) (y:=⟨⟨false,[],0⟩,none,0⟩) (s_at h1 hn) (by dsimp only;omega) (fun w hw=>by cases hw) hD hh ⟨rfl,.inl rfl⟩ ⟨rfl,.inl rfl⟩).mono ?_
 rintro w L' x' ⟨t,s',⟨rfl,rfl⟩,rfl,rfl⟩
 exact ⟨rfl,rfl⟩
theorem cjp {ws:List Nat} {v:Nat}:rowOf (ws.length+1) (recF ws v)=v::ws:=by
 apply List.ext_getElem?
 intro i
 by_cases h:i<ws.length+1
 ·rw [dg_ h]
  cases i with
  | zero=>rfl
  | succ i =>
   rw [Nat.add_comm i 1,wh_,List.getElem?_cons,if_neg (by omega),show 1+i-1=i by omega,List.getD_eq_getElem?_getD]
   obtain ⟨y,hy⟩:∃ y,ws[i]?=some y:=⟨_,List.getElem?_eq_getElem (by omega)⟩
   rw [hy];rfl
 ·rw [List.getElem?_eq_none (by rw [hm_];omega),List.getElem?_eq_none (by simp;omega)]
theorem bsc {n:Nat} {ws:List Nat} (hl:ws.length=n) (hb:∀ w∈ws,w<18446744073709551616):(sD n).ok (recF ws 0):=fun i hi=>by
 cases i with
 | zero=>show 0<_;decide
 | succ i =>
  rw [Nat.add_comm i 1,wh_,List.getD_eq_getElem?_getD]
  obtain ⟨y,hy⟩:∃ y,ws[i]?=some y:=⟨_,List.getElem?_eq_getElem (by omega)⟩
  rw [hy];exact hb y (List.mem_of_getElem? hy)
end
end Go.Proofs.Ytodgemainhokjaa
namespace Go.Proofs.Ytodgemainhokjaa
open Go Go.PB
attribute [local irreducible] Mo Bin Eql Tr Wo Ap
section
def intC (l:List Int):List Value:=l.map fun k=>.int .i64 k
def fb_ (m:Nat) (l:List Int):List Int:=(l.take 2000).map fun k=>k%((m:Int)+1)
section
variable {B:Hand} [Lets B] {L F:List HProp} {x:B.X}
def zh_ (x:B.X) (u:Value) (m:Nat) (l:List Int) (L:List HProp):Inv (Nat × Value) B.X where
 e:=fun i=>[(0,u),(1,.int .i64 (m:Nat)),(5,i.2),(6,.int .i64 (i.1:Nat))]
 L:=fun i=>vec 1 i.2 (intC ((l.take i.1).map fun k=>k%((m:Int)+1)))::L
 x:=fun _=>x
 ok:=fun i=>i.1≤l.length∧i.1≤2000
theorem ccz {a:Option Addr} {c m:Nat} {l:List Int} (hr:RdsO L a l.length (intC l)) (hm:m<1000000) (hi:∀ k∈l,-9223372036854775808≤k∧k≤9223372036854775807) :
  Tr Try.prog B 19 [.slice a l.length c,.int .i64 (m:Nat)] L x fun v L' x'=>L'=vec 1 v (intC (fb_ m l))::L∧x'=x:=by
 refine be_ Try.func19 rfl Try.ntmps19 (by simp) fun um Q _ hQ=>?_
 simp only [argE,Nat.zero_add,Nat.reduceAdd]
 repeat (first | refine bb_ ?_ | (refine wR ?_;try simp only [oS]) | refine ba_ ?_ | refine wA ?_ | refine bd_ ?_)
 refine dd_ (vec 1 (.slice none 0 0) (intC ((l.take 0).map fun k=>k%((m:Int)+1)))::L) (fun h st=>di_ st) ?_
 refine ck_ (zh_ x (.slice a l.length c) m l L) (fun i=>l.length-i.1) (0,.slice none 0 0) ⟨Nat.zero_le _,Nat.zero_le _⟩ ⟨rfl,rfl,rfl,rfl,trivial⟩ .refl rfl ?_
 rintro ⟨i,v⟩ ⟨hil,hi2⟩
 simp only at hil hi2
 simp only [zh_]
 refine de_ (bo_ .here (bg_ (by omega))) ?_
 rintro ⟨va,vn,vc,rfl,hvn,_⟩
 have hvn:vn=i:=by simp [intC] at hvn;omega
 subst hvn
 by_cases hlt:vn<l.length
 ·by_cases h2:vn<2000
  ·obtain ⟨b,o,rfl,hrd⟩:=hr.rds (by omega)
   obtain ⟨k,hk⟩:∃ k,l[vn]?=some k:=⟨l[vn],List.getElem?_eq_getElem hlt⟩
   have hrk:∀ {d:HProp},Rd (d::L) b (o+vn) (.int .i64 k):=fun {d}=>.there (hrd vn _ (by simp [intC,hk]))
   repeat (first | (apply wo_po;apply ce_;exact rfl;exact rfl;omega;exact trivial) | (apply wo_po;apply bc_;exact rfl;exact hrk;exact trivial) | refine wlssT ?_ | refine bb_ ?_ | (refine wR ?_;try simp only [oS]) | refine ba_ ?_ | refine wM ?_ | refine wK ?_ | refine wadd ?_ | refine wE ?_ | refine wT ?_ | refine bk_ ?_ | refine bd_ ?_)
   refine bt_ (.cons rfl (.cons rfl .nil)) trivial (vy_ (hi k (List.mem_of_getElem? hk)) (by omega)) ?_
   rintro v1 L1 x1 ⟨rfl,rfl,rfl⟩
   repeat (first | (apply wo_mo;apply bi_ (sz:=1) (vs:=[.int .i64 (k%((m:Int)+1))]);exact rfl;exact .cons rfl .nil;exact rfl;(intro v hv;cases (List.mem_singleton.1 hv);exact rfl);omega;exact trivial))
   rintro v' L' ⟨nb,rfl,rfl⟩
   repeat (first | (apply wo_mo;apply cc_ (sz:=1) (new:=[.int .i64 (k%((m:Int)+1))]);exact rfl;exact rfl;exact rfl;exact rfl;exact (.there .here);exact rfl;exact .inr ⟨_,_,rfl,Rds.all .here⟩;(intro v hv;cases (List.mem_singleton.1 hv);exact rfl);(simp only [cd_];omega);exact trivial))
   rintro v' L' rfl
   repeat (first | (refine wR ?_;try simp only [oS]) | refine ba_ ?_ | refine wM ?_ | refine wA ?_ | refine wadd ?_)
   refine cr_ (I:=zh_ x1 (.slice (some ⟨b,o,none⟩) l.length c) m l L) (R:=fun j=>l.length-j.1<l.length-vn) (vn+1,v') (by show l.length-(vn+1)<l.length-vn;omega) ⟨by omega,by omega⟩ ?_ ?_ rfl
   exact ⟨rfl,rfl,rfl,rfl,trivial⟩
   show Ent _ (vec 1 v' (intC ((l.take (vn+1)).map fun k=>k%((m:Int)+1)))::_)
   rw [show intC ((l.take (vn+1)).map fun k=>k%((m:Int)+1))=intC ((l.take vn).map fun k=>k%((m:Int)+1))++[.int .i64 (k%((m:Int)+1))] by rw [List.take_add_one,hk];simp [intC]]
   exact (.take .here (.drop .refl))
  ·obtain rfl:vn=2000:=by omega
   repeat (first | refine wlssT ?_ | refine wlssF ?_ | refine bb_ ?_ | (refine wR ?_;try simp only [oS]) | refine ba_ ?_ | refine wM ?_ | refine wA ?_ | refine wK ?_ | refine wE ?_ | refine wF ?_ | refine bw_ ?_ | refine ch_ ?_)
   (first | refine or1 Try.func19 Try.results19 hQ rfl ?_ | refine on1 Try.func19 Try.results19 hQ rfl ?_)
   exact ⟨rfl,rfl⟩
 ·obtain rfl:vn=l.length:=by omega
  repeat (first | refine wlssF ?_ | refine bb_ ?_ | (refine wR ?_;try simp only [oS]) | refine ba_ ?_ | refine wM ?_ | refine wA ?_ | (apply wo_no;exact rfl) | refine wJ ?_ | refine wE ?_ | refine wF ?_ | refine bw_ ?_ | refine ch_ ?_)
  (first | refine or1 Try.func19 Try.results19 hQ rfl ?_ | refine on1 Try.func19 Try.results19 hQ rfl ?_)
  refine ⟨?_,rfl⟩
  unfold fb_
  rw [List.take_of_length_le (by omega),List.take_of_length_le (by omega)]
end
end
end Go.Proofs.Ytodgemainhokjaa
