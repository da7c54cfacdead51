/-
  Part 4 of 7.
-/
import Derived.Test.YtnnpdmhmpgmpnaaGf3
import Derived.Test.YtnnpdmhmpgmpnaaGf2
set_option linter.unusedVariables false
set_option linter.unusedSimpArgs false
namespace Go.Proofs.Ytnnpdmhmpgmpnaa
open Go Go.PB
section
structure GfS where
 w:Nat
 pk:Nat
inductive GfSt where
 | L
 | C (o:Nat)
 | pL (n:Nat)
 | pC (n p:Nat)
structure GfQ where
 rl:List Bool
 bin:Nat
 bad:Bool
 st:GfSt
 bk:Nat
def gfN:List Bool→Nat→List Bool
 | false::rest,0=>gfN rest 0
 | l,_=>l
theorem gfN_le:∀ {l:List Bool} {b:Nat},(gfN l b).length≤l.length
 | [],_=>by simp [gfN]
 | true::l,b=>by simp [gfN]
 | false::l,b+1=>by simp [gfN]
 | false::l,0=>by have:=gfN_le (l:=l) (b:=0);simp only [gfN,List.length_cons];omega
theorem gfN_false:∀ {l:List Bool} {b:Nat} {rest:List Bool},gfN l b=false::rest→1≤b
 | [],_,_,h=>by simp [gfN] at h
 | true::l,b,_,h=>by simp [gfN] at h
 | false::l,b+1,_,h=>by omega
 | false::l,0,_,h=>gfN_false (l:=l) (by simpa [gfN] using h)
def gfB:List Bool→Nat→List Bool × Nat
 | false::l,0=>gfB l 0
 | false::l,b+1=>gfB l b
 | l,b=>(l,b)
def gfEnd (rest:List Bool) (bin:Nat) (bad:Bool) (bk:Nat):GfQ:=match bad with
 | false=>⟨gfN rest bin,bin,false,.L,bk⟩
 | true=>⟨(gfB rest bin).1,(gfB rest bin).2,true,.L,bk⟩
theorem gfEnd_bk {rest:List Bool} {bin bk:Nat} {bad:Bool}:(gfEnd rest bin bad bk).bk=bk:=by cases bad <;> rfl
theorem gfEnd_nil {bin bk:Nat} {bad:Bool}:gfEnd [] bin bad bk=⟨[],bin,bad,.L,bk⟩:=by cases bad <;> simp [gfEnd,gfN,gfB]
theorem gfEnd_true {rest:List Bool} {bin bk:Nat} {bad:Bool}:gfEnd (true::rest) bin bad bk=⟨true::rest,bin,bad,.L,bk⟩:=by cases bad <;> simp [gfEnd,gfN,gfB]
theorem gfEnd_skip {rest:List Bool} {bk:Nat} {bad:Bool}:gfEnd (false::rest) 0 bad bk=gfEnd rest 0 bad bk:=by cases bad <;> simp [gfEnd,gfN,gfB]
theorem gfEnd_bad {rest:List Bool} {bin bk:Nat}:gfEnd (false::rest) (bin+1) true bk=gfEnd rest bin true bk:=by simp [gfEnd,gfB]
theorem gfEnd_false {rest:List Bool} {bin bk:Nat}:gfEnd (false::rest) (bin+1) false bk=⟨false::rest,bin+1,false,.L,bk⟩:=by simp [gfEnd,gfN]
def gfPlan (limit:Nat) (q:GfQ):Option ((Int × Int) × (GfS→GfS × GfQ)):=match q.rl with
 | []=>none
 | a::rest=>match q.st with
  | .L=>some ((1,0),fun s=>(s,if a=true then (if limit≤s.w then gfEnd rest q.bin q.bad q.bk else { q with st:=.C s.w }) else if s.w=0 then gfEnd rest (q.bin-1) true q.bk else { q with st:=.C s.w }))
  | .C o=>some ((5,0),fun s=>if s.w=o then (if a=true then ({ s with w:=o+1 },{ q with st:=.pL (o+1) }) else ({ s with w:=o-1 },gfEnd rest (q.bin-1) q.bad q.bk)) else (s,{ q with st:=.L }))
  | .pL n=>some ((1,1),fun s=>(s,if n≤s.pk then gfEnd rest (q.bin+1) q.bad q.bk else { q with st:=.pC n s.pk }))
  | .pC n p=>some ((5,1),fun s=>if s.pk=p then ({ s with pk:=n },gfEnd rest (q.bin+1) q.bad q.bk) else (s,{ q with st:=.pL n }))
def GfSt.num:GfSt→Option Nat
 | .pL n=>some n
 | .pC n _=>some n
 | _=>none
def gfC (q:GfQ):Nat:=q.bin+if q.st.num.isSome=true then 1 else 0
structure GfT (limit:Nat) (q:GfQ):Prop where
 bad:q.bad=false
 ov:q.rl=[]→q.st=.L
 hd:∀ rest,q.rl=false::rest→1≤q.bin∧q.st.num=none
 cs:∀ o,q.st=.C o→o≤limit∧(∀ rest,q.rl=true::rest→o<limit)∧(∀ rest,q.rl=false::rest→1≤o)
 pn:∀ n,q.st.num=some n→1≤n∧n≤limit
 pc:∀ n p,q.st=.pC n p→p<n
 cnt:q.bin+q.rl.length≤40
structure GfI (limit:Nat) (s:GfS) (qs:List GfQ):Prop where
 len:qs.length≤6
 sum:sumN (qs.map gfC)=s.w
 w:s.w≤limit
 pk:s.pk≤limit
 top:s.w≤s.pk∨∃ (k:Nat) (q:GfQ) (n:Nat),qs[k]?=some q∧q.st.num=some n∧s.w≤n
 th:∀ (k:Nat) q,qs[k]?=some q→GfT limit q
def gfφ (s:GfS) (q:GfQ):Nat:=match q.rl with
 | []=>0
 | _::rest=>40*rest.length+40+match q.st with
  | .L=>16
  | .C o=>if o=s.w then 15 else 17
  | .pL _=>2
  | .pC _ p=>if p=s.pk then 1 else 3
section
variable {limit:Nat} {s s':GfS} {qs:List GfQ} {k:Nat} {q q':GfQ}
theorem gf_th (h:∀ (k:Nat) q,qs[k]?=some q→GfT limit q) (h':GfT limit q'):∀ (j:Nat) q,(qs.set k q')[j]?=some q→GfT limit q:=fun j q hj=>by
 rw [List.getElem?_set] at hj
 split at hj
 ·split at hj
  ·cases hj;exact h'
  ·cases hj
 ·exact h j q hj
theorem gf_end {rest:List Bool} {bin bk:Nat} (h:bin+rest.length≤40):GfT limit (gfEnd rest bin false bk):=by
 have:=gfN_le (l:=rest) (b:=bin)
 exact ⟨rfl,fun _=>rfl,fun r e=>⟨gfN_false e,rfl⟩,fun o e=>(by cases e),fun n e=>(by cases e),fun n p e=>(by cases e),by show bin+(gfN rest bin).length≤40;omega⟩
theorem gf_endφ {rest:List Bool} {bin bk:Nat}:gfφ s (gfEnd rest bin false bk)≤40*rest.length+16:=by
 have:=gfN_le (l:=rest) (b:=bin)
 unfold gfφ
 simp only [gfEnd]
 split
 ·omega
 ·rename_i h
  rw [h,List.length_cons] at this
  omega
theorem gf_top (hq:qs[k]?=some q) (hw:s'.w≤s.w) (hp:s.pk≤s'.pk) (hn:∀ n,q.st.num=some n→s.w≤n→s'.w≤s'.pk∨∃ m,q'.st.num=some m∧s'.w≤m) (h:s.w≤s.pk∨∃ (k:Nat) (q:GfQ) (n:Nat),qs[k]?=some q∧q.st.num=some n∧s.w≤n) :
  s'.w≤s'.pk∨∃ (j:Nat) (a:GfQ) (n:Nat),(qs.set k q')[j]?=some a∧a.st.num=some n∧s'.w≤n:=by
 have hlt:=(List.getElem?_eq_some_iff.1 hq).1
 rcases h with h | ⟨j,a,n,h1,h2,h3⟩
 ·left;omega
 ·by_cases e:j=k
  ·subst e
   rw [hq] at h1;cases h1
   rcases hn n h2 h3 with h4 | ⟨m,h4,h5⟩
   ·exact .inl h4
   ·exact .inr ⟨j,q',m,List.getElem?_set_self hlt,h4,h5⟩
  ·exact .inr ⟨j,a,n,by rw [List.getElem?_set_ne fun h=>e h.symm];exact h1,h2,by omega⟩
theorem gf_ge (hq:qs[k]?=some q):gfC q≤sumN (qs.map gfC):=by
 induction qs generalizing k with
 | nil=>simp at hq
 | cons a l ih =>
  cases k with
  | zero=>simp at hq;subst hq;simp only [List.map_cons,sumN,List.foldr_cons];omega
  | succ k =>
   have:=ih (k:=k) (by simpa using hq)
   simp only [List.map_cons,sumN,List.foldr_cons] at this ⊢;omega
theorem gfφ_le (a:GfQ):gfφ s' a≤gfφ s a+2:=by
 unfold gfφ
 split
 ·omega
 ·split <;> (try split) <;> (try split) <;> omega
set_option maxHeartbeats 1000000 in
theorem gf_step (I:GfI limit s qs) (hq:qs[k]?=some q) {m:Int × Int} {f:GfS→GfS × GfQ} (hp:gfPlan limit q=some (m,f)) :
  GfI limit (f s).1 (qs.set k (f s).2)∧sumN ((qs.set k (f s).2).map (gfφ (f s).1))+1≤sumN (qs.map (gfφ s)):=by
 have T:=I.th k q hq
 obtain ⟨i1,i2,i3,i4,i5,i6⟩:=I
 have hge:=gf_ge hq
 obtain ⟨rl,bin,bad,st,bk⟩:=q
 obtain ⟨t1,t2,t3,t4,t5,t6,t7⟩:=T
 simp only at t1 t2 t3 t4 t5 t6 t7
 subst t1
 cases rl with
 | nil=>cases hp
 | cons a rest =>
  simp only [gfPlan] at hp
  simp only [List.length_cons] at t7
  have hend:∀ {s:GfS} {b:Nat},gfφ s (gfEnd rest b false bk)≤40*rest.length+16:=fun {s b}=>gf_endφ
  cases st with
  | L =>
   obtain ⟨_,rfl⟩:=Prod.mk.inj (Option.some.inj hp)
   cases a with
   | true =>
    simp only [if_true]
    by_cases c:limit≤s.w
    ·simp only [if_pos c]
     have h1:=sum_set (φ:=gfC) (q':=gfEnd rest bin false bk) hq
     have e1:gfC (gfEnd rest bin false bk)=bin:=rfl
     have e2:gfC ⟨true::rest,bin,false,.L,bk⟩=bin:=rfl
     refine ⟨⟨by rw [List.length_set];exact i1,by omega,i3,i4,gf_top hq (Nat.le_refl _) (Nat.le_refl _) (fun n e=>(by cases e)) i5,gf_th i6 (gf_end (by omega))⟩,sum_step (fun _=>Nat.le_refl _) hq ?_⟩
     have e3:gfφ s ⟨true::rest,bin,false,.L,bk⟩=40*rest.length+40+16:=rfl
     have:=hend (s:=s) (b:=bin)
     omega
    ·simp only [if_neg c]
     have h1:=sum_set (φ:=gfC) (q':=⟨true::rest,bin,false,.C s.w,bk⟩) hq
     have e1:gfC ⟨true::rest,bin,false,.C s.w,bk⟩=bin:=rfl
     have e2:gfC ⟨true::rest,bin,false,.L,bk⟩=bin:=rfl
     refine ⟨⟨by rw [List.length_set];exact i1,by omega,i3,i4,gf_top hq (Nat.le_refl _) (Nat.le_refl _) (fun n e=>(by cases e)) i5,gf_th i6 ⟨rfl,fun h=>(by cases h),fun r h=>(by cases h),fun o e=>(by cases e;exact ⟨i3,fun _ _=>by omega,fun r h=>(by cases h)⟩),fun n e=>(by cases e),fun n p e=>(by cases e),by simpa using t7⟩⟩,sum_step (fun _=>Nat.le_refl _) hq ?_⟩
     simp [gfφ]
   | false =>
    have hb:=(t3 rest rfl).1
    have e2:gfC ⟨false::rest,bin,false,.L,bk⟩=bin:=rfl
    have c:¬ s.w=0:=by omega
    simp only [Bool.false_eq_true,if_false,if_neg c]
    have h1:=sum_set (φ:=gfC) (q':=⟨false::rest,bin,false,.C s.w,bk⟩) hq
    have e1:gfC ⟨false::rest,bin,false,.C s.w,bk⟩=bin:=rfl
    refine ⟨⟨by rw [List.length_set];exact i1,by omega,i3,i4,gf_top hq (Nat.le_refl _) (Nat.le_refl _) (fun n e=>(by cases e)) i5,gf_th i6 ⟨rfl,fun h=>(by cases h),fun r h=>(by cases h;exact ⟨hb,rfl⟩),fun o e=>(by cases e;exact ⟨i3,fun r h=>(by cases h),fun _ _=>by omega⟩),fun n e=>(by cases e),fun n p e=>(by cases e),by simpa using t7⟩⟩,sum_step (fun _=>Nat.le_refl _) hq ?_⟩
    simp [gfφ]
  | C o =>
   obtain ⟨_,rfl⟩:=Prod.mk.inj (Option.some.inj hp)
   obtain ⟨t41,t42,t43⟩:=t4 o rfl
   by_cases c:s.w=o
   ·subst c
    simp only [if_true]
    cases a with
    | true =>
     simp only [if_true]
     have hlt:=t42 rest rfl
     have h1:=sum_set (φ:=gfC) (q':=⟨true::rest,bin,false,.pL (s.w+1),bk⟩) hq
     have e1:gfC ⟨true::rest,bin,false,.pL (s.w+1),bk⟩=bin+1:=rfl
     have e2:gfC ⟨true::rest,bin,false,.C s.w,bk⟩=bin:=rfl
     refine ⟨⟨by rw [List.length_set];exact i1,by show _=s.w+1;omega,hlt,i4,.inr ⟨k,_,s.w+1,List.getElem?_set_self (List.getElem?_eq_some_iff.1 hq).1,rfl,Nat.le_refl _⟩,gf_th i6 ⟨rfl,fun h=>(by cases h),fun r h=>(by cases h),fun o e=>(by cases e),fun n e=>(by cases e;exact ⟨by omega,hlt⟩),fun n p e=>(by cases e),by simpa using t7⟩⟩,sum_step2 (d:=2) (fun _=>gfφ_le _) hq ?_⟩
     have e3:gfφ { s with w:=s.w+1 } ⟨true::rest,bin,false,.pL (s.w+1),bk⟩=40*rest.length+40+2:=rfl
     have e4:gfφ { s with w:=s.w+1 } ⟨true::rest,bin,false,.C s.w,bk⟩=40*rest.length+40+17:=by
      show 40*rest.length+40+(if s.w=s.w+1 then 15 else 17)=_
      rw [if_neg (by omega)]
     omega
    | false =>
     simp only [Bool.false_eq_true,if_false]
     have hb:=(t3 rest rfl).1
     have h1w:=t43 rest rfl
     have h1:=sum_set (φ:=gfC) (q':=gfEnd rest (bin-1) false bk) hq
     have e1:gfC (gfEnd rest (bin-1) false bk)=bin-1:=rfl
     have e2:gfC ⟨false::rest,bin,false,.C s.w,bk⟩=bin:=rfl
     refine ⟨⟨by rw [List.length_set];exact i1,by show _=s.w-1;omega,by show s.w-1≤limit;omega,i4,gf_top (s:=s) (s':={ s with w:=s.w-1 }) hq (Nat.sub_le _ _) (Nat.le_refl _) (fun n e=>(by cases e)) i5,gf_th i6 (gf_end (by omega))⟩,sum_step2 (d:=2) (fun _=>gfφ_le _) hq ?_⟩
     have e4:gfφ { s with w:=s.w-1 } ⟨false::rest,bin,false,.C s.w,bk⟩=40*rest.length+40+17:=by
      show 40*rest.length+40+(if s.w=s.w-1 then 15 else 17)=_
      rw [if_neg (by omega)]
     have:=hend (s:={ s with w:=s.w-1 }) (b:=bin-1)
     omega
   ·simp only [if_neg c]
    have h1:=sum_set (φ:=gfC) (q':=⟨a::rest,bin,false,.L,bk⟩) hq
    have e1:gfC ⟨a::rest,bin,false,.L,bk⟩=bin:=rfl
    have e2:gfC ⟨a::rest,bin,false,.C o,bk⟩=bin:=rfl
    refine ⟨⟨by rw [List.length_set];exact i1,by omega,i3,i4,gf_top hq (Nat.le_refl _) (Nat.le_refl _) (fun n e=>(by cases e)) i5,gf_th i6 ⟨rfl,fun h=>(by cases h),fun r h=>⟨(t3 r h).1,rfl⟩,fun o e=>(by cases e),fun n e=>(by cases e),fun n p e=>(by cases e),by simpa using t7⟩⟩,sum_step (fun _=>Nat.le_refl _) hq ?_⟩
    show 40*rest.length+40+16+1≤40*rest.length+40+(if o=s.w then 15 else 17)
    rw [if_neg fun e=>c e.symm]
    omega
  | pL n =>
   obtain ⟨_,rfl⟩:=Prod.mk.inj (Option.some.inj hp)
   obtain ⟨n1,n2⟩:=t5 n rfl
   have ea:a=true:=by cases a with
    | true=>rfl
    | false=>have:=(t3 rest rfl).2;cases this
   subst ea
   have e2:gfC ⟨true::rest,bin,false,.pL n,bk⟩=bin+1:=rfl
   by_cases c:n≤s.pk
   ·simp only [if_pos c]
    have h1:=sum_set (φ:=gfC) (q':=gfEnd rest (bin+1) false bk) hq
    have e1:gfC (gfEnd rest (bin+1) false bk)=bin+1:=rfl
    refine ⟨⟨by rw [List.length_set];exact i1,by omega,i3,i4,gf_top hq (Nat.le_refl _) (Nat.le_refl _) (fun m e h=>(by cases e;left;omega)) i5,gf_th i6 (gf_end (by omega))⟩,sum_step (fun _=>Nat.le_refl _) hq ?_⟩
    have e3:gfφ s ⟨true::rest,bin,false,.pL n,bk⟩=40*rest.length+40+2:=rfl
    have:=hend (s:=s) (b:=bin+1)
    omega
   ·simp only [if_neg c]
    have h1:=sum_set (φ:=gfC) (q':=⟨true::rest,bin,false,.pC n s.pk,bk⟩) hq
    have e1:gfC ⟨true::rest,bin,false,.pC n s.pk,bk⟩=bin+1:=rfl
    refine ⟨⟨by rw [List.length_set];exact i1,by omega,i3,i4,gf_top hq (Nat.le_refl _) (Nat.le_refl _) (fun m e h=>(by cases e;exact .inr ⟨n,rfl,h⟩)) i5,gf_th i6 ⟨rfl,fun h=>(by cases h),fun r h=>(by cases h),fun o e=>(by cases e),fun m e=>(by cases e;exact ⟨n1,n2⟩),fun m p e=>(by cases e;omega),by simpa using t7⟩⟩,sum_step (fun _=>Nat.le_refl _) hq ?_⟩
    simp [gfφ]
  | pC n p =>
   obtain ⟨_,rfl⟩:=Prod.mk.inj (Option.some.inj hp)
   obtain ⟨n1,n2⟩:=t5 n rfl
   have hpn:=t6 n p rfl
   have ea:a=true:=by cases a with
    | true=>rfl
    | false=>have:=(t3 rest rfl).2;cases this
   subst ea
   have e2:gfC ⟨true::rest,bin,false,.pC n p,bk⟩=bin+1:=rfl
   by_cases c:s.pk=p
   ·subst c
    simp only [if_true]
    have h1:=sum_set (φ:=gfC) (q':=gfEnd rest (bin+1) false bk) hq
    have e1:gfC (gfEnd rest (bin+1) false bk)=bin+1:=rfl
    refine ⟨⟨by rw [List.length_set];exact i1,by show _=s.w;omega,i3,n2,gf_top (s:=s) (s':={ s with pk:=n }) hq (Nat.le_refl _) (by show s.pk≤n;omega) (fun m e h=>(by cases e;left;exact h)) i5,gf_th i6 (gf_end (by omega))⟩,sum_step2 (d:=2) (fun _=>gfφ_le _) hq ?_⟩
    have e4:gfφ { s with pk:=n } ⟨true::rest,bin,false,.pC n s.pk,bk⟩=40*rest.length+40+3:=by
     show 40*rest.length+40+(if s.pk=n then 1 else 3)=_
     rw [if_neg (by omega)]
    have:=hend (s:={ s with pk:=n }) (b:=bin+1)
    omega
   ·simp only [if_neg c]
    have h1:=sum_set (φ:=gfC) (q':=⟨true::rest,bin,false,.pL n,bk⟩) hq
    have e1:gfC ⟨true::rest,bin,false,.pL n,bk⟩=bin+1:=rfl
    refine ⟨⟨by rw [List.length_set];exact i1,by omega,i3,i4,gf_top hq (Nat.le_refl _) (Nat.le_refl _) (fun m e h=>(by cases e;exact .inr ⟨n,rfl,h⟩)) i5,gf_th i6 ⟨rfl,fun h=>(by cases h),fun r h=>(by cases h),fun o e=>(by cases e),fun m e=>(by cases e;exact ⟨n1,n2⟩),fun m p e=>(by cases e),by simpa using t7⟩⟩,sum_step (fun _=>Nat.le_refl _) hq ?_⟩
    show 40*rest.length+40+2+1≤40*rest.length+40+(if p=s.pk then 1 else 3)
    rw [if_neg fun e=>c e.symm]
    omega
theorem gf_bk {limit:Nat} {q:GfQ} {m:Int × Int} {f:GfS→GfS × GfQ} (hp:gfPlan limit q=some (m,f)) (s:GfS):(f s).2.bk=q.bk:=by
 obtain ⟨rl,bin,bad,st,bk⟩:=q
 cases rl with
 | nil=>cases hp
 | cons a rest =>
  simp only [gfPlan] at hp
  cases st <;> obtain ⟨_,rfl⟩:=Prod.mk.inj (Option.some.inj hp) <;> dsimp only <;> (repeat' split) <;> first | rfl | exact gfEnd_bk
theorem gf_still (I:GfI limit s qs) (h:∀ q∈qs,q.rl=[]):sumN (qs.map GfQ.bin)=s.w∧s.w≤limit∧s.pk≤limit∧s.w≤s.pk∧∀ q∈qs,q.bad=false:=by
 have hT:∀ q∈qs,GfT limit q:=fun q hq=>by
  obtain ⟨k,hk⟩:=List.mem_iff_getElem?.1 hq
  exact I.th k q hk
 have hst:∀ q∈qs,q.st=.L:=fun q hq=>(hT q hq).ov (h q hq)
 refine ⟨?_,I.w,I.pk,?_,fun q hq=>(hT q hq).bad⟩
 ·rw [← I.sum]
  congr 1
  apply List.map_congr_left
  intro q hq
  unfold gfC
  rw [hst q hq];rfl
 ·rcases I.top with h1 | ⟨k,q,n,h1,h2,_⟩
  ·exact h1
  ·rw [hst q (List.mem_of_getElem? h1)] at h2;cases h2
end
end
end Go.Proofs.Ytnnpdmhmpgmpnaa
namespace Go.PB.Mach
section
structure In where
 op:Nat
 on:Nat:=0
 a:Nat:=0
 b:Nat:=0
 c:Nat:=0
 d:Nat:=0
 n:Nat:=0
structure Cl where
 code:List In
 data:List Nat:=[]
structure Wd where
 words:List (List Nat)
 nl:Nat
structure Th where
 calls:List Cl
 call:Nat:=0
 pc:Nat:=0
 r:Nat→Nat:=fun _=>0
 ans:List (Bool × List Nat):=[]
 over:Bool:=false
def fin:In:={ op:=23 }
def Th.cl (t:Th):Cl:=t.calls.getD t.call { code:=[] }
def Th.next (t:Th):In:=t.cl.code.getD t.pc fin
def Th.put (t:Th) (i v:Nat):Th:={ t with r:=upd t.r i (v%18446744073709551616) }
def Th.tell (t:Th) (v:Nat):Th:={ t with ans:=t.ans.modify t.call fun y=>(y.1,y.2++[v]) }
structure Wd.ok (w:Wd):Prop where
 n:w.words.length<1000000
 nl:w.nl<1000000
 len:∀ l∈w.words,l.length<1000000
 lt:∀ l∈w.words,∀ v∈l,v<18446744073709551616
def own (t0:Th) (x:In):Th :=
 let t:={ t0 with pc:=t0.pc+1 }
 match x.op with
 | 6=>t.put x.a x.n
 | 7=>t.put x.a (t.r x.b)
 | 8=>t.put x.a (t.r x.b+t.r x.c+x.n)
 | 9=>t.put x.a (t.r x.b+18446744073709551616-t.r x.c)
 | 10=>t.put x.a (t.r x.b*t.r x.c)
 | 11=>t.put x.a (if t.r x.c=0 then 0 else t.r x.b/t.r x.c)
 | 12=>t.put x.a (t.r x.b &&& t.r x.c)
 | 13=>t.put x.a (t.r x.b ||| t.r x.c)
 | 14=>t.put x.a (t.r x.b*2^x.n)
 | 15=>t.put x.a (t.r x.b/2^x.n)
 | 16=>t.put x.a (max (t.r x.b) (t.r x.c))
 | 17=>t.put x.a (t.cl.data.getD ((t.r x.b+x.n)%18446744073709551616) 0)
 | 18=>{ t with pc:=x.n }
 | 19=>if t.r x.a=t.r x.b then { t with pc:=x.n } else t
 | 20=>if t.r x.a<t.r x.b then { t with pc:=x.n } else t
 | 21=>if 9223372036854775808≤t.r x.a then { t with pc:=x.n } else t
 | 22=>t.tell (t.r x.a)
 | _=>t
def told (op:Nat):Bool:=1≤op&&op≤5
def Th.begun (t:Th):Th:=if t.ans.length=t.call then { t with ans:=t.ans++[(false,[])] } else t
def Th.done (t:Th):Th:={ t with ans:=t.ans.modify t.call fun y=>(true,y.2),call:=t.call+1,pc:=0,r:=fun _=>0 }
def onF:Nat→Th→Option Th
 | 0,_=>none
 | f+1,t =>
  if t.over=true then some t
  else if t.calls.length≤t.call then some { t with over:=true }
  else if told t.begun.next.op=true then some t.begun
  else if t.begun.next.op=23 then onF f t.begun.done
  else onF f (own t.begun t.begun.next)
def Th.place (t:Th):Nat:=(t.r t.next.b+t.next.n)%18446744073709551616
def op1 (x:In) (l:List Nat) (p:Nat) (r:Nat→Nat):List Nat × (Nat→Nat) :=
 let v:=l.getD p 0
 match x.op with
 | 1=>(l,upd r x.a v)
 | 2=>(l.set p (r x.a),r)
 | 3=>(l.set p ((v+r x.c)%18446744073709551616),upd r x.a ((v+r x.c)%18446744073709551616))
 | 4=>(l.set p (r x.c),upd r x.a v)
 | _=>if v=r x.c then (l.set p (r x.d),upd r x.a 1) else (l,upd r x.a 0)
def Wd.row (w:Wd) (on:Nat):List Nat:=w.words.getD on []
def opF (f:Nat) (w:Wd) (t:Th):Option (Wd × Th) :=
 if t.place<(w.row t.next.on).length then
  let y:=op1 t.next (w.row t.next.on) t.place t.r
  (onF f { t with pc:=t.pc+1,r:=y.2 }).map fun t'=>({ w with words:=w.words.set t.next.on y.1 },t')
 else none
def Th.mark (t:Th):Nat × Nat:=(t.next.op,t.place)
structure St where
 w:Wd
 l:List Th
 tr:List (Nat × Nat × Nat):=[]
def turn (f:Nat) (s:St) (k:Nat):Option St :=
 match s.l[k]? with
 | some t=>(opF f s.w t).map fun y=>⟨y.1,s.l.set k y.2,s.tr++[(k,t.mark)]⟩
 | none=>some s
def may (s:St) (k:Nat):Bool:=s.tr.length<16384&&(match s.l[k]? with | some t=>!t.over | none=>false)
def byOrder (f:Nat):St→List (Option Nat)→Option St
 | s,[]=>some s
 | s,none::o=>byOrder f s o
 | s,some k::o=>if may s k=true then (turn f s k).bind fun s=>byOrder f s o else byOrder f s o
def round (f:Nat):Nat→Nat→St→Bool→Option (St × Bool)
 | 0,_,s,q=>some (s,q)
 | m+1,k,s,q=>if may s k=true then (turn f s k).bind fun s=>round f m (k+1) s true else round f m (k+1) s q
def rounds (f:Nat):Nat→St→Option St
 | 0,_=>none
 | g+1,s=>(round f s.l.length 0 s false).bind fun y=>if y.2=true then rounds f g y.1 else some y.1
def begin_ (f:Nat):List Th→Option (List Th)
 | []=>some []
 | t::l=>(onF f t).bind fun t=>(begin_ f l).map fun l=>t::l
def play (f g:Nat) (w:Wd) (o:List (Option Nat)) (l:List (List Cl)):Option St :=
 (begin_ f (l.map fun c=>{ calls:=c })).bind fun l=>(byOrder f ⟨w,l,[]⟩ o).bind fun s=>rounds f g s
def In.ok (x:In):Bool:=1≤x.op&&x.op≤23&&x.a<24&&x.b<24&&x.c<24&&x.d<24&&x.on<1000&&x.n<18446744073709551616&&(!(18≤x.op&&x.op≤21)||x.n<1000000)&&(!(x.op=17)||!(x.a=x.b))&&(!(x.op=14||x.op=15)||x.n<64)
def Cl.ok (c:Cl):Bool:=c.code.all In.ok&&c.data.all (fun v=>v<18446744073709551616)&&c.code.length<1000000&&c.data.length<1000000
end
end Go.PB.Mach
namespace Go.Proofs.Ytnnpdmhmpgmpnaa
open Go Go.PB
section
structure Wds where
 W:(Nat→Nat)→Mach.Wd
 un:Mach.Wd→(Nat→Nat)
 ok:(Nat→Nat)→Prop
 fu:Nat
 back:∀ f,W (un (W f))=W f
 okun:∀ f,ok f→ok (un (W f))
def mF (D:Wds) (q:Nat × Mach.Th) (f:Nat→Nat):(Nat→Nat) × (Nat × Mach.Th) :=
 match Mach.opF D.fu (D.W f) q.2 with
 | some y=>(D.un y.1,(q.1,y.2))
 | none=>(f,(q.1,{ q.2 with over:=true }))
def mkII (m:Nat × Nat):Int × Int:=(((m.1:Nat):Int),((m.2:Nat):Int))
def mPlan (D:Wds) (q:Nat × Mach.Th):Option ((Int × Int) × ((Nat→Nat)→(Nat→Nat) × (Nat × Mach.Th))) :=
 if q.2.over=true then none else some (mkII q.2.mark,mF D q)
def mG (D:Wds) (U:(Nat→Nat)→HProp) (Pv:Nat × Mach.Th→HProp):Game where
 σ:=Nat→Nat
 θ:=Nat × Mach.Th
 U:=U
 plan:=mPlan D
 ok:=D.ok
 Pv:=Pv
 Fin:=Pv
def GoodN (D:Wds):Nat→Mach.Th→Prop
 | 0,_=>True
 | n+1,t=>t.over=true∨t.over=false∧∀ f,D.ok f→∃ f' t',Mach.opF D.fu (D.W f) t=some (D.W f',t')∧D.ok f'∧GoodN D n t'
def GoodT (D:Wds) (t:Mach.Th):Prop:=∀ n,GoodN D n t
theorem GoodT.over {D:Wds} {t:Mach.Th} (h:t.over=true):GoodT D t
 | 0=>trivial
 | _+1=>.inl h
theorem GoodT.mk {D:Wds} {t:Mach.Th} (ho:t.over=false) (h:∀ f,D.ok f→∃ f' t',Mach.opF D.fu (D.W f) t=some (D.W f',t')∧D.ok f'∧GoodT D t'):GoodT D t
 | 0=>trivial
 | n+1=>.inr ⟨ho,fun f hf=>by
  obtain ⟨f',t',h1,h2,h3⟩:=h f hf
  exact ⟨f',t',h1,h2,h3 n⟩⟩
theorem GoodT.on {D:Wds} {t:Mach.Th} (g:GoodT D t) (ho:t.over=false):∀ f,D.ok f→∃ f' t',Mach.opF D.fu (D.W f) t=some (D.W f',t')∧D.ok f'∧GoodT D t':=by
 have at_:∀ n f,D.ok f→∃ f' t',Mach.opF D.fu (D.W f) t=some (D.W f',t')∧D.ok f'∧GoodN D n t':=fun n f hf=>by
  rcases g (n+1) with h | ⟨_,h⟩
  ·rw [h] at ho;cases ho
  ·exact h f hf
 intro f hf
 obtain ⟨f',t',h1,h2,_⟩:=at_ 0 f hf
 refine ⟨f',t',h1,h2,fun n=>?_⟩
 obtain ⟨g',u',e1,_,e3⟩:=at_ n f hf
 rw [h1] at e1
 simp only [Option.some.injEq,Prod.mk.injEq] at e1
 rw [e1.2]
 exact e3
section
variable {D:Wds} {U:(Nat→Nat)→HProp} {Pv:Nat × Mach.Th→HProp}
structure Rel (p:PS (mG D U Pv)) (st:Mach.St):Prop where
 w:st.w=D.W p.s
 len:p.qs.length=st.l.length
 qs:∀ k:Nat,p.qs[k]?=(st.l[k]?).map fun t=>(k,t)
 tr:p.tr=st.tr.map fun e=>(e.1,mkII e.2)
 le:st.tr.length≤16384
 good:∀ t∈st.l,GoodT D t
 ok:D.ok p.s
structure Begins (D:Wds) (U:(Nat→Nat)→HProp) (Pv:Nat × Mach.Th→HProp) (k0:Nat) (ts:List (Thr (mG D U Pv))) (cc:List (List Mach.Cl)):Prop where
 len:ts.length=cc.length
 ini:∀ (k:Nat) t c,ts[k]?=some t→cc[k]?=some c→∃ u,Mach.onF D.fu { calls:=c }=some u∧GoodT D u∧∀ s:(mG D U Pv).σ,t.ini s=(s,((k0+k,u):Nat × Mach.Th))
end
end
end Go.Proofs.Ytnnpdmhmpgmpnaa
namespace Go.Proofs.Ytnnpdmhmpgmpnaa
open Go Go.PB
attribute [local irreducible] Mo Bin Eql Tr Wo
section
structure Acc (B:Hand) (gv:Value) where
 S:Type
 C:S→HProp
 x:S→B.X
 step:Int→Nat→S→(S→Prop)→Prop
 addr:Nat→Nat × Nat
 load:Nat→S→(Nat→S→Prop)→Prop
 store:Nat→Nat→S→(S→Prop)→Prop
 cas:Nat→Nat→Nat→S→(Bool→S→Prop)→Prop
 add:Nat→Nat→S→(Nat→S→Prop)→Prop
 swap:Nat→Nat→S→(Nat→S→Prop)→Prop
 gate:(gv=.nilIface∧∀ op w s R,step op w s R→R s) ∨
  ∃ t p f,gv=.iface t p∧Met Try.prog t "Step" f∧Ent' Try.prog f∧∀ op w s R L F,step op w s R→Has L (C s) F →
   Tr Try.prog B f [p,.agg #[.int .u8 op,.int .i64 (w:Nat)]] L (x s) fun v L' x'=>∃ s',R s'∧v=.tuple #[]∧L'=C s'::F∧x'=x s'
 load_ok:∀ w s R L F b o,addr w=(b,o)→load w s R→Has L (C s) F→Tr Try.prog B 50 [.pointer (some ⟨b,o,none⟩)] L (x s) fun v L' x'=>∃ n s',n<18446744073709551616∧R n s'∧v=.int .u64 (n:Nat)∧L'=C s'::F∧x'=x s'
 store_ok:∀ w n s R L F b o,addr w=(b,o)→n<18446744073709551616→store w n s R→Has L (C s) F→Tr Try.prog B 87 [.pointer (some ⟨b,o,none⟩),.int .u64 (n:Nat)] L (x s) fun v L' x'=>∃ s',R s'∧v=.tuple #[]∧L'=C s'::F∧x'=x s'
 cas_ok:∀ w m n s R L F b o,addr w=(b,o)→n<18446744073709551616→cas w m n s R→Has L (C s) F→Tr Try.prog B 73 [.pointer (some ⟨b,o,none⟩),.int .u64 (m:Nat),.int .u64 (n:Nat)] L (x s) fun v L' x'=>∃ q s',R q s'∧v=.bool q∧L'=C s'::F∧x'=x s'
 add_ok:∀ w n s R L F b o,addr w=(b,o)→n<18446744073709551616→add w n s R→Has L (C s) F→Tr Try.prog B 85 [.pointer (some ⟨b,o,none⟩),.int .u64 (n:Nat)] L (x s) fun v L' x'=>∃ m s',m<18446744073709551616∧R m s'∧v=.int .u64 (m:Nat)∧L'=C s'::F∧x'=x s'
section
variable {B:Hand} [Lets B] {L F L1:List HProp}
theorem load_lone {b o:Nat} {n:Int} {x:B.X} (hr:Rd L b o (.int .u64 n)):Tr Try.prog B 50 [.pointer (some ⟨b,o,none⟩)] L x fun v L' x'=>v=.int .u64 n∧L'=L∧x'=x:=by
 refine tr_of_body Try.func50 rfl Try.ntmps50 (by simp) fun um Q _ hQ=>?_
 simp only [argE,Nat.zero_add,Nat.reduceAdd]
 repeat (first | (apply wo_po;apply mo_ext (args:=[_]);exact .cons rfl .nil;exact at_loadI hr;exact trivial) | refine we_seq ?_ | (refine wR ?_;try simp only [oS]) | refine wo_nil ?_ | refine wM ?_ | refine wA ?_ | refine wN ?_ | refine wD ?_ | refine we_ret ?_)
 (first | refine or1 Try.func50 Try.results50 hQ rfl ?_ | refine on1 Try.func50 Try.results50 hQ rfl ?_)
 exact ⟨rfl,rfl,rfl⟩
theorem store_lone {b o:Nat} {n:Int} {x:B.X} (hw:Wt L b o (.int .u64 n) L1):Tr Try.prog B 87 [.pointer (some ⟨b,o,none⟩),.int .u64 n] L x fun v L' x'=>v=.tuple #[]∧L'=L1∧x'=x:=by
 refine tr_of_body Try.func87 rfl Try.ntmps87 (by simp) fun um Q _ hQ=>?_
 simp only [argE,Nat.zero_add,Nat.reduceAdd]
 repeat (first | (apply wo_pm;apply mo_ext (args:=[_,_]);exact .cons rfl (.cons rfl .nil);exact at_storeI rfl hw;exact trivial) | (refine wR ?_;try simp only [oS]) | refine wo_nil ?_ | refine wM ?_ | refine wN ?_ | refine wD ?_)
 (first | refine or0 Try.func87 Try.results87 hQ ?_ | refine on0 Try.func87 Try.results87 hQ ?_)
 exact ⟨rfl,rfl,rfl⟩
theorem cas_lone {b o:Nat} {n m y:Int} {x:B.X} (hr:Rd L b o (.int .u64 n)) (hw:Wt L b o (.int .u64 y) L1):Tr Try.prog B 73 [.pointer (some ⟨b,o,none⟩),.int .u64 m,.int .u64 y] L x fun v L' x'=>v=.bool (decide (n=m))∧L'=(if n=m then L1 else L)∧x'=x:=by
 refine tr_of_body Try.func73 rfl Try.ntmps73 (by simp) fun um Q _ hQ=>?_
 simp only [argE,Nat.zero_add,Nat.reduceAdd]
 repeat (first | (apply wo_pm;apply mo_ext (args:=[_,_,_]);exact .cons rfl (.cons rfl (.cons rfl .nil));exact at_casI hr hw;exact trivial) | refine we_seq ?_ | (refine wR ?_;try simp only [oS]) | refine wo_nil ?_ | refine wM ?_ | refine wA ?_ | refine wN ?_ | refine wD ?_ | refine we_ret ?_)
 (first | refine or1 Try.func73 Try.results73 hQ rfl ?_ | refine on1 Try.func73 Try.results73 hQ rfl ?_)
 exact ⟨rfl,rfl,rfl⟩
theorem add_lone {b o:Nat} {n y r:Int} {x:B.X} (hr:Rd L b o (.int .u64 n)) (hn:IntKind.u64.wrap (n+y)=r) (hw:Wt L b o (.int .u64 r) L1):Tr Try.prog B 85 [.pointer (some ⟨b,o,none⟩),.int .u64 y] L x fun v L' x'=>v=.int .u64 r∧L'=L1∧x'=x:=by
 refine tr_of_body Try.func85 rfl Try.ntmps85 (by simp) fun um Q _ hQ=>?_
 simp only [argE,Nat.zero_add,Nat.reduceAdd]
 repeat (first | (apply wo_pm;apply mo_ext (args:=[_,_]);exact .cons rfl (.cons rfl .nil);exact at_addI hr hn hw;exact trivial) | refine we_seq ?_ | (refine wR ?_;try simp only [oS]) | refine wo_nil ?_ | refine wM ?_ | refine wA ?_ | refine wN ?_ | refine wD ?_ | refine we_ret ?_)
 (first | refine or1 Try.func85 Try.results85 hQ rfl ?_ | refine on1 Try.func85 Try.results85 hQ rfl ?_)
 exact ⟨rfl,rfl,rfl⟩
end
end
section
variable {B:Hand} [Lets B]
def loneAcc (x:B.X) (addr:Nat→Nat × Nat) (N:Nat) (K:List (Nat × Nat × Value)) (A:Apart addr N K):Acc B .nilIface where
 S:=Nat→Nat
 C:=wds addr N K
 x:=fun _=>x
 step:=fun _ _ s R=>R s
 addr:=addr
 load:=fun w s R=>w<N∧R (s w) s
 store:=fun w n s R=>w<N∧R (upd s w n)
 cas:=fun w a n s R=>w<N∧if s w=a then R true (upd s w n) else R false s
 add:=fun w n s R=>w<N∧R ((s w+n)%18446744073709551616) (upd s w ((s w+n)%18446744073709551616))
 swap:=fun w n s R=>w<N∧R (s w) (upd s w n)
 gate:=.inl ⟨rfl,fun _ _ _ _ h=>h⟩
 load_ok:=fun w s R L F b o ha hl hh=>tr_pure (of_has hh fun h hc=>(hc.1 w hl.1).1) fun hs =>
  (load_lone (rd_wds hh hl.1 ha)).post fun v L' x' ⟨h1,h2,h3⟩=>⟨_,⟨s w,s,hs,hl.2,h1,rfl,h3⟩,fun h st=>hh.star (h2▸st)⟩
 store_ok:=fun w n s R L F b o ha hn hl hh =>
  (store_lone (wt_wds A hh hl.1 ha hn)).mono fun v L' x' ⟨h1,h2,h3⟩=>⟨upd s w n,hl.2,h1,h2,h3⟩
 cas_ok:=fun w m n s R L F b o ha hn hl hh =>
  (cas_lone (rd_wds hh hl.1 ha) (wt_wds A hh hl.1 ha hn)).post fun v L' x' ⟨h1,h2,h3⟩=>by
   obtain ⟨h4,h5⟩:=hl
   by_cases e:s w=m
   ·rw [if_pos e] at h5;rw [if_pos (by omega)] at h2;exact ⟨_,⟨true,_,h5,by rw [h1];simp [e],rfl,h3⟩,fun h st=>h2▸st⟩
   ·rw [if_neg e] at h5;rw [if_neg (by omega)] at h2;exact ⟨_,⟨false,_,h5,by rw [h1];simp;omega,rfl,h3⟩,fun h st=>hh.star (h2▸st)⟩
 add_ok:=fun w n s R L F b o ha hn hl hh =>
  (add_lone (r:=((s w+n)%18446744073709551616:Nat)) (rd_wds hh hl.1 ha) (by rw [wrap_u64_mod];omega) (wt_wds A hh hl.1 ha (Nat.mod_lt _ (by decide)))).mono fun v L' x' ⟨h1,h2,h3⟩=>⟨_,_,Nat.mod_lt _ (by decide),hl.2,h1,h2,h3⟩
end
end Go.Proofs.Ytnnpdmhmpgmpnaa
namespace Go.Proofs.Ytnnpdmhmpgmpnaa
open Go Go.PB
attribute [local irreducible] Mo Bin Eql Tr Wo Ap Wle
section
structure PlS where
 f:Nat→Nat
 g:Nat→Nat
 t:Mach.Th
 n:Nat
section
variable {D:Wds} {addr:Nat→Nat × Nat} {N:Nat} {K:List (Nat × Nat × Value)} {Z:HProp} {Pv:Nat × Mach.Th→HProp} {sb says turn fin wg:Nat}
end
end
section
structure GaS (G:WGm) where
 f:Nat→Nat
 c:G.ζ
 s:G.σ
 q:G.θ
 n:Nat
section
variable {G:WGm} {addr:Nat→Nat × Nat} {N:Nat} {K:List (Nat × Nat × Value)} {sb says turn fin wg:Nat}
end
section
variable {g:Game}
end
end
end Go.Proofs.Ytnnpdmhmpgmpnaa
namespace Go.Proofs.Ytnnpdmhmpgmpnaa
open Go Go.PB
section
inductive NvSt where
 | eL
 | eC (n:Nat)
 | pL (m:Nat)
 | pC (m p:Nat)
 | lL
 | lC (n:Nat)
 | g0
 | g1 (a:Nat)
structure NvQ where
 rl:List Bool
 bin:Nat
 bad:Bool
 st:NvSt
 bk:Nat
structure NvS where
 w:Nat
 pk:Nat
 now:Int
 most:Int
 E:List Nat
def nvNext (s:NvS) (rl:List Bool) (bin:Nat) (bad:Bool) (bk:Nat):NvS × NvQ :=
 match rl with
 | []=>(s,⟨[],bin,bad,.g0,bk⟩)
 | true::r=>(s,⟨true::r,bin,bad,.eL,bk⟩)
 | false::r=>if 0<bin then ({ s with now:=s.now-1,E:=s.E.tail },⟨false::r,bin-1,bad,if bad=true then .g0 else .lL,bk⟩) else (s,⟨false::r,bin,bad,.g0,bk⟩)
def nvIn (s:NvS) (m:Nat):NvS:={ s with now:=s.now+1,most:=max s.most (s.now+1),E:=s.E++[m] }
def nvPlan (limit:Nat) (q:NvQ):Option ((Int × Int) × (NvS→NvS × NvQ)) :=
 match q.rl with
 | []=>none
 | _::rest=>some (match q.st with
  | .eL=>((((1:Nat):Int),((0:Nat):Int)),fun s=>if limit≤s.w then (s,{ q with st:=.g0 }) else (s,{ q with st:=.eC s.w }))
  | .eC n=>((((5:Nat):Int),((0:Nat):Int)),fun s=>if s.w=n then ({ s with w:=n+1 },{ q with st:=.pL (n+1) }) else (s,{ q with st:=.eL }))
  | .pL m=>((((1:Nat):Int),((1:Nat):Int)),fun s=>if m≤s.pk then (nvIn s m,{ q with st:=.g0,bin:=q.bin+1 }) else (s,{ q with st:=.pC m s.pk }))
  | .pC m p=>((((5:Nat):Int),((1:Nat):Int)),fun s=>if s.pk=p then (nvIn { s with pk:=m } m,{ q with st:=.g0,bin:=q.bin+1 }) else (s,{ q with st:=.pL m }))
  | .lL=>((((1:Nat):Int),((0:Nat):Int)),fun s=>if s.w=0 then (s,{ q with st:=.g0,bad:=true }) else (s,{ q with st:=.lC s.w }))
  | .lC n=>((((5:Nat):Int),((0:Nat):Int)),fun s=>if s.w=n then ({ s with w:=n-1 },{ q with st:=.g0 }) else (s,{ q with st:=.lL }))
  | .g0=>((((1:Nat):Int),((0:Nat):Int)),fun s=>(s,{ q with st:=.g1 s.w }))
  | .g1 a=>((((1:Nat):Int),((1:Nat):Int)),fun s=>nvNext s rest q.bin (q.bad||decide (limit<a)||decide (limit<s.pk)) q.bk))
def nvPm (q:NvQ):Option Nat:=match q.st with | .pL m=>some m | .pC m _=>some m | _=>none
def nvPn (q:NvQ):Nat:=match q.st with | .pL _=>1 | .pC _ _=>1 | _=>0
def nvLv (q:NvQ):Nat:=match q.st with | .lL=>1 | .lC _=>1 | _=>0
def nvCn (v:Nat) (q:NvQ):Nat:=match q.st with | .pL m=>if m≤v then 1 else 0 | .pC m _=>if m≤v then 1 else 0 | _=>0
def le1 (l:List Nat) (v:Nat):Nat:=(l.filter fun e=>decide (e≤v)).length
structure NvT (limit:Nat) (q:NvQ):Prop where
 bad:q.bad=false
 ec:∀ n,q.st=.eC n→n<limit
 pc:∀ m p,q.st=.pC m p→p<m
 pm:∀ m,nvPm q=some m→m≤limit
 ga:∀ a,q.st=.g1 a→a≤limit
 ov:q.rl=[]→q.st=.g0
structure NvI (limit:Nat) (s:NvS) (qs:List NvQ):Prop where
 len:qs.length≤4
 now:s.now=s.E.length
 ws:s.w=s.E.length+sumN (qs.map nvPn)+sumN (qs.map nvLv)
 K:∀ v,le1 s.E v+sumN (qs.map (nvCn v))≤v
 el:∀ e∈s.E,e≤s.pk
 most:0≤s.most∧s.most≤s.pk
 pk:s.pk≤limit
 w:s.w≤limit
 bins:sumN (qs.map NvQ.bin)=s.E.length
 th:∀ (k:Nat) q,qs[k]?=some q→NvT limit q
end
end Go.Proofs.Ytnnpdmhmpgmpnaa
namespace Go.Proofs.Ytnnpdmhmpgmpnaa
open Go Go.PB
attribute [local irreducible] Mo Bin Eql Tr Wo Ap Wle
section
def w3 (a b c:Nat):Value:=.agg #[.int .u64 (a:Nat),.int .u64 (b:Nat),.int .u64 (c:Nat)]
def packN (a b c:Nat):Nat:=((((c*2^23)%18446744073709551616) ||| ((b*2^2)%18446744073709551616))%18446744073709551616 ||| a)%18446744073709551616
theorem packN_lt {a b c:Nat}:packN a b c<18446744073709551616:=Nat.mod_lt _ (by decide)
theorem packN_eq {a b c:Nat} (ha:a<4) (hb:b<2097152) (hc:c<2199023255552):packN a b c=c*8388608+b*4+a:=by
 unfold packN
 have h1:(c*2^23)%18446744073709551616=2^23*c:=by omega
 have h2:(b*2^2)%18446744073709551616=b*4:=by omega
 rw [h1,h2,← Nat.two_pow_add_eq_or_of_lt (i:=23) (b:=b*4) (by omega)]
 have h3:(2^23*c+b*4)%18446744073709551616=2^2*(c*2097152+b):=by omega
 rw [h3,← Nat.two_pow_add_eq_or_of_lt (i:=2) (b:=a) (by omega)]
 omega
section
variable {B:Hand} [Lets B] {L F:List HProp} {x:B.X} {w:Nat}
theorem apart_tr (hw:w<18446744073709551616):Tr Try.prog B 49 [.int .u64 (w:Nat)] L x fun v L' x'=>v=w3 (w%4) (w/4%2097152) (w/8388608)∧L'=L∧x'=x:=by
 refine Tr.post (R:=fun v L' x'=>v=w3 (w%4) (w/4%2097152) (w/8388608)∧x'=x∧∀ h,Star L' h→Star L h) ?_ (by rintro v L' x' ⟨rfl,rfl,hs⟩;exact ⟨L,⟨rfl,rfl,rfl⟩,hs⟩)
 have a1:IntKind.u64.wrap (BitVec.ofInt IntKind.u64.bits (w:Int) &&& BitVec.ofInt IntKind.u64.bits (3:Int)).toNat=((w%4:Nat):Int):=by
  rw [show (3:Int)=((3:Nat):Int) from rfl,and_u64' hw (by omega),show w &&& 3=w%4 from Nat.and_two_pow_sub_one_eq_mod w 2];omega
 have s1:(w:Int).fdiv (2^(min (2:Int).toNat IntKind.u64.bits))=((w/4:Nat):Int):=by
  have:=u64_shr (a:=w) (n:=2) (by omega) hw
  rw [show ((2:Nat):Int)=2 from rfl] at this
  rw [this];omega
 have s2:(w:Int).fdiv (2^(min (23:Int).toNat IntKind.u64.bits))=((w/8388608:Nat):Int):=by
  have:=u64_shr (a:=w) (n:=23) (by omega) hw
  rw [show ((23:Nat):Int)=23 from rfl] at this
  rw [this];omega
 have a2:IntKind.u64.wrap (BitVec.ofInt IntKind.u64.bits ((w/4:Nat):Int) &&& BitVec.ofInt IntKind.u64.bits (2097151:Int)).toNat=((w/4%2097152:Nat):Int):=by
  rw [show (2097151:Int)=((2097151:Nat):Int) from rfl,and_u64' (by omega) (by omega),show w/4 &&& 2097151=w/4%2097152 from Nat.and_two_pow_sub_one_eq_mod (w/4) 21];omega
 refine tr_of_body Try.func49 rfl Try.ntmps49 (by simp) fun um Q _ hQ=>?_
 simp only [argE,Nat.zero_add,Nat.reduceAdd]
 repeat (first | (apply wo_mo;apply mo_alloc;exact trivial) | refine we_seq ?_ | (refine wR ?_;try simp only [oS]))
 rintro v' L' ⟨cb,rfl,rfl⟩
 repeat (first | (apply wo_po;apply mo_bin;exact rfl;exact rfl;apply bin_and;(first | exact a1 | exact a2);exact trivial) | (apply wo_po;apply mo_bin;exact rfl;exact rfl;apply bin_shr;omega;(first | exact s1 | exact s2);exact trivial) | (apply wo_po;apply mo_buildV;(repeat (first | exact EvL.nil | apply EvL.cons rfl));exact rfl;exact trivial) | (apply wo_pm;apply mo_storeA (c:=0) (k:=0) (a:=0) (vs:=[.int .u64 0,.int .u64 0,.int .u64 0]);exact rfl;exact rfl;exact rfl;(intro w hw;simp [Value.cells] at hw;rcases hw with rfl | rfl | rfl <;> rfl);exact rfl;exact Nat.le_refl 3;exact .here;exact trivial) | refine we_seq ?_ | (refine wR ?_;try simp only [oS]) | refine wo_nil ?_ | refine wM ?_ | refine we_ret ?_)
 refine at_leaveM (rs:=[.cell 2 128]) Try.func49 Try.results49 hQ (.inl rfl) (.cons (.cell (vs:=[.int .u64 ((w%4:Nat):Int),.int .u64 ((w/4%2097152:Nat):Int),.int .u64 ((w/8388608:Nat):Int)]) rfl rfl (Rds.all .here)) .nil) ?_
 exact ⟨rfl,rfl,fun h st=>star_drop st⟩
theorem packed_tr {a b c:Nat} (ha:a<18446744073709551616) (hb:b<18446744073709551616) (hc:c<18446744073709551616):Tr Try.prog B 74 [w3 a b c] L x fun v L' x'=>v=.int .u64 (packN a b c:Nat)∧L'=L∧x'=x:=by
 refine Tr.post (R:=fun v L' x'=>v=.int .u64 (packN a b c:Nat)∧x'=x∧∀ h,Star L' h→Star L h) ?_ (by rintro v L' x' ⟨rfl,rfl,hs⟩;exact ⟨L,⟨rfl,rfl,rfl⟩,hs⟩)
 have s1:IntKind.u64.wrap ((c:Int)*2^(min (23:Int).toNat IntKind.u64.bits))=(((c*2^23)%18446744073709551616:Nat):Int):=u64_shl (n:=23) (by omega)
 have s2:IntKind.u64.wrap ((b:Int)*2^(min (2:Int).toNat IntKind.u64.bits))=(((b*2^2)%18446744073709551616:Nat):Int):=u64_shl (n:=2) (by omega)
 have o1:=or_u64 (a:=(c*2^23)%18446744073709551616) (b:=(b*2^2)%18446744073709551616) (Nat.mod_lt _ (by decide)) (Nat.mod_lt _ (by decide))
 have o2:=or_u64 (a:=(((c*2^23)%18446744073709551616) ||| ((b*2^2)%18446744073709551616))%18446744073709551616) (b:=a) (Nat.mod_lt _ (by decide)) ha
 refine tr_of_body Try.func74 rfl Try.ntmps74 (by simp) fun um Q _ hQ=>?_
 simp only [argE,Nat.zero_add,Nat.reduceAdd]
 repeat (first | (apply wo_mo;apply mo_box;exact rfl;exact trivial) | refine we_seq ?_ | (refine wR ?_;try simp only [oS]))
 rintro v' L' ⟨cb,rfl,rfl⟩
 refine wo_ent (arr cb 0 [.int .u64 (a:Nat),.int .u64 (b:Nat),.int .u64 (c:Nat)]::L) .refl ?_
 repeat (first | (apply wo_po;apply mo_bin;exact rfl;exact rfl;apply bin_or;(first | exact o1 | exact o2);exact trivial) | (apply wo_po;apply mo_bin;exact rfl;exact rfl;apply bin_shl;omega;(first | exact s1 | exact s2);exact trivial) | refine we_seq ?_ | (refine wR ?_;try simp only [oS]) | refine wo_nil ?_ | refine wA ?_ | refine wD ?_ | refine wL ?_ | refine we_ret ?_)
 (first | refine or1 Try.func74 Try.results74 hQ rfl ?_ | refine on1 Try.func74 Try.results74 hQ rfl ?_)
 exact ⟨rfl,rfl,fun h st=>star_drop st⟩
end
end
section
structure GaugeAt {B:Hand} {gv:Value} (A:Acc B gv) (r limit:Nat):Prop where
 lo:1≤limit
 hi:limit≤1048576
 hdr:∀ s,Rd [A.C s] r 0 (.int .u64 (limit:Nat))
 a:∀ w,w<2→A.addr w=(r,1+w)
structure BreakerAt {B:Hand} {gv:Value} (A:Acc B gv) (r fails wait:Nat):Prop where
 lo:1≤fails
 hi:fails≤1048576
 whi:wait≤1099511627776
 hdr:∀ s,Rd [A.C s] r 0 (.int .u64 (fails:Nat))
 hdw:∀ s,Rd [A.C s] r 1 (.int .u64 (wait:Nat))
 a:A.addr 0=(r,2)
section
variable {B:Hand} [Lets B] {gv:Value} {A:Acc B gv} {r limit fails wait:Nat} {L F:List HProp}
theorem step_tr {op:Int} {w:Nat} {s:A.S} {T:A.S→Prop} (hs:A.step op w s T) (hh:Has L (A.C s) F) :
  Tr Try.prog B 48 [gv,.int .u8 op,.int .i64 w] L (A.x s) fun v L' x'=>∃ s',T s'∧v=.tuple #[]∧L'=A.C s'::F∧x'=A.x s':=by
 rcases A.gate with ⟨rfl,hg⟩ | ⟨t,p,f,rfl,hm,he,hg⟩
 ·refine tr_of_body Try.func48 rfl Try.ntmps48 (by simp) fun um Q _ hQ=>?_
  simp only [argE,Nat.zero_add,Nat.reduceAdd]
  repeat (first | refine we_seq ?_ | (refine wR ?_;try simp only [oS]) | refine wo_nil ?_ | refine wM ?_ | (apply wo_po;apply mo_bin;exact rfl;exact rfl;apply bin_ne;apply eql_nil_nil;exact gY) | refine wF ?_ | refine we_skip ?_)
  refine at_ent _ (Ent.take hh .refl) ?_
  (first | refine or0 Try.func48 Try.results48 hQ ?_ | refine on0 Try.func48 Try.results48 hQ ?_)
  exact ⟨s,hg _ _ _ _ hs,rfl,rfl,rfl⟩
 ·refine tr_of_body Try.func48 rfl Try.ntmps48 (by simp) fun um Q _ hQ=>?_
  simp only [argE,Nat.zero_add,Nat.reduceAdd]
  repeat (first | (apply wo_po;apply mo_build (pv:=[(0,_),(1,_)]);exact rfl;exact .cons rfl (.cons rfl .nil);exact rfl;exact trivial) | refine we_seq ?_ | (refine wR ?_;try simp only [oS]) | refine wo_nil ?_ | refine wM ?_ | (apply wo_po;apply mo_bin;exact rfl;exact rfl;apply bin_ne;apply eql_iface_nil;exact gY) | refine wT ?_)
  refine wo_invoke (args:=[_]) rfl (.cons rfl .nil) trivial (hg op w s T L F hs hh) ?_
  rintro v L' x' ⟨s',h1,rfl,rfl,rfl⟩
  repeat (first | refine wo_nil ?_)
  (first | refine or0 Try.func48 Try.results48 hQ ?_ | refine on0 Try.func48 Try.results48 hQ ?_)
  exact ⟨s',h1,rfl,rfl,rfl⟩
theorem none_tr (R:GaugeAt A r limit) {s:A.S} (hh:Has L (A.C s) F) :
  Tr Try.prog B 52 [.pointer (some ⟨r,0,none⟩)] L (A.x s) fun v L' x'=>v=.bool false∧L'=L∧x'=A.x s:=by
 have hr:=Rd.of hh (R.hdr s)
 have h1:=R.lo
 refine tr_of_body Try.func52 rfl Try.ntmps52 (by simp) fun um Q _ hQ=>?_
 simp only [argE,Nat.zero_add,Nat.reduceAdd]
 repeat (first | (apply wo_po;apply mo_load;exact rfl;exact hr;exact rfl) | refine weqlF ?_ | refine we_seq ?_ | (refine wR ?_;try simp only [oS]) | refine wo_nil ?_ | refine wM ?_ | refine wA ?_ | refine wJ ?_ | refine wN ?_ | refine wD ?_ | (apply wo_po;apply mo_bin;exact rfl;exact rfl;apply bin_eq;apply eql_ptr_nil;exact gY) | refine we_ret ?_)
 (first | refine or1 Try.func52 Try.results52 hQ rfl ?_ | refine on1 Try.func52 Try.results52 hQ rfl ?_)
 exact ⟨rfl,rfl,rfl⟩
theorem bnone_tr (R:BreakerAt A r fails wait) {s:A.S} (hh:Has L (A.C s) F) :
  Tr Try.prog B 44 [.pointer (some ⟨r,0,none⟩)] L (A.x s) fun v L' x'=>v=.bool false∧L'=L∧x'=A.x s:=by
 have hr:=Rd.of hh (R.hdr s)
 have h1:=R.lo
 refine tr_of_body Try.func44 rfl Try.ntmps44 (by simp) fun um Q _ hQ=>?_
 simp only [argE,Nat.zero_add,Nat.reduceAdd]
 repeat (first | (apply wo_po;apply mo_load;exact rfl;exact hr;exact rfl) | refine weqlF ?_ | refine we_seq ?_ | (refine wR ?_;try simp only [oS]) | refine wo_nil ?_ | refine wM ?_ | refine wA ?_ | refine wJ ?_ | refine wN ?_ | refine wD ?_ | (apply wo_po;apply mo_bin;exact rfl;exact rfl;apply bin_eq;apply eql_ptr_nil;exact gY) | refine we_ret ?_)
 (first | refine or1 Try.func44 Try.results44 hQ rfl ?_ | refine on1 Try.func44 Try.results44 hQ rfl ?_)
 exact ⟨rfl,rfl,rfl⟩
theorem load_tr (R:GaugeAt A r limit) {w:Nat} (hw:w<2) {s:A.S} {Q:Nat→A.S→Prop} (hs:A.step 1 w s fun s=>A.load w s Q) (hh:Has L (A.C s) F) :
  Tr Try.prog B 53 [.pointer (some ⟨r,0,none⟩),gv,.int .i64 (w:Nat)] L (A.x s) fun v L' x'=>∃ n s',n<18446744073709551616∧Q n s'∧v=.int .u64 (n:Nat)∧L'=A.C s'::F∧x'=A.x s':=by
 refine tr_of_body Try.func53 rfl Try.ntmps53 (by simp) fun um Q _ hQ=>?_
 simp only [argE,Nat.zero_add,Nat.reduceAdd]
 repeat (first | refine we_seq ?_ | (refine wR ?_;try simp only [oS]) | refine wo_nil ?_ | refine wM ?_ | refine wA ?_)
 refine wo_call (.cons rfl (.cons rfl (.cons rfl .nil))) trivial (step_tr hs hh) ?_
 rintro v1 L1 x1 ⟨s1,h1,rfl,rfl,rfl⟩
 repeat (first | (apply wo_po;apply mo_indexArr1 (j:=w);exact rfl;exact rfl;omega;exact trivial) | refine we_seq ?_ | (refine wR ?_;try simp only [oS]) | refine wo_nil ?_ | refine wM ?_ | refine wN ?_ | refine wD ?_)
 refine wo_call (.cons rfl .nil) trivial (A.load_ok _ _ _ _ _ _ _ (R.a w hw) h1 .here) ?_
 rintro v1 L1 x1 ⟨n,s2,hn,h2,rfl,rfl,rfl⟩
 repeat (first | refine wo_nil ?_ | refine wA ?_ | refine we_ret ?_)
 (first | refine or1 Try.func53 Try.results53 hQ rfl ?_ | refine on1 Try.func53 Try.results53 hQ rfl ?_)
 exact ⟨n,s2,hn,h2,rfl,rfl,rfl⟩
theorem swap_tr (R:GaugeAt A r limit) {w a b:Nat} (hw:w<2) (hb:b<18446744073709551616) {s:A.S} {Q:Bool→A.S→Prop} (hs:A.step 5 w s fun s=>A.cas w a b s Q) (hh:Has L (A.C s) F) :
  Tr Try.prog B 54 [.pointer (some ⟨r,0,none⟩),gv,.int .i64 (w:Nat),.int .u64 (a:Nat),.int .u64 (b:Nat)] L (A.x s) fun v L' x'=>∃ q s',Q q s'∧v=.bool q∧L'=A.C s'::F∧x'=A.x s':=by
 refine tr_of_body Try.func54 rfl Try.ntmps54 (by simp) fun um Q _ hQ=>?_
 simp only [argE,Nat.zero_add,Nat.reduceAdd]
 repeat (first | refine we_seq ?_ | (refine wR ?_;try simp only [oS]) | refine wo_nil ?_ | refine wM ?_ | refine wA ?_)
 refine wo_call (.cons rfl (.cons rfl (.cons rfl .nil))) trivial (step_tr hs hh) ?_
 rintro v1 L1 x1 ⟨s1,h1,rfl,rfl,rfl⟩
 repeat (first | (apply wo_po;apply mo_indexArr1 (j:=w);exact rfl;exact rfl;omega;exact trivial) | refine we_seq ?_ | (refine wR ?_;try simp only [oS]) | refine wo_nil ?_ | refine wM ?_ | refine wN ?_ | refine wD ?_)
 refine wo_call (.cons rfl (.cons rfl (.cons rfl .nil))) trivial (A.cas_ok _ _ _ _ _ _ _ _ _ (R.a w hw) hb h1 .here) ?_
 rintro v1 L1 x1 ⟨q,s2,h2,rfl,rfl,rfl⟩
 repeat (first | refine wo_nil ?_ | refine wA ?_ | refine we_ret ?_)
 (first | refine or1 Try.func54 Try.results54 hQ rfl ?_ | refine on1 Try.func54 Try.results54 hQ rfl ?_)
 exact ⟨q,s2,h2,rfl,rfl,rfl⟩
def Enter2F (A:Acc B gv) (n:Nat) (Q:Bool→A.S→Prop) (X:A.S→Prop) (s:A.S):Prop :=
 A.step 1 1 s fun s=>A.load 1 s fun p s=>if n<p then Q true s else A.step 5 1 s fun s=>A.cas 1 p ((n+1)%18446744073709551616) s fun c s=>if c then Q true s else X s
def Enter2T (A:Acc B gv) (n:Nat) (Q:Bool→A.S→Prop) (s:A.S):Prop:=∀ X:A.S→Prop,(∀ s,Enter2F A n Q X s→X s)→X s
def Enter1F (A:Acc B gv) (limit:Nat) (Q:Bool→A.S→Prop) (X:Nat × A.S→Prop) (y:Nat × A.S):Prop :=
 y.1<18446744073709551616∧if limit≤y.1 then Q false y.2 else A.step 5 0 y.2 fun s=>A.cas 0 y.1 ((y.1+1)%18446744073709551616) s fun c s=>if c then Enter2T A y.1 Q s else A.step 1 0 s fun s=>A.load 0 s fun n s=>n<18446744073709551616→X (n,s)
def EnterT (A:Acc B gv) (limit:Nat) (s:A.S) (Q:Bool→A.S→Prop):Prop :=
 A.step 1 0 s fun s=>A.load 0 s fun n s=>n<18446744073709551616→∀ X:Nat × A.S→Prop,(∀ y,Enter1F A limit Q X y→X y)→X (n,s)
theorem enter_tr (R:GaugeAt A r limit) {s:A.S} {G:Bool→A.S→Prop} (hs:EnterT A limit s G) (hh:Has L (A.C s) F) :
  Tr Try.prog B 19 [.pointer (some ⟨r,0,none⟩),gv] L (A.x s) fun v L' x'=>∃ q s',G q s'∧v=.tuple #[.bool q,.int .i64 0]∧L'=A.C s'::F∧x'=A.x s':=by
 have hlo:=R.lo
 have hhi:=R.hi
 refine tr_of_body Try.func19 rfl Try.ntmps19 (by simp) fun um Q _ hQ=>?_
 simp only [argE,Nat.zero_add,Nat.reduceAdd]
 repeat (first | refine we_seq ?_ | (refine wR ?_;try simp only [oS]) | refine wo_nil ?_ | refine wM ?_ | refine wA ?_)
 refine wo_call (.cons rfl .nil) trivial (none_tr R hh) ?_
 rintro v1 L1 x1 ⟨rfl,rfl,rfl⟩
 repeat (first | refine we_seq ?_ | (refine wR ?_;try simp only [oS]) | refine wo_nil ?_ | refine wM ?_ | refine wF ?_ | refine we_skip ?_)
 refine wo_call (.cons rfl (.cons rfl (.cons rfl .nil))) trivial (load_tr R (w:=0) (by omega) hs hh) ?_
 rintro v1 L1 x1 ⟨n,s1,hn,h1,rfl,rfl,rfl⟩
 repeat (first | refine we_seq ?_ | refine wo_nil ?_ | refine wA ?_)
 refine we_block ?_
 refine we_lfpE (Enter1F A limit G) (fun y=>A.C y.2::F) (fun y=>A.x y.2) (fun y=>[(0,.pointer (some ⟨r,0,none⟩)),(1,gv),(6,.int .u64 (y.1:Nat))]) (n,s1) (h1 hn) ⟨rfl,rfl,rfl,trivial⟩ .refl rfl ?_
 clear h1 hn hs
 rintro ⟨n,s1⟩ ⟨hn,h1⟩
 dsimp only at hn h1 ⊢
 have hr:Rd (A.C s1::F) r 0 (.int .u64 (limit:Nat)):=Rd.of .here (R.hdr s1)
 by_cases c1:limit≤n
 ·rw [if_pos c1] at h1
  repeat (first | (apply wo_po;apply mo_load;exact rfl;exact hr;exact trivial) | refine wgeqT ?_ | refine we_seq ?_ | (refine wR ?_;try simp only [oS]) | refine wo_nil ?_ | refine wM ?_ | refine wA ?_ | refine wN ?_ | refine wD ?_ | refine wT ?_ | refine we_ret ?_ | refine we_block ?_)
  (first | refine or2 Try.func19 Try.results19 hQ rfl rfl ?_ | refine on2 Try.func19 Try.results19 hQ rfl rfl ?_)
  exact ⟨false,s1,h1,rfl,rfl,rfl⟩
 ·rw [if_neg c1] at h1
  have hadd:IntKind.u64.wrap ((n:Int)+1)=(((n+1)%18446744073709551616:Nat):Int):=by rw [wrap_u64_mod];omega
  repeat (first | (apply wo_po;apply mo_load;exact rfl;exact hr;exact trivial) | (apply wo_po;apply mo_bin;exact rfl;exact rfl;apply bin_add;exact hadd;exact trivial) | refine wgeqF ?_ | refine we_seq ?_ | (refine wR ?_;try simp only [oS]) | refine wo_nil ?_ | refine wM ?_ | refine wN ?_ | refine wD ?_ | refine wF ?_ | refine we_skip ?_ | refine we_block ?_)
  refine wo_call (.cons rfl (.cons rfl (.cons rfl (.cons rfl (.cons rfl .nil))))) trivial (swap_tr R (w:=0) (by omega) (Nat.mod_lt _ (by decide)) h1 .here) ?_
  rintro v1 L1 x1 ⟨q,s2,h2,rfl,rfl,rfl⟩
  cases q
  ·simp only [Bool.false_eq_true,if_false] at h2
   repeat (first | (refine wR ?_;try simp only [oS]) | refine wo_nil ?_ | refine wM ?_ | refine wF ?_ | refine we_skip ?_)
   refine wo_call (.cons rfl (.cons rfl (.cons rfl .nil))) trivial (load_tr R (w:=0) (by omega) h2 .here) ?_
   rintro v1 L1 x1 ⟨m,s3,hm,h3,rfl,rfl,rfl⟩
   repeat (first | refine wo_nil ?_ | refine wA ?_)
   exact at_again (h3 hm) ⟨rfl,rfl,rfl,trivial⟩ .refl
  ·simp only [if_true] at h2
   repeat (first | refine wo_nil ?_ | refine wT ?_ | refine we_exit ?_)
   refine we_block ?_
   refine we_lfp (Enter2F A n G) (fun s=>A.C s::F) A.x s2 h2 [(0,.pointer (some ⟨r,0,none⟩)),(1,gv),(6,.int .u64 (n:Nat))] ⟨rfl,rfl,rfl,trivial⟩ .refl rfl ?_
   clear h2 h1
   intro s2 h2
   repeat (first | refine we_seq ?_ | (refine wR ?_;try simp only [oS]) | refine wM ?_ | refine we_block ?_)
   refine wo_call (.cons rfl (.cons rfl (.cons rfl .nil))) trivial (load_tr R (w:=1) (by omega) h2 .here) ?_
   rintro v1 L1 x1 ⟨p,s3,hp,h3,rfl,rfl,rfl⟩
   by_cases c2:n<p
   ·rw [if_pos c2] at h3
    repeat (first | refine wgtrT ?_ | refine we_seq ?_ | (refine wR ?_;try simp only [oS]) | refine wo_nil ?_ | refine wM ?_ | refine wA ?_ | (apply wo_no;exact rfl) | refine wK ?_ | refine wT ?_ | refine we_ret ?_)
    (first | refine or2 Try.func19 Try.results19 hQ rfl rfl ?_ | refine on2 Try.func19 Try.results19 hQ rfl rfl ?_)
    exact ⟨true,s3,h3,rfl,rfl,rfl⟩
   ·rw [if_neg c2] at h3
    repeat (first | (apply wo_po;apply mo_bin;exact rfl;exact rfl;apply bin_add;exact hadd;exact gY) | refine wgtrF ?_ | refine we_seq ?_ | (refine wR ?_;try simp only [oS]) | refine wo_nil ?_ | refine wM ?_ | refine wA ?_)
    refine wo_call (.cons rfl (.cons rfl (.cons rfl (.cons rfl (.cons rfl .nil))))) rfl (swap_tr R (w:=1) (by omega) (Nat.mod_lt _ (by decide)) h3 .here) ?_
    rintro v1 L1 x1 ⟨q,s4,h4,rfl,rfl,rfl⟩
    cases q
    ·simp only [Bool.false_eq_true,if_false] at h4
     repeat (first | refine wo_nil ?_ | refine wJ ?_ | refine wF ?_ | refine we_skip ?_)
     exact at_again h4 ⟨rfl,rfl,rfl,trivial⟩ .refl
    ·simp only [if_true] at h4
     repeat (first | refine we_seq ?_ | (refine wR ?_;try simp only [oS]) | refine wo_nil ?_ | refine wA ?_ | refine wJ ?_ | refine wT ?_ | refine we_ret ?_)
     (first | refine or2 Try.func19 Try.results19 hQ rfl rfl ?_ | refine on2 Try.func19 Try.results19 hQ rfl rfl ?_)
     exact ⟨true,s4,h4,rfl,rfl,rfl⟩
def LeaveF (A:Acc B gv) (Q:Nat→A.S→Prop) (X:A.S→Prop) (s:A.S):Prop :=
 A.step 1 0 s fun s=>A.load 0 s fun n s=>if n=0 then Q 3 s else A.step 5 0 s fun s=>A.cas 0 n ((n+18446744073709551616-1)%18446744073709551616) s fun c s=>if c then Q 0 s else X s
def LeaveT (A:Acc B gv) (s:A.S) (Q:Nat→A.S→Prop):Prop:=∀ X:A.S→Prop,(∀ s,LeaveF A Q X s→X s)→X s
theorem leave_tr (R:GaugeAt A r limit) {s:A.S} {G:Nat→A.S→Prop} (hs:LeaveT A s G) (hh:Has L (A.C s) F) :
  Tr Try.prog B 21 [.pointer (some ⟨r,0,none⟩),gv] L (A.x s) fun v L' x'=>∃ q s',G q s'∧v=.int .i64 (q:Nat)∧L'=A.C s'::F∧x'=A.x s':=by
 refine tr_of_body Try.func21 rfl Try.ntmps21 (by simp) fun um Q _ hQ=>?_
 simp only [argE,Nat.zero_add,Nat.reduceAdd]
 repeat (first | refine we_seq ?_ | (refine wR ?_;try simp only [oS]) | refine wo_nil ?_ | refine wM ?_ | refine wA ?_)
 refine wo_call (.cons rfl .nil) trivial (none_tr R hh) ?_
 rintro v1 L1 x1 ⟨rfl,rfl,rfl⟩
 repeat (first | refine wo_nil ?_ | refine wF ?_ | refine we_skip ?_ | refine we_block ?_)
 refine we_lfp (LeaveF A G) (fun s=>A.C s::F) A.x s hs [(0,.pointer (some ⟨r,0,none⟩)),(1,gv)] ⟨rfl,rfl,trivial⟩ (.take hh .refl) rfl ?_
 clear hs hh
 intro s hs
 repeat (first | refine we_seq ?_ | (refine wR ?_;try simp only [oS]) | refine wM ?_ | refine we_block ?_)
 refine wo_call (.cons rfl (.cons rfl (.cons rfl .nil))) trivial (load_tr R (w:=0) (by omega) hs .here) ?_
 rintro v1 L1 x1 ⟨n,s1,hn,h1,rfl,rfl,rfl⟩
 by_cases c1:n=0
 ·subst c1
  simp only [if_true] at h1
  repeat (first | refine weqlT ?_ | refine we_seq ?_ | (refine wR ?_;try simp only [oS]) | refine wo_nil ?_ | refine wM ?_ | refine wA ?_ | refine wT ?_ | refine we_ret ?_)
  (first | refine or1 Try.func21 Try.results21 hQ rfl ?_ | refine on1 Try.func21 Try.results21 hQ rfl ?_)
  exact ⟨3,s1,h1,rfl,rfl,rfl⟩
 ·rw [if_neg c1] at h1
  have hsub:IntKind.u64.wrap ((n:Int)-1)=(((n+18446744073709551616-1)%18446744073709551616:Nat):Int):=by rw [wrap_u64_mod];omega
  repeat (first | (apply wo_po;apply mo_bin;exact rfl;exact rfl;apply bin_sub;exact hsub;exact trivial) | refine weqlF ?_ | refine we_seq ?_ | (refine wR ?_;try simp only [oS]) | refine wo_nil ?_ | refine wM ?_ | refine wA ?_ | refine wF ?_ | refine we_skip ?_)
  refine wo_call (.cons rfl (.cons rfl (.cons rfl (.cons rfl (.cons rfl .nil))))) trivial (swap_tr R (w:=0) (by omega) (Nat.mod_lt _ (by decide)) h1 .here) ?_
  rintro v1 L1 x1 ⟨q,s2,h2,rfl,rfl,rfl⟩
  cases q
  ·simp only [Bool.false_eq_true,if_false] at h2
   repeat (first | refine wo_nil ?_ | refine wF ?_ | refine we_skip ?_)
   exact at_again h2 ⟨rfl,rfl,trivial⟩ .refl
  ·simp only [if_true] at h2
   repeat (first | refine we_seq ?_ | (refine wR ?_;try simp only [oS]) | refine wo_nil ?_ | refine wA ?_ | refine wT ?_ | refine we_ret ?_)
   (first | refine or1 Try.func21 Try.results21 hQ rfl ?_ | refine on1 Try.func21 Try.results21 hQ rfl ?_)
   exact ⟨0,s2,h2,rfl,rfl,rfl⟩
def GetT (A:Acc B gv) (s:A.S) (Q:Nat→Nat→A.S→Prop):Prop :=
 A.step 1 0 s fun s=>A.load 0 s fun a s=>A.step 1 1 s fun s=>A.load 1 s fun b s=>Q a b s
theorem get_tr (R:GaugeAt A r limit) {s:A.S} {Q:Nat→Nat→A.S→Prop} (hs:GetT A s Q) (hh:Has L (A.C s) F) :
  Tr Try.prog B 20 [.pointer (some ⟨r,0,none⟩),gv] L (A.x s) fun v L' x'=>∃ a b s',Q a b s'∧a<18446744073709551616∧b<18446744073709551616∧v=.tuple #[.int .u64 (a:Nat),.int .u64 (b:Nat),.int .i64 0]∧L'=A.C s'::F∧x'=A.x s':=by
 refine tr_of_body Try.func20 rfl Try.ntmps20 (by simp) fun um Q _ hQ=>?_
 simp only [argE,Nat.zero_add,Nat.reduceAdd]
 repeat (first | refine we_seq ?_ | (refine wR ?_;try simp only [oS]) | refine wo_nil ?_ | refine wM ?_ | refine wA ?_)
 refine wo_call (.cons rfl .nil) trivial (none_tr R hh) ?_
 rintro v1 L1 x1 ⟨rfl,rfl,rfl⟩
 repeat (first | refine we_seq ?_ | (refine wR ?_;try simp only [oS]) | refine wo_nil ?_ | refine wM ?_ | refine wF ?_ | refine we_skip ?_)
 refine wo_call (.cons rfl (.cons rfl (.cons rfl .nil))) trivial (load_tr R (w:=0) (by omega) hs hh) ?_
 rintro v1 L1 x1 ⟨a,s1,ha,h1,rfl,rfl,rfl⟩
 repeat (first | refine we_seq ?_ | (refine wR ?_;try simp only [oS]) | refine wo_nil ?_ | refine wM ?_ | refine wA ?_)
 refine wo_call (.cons rfl (.cons rfl (.cons rfl .nil))) trivial (load_tr R (w:=1) (by omega) h1 .here) ?_
 rintro v1 L1 x1 ⟨b,s2,hb,h2,rfl,rfl,rfl⟩
 repeat (first | refine wo_nil ?_ | refine wA ?_ | refine we_ret ?_)
 (first | refine or3 Try.func20 Try.results20 hQ rfl rfl rfl ?_ | refine on3 Try.func20 Try.results20 hQ rfl rfl rfl ?_)
 exact ⟨a,b,s2,h2,ha,hb,rfl,rfl,rfl⟩
theorem new_tr {x:B.X} (h1:1≤limit) (h2:limit≤1048576) :
  Tr Try.prog B 15 [.int .u64 (limit:Nat)] L x fun v L' x'=>∃ r,v=.tuple #[.pointer (some ⟨r,0,none⟩),.int .i64 0]∧L'=arr r 0 [.int .u64 (limit:Nat),.int .u64 0,.int .u64 0]::L∧x'=x:=by
 refine tr_of_body Try.func15 rfl Try.ntmps15 (by simp) fun um Q _ hQ=>?_
 simp only [argE,Nat.zero_add,Nat.reduceAdd]
 repeat (first | (apply wo_po;apply mo_build (pv:=[(0,_)]);exact rfl;exact .cons rfl .nil;exact rfl;exact trivial) | (apply wo_mo;apply mo_box;exact rfl;exact trivial) | refine wlssF ?_ | refine wgtrF ?_ | refine we_seq ?_ | (refine wR ?_;try simp only [oS]) | refine wo_nil ?_ | refine wM ?_ | refine wA ?_ | refine wJ ?_ | refine wF ?_ | refine we_skip ?_)
 rintro v' L' ⟨r,rfl,rfl⟩
 repeat (first | refine wo_nil ?_ | refine wA ?_ | refine we_ret ?_)
 (first | refine or2 Try.func15 Try.results15 hQ rfl rfl ?_ | refine on2 Try.func15 Try.results15 hQ rfl rfl ?_)
 exact ⟨r,rfl,rfl,rfl⟩
theorem newb_tr {x:B.X} (h1:1≤fails) (h2:fails≤1048576) (h3:1≤wait) (h4:wait≤1099511627776) :
  Tr Try.prog B 16 [.int .u64 (fails:Nat),.int .u64 (wait:Nat)] L x fun v L' x'=>∃ r,v=.tuple #[.pointer (some ⟨r,0,none⟩),.int .i64 0]∧L'=arr r 0 [.int .u64 (fails:Nat),.int .u64 (wait:Nat),.int .u64 0]::L∧x'=x:=by
 refine tr_of_body Try.func16 rfl Try.ntmps16 (by simp) fun um Q _ hQ=>?_
 simp only [argE,Nat.zero_add,Nat.reduceAdd]
 repeat (first | (apply wo_po;apply mo_build (pv:=[(0,_),(1,_)]);exact rfl;exact .cons rfl (.cons rfl .nil);exact rfl;exact trivial) | (apply wo_mo;apply mo_box;exact rfl;exact trivial) | refine wlssF ?_ | refine wgtrF ?_ | refine we_seq ?_ | (refine wR ?_;try simp only [oS]) | refine wo_nil ?_ | refine wM ?_ | refine wA ?_ | refine wJ ?_ | refine wF ?_ | refine we_skip ?_)
 rintro v' L' ⟨r,rfl,rfl⟩
 repeat (first | refine wo_nil ?_ | refine wA ?_ | refine we_ret ?_)
 (first | refine or2 Try.func16 Try.results16 hQ rfl rfl ?_ | refine on2 Try.func16 Try.results16 hQ rfl rfl ?_)
 exact ⟨r,rfl,rfl,rfl⟩
end
end
section
section
variable {B:Hand} [Lets B] {gv:Value} {A:Acc B gv} {r fails wait:Nat} {L F:List HProp}
def TurnF (A:Acc B gv) (G:Nat→Nat→Nat→Option (Nat × Nat × Nat)) (Q:Nat × Nat × Nat→Bool→A.S→Prop) (X:A.S→Prop) (s:A.S):Prop :=
 A.step 1 0 s fun s=>A.load 0 s fun o s=>match G (o%4) (o/4%2097152) (o/8388608) with
  | none=>Q (o%4,o/4%2097152,o/8388608) false s
  | some y=>A.step 5 0 s fun s=>A.cas 0 o (packN y.1 y.2.1 y.2.2) s fun c s=>if c then Q y true s else X s
def TurnT (A:Acc B gv) (G:Nat→Nat→Nat→Option (Nat × Nat × Nat)) (s:A.S) (Q:Nat × Nat × Nat→Bool→A.S→Prop):Prop:=∀ X:A.S→Prop,(∀ s,TurnF A G Q X s→X s)→X s
def NextTr (A:Acc B gv) (F:List HProp) (fn:FuncId) (caps:List Value) (G:Nat→Nat→Nat→Option (Nat × Nat × Nat)):Prop :=
 ∀ s (d:HProp) a b c,a<4→b<2097152→c<2199023255552→Tr Try.prog B fn ([w3 a b c]++caps) (A.C s::d::F) (A.x s) fun v L' x'=>L'=A.C s::d::F∧x'=A.x s ∧
  match G a b c with
  | none=>∃ y1 y2 y3:Nat,v=.tuple #[w3 y1 y2 y3,.bool false]
  | some y=>y.1<18446744073709551616∧y.2.1<18446744073709551616∧y.2.2<18446744073709551616∧v=.tuple #[w3 y.1 y.2.1 y.2.2,.bool true]
theorem turn_tr (R:BreakerAt A r fails wait) {fn:FuncId} {caps:List Value} {G:Nat→Nat→Nat→Option (Nat × Nat × Nat)} [Ent' Try.prog fn] (hfn:NextTr A F fn caps G) {s:A.S} {T:Nat × Nat × Nat→Bool→A.S→Prop} (hs:TurnT A G s T) (hh:Has L (A.C s) F) :
  Tr Try.prog B 45 [.pointer (some ⟨r,0,none⟩),gv,.func (.func fn) #[] caps.toArray] L (A.x s) fun v L' x'=>∃ y q s',T y q s'∧v=.tuple #[w3 y.1 y.2.1 y.2.2,.bool q]∧L'=A.C s'::F∧x'=A.x s':=by
 refine Tr.post (R:=fun v L' x'=>∃ y q s',T y q s'∧v=.tuple #[w3 y.1 y.2.1 y.2.2,.bool q]∧x'=A.x s'∧∀ h,Star L' h→Star (A.C s'::F) h) ?_ (by rintro v L' x' ⟨y,q,s',h1,rfl,rfl,hs⟩;exact ⟨_,⟨y,q,s',h1,rfl,rfl,rfl⟩,hs⟩)
 refine tr_of_body Try.func45 rfl Try.ntmps45 (by simp) fun um Q _ hQ=>?_
 simp only [argE,Nat.zero_add,Nat.reduceAdd]
 repeat (first | (apply wo_mo;apply mo_alloc;exact trivial) | refine we_seq ?_ | (refine wR ?_;try simp only [oS]))
 rintro v' L' ⟨rb,rfl,rfl⟩
 repeat (first | refine wo_nil ?_ | refine wA ?_ | refine we_block ?_)
 refine we_lfp (TurnF A G T) (fun s=>A.C s::arr rb 0 [.int .u64 0,.int .u64 0,.int .u64 0]::F) A.x s hs [(0,.pointer (some ⟨r,0,none⟩)),(1,gv),(2,.func (.func fn) #[] caps.toArray),(6,.pointer (some ⟨rb,0,none⟩))] ⟨rfl,rfl,rfl,rfl,trivial⟩ (.take (.there hh) (.take .here .refl)) rfl ?_
 clear hs hh
 intro s hs
 repeat (first | refine we_seq ?_ | (refine wR ?_;try simp only [oS]) | refine wM ?_ | refine we_block ?_)
 refine wo_call (.cons rfl (.cons rfl (.cons rfl .nil))) trivial (step_tr (w:=0) hs .here) ?_
 rintro v1 L1 x1 ⟨s1,h1,rfl,rfl,rfl⟩
 repeat (first | refine we_seq ?_ | (refine wR ?_;try simp only [oS]) | refine wo_nil ?_ | refine wM ?_ | refine wN ?_ | refine wD ?_)
 refine wo_call (.cons rfl .nil) trivial (A.load_ok _ _ _ _ _ _ _ R.a h1 .here) ?_
 rintro v1 L1 x1 ⟨o,s2,ho,h2,rfl,rfl,rfl⟩
 repeat (first | refine we_seq ?_ | (refine wR ?_;try simp only [oS]) | refine wo_nil ?_ | refine wM ?_ | refine wA ?_)
 refine wo_call (.cons rfl .nil) trivial (apart_tr ho) ?_
 rintro v1 L1 x1 ⟨rfl,rfl,rfl⟩
 skip
 refine wo_callv rfl (f:=fn) (first:=[]) (cap:=caps) rfl (.cons rfl .nil) trivial (hfn s2 _ _ _ _ (by omega) (by omega) (by omega)) ?_
 rintro v1 L1 x1 ⟨rfl,rfl,hv⟩
 cases hG:G (o%4) (o/4%2097152) (o/8388608) with
 | none =>
  rw [hG] at h2 hv
  obtain ⟨y1,y2,y3,rfl⟩:=hv
  repeat (first | (apply wo_mo;apply mo_alloc;exact trivial) | refine wM ?_ | (apply wo_po;apply mo_extract;exact rfl;exact rfl;exact gY))
  rintro v' L' ⟨cb,rfl,rfl⟩
  repeat (first | (apply wo_pm;apply mo_storeA (b:=cb) (c:=0) (k:=0) (a:=0) (vs:=[.int .u64 0,.int .u64 0,.int .u64 0]);exact rfl;exact rfl;exact rfl;(intro w hw;simp [Value.cells,w3] at hw;rcases hw with rfl | rfl | rfl <;> rfl);exact rfl;exact Nat.le_refl 3;exact .here;exact trivial) | refine we_seq ?_ | (refine wR ?_;try simp only [oS]) | refine wo_nil ?_ | refine wM ?_ | refine wA ?_ | (apply wo_po;apply mo_not;exact rfl;exact gY) | refine wT ?_)
  refine wo_call (.cons rfl .nil) trivial (apart_tr ho) ?_
  rintro v1 L1 x1 ⟨rfl,rfl,rfl⟩
  repeat (first | (apply wo_pm;apply mo_storeA (b:=rb) (c:=0) (k:=0) (a:=0) (vs:=[.int .u64 0,.int .u64 0,.int .u64 0]);exact rfl;exact rfl;exact rfl;(intro w hw;simp [Value.cells,w3] at hw;rcases hw with rfl | rfl | rfl <;> rfl);exact rfl;exact Nat.le_refl 3;exact (.there (.there .here));exact trivial) | refine wo_nil ?_ | refine wA ?_ | refine we_ret ?_)
  refine at_leaveM (rs:=[.cell 6 128,.tmp 7]) Try.func45 Try.results45 hQ (.inl rfl) (.cons (.cell (vs:=[.int .u64 ((o%4:Nat):Int),.int .u64 ((o/4%2097152:Nat):Int),.int .u64 ((o/8388608:Nat):Int)]) rfl rfl (Rds.all (.there (.there .here)))) (.cons (.tmp rfl) .nil)) ?_
  exact ⟨(o%4,o/4%2097152,o/8388608),false,s2,h2,rfl,rfl,fun h st=>Ent.star (.take (.there .here) (.drop (.drop .refl))) st⟩
 | some y =>
  rw [hG] at h2 hv
  obtain ⟨b1,b2,b3,rfl⟩:=hv
  repeat (first | (apply wo_mo;apply mo_alloc;exact trivial) | refine wM ?_ | (apply wo_po;apply mo_extract;exact rfl;exact rfl;exact gY))
  rintro v' L' ⟨cb,rfl,rfl⟩
  repeat (first | (apply wo_pm;apply mo_storeA (b:=cb) (c:=0) (k:=0) (a:=0) (vs:=[.int .u64 0,.int .u64 0,.int .u64 0]);exact rfl;exact rfl;exact rfl;(intro w hw;simp [Value.cells,w3] at hw;rcases hw with rfl | rfl | rfl <;> rfl);exact rfl;exact Nat.le_refl 3;exact .here;exact trivial) | refine we_seq ?_ | (refine wR ?_;try simp only [oS]) | refine wo_nil ?_ | refine wM ?_ | refine wA ?_ | (apply wo_po;apply mo_not;exact rfl;exact gY) | refine wF ?_ | refine we_skip ?_)
  refine wo_call (.cons rfl (.cons rfl (.cons rfl .nil))) trivial (step_tr (w:=0) h2 (.there .here)) ?_
  rintro v1 L1 x1 ⟨s3,h3,rfl,rfl,rfl⟩
  have hw:Rds (A.C s3::arr cb 0 [.int .u64 (y.1:Nat),.int .u64 (y.2.1:Nat),.int .u64 (y.2.2:Nat)]::arr rb 0 [.int .u64 0,.int .u64 0,.int .u64 0]::F) cb 0 [.int .u64 (y.1:Nat),.int .u64 (y.2.1:Nat),.int .u64 (y.2.2:Nat)]:=Rds.all (.there .here)
  refine wo_ent (A.C s3::arr cb 0 [.int .u64 (y.1:Nat),.int .u64 (y.2.1:Nat),.int .u64 (y.2.2:Nat)]::arr rb 0 [.int .u64 0,.int .u64 0,.int .u64 0]::F) .refl ?_
  repeat (first | refine we_seq ?_ | refine wo_nil ?_)
  refine we_draw (List.range' 0 7) (by kernel_rfl) ?_
  repeat (first | (apply ap_read;exact rfl;exact rfl;exact gY;apply mo_loadA (vs:=[.int .u64 (y.1:Nat),.int .u64 (y.2.1:Nat),.int .u64 (y.2.2:Nat)]);exact rfl;exact rfl;exact hw) | refine aM ?_ | refine aN ?_ | refine aD ?_)
  refine ap_callv rfl rfl rfl rfl trivial rfl rfl (.cons rfl .nil) (packed_tr b1 b2 b3) ?_
  rintro v1 L1 x1 ⟨rfl,rfl,rfl⟩
  refine ap_callv rfl rfl rfl rfl trivial rfl rfl (.cons rfl (.cons rfl (.cons rfl .nil))) (A.cas_ok _ _ _ _ _ _ _ _ _ R.a packN_lt h3 .here) ?_
  rintro v1 L1 x1 ⟨q,s4,h4,rfl,rfl,rfl⟩
  refine ap_end ?_
  cases q
  ·simp only [Bool.false_eq_true,if_false] at h4
   repeat (first | refine wF ?_ | refine we_skip ?_)
   exact at_again h4 ⟨rfl,rfl,rfl,rfl,trivial⟩ (.take .here (.drop .refl))
  ·simp only [if_true] at h4
   repeat (first | (apply wo_po;apply mo_loadA (vs:=[.int .u64 (y.1:Nat),.int .u64 (y.2.1:Nat),.int .u64 (y.2.2:Nat)]);exact rfl;exact rfl;exact Rds.all (.there .here);exact trivial) | (apply wo_pm;apply mo_storeA (b:=rb) (c:=0) (k:=0) (a:=0) (vs:=[.int .u64 0,.int .u64 0,.int .u64 0]);exact rfl;exact rfl;exact rfl;(intro w hw;simp [Value.cells,w3] at hw;rcases hw with rfl | rfl | rfl <;> rfl);exact rfl;exact Nat.le_refl 3;exact (.there (.there .here));exact trivial) | refine we_seq ?_ | (refine wR ?_;try simp only [oS]) | refine wo_nil ?_ | refine wA ?_ | refine wT ?_ | refine we_ret ?_)
   refine at_leaveM (rs:=[.cell 6 128,.tmp 7]) Try.func45 Try.results45 hQ (.inl rfl) (.cons (.cell (vs:=[.int .u64 (y.1:Nat),.int .u64 (y.2.1:Nat),.int .u64 (y.2.2:Nat)]) rfl rfl (Rds.all (.there (.there .here)))) (.cons (.tmp rfl) .nil)) ?_
   exact ⟨y,true,s4,h4,rfl,rfl,fun h st=>Ent.star (.take .here (.drop (.drop .refl))) st⟩
def askG (wait now:Nat) (a b c:Nat):Option (Nat × Nat × Nat):=if a≠0∧c+wait≤now then some (2,b,now) else none
def tellG (fails now:Nat) (good:Bool) (a b c:Nat):Option (Nat × Nat × Nat) :=
 if a=1∨(good=true∧a=0∧b=0) then none else if good=true then some (0,0,0) else if a=2 then some (1,b,now) else if b+1=fails then some (1,fails,now) else some (0,b+1,0)
end
section
variable {B:Hand} [Lets B] {gv:Value} {A:Acc B gv} {r fails wait:Nat} {L F:List HProp}
theorem ask1_tr (R:BreakerAt A r fails wait) {now nb bb:Nat} (hn:now≤1099511627776):NextTr A (arr nb 0 [.int .u64 (now:Nat)]::arr bb 0 [.pointer (some ⟨r,0,none⟩)]::F) 46 [.pointer (some ⟨nb,0,none⟩),.pointer (some ⟨bb,0,none⟩)] (askG wait now):=by
 intro s d a b c ha hb hc
 refine Tr.post (R:=fun v L' x'=>x'=A.x s∧(∀ h,Star L' h→Star (A.C s::d::arr nb 0 [.int .u64 (now:Nat)]::arr bb 0 [.pointer (some ⟨r,0,none⟩)]::F) h) ∧
  match askG wait now a b c with
  | none=>∃ y1 y2 y3:Nat,v=.tuple #[w3 y1 y2 y3,.bool false]
  | some y=>y.1<18446744073709551616∧y.2.1<18446744073709551616∧y.2.2<18446744073709551616∧v=.tuple #[w3 y.1 y.2.1 y.2.2,.bool true]) ?_ (by rintro v L' x' ⟨rfl,hs,h1⟩;exact ⟨_,⟨rfl,rfl,h1⟩,hs⟩)
 have hw:=R.whi
 have hadd:IntKind.u64.wrap ((c:Int)+(wait:Int))=((c+wait:Nat):Int):=(wrap_u64 (by omega) (by omega)).trans (by omega)
 simp only [List.cons_append,List.nil_append]
 refine tr_of_body Try.func46 rfl Try.ntmps46 (by simp) fun um Q _ hQ=>?_
 simp only [argE,Nat.zero_add,Nat.reduceAdd]
 repeat (first | (apply wo_mo;apply mo_box;exact rfl;exact trivial) | refine we_seq ?_ | (refine wR ?_;try simp only [oS]))
 rintro v' L' ⟨kb,rfl,rfl⟩
 refine wo_ent (arr kb 0 [.int .u64 (a:Nat),.int .u64 (b:Nat),.int .u64 (c:Nat)]::A.C s::d::arr nb 0 [.int .u64 (now:Nat)]::arr bb 0 [.pointer (some ⟨r,0,none⟩)]::F) .refl ?_
 repeat (first | (apply wo_mo;apply mo_alloc;exact trivial))
 rintro v' L' ⟨cb,rfl,rfl⟩
 have hwt:∀ {c1 c2:HProp},Rd (c1::c2::A.C s::d::arr nb 0 [.int .u64 (now:Nat)]::arr bb 0 [.pointer (some ⟨r,0,none⟩)]::F) r 1 (.int .u64 (wait:Nat)):=fun {c1 c2}=>Rd.there (Rd.there (Rd.of .here (R.hdw s)))
 repeat (first | refine we_seq ?_ | refine wo_nil ?_ | refine wA ?_)
 refine we_draw (List.range' 0 20) (by kernel_rfl) ?_
 by_cases c1:a=0
 ·subst c1
  repeat (first | (apply ap_pure;exact rfl;exact rfl;exact gY;intro L;apply mo_bin;exact rfl;exact rfl;apply bin_neqF;rfl) | (apply ap_pure;exact rfl;exact rfl;exact gY;intro L;apply mo_buildV;(repeat (first | exact EvL.nil | apply EvL.cons rfl));exact rfl) | refine aM ?_ | (apply ap_no;exact rfl;exact rfl;exact rfl;exact rfl) | refine aD ?_ | (apply ap_pure;exact rfl;exact rfl;exact gY;intro L;apply mo_pickF;exact rfl;exact rfl;exact rfl) | refine aL ?_)
  refine ap_loudR rfl rfl rfl rfl trivial (mo_storeA (b:=cb) (c:=0) (k:=0) (a:=0) (vs:=[.int .u64 0,.int .u64 0,.int .u64 0]) rfl rfl rfl (by intro w hw;simp [Value.cells,w3] at hw;rcases hw with rfl | rfl | rfl <;> rfl) rfl (Nat.le_refl 3) .here) ?_ ?_
  ·rintro v L' ⟨rfl,rfl⟩ p hp
   replace hp:=(List.mem_filter.1 hp).1
   simp only [List.mem_cons,List.not_mem_nil,or_false] at hp
   repeat (rcases hp with rfl | hp;· first | exact .inl rfl | exact .inr ⟨_,rfl,(by first | exact trivial | exact rfl),mo_load rfl (by repeat (first | exact hwt | exact Rd.row0 rfl | exact Rd.row rfl rfl | exact Rd.still | apply Rd.there))⟩)
  rintro v' L' ⟨rfl,rfl⟩
  repeat (first | refine aA ?_ | refine ap_end ?_)
  repeat (first | refine we_ret ?_)
  refine at_leaveM (rs:=[.cell 4 128,.tmp 5]) Try.func46 Try.results46 hQ (.inl rfl) (.cons (.cell (vs:=[.int .u64 2,.int .u64 (b:Nat),.int .u64 (now:Nat)]) rfl rfl (Rds.all .here)) (.cons (.tmp rfl) .nil)) ?_
  refine ⟨rfl,fun h st=>Ent.star (.drop (.drop .refl)) st,?_⟩
  rw [show askG wait now 0 b c=none from if_neg (fun h=>h.1 rfl)]
  exact ⟨2,b,now,rfl⟩
 ·by_cases c2:c+wait≤now
  ·repeat (first | (apply ap_pure;exact rfl;exact rfl;exact gY;intro L;apply mo_bin;exact rfl;exact rfl;apply bin_neqT;omega) | (apply ap_read;exact rfl;exact rfl;exact gY;apply mo_load;exact rfl;exact hwt) | (apply ap_pure;exact rfl;exact rfl;exact gY;intro L;apply mo_buildV;(repeat (first | exact EvL.nil | apply EvL.cons rfl));exact rfl) | (apply ap_pure;exact rfl;exact rfl;exact gY;intro L;apply mo_bin;exact rfl;exact rfl;apply bin_add;exact hadd) | (apply ap_pure;exact rfl;exact rfl;exact gY;intro L;apply mo_bin;exact rfl;exact rfl;apply bin_geqT;omega) | refine aM ?_ | refine aN ?_ | refine aD ?_ | (apply ap_pure;exact rfl;exact rfl;exact gY;intro L;apply mo_pickT;exact rfl;exact rfl;exact rfl) | refine aL ?_)
   refine ap_loudR rfl rfl rfl rfl trivial (mo_storeA (b:=cb) (c:=0) (k:=0) (a:=0) (vs:=[.int .u64 0,.int .u64 0,.int .u64 0]) rfl rfl rfl (by intro w hw;simp [Value.cells,w3] at hw;rcases hw with rfl | rfl | rfl <;> rfl) rfl (Nat.le_refl 3) .here) ?_ ?_
   ·rintro v L' ⟨rfl,rfl⟩ p hp
    replace hp:=(List.mem_filter.1 hp).1
    simp only [List.mem_cons,List.not_mem_nil,or_false] at hp
    repeat (rcases hp with rfl | hp;· first | exact .inl rfl | exact .inr ⟨_,rfl,(by first | exact trivial | exact rfl),mo_load rfl (by repeat (first | exact hwt | exact Rd.row0 rfl | exact Rd.row rfl rfl | exact Rd.still | apply Rd.there))⟩)
   rintro v' L' ⟨rfl,rfl⟩
   repeat (first | refine aA ?_ | refine ap_end ?_)
   repeat (first | refine we_ret ?_)
   refine at_leaveM (rs:=[.cell 4 128,.tmp 5]) Try.func46 Try.results46 hQ (.inl rfl) (.cons (.cell (vs:=[.int .u64 2,.int .u64 (b:Nat),.int .u64 (now:Nat)]) rfl rfl (Rds.all .here)) (.cons (.tmp rfl) .nil)) ?_
   refine ⟨rfl,fun h st=>Ent.star (.drop (.drop .refl)) st,?_⟩
   rw [show askG wait now a b c=some (2,b,now) from if_pos ⟨c1,c2⟩]
   exact ⟨by show 2<18446744073709551616;omega,by show b<_;omega,by show now<_;omega,rfl⟩
  ·repeat (first | (apply ap_pure;exact rfl;exact rfl;exact gY;intro L;apply mo_bin;exact rfl;exact rfl;apply bin_neqT;omega) | (apply ap_read;exact rfl;exact rfl;exact gY;apply mo_load;exact rfl;exact hwt) | (apply ap_pure;exact rfl;exact rfl;exact gY;intro L;apply mo_buildV;(repeat (first | exact EvL.nil | apply EvL.cons rfl));exact rfl) | (apply ap_pure;exact rfl;exact rfl;exact gY;intro L;apply mo_bin;exact rfl;exact rfl;apply bin_add;exact hadd) | (apply ap_pure;exact rfl;exact rfl;exact gY;intro L;apply mo_bin;exact rfl;exact rfl;apply bin_geqF;omega) | refine aM ?_ | refine aN ?_ | refine aD ?_ | (apply ap_pure;exact rfl;exact rfl;exact gY;intro L;apply mo_pickT;exact rfl;exact rfl;exact rfl) | refine aL ?_)
   refine ap_loudR rfl rfl rfl rfl trivial (mo_storeA (b:=cb) (c:=0) (k:=0) (a:=0) (vs:=[.int .u64 0,.int .u64 0,.int .u64 0]) rfl rfl rfl (by intro w hw;simp [Value.cells,w3] at hw;rcases hw with rfl | rfl | rfl <;> rfl) rfl (Nat.le_refl 3) .here) ?_ ?_
   ·rintro v L' ⟨rfl,rfl⟩ p hp
    replace hp:=(List.mem_filter.1 hp).1
    simp only [List.mem_cons,List.not_mem_nil,or_false] at hp
    repeat (rcases hp with rfl | hp;· first | exact .inl rfl | exact .inr ⟨_,rfl,(by first | exact trivial | exact rfl),mo_load rfl (by repeat (first | exact hwt | exact Rd.row0 rfl | exact Rd.row rfl rfl | exact Rd.still | apply Rd.there))⟩)
   rintro v' L' ⟨rfl,rfl⟩
   repeat (first | refine aA ?_ | refine ap_end ?_)
   repeat (first | refine we_ret ?_)
   refine at_leaveM (rs:=[.cell 4 128,.tmp 5]) Try.func46 Try.results46 hQ (.inl rfl) (.cons (.cell (vs:=[.int .u64 2,.int .u64 (b:Nat),.int .u64 (now:Nat)]) rfl rfl (Rds.all .here)) (.cons (.tmp rfl) .nil)) ?_
   refine ⟨rfl,fun h st=>Ent.star (.drop (.drop .refl)) st,?_⟩
   rw [show askG wait now a b c=none from if_neg (fun h=>c2 h.2)]
   exact ⟨2,b,now,rfl⟩
end
end
section
section
variable {B:Hand} [Lets B] {gv:Value} {A:Acc B gv} {r fails wait:Nat} {L F:List HProp}
theorem tell1_tr (R:BreakerAt A r fails wait) {now gb nb bb:Nat} {good:Bool} (hn:now≤1099511627776):NextTr A (arr gb 0 [.bool good]::arr nb 0 [.int .u64 (now:Nat)]::arr bb 0 [.pointer (some ⟨r,0,none⟩)]::F) 47 [.pointer (some ⟨gb,0,none⟩),.pointer (some ⟨nb,0,none⟩),.pointer (some ⟨bb,0,none⟩)] (tellG fails now good):=by
 intro s d a b c ha hb hc
 refine Tr.post (R:=fun v L' x'=>x'=A.x s∧(∀ h,Star L' h→Star (A.C s::d::arr gb 0 [.bool good]::arr nb 0 [.int .u64 (now:Nat)]::arr bb 0 [.pointer (some ⟨r,0,none⟩)]::F) h) ∧
  match tellG fails now good a b c with
  | none=>∃ y1 y2 y3:Nat,v=.tuple #[w3 y1 y2 y3,.bool false]
  | some y=>y.1<18446744073709551616∧y.2.1<18446744073709551616∧y.2.2<18446744073709551616∧v=.tuple #[w3 y.1 y.2.1 y.2.2,.bool true]) ?_ (by rintro v L' x' ⟨rfl,hs,h1⟩;exact ⟨_,⟨rfl,rfl,h1⟩,hs⟩)
 have hw:=R.whi
 have hfh:=R.hi
 have hadd:IntKind.u64.wrap ((b:Int)+1)=((b+1:Nat):Int):=(wrap_u64 (by omega) (by omega)).trans (by omega)
 simp only [List.cons_append,List.nil_append]
 refine tr_of_body Try.func47 rfl Try.ntmps47 (by simp) fun um Q _ hQ=>?_
 simp only [argE,Nat.zero_add,Nat.reduceAdd]
 repeat (first | (apply wo_mo;apply mo_box;exact rfl;exact trivial) | refine we_seq ?_ | (refine wR ?_;try simp only [oS]))
 rintro v' L' ⟨kb,rfl,rfl⟩
 refine wo_ent (arr kb 0 [.int .u64 (a:Nat),.int .u64 (b:Nat),.int .u64 (c:Nat)]::A.C s::d::arr gb 0 [.bool good]::arr nb 0 [.int .u64 (now:Nat)]::arr bb 0 [.pointer (some ⟨r,0,none⟩)]::F) .refl ?_
 repeat (first | (apply wo_mo;apply mo_alloc;exact trivial))
 rintro v' L' ⟨cb,rfl,rfl⟩
 have hft:∀ {c1 c2:HProp},Rd (c1::c2::A.C s::d::arr gb 0 [.bool good]::arr nb 0 [.int .u64 (now:Nat)]::arr bb 0 [.pointer (some ⟨r,0,none⟩)]::F) r 0 (.int .u64 (fails:Nat)):=fun {c1 c2}=>Rd.there (Rd.there (Rd.of .here (R.hdr s)))
 by_cases c1:a=1
 ·have hG:tellG fails now good a b c=none:=if_pos (.inl c1)
  repeat (first | (apply wo_po;apply mo_loadA (vs:=[.int .u64 (a:Nat),.int .u64 (b:Nat),.int .u64 (c:Nat)]);exact rfl;exact rfl;exact Rds.all (.there .here);exact trivial) | (apply wo_pm;apply mo_storeA (b:=cb) (c:=0) (k:=0) (a:=0) (vs:=[.int .u64 0,.int .u64 0,.int .u64 0]);exact rfl;exact rfl;exact rfl;(intro w hw;simp [Value.cells,w3] at hw;rcases hw with rfl | rfl | rfl <;> rfl);exact rfl;exact Nat.le_refl 3;exact .here;exact trivial) | refine weqlT ?_ | refine we_seq ?_ | (refine wR ?_;try simp only [oS]) | refine wo_nil ?_ | refine wA ?_ | refine wD ?_ | refine wL ?_ | refine wT ?_ | refine we_ret ?_ | refine we_skip ?_ | refine we_block ?_)
  refine at_leaveM (rs:=[.cell 5 128,.tmp 6]) Try.func47 Try.results47 hQ (.inl rfl) (.cons (.cell (vs:=[.int .u64 (a:Nat),.int .u64 (b:Nat),.int .u64 (c:Nat)]) rfl rfl (Rds.all .here)) (.cons (.tmp rfl) .nil)) ?_
  refine ⟨rfl,fun h st=>Ent.star (.drop (.drop .refl)) st,?_⟩
  rw [hG]
  exact ⟨a,b,c,rfl⟩
 cases good
 ·have hno:¬ (a=1∨(false=true∧a=0∧b=0)):=fun h=>h.elim c1 (fun h=>by cases h.1)
  by_cases c2:a=2
  ·have hG:tellG fails now false a b c=some (1,b,now):=by unfold tellG;rw [if_neg hno,if_neg (by simp),if_pos c2]
   repeat (first | (apply wo_po;apply mo_buildV;(repeat (first | exact EvL.nil | apply EvL.cons rfl));exact rfl;exact trivial) | (apply wo_pm;apply mo_storeA (b:=cb) (c:=0) (k:=0) (a:=0) (vs:=[.int .u64 0,.int .u64 0,.int .u64 0]);exact rfl;exact rfl;exact rfl;(intro w hw;simp [Value.cells,w3] at hw;rcases hw with rfl | rfl | rfl <;> rfl);exact rfl;exact Nat.le_refl 3;exact .here;exact trivial) | refine weqlT ?_ | refine weqlF ?_ | refine we_seq ?_ | (refine wR ?_;try simp only [oS]) | refine wo_nil ?_ | refine wM ?_ | refine wA ?_ | (apply wo_no;exact rfl) | refine wJ ?_ | refine wD ?_ | refine wL ?_ | refine wT ?_ | refine wF ?_ | refine we_ret ?_ | refine we_block ?_)
   refine at_leaveM (rs:=[.cell 5 128,.tmp 6]) Try.func47 Try.results47 hQ (.inl rfl) (.cons (.cell (vs:=[.int .u64 (1:Nat),.int .u64 (b:Nat),.int .u64 (now:Nat)]) rfl rfl (Rds.all .here)) (.cons (.tmp rfl) .nil)) ?_
   refine ⟨rfl,fun h st=>Ent.star (.drop (.drop .refl)) st,?_⟩
   rw [hG]
   exact ⟨by dsimp only;omega,by dsimp only;omega,by dsimp only;omega,rfl⟩
  ·by_cases c3:b+1=fails
   ·have hG:tellG fails now false a b c=some (1,fails,now):=by unfold tellG;rw [if_neg hno,if_neg (by simp),if_neg c2,if_pos c3]
    repeat (first | refine weqlF ?_ | refine we_seq ?_ | (refine wR ?_;try simp only [oS]) | refine wo_nil ?_ | refine wM ?_ | refine wA ?_ | (apply wo_no;exact rfl) | refine wJ ?_ | refine wD ?_ | refine wL ?_ | refine wF ?_ | refine we_block ?_)
    refine we_draw (List.range' 0 9) (by kernel_rfl) ?_
    repeat (first | (apply ap_read;exact rfl;exact rfl;exact gY;apply mo_load;exact rfl;exact hft) | (apply ap_pure;exact rfl;exact rfl;exact gY;intro L;apply mo_bin;exact rfl;exact rfl;apply bin_add;exact hadd) | (apply ap_pure;exact rfl;exact rfl;exact gY;intro L;apply mo_bin;exact rfl;exact rfl;apply bin_eqlT;omega) | refine aA ?_ | refine aN ?_ | refine aD ?_ | refine aL ?_ | refine ap_end ?_)
    repeat (first | refine we_seq ?_ | refine wT ?_)
    refine we_draw (List.range' 0 8) (by kernel_rfl) ?_
    repeat (first | (apply ap_read;exact rfl;exact rfl;exact gY;apply mo_load;exact rfl;exact hft) | (apply ap_pure;exact rfl;exact rfl;exact gY;intro L;apply mo_buildV;(repeat (first | exact EvL.nil | apply EvL.cons rfl));exact rfl) | refine aN ?_ | refine aD ?_ | refine aL ?_)
    refine ap_loud rfl rfl rfl rfl rfl trivial (mo_storeA (b:=cb) (c:=0) (k:=0) (a:=0) (vs:=[.int .u64 0,.int .u64 0,.int .u64 0]) rfl rfl rfl (by intro w hw;simp [Value.cells,w3] at hw;rcases hw with rfl | rfl | rfl <;> rfl) rfl (Nat.le_refl 3) .here) ?_
    rintro v' L' ⟨rfl,rfl⟩
    repeat (first | refine aA ?_ | refine ap_end ?_)
    repeat (first | refine we_ret ?_)
    refine at_leaveM (rs:=[.cell 5 128,.tmp 6]) Try.func47 Try.results47 hQ (.inl rfl) (.cons (.cell (vs:=[.int .u64 (1:Nat),.int .u64 (fails:Nat),.int .u64 (now:Nat)]) rfl rfl (Rds.all .here)) (.cons (.tmp rfl) .nil)) ?_
    refine ⟨rfl,fun h st=>Ent.star (.drop (.drop .refl)) st,?_⟩
    rw [hG]
    exact ⟨by show 1<_;omega,by show fails<_;omega,by show now<_;omega,rfl⟩
   ·have hG:tellG fails now false a b c=some (0,b+1,0):=by unfold tellG;rw [if_neg hno,if_neg (by simp),if_neg c2,if_neg c3]
    repeat (first | refine weqlF ?_ | refine we_seq ?_ | (refine wR ?_;try simp only [oS]) | refine wo_nil ?_ | refine wM ?_ | refine wA ?_ | (apply wo_no;exact rfl) | refine wJ ?_ | refine wD ?_ | refine wL ?_ | refine wF ?_ | refine we_block ?_)
    refine we_draw (List.range' 0 9) (by kernel_rfl) ?_
    repeat (first | (apply ap_read;exact rfl;exact rfl;exact gY;apply mo_load;exact rfl;exact hft) | (apply ap_pure;exact rfl;exact rfl;exact gY;intro L;apply mo_bin;exact rfl;exact rfl;apply bin_add;exact hadd) | (apply ap_pure;exact rfl;exact rfl;exact gY;intro L;apply mo_bin;exact rfl;exact rfl;apply bin_eqlF;omega) | refine aA ?_ | refine aN ?_ | refine aD ?_ | refine aL ?_ | refine ap_end ?_)
    repeat (first | (apply wo_po;apply mo_bin;exact rfl;exact rfl;apply bin_add;exact hadd;exact trivial) | (apply wo_po;apply mo_buildV;(repeat (first | exact EvL.nil | apply EvL.cons rfl));exact rfl;exact trivial) | (apply wo_pm;apply mo_storeA (b:=cb) (c:=0) (k:=0) (a:=0) (vs:=[.int .u64 0,.int .u64 0,.int .u64 0]);exact rfl;exact rfl;exact rfl;(intro w hw;simp [Value.cells,w3] at hw;rcases hw with rfl | rfl | rfl <;> rfl);exact rfl;exact Nat.le_refl 3;exact .here;exact trivial) | refine we_seq ?_ | (refine wR ?_;try simp only [oS]) | refine wo_nil ?_ | refine wA ?_ | refine wD ?_ | refine wL ?_ | refine wF ?_ | refine we_ret ?_ | refine we_skip ?_)
    refine at_leaveM (rs:=[.cell 5 128,.tmp 6]) Try.func47 Try.results47 hQ (.inl rfl) (.cons (.cell (vs:=[.int .u64 (0:Nat),.int .u64 (b+1:Nat),.int .u64 (0:Nat)]) rfl rfl (Rds.all .here)) (.cons (.tmp rfl) .nil)) ?_
    refine ⟨rfl,fun h st=>Ent.star (.drop (.drop .refl)) st,?_⟩
    rw [hG]
    exact ⟨by dsimp only;omega,by dsimp only;omega,by dsimp only;omega,rfl⟩
 ·by_cases c2:a=0
  ·by_cases c3:b=0
   ·have hG:tellG fails now true a b c=none:=if_pos (.inr ⟨rfl,c2,c3⟩)
    repeat (first | (apply wo_po;apply mo_loadA (vs:=[.int .u64 (a:Nat),.int .u64 (b:Nat),.int .u64 (c:Nat)]);exact rfl;exact rfl;exact Rds.all (.there .here);exact trivial) | (apply wo_pm;apply mo_storeA (b:=cb) (c:=0) (k:=0) (a:=0) (vs:=[.int .u64 0,.int .u64 0,.int .u64 0]);exact rfl;exact rfl;exact rfl;(intro w hw;simp [Value.cells,w3] at hw;rcases hw with rfl | rfl | rfl <;> rfl);exact rfl;exact Nat.le_refl 3;exact .here;exact trivial) | refine weqlT ?_ | refine weqlF ?_ | refine we_seq ?_ | (refine wR ?_;try simp only [oS]) | refine wo_nil ?_ | refine wM ?_ | refine wA ?_ | refine wK ?_ | refine wD ?_ | refine wL ?_ | refine wT ?_ | refine wF ?_ | refine we_ret ?_ | refine we_block ?_)
    refine at_leaveM (rs:=[.cell 5 128,.tmp 6]) Try.func47 Try.results47 hQ (.inl rfl) (.cons (.cell (vs:=[.int .u64 (a:Nat),.int .u64 (b:Nat),.int .u64 (c:Nat)]) rfl rfl (Rds.all .here)) (.cons (.tmp rfl) .nil)) ?_
    refine ⟨rfl,fun h st=>Ent.star (.drop (.drop .refl)) st,?_⟩
    rw [hG]
    exact ⟨a,b,c,rfl⟩
   ·have hG:tellG fails now true a b c=some (0,0,0):=by unfold tellG;rw [if_neg (fun h=>h.elim c1 (fun h=>c3 h.2.2)),if_pos rfl]
    repeat (first | (apply wo_po;apply mo_buildV;(repeat (first | exact EvL.nil | apply EvL.cons rfl));exact rfl;exact trivial) | (apply wo_pm;apply mo_storeA (b:=cb) (c:=0) (k:=0) (a:=0) (vs:=[.int .u64 0,.int .u64 0,.int .u64 0]);exact rfl;exact rfl;exact rfl;(intro w hw;simp [Value.cells,w3] at hw;rcases hw with rfl | rfl | rfl <;> rfl);exact rfl;exact Nat.le_refl 3;exact .here;exact trivial) | refine weqlT ?_ | refine weqlF ?_ | refine we_seq ?_ | (refine wR ?_;try simp only [oS]) | refine wo_nil ?_ | refine wM ?_ | refine wA ?_ | refine wK ?_ | refine wD ?_ | refine wL ?_ | refine wT ?_ | refine wF ?_ | refine we_ret ?_ | refine we_block ?_)
    refine at_leaveM (rs:=[.cell 5 128,.tmp 6]) Try.func47 Try.results47 hQ (.inl rfl) (.cons (.cell (vs:=[.int .u64 0,.int .u64 0,.int .u64 0]) rfl rfl (Rds.all .here)) (.cons (.tmp rfl) .nil)) ?_
    refine ⟨rfl,fun h st=>Ent.star (.drop (.drop .refl)) st,?_⟩
    rw [hG]
    exact ⟨by dsimp only;omega,by dsimp only;omega,by dsimp only;omega,rfl⟩
  ·have hG:tellG fails now true a b c=some (0,0,0):=by unfold tellG;rw [if_neg (fun h=>h.elim c1 (fun h=>c2 h.2.1)),if_pos rfl]
   repeat (first | (apply wo_po;apply mo_buildV;(repeat (first | exact EvL.nil | apply EvL.cons rfl));exact rfl;exact trivial) | (apply wo_pm;apply mo_storeA (b:=cb) (c:=0) (k:=0) (a:=0) (vs:=[.int .u64 0,.int .u64 0,.int .u64 0]);exact rfl;exact rfl;exact rfl;(intro w hw;simp [Value.cells,w3] at hw;rcases hw with rfl | rfl | rfl <;> rfl);exact rfl;exact Nat.le_refl 3;exact .here;exact trivial) | refine weqlF ?_ | refine we_seq ?_ | (refine wR ?_;try simp only [oS]) | refine wo_nil ?_ | refine wM ?_ | refine wA ?_ | (apply wo_no;exact rfl) | refine wK ?_ | refine wJ ?_ | refine wD ?_ | refine wL ?_ | refine wT ?_ | refine wF ?_ | refine we_ret ?_ | refine we_block ?_)
   refine at_leaveM (rs:=[.cell 5 128,.tmp 6]) Try.func47 Try.results47 hQ (.inl rfl) (.cons (.cell (vs:=[.int .u64 0,.int .u64 0,.int .u64 0]) rfl rfl (Rds.all .here)) (.cons (.tmp rfl) .nil)) ?_
   refine ⟨rfl,fun h st=>Ent.star (.drop (.drop .refl)) st,?_⟩
   rw [hG]
   exact ⟨by dsimp only;omega,by dsimp only;omega,by dsimp only;omega,rfl⟩
end
section
variable {B:Hand} [Lets B] {gv:Value} {A:Acc B gv} {r fails wait:Nat} {L F:List HProp}
def AskT (A:Acc B gv) (wait now:Nat) (s:A.S) (Q:Bool→A.S→Prop):Prop:=TurnT A (askG wait now) s fun y q s=>Q (q||y.1 == 0) s
theorem ask_tr (R:BreakerAt A r fails wait) {now:Nat} (hn:now≤1099511627776) {s:A.S} {Q:Bool→A.S→Prop} (hs:AskT A wait now s Q) (hh:Has L (A.C s) F) :
  Tr Try.prog B 12 [.pointer (some ⟨r,0,none⟩),gv,.int .u64 (now:Nat)] L (A.x s) fun v L' x'=>∃ q s',Q q s'∧v=.tuple #[.bool q,.int .i64 0]∧L'=A.C s'::F∧x'=A.x s':=by
 refine Tr.post (R:=fun v L' x'=>∃ q s',Q q s'∧v=.tuple #[.bool q,.int .i64 0]∧x'=A.x s'∧∀ h,Star L' h→Star (A.C s'::F) h) ?_ (by rintro v L' x' ⟨q,s',h1,rfl,rfl,hs⟩;exact ⟨_,⟨q,s',h1,rfl,rfl,rfl⟩,hs⟩)
 refine tr_of_body Try.func12 rfl Try.ntmps12 (by simp) fun um Q _ hQ=>?_
 simp only [argE,Nat.zero_add,Nat.reduceAdd]
 repeat (first | (apply wo_mo;apply mo_box;exact rfl;exact trivial) | refine we_seq ?_ | (refine wR ?_;try simp only [oS]))
 rintro v' L' ⟨bb,rfl,rfl⟩
 refine wo_ent (arr bb 0 [.pointer (some ⟨r,0,none⟩)]::L) .refl ?_
 repeat (first | (apply wo_mo;apply mo_box;exact rfl;exact trivial))
 rintro v' L' ⟨nb,rfl,rfl⟩
 refine wo_ent (arr nb 0 [.int .u64 (now:Nat)]::arr bb 0 [.pointer (some ⟨r,0,none⟩)]::L) .refl ?_
 repeat (first | refine we_seq ?_ | (refine wR ?_;try simp only [oS]) | refine wo_nil ?_ | refine wA ?_ | refine wL ?_ | refine we_block ?_)
 refine wo_call (.cons rfl .nil) trivial (bnone_tr R (.there (.there hh))) ?_
 rintro v1 L1 x1 ⟨rfl,rfl,rfl⟩
 refine wo_ent (A.C s::arr nb 0 [.int .u64 (now:Nat)]::arr bb 0 [.pointer (some ⟨r,0,none⟩)]::F) (.take (.there (.there hh)) .refl) ?_
 repeat (first | (apply wo_po;apply mo_makeFunc (first:=[]) (cap:=[_,_]);exact .nil;exact .cons rfl (.cons rfl .nil);exact trivial) | refine wgtrF ?_ | refine we_seq ?_ | (refine wR ?_;try simp only [oS]) | refine wo_nil ?_ | refine wM ?_ | refine wA ?_ | refine wL ?_ | refine wF ?_ | refine we_skip ?_)
 refine wo_call (.cons rfl (.cons rfl (.cons rfl .nil))) trivial (turn_tr R (caps:=[_,_]) (ask1_tr R hn) hs .here) ?_
 rintro v1 L1 x1 ⟨⟨a,b,c⟩,q,s',h1,rfl,rfl,rfl⟩
 repeat (first | (apply wo_mo;apply mo_alloc;exact trivial) | refine wM ?_ | (apply wo_po;apply mo_extract;exact rfl;exact rfl;exact gY))
 rintro v' L' ⟨cb,rfl,rfl⟩
 cases q
 ·by_cases c1:a=0
  ·subst c1
   repeat (first | (apply wo_pm;apply mo_storeA (b:=cb) (c:=0) (k:=0) (a:=0) (vs:=[.int .u64 0,.int .u64 0,.int .u64 0]);exact rfl;exact rfl;exact rfl;(intro w hw;simp [Value.cells,w3] at hw;rcases hw with rfl | rfl | rfl <;> rfl);exact rfl;exact Nat.le_refl 3;exact .here;exact trivial) | refine weqlT ?_ | refine we_seq ?_ | (refine wR ?_;try simp only [oS]) | refine wo_nil ?_ | refine wM ?_ | refine wA ?_ | refine wJ ?_ | refine wD ?_ | refine wL ?_ | refine we_ret ?_)
   (first | refine or2 Try.func12 Try.results12 hQ rfl rfl ?_ | refine on2 Try.func12 Try.results12 hQ rfl rfl ?_)
   exact ⟨true,s',h1,rfl,rfl,fun h st=>Ent.star (.take (.there .here) (.drop (.drop (.drop .refl)))) st⟩
  ·repeat (first | (apply wo_pm;apply mo_storeA (b:=cb) (c:=0) (k:=0) (a:=0) (vs:=[.int .u64 0,.int .u64 0,.int .u64 0]);exact rfl;exact rfl;exact rfl;(intro w hw;simp [Value.cells,w3] at hw;rcases hw with rfl | rfl | rfl <;> rfl);exact rfl;exact Nat.le_refl 3;exact .here;exact trivial) | refine weqlF ?_ | refine we_seq ?_ | (refine wR ?_;try simp only [oS]) | refine wo_nil ?_ | refine wM ?_ | refine wA ?_ | refine wJ ?_ | refine wD ?_ | refine wL ?_ | refine we_ret ?_)
   (first | refine or2 Try.func12 Try.results12 hQ rfl rfl ?_ | refine on2 Try.func12 Try.results12 hQ rfl rfl ?_)
   exact ⟨false,s',(by have e:(a == 0)=false:=beq_eq_false_iff_ne.2 c1;simp only [Bool.false_or,e] at h1;exact h1),rfl,rfl,fun h st=>Ent.star (.take (.there .here) (.drop (.drop (.drop .refl)))) st⟩
 ·repeat (first | (apply wo_pm;apply mo_storeA (b:=cb) (c:=0) (k:=0) (a:=0) (vs:=[.int .u64 0,.int .u64 0,.int .u64 0]);exact rfl;exact rfl;exact rfl;(intro w hw;simp [Value.cells,w3] at hw;rcases hw with rfl | rfl | rfl <;> rfl);exact rfl;exact Nat.le_refl 3;exact .here;exact trivial) | refine we_seq ?_ | (refine wR ?_;try simp only [oS]) | refine wo_nil ?_ | refine wM ?_ | refine wA ?_ | (apply wo_no;exact rfl) | refine wK ?_ | refine we_ret ?_)
  (first | refine or2 Try.func12 Try.results12 hQ rfl rfl ?_ | refine on2 Try.func12 Try.results12 hQ rfl rfl ?_)
  exact ⟨true,s',by simpa using h1,rfl,rfl,fun h st=>Ent.star (.take (.there .here) (.drop (.drop (.drop .refl)))) st⟩
def TellT (A:Acc B gv) (fails now:Nat) (good:Bool) (s:A.S) (Q:A.S→Prop):Prop:=TurnT A (tellG fails now good) s fun y q s=>Q s
theorem tell_tr (R:BreakerAt A r fails wait) {now:Nat} {good:Bool} (hn:now≤1099511627776) {s:A.S} {Q:A.S→Prop} (hs:TellT A fails now good s Q) (hh:Has L (A.C s) F) :
  Tr Try.prog B 13 [.pointer (some ⟨r,0,none⟩),gv,.int .u64 (now:Nat),.bool good] L (A.x s) fun v L' x'=>∃ s',Q s'∧v=.int .i64 0∧L'=A.C s'::F∧x'=A.x s':=by
 refine Tr.post (R:=fun v L' x'=>∃ s',Q s'∧v=.int .i64 0∧x'=A.x s'∧∀ h,Star L' h→Star (A.C s'::F) h) ?_ (by rintro v L' x' ⟨s',h1,rfl,rfl,hs⟩;exact ⟨_,⟨s',h1,rfl,rfl,rfl⟩,hs⟩)
 refine tr_of_body Try.func13 rfl Try.ntmps13 (by simp) fun um Q _ hQ=>?_
 simp only [argE,Nat.zero_add,Nat.reduceAdd]
 repeat (first | (apply wo_mo;apply mo_box;exact rfl;exact trivial) | refine we_seq ?_ | (refine wR ?_;try simp only [oS]))
 rintro v' L' ⟨bb,rfl,rfl⟩
 refine wo_ent (arr bb 0 [.pointer (some ⟨r,0,none⟩)]::L) .refl ?_
 repeat (first | (apply wo_mo;apply mo_box;exact rfl;exact trivial))
 rintro v' L' ⟨nb,rfl,rfl⟩
 refine wo_ent (arr nb 0 [.int .u64 (now:Nat)]::arr bb 0 [.pointer (some ⟨r,0,none⟩)]::L) .refl ?_
 repeat (first | (apply wo_mo;apply mo_box;exact rfl;exact trivial))
 rintro v' L' ⟨gb,rfl,rfl⟩
 refine wo_ent (arr gb 0 [.bool good]::arr nb 0 [.int .u64 (now:Nat)]::arr bb 0 [.pointer (some ⟨r,0,none⟩)]::L) .refl ?_
 repeat (first | refine we_seq ?_ | (refine wR ?_;try simp only [oS]) | refine wo_nil ?_ | refine wA ?_ | refine wL ?_ | refine we_block ?_)
 refine wo_call (.cons rfl .nil) trivial (bnone_tr R (.there (.there (.there hh)))) ?_
 rintro v1 L1 x1 ⟨rfl,rfl,rfl⟩
 refine wo_ent (A.C s::arr gb 0 [.bool good]::arr nb 0 [.int .u64 (now:Nat)]::arr bb 0 [.pointer (some ⟨r,0,none⟩)]::F) (.take (.there (.there (.there hh))) .refl) ?_
 repeat (first | (apply wo_po;apply mo_makeFunc (first:=[]) (cap:=[_,_,_]);exact .nil;exact .cons rfl (.cons rfl (.cons rfl .nil));exact trivial) | refine wgtrF ?_ | refine we_seq ?_ | (refine wR ?_;try simp only [oS]) | refine wo_nil ?_ | refine wM ?_ | refine wA ?_ | refine wL ?_ | refine wF ?_ | refine we_skip ?_)
 refine wo_call (.cons rfl (.cons rfl (.cons rfl .nil))) trivial (turn_tr R (caps:=[_,_,_]) (tell1_tr R hn) hs .here) ?_
 rintro v1 L1 x1 ⟨y,q,s',h1,rfl,rfl,rfl⟩
 repeat (first | refine we_seq ?_ | (refine wR ?_;try simp only [oS]) | refine wo_nil ?_ | refine wA ?_ | refine we_ret ?_)
 (first | refine or1 Try.func13 Try.results13 hQ rfl ?_ | refine on1 Try.func13 Try.results13 hQ rfl ?_)
 exact ⟨s',h1,rfl,rfl,fun h st=>Ent.star (.take .here (.drop (.drop (.drop .refl)))) st⟩
def BGetT (A:Acc B gv) (s:A.S) (Q:Nat→A.S→Prop):Prop:=A.step 1 0 s fun s=>A.load 0 s fun o s=>Q o s
theorem bget_tr (R:BreakerAt A r fails wait) {s:A.S} {Q:Nat→A.S→Prop} (hs:BGetT A s Q) (hh:Has L (A.C s) F) :
  Tr Try.prog B 14 [.pointer (some ⟨r,0,none⟩),gv] L (A.x s) fun v L' x'=>∃ o s',o<18446744073709551616∧Q o s'∧v=.tuple #[.int .i64 ((o%4:Nat):Int),.int .u64 ((o/4%2097152:Nat):Int),.int .u64 ((o/8388608:Nat):Int),.int .i64 0]∧L'=A.C s'::F∧x'=A.x s':=by
 refine Tr.post (R:=fun v L' x'=>∃ o s',o<18446744073709551616∧Q o s'∧v=.tuple #[.int .i64 ((o%4:Nat):Int),.int .u64 ((o/4%2097152:Nat):Int),.int .u64 ((o/8388608:Nat):Int),.int .i64 0]∧x'=A.x s'∧∀ h,Star L' h→Star (A.C s'::F) h) ?_ (by rintro v L' x' ⟨o,s',ho,h1,rfl,rfl,hs⟩;exact ⟨_,⟨o,s',ho,h1,rfl,rfl,rfl⟩,hs⟩)
 refine tr_of_body Try.func14 rfl Try.ntmps14 (by simp) fun um Q _ hQ=>?_
 simp only [argE,Nat.zero_add,Nat.reduceAdd]
 repeat (first | refine we_seq ?_ | (refine wR ?_;try simp only [oS]) | refine wo_nil ?_ | refine wM ?_ | refine wA ?_)
 refine wo_call (.cons rfl .nil) trivial (bnone_tr R hh) ?_
 rintro v1 L1 x1 ⟨rfl,rfl,rfl⟩
 repeat (first | refine we_seq ?_ | (refine wR ?_;try simp only [oS]) | refine wo_nil ?_ | refine wM ?_ | refine wF ?_ | refine we_skip ?_)
 refine wo_call (.cons rfl (.cons rfl (.cons rfl .nil))) trivial (step_tr (w:=0) hs hh) ?_
 rintro v1 L1 x1 ⟨s1,h1,rfl,rfl,rfl⟩
 repeat (first | refine we_seq ?_ | (refine wR ?_;try simp only [oS]) | refine wo_nil ?_ | refine wM ?_ | refine wN ?_ | refine wD ?_)
 refine wo_call (.cons rfl .nil) trivial (A.load_ok _ _ _ _ _ _ _ R.a h1 .here) ?_
 rintro v1 L1 x1 ⟨o,s2,ho,h2,rfl,rfl,rfl⟩
 skip
 refine wo_call (.cons rfl .nil) trivial (apart_tr ho) ?_
 rintro v1 L1 x1 ⟨rfl,rfl,rfl⟩
 repeat (first | (apply wo_mo;apply mo_alloc;exact trivial))
 rintro v' L' ⟨cb,rfl,rfl⟩
 have hcv:IntKind.i64.wrap ((o%4:Nat):Int)=((o%4:Nat):Int):=wrap_i64 (by omega) (by omega)
 repeat (first | (apply wo_pm;apply mo_storeA (b:=cb) (c:=0) (k:=0) (a:=0) (vs:=[.int .u64 0,.int .u64 0,.int .u64 0]);exact rfl;exact rfl;exact rfl;(intro w hw;simp [Value.cells,w3] at hw;rcases hw with rfl | rfl | rfl <;> rfl);exact rfl;exact Nat.le_refl 3;exact .here;exact trivial) | refine we_seq ?_ | refine wo_nil ?_)
 refine we_ent (arr cb 0 [.int .u64 ((o%4:Nat):Int),.int .u64 ((o/4%2097152:Nat):Int),.int .u64 ((o/8388608:Nat):Int)]::A.C s2::F) .refl ?_
 refine we_draw (List.range' 0 11) (by kernel_rfl) ?_
 repeat (first | (apply ap_pure;exact rfl;exact rfl;exact gY;intro L;apply mo_conv;exact rfl;exact hcv) | refine aA ?_ | refine aD ?_ | refine aL ?_ | refine ap_end ?_)
 repeat (first | refine we_ret ?_)
 (first | refine at_ret4 (ex:=.ret) Try.func14 Try.results14 hQ (.inl rfl) rfl rfl rfl rfl ?_ | refine at_ret4 (ex:=.normal) Try.func14 Try.results14 hQ (.inr rfl) rfl rfl rfl rfl ?_)
 exact ⟨o,s2,ho,h2,rfl,rfl,fun h st=>Ent.star (.drop .refl) st⟩
end
end
section
def gAddr (r:Nat) (w:Nat):Nat × Nat:=(r,1+w)
def bAddr (r:Nat) (_:Nat):Nat × Nat:=(r,2)
def gK (r limit:Nat):List (Nat × Nat × Value):=[(r,0,.int .u64 (limit:Nat))]
def bK (r fails wait:Nat):List (Nat × Nat × Value):=[(r,0,.int .u64 (fails:Nat)),(r,1,.int .u64 (wait:Nat))]
theorem g_apart (r limit:Nat):Apart (gAddr r) 2 (gK r limit) where
 inj:=fun i j _ _ h=>by have:=congrArg Prod.snd h;simp only [gAddr] at this;omega
 fix:=fun i _ k hk=>by simp only [gK,List.mem_singleton] at hk;subst hk;simp [gAddr]
theorem b_apart (r fails wait:Nat):Apart (bAddr r) 1 (bK r fails wait) where
 inj:=fun i j hi hj _=>by omega
 fix:=fun i _ k hk=>by simp only [bK,List.mem_cons,List.not_mem_nil,or_false] at hk;rcases hk with rfl | rfl <;> simp [bAddr]
section
variable {B:Hand} [Lets B] {x:B.X} {r limit fails wait:Nat} {L F:List HProp} {h:Hp}
def gC (r limit:Nat) (s:Nat→Nat):HProp:=wds (gAddr r) 2 (gK r limit) s
def bC (r fails wait:Nat) (s:Nat→Nat):HProp:=wds (bAddr r) 1 (bK r fails wait) s
theorem g_wds (st:Star (arr r 0 [.int .u64 (limit:Nat),.int .u64 0,.int .u64 0]::L) h):Star (gC r limit (fun _=>0)::L) h:=by
 refine star_map st (fun h a=>⟨fun w hw=>⟨by show 0<18446744073709551616;decide,?_⟩,fun k hk=>?_⟩) (fun _ y=>y)
 ·match w with
  | 0=>exact a 1 _ rfl
  | 1=>exact a 2 _ rfl
  | w+2=>omega
 ·simp only [gK,List.mem_singleton] at hk;subst hk;exact a 0 _ rfl
theorem b_wds (st:Star (arr r 0 [.int .u64 (fails:Nat),.int .u64 (wait:Nat),.int .u64 0]::L) h):Star (bC r fails wait (fun _=>0)::L) h:=by
 refine star_map st (fun h a=>⟨fun w hw=>⟨by show 0<18446744073709551616;decide,a 2 _ rfl⟩,fun k hk=>?_⟩) (fun _ y=>y)
 simp only [bK,List.mem_cons,List.not_mem_nil,or_false] at hk
 rcases hk with rfl | rfl
 ·exact a 0 _ rfl
 ·exact a 1 _ rfl
theorem gC_rd {s:Nat→Nat}:Rd [gC r limit s] r 0 (.int .u64 (limit:Nat)):=fun h hs=>by
 obtain ⟨h1,h2,s1,hc,_⟩:=hs
 exact ⟨rfl,.inl (s1.o1 _ _ _ (hc.2 (r,0,.int .u64 (limit:Nat)) (List.mem_singleton.2 rfl)))⟩
theorem bC_rd {s:Nat→Nat}:Rd [bC r fails wait s] r 0 (.int .u64 (fails:Nat)):=fun h hs=>by
 obtain ⟨h1,h2,s1,hc,_⟩:=hs
 exact ⟨rfl,.inl (s1.o1 _ _ _ (hc.2 (r,0,.int .u64 (fails:Nat)) (by simp [bK])))⟩
theorem bC_rw {s:Nat→Nat}:Rd [bC r fails wait s] r 1 (.int .u64 (wait:Nat)):=fun h hs=>by
 obtain ⟨h1,h2,s1,hc,_⟩:=hs
 exact ⟨rfl,.inl (s1.o1 _ _ _ (hc.2 (r,1,.int .u64 (wait:Nat)) (by simp [bK])))⟩
def gLone (x:B.X) (r limit:Nat):Acc B .nilIface:=loneAcc x (gAddr r) 2 (gK r limit) (g_apart r limit)
def bLone (x:B.X) (r fails wait:Nat):Acc B .nilIface:=loneAcc x (bAddr r) 1 (bK r fails wait) (b_apart r fails wait)
theorem g_at (h1:1≤limit) (h2:limit≤1048576):GaugeAt (gLone x r limit) r limit:=⟨h1,h2,fun s=>gC_rd,fun w _=>rfl⟩
theorem b_at (h1:1≤fails) (h2:fails≤1048576) (h3:wait≤1099511627776):BreakerAt (bLone x r fails wait) r fails wait:=⟨h1,h2,h3,fun s=>bC_rd,fun s=>bC_rw,rfl⟩
def enterS (s:Nat→Nat):Nat→Nat:=if s 0<s 1 then upd s 0 (s 0+1) else upd (upd s 0 (s 0+1)) 1 (s 0+1)
theorem enter_lone (h1:1≤limit) (h2:limit≤1048576) {s:Nat→Nat} (hh:Has L (gC r limit s) F) :
  Tr Try.prog B 19 [.pointer (some ⟨r,0,none⟩),.nilIface] L x fun v L' x'=>v=.tuple #[.bool (decide (s 0<limit)),.int .i64 0]∧L'=gC r limit (if s 0<limit then enterS s else s)::F∧x'=x:=by
 refine (enter_tr (A:=gLone x r limit) (g_at h1 h2) (s:=s) (G:=fun q s'=>q=decide (s 0<limit)∧s'=if s 0<limit then enterS s else s) ?_ hh).mono ?_
 ·refine ⟨by show 0<2;omega,fun h64 X hX=>hX _ ⟨h64,?_⟩⟩
  dsimp only
  by_cases c:limit≤s 0
  ·rw [if_pos c]
   exact ⟨by simp;omega,by rw [if_neg (by omega)]⟩
  ·rw [if_neg c]
   refine ⟨by show 0<2;omega,?_⟩
   rw [if_pos rfl]
   simp only [if_true]
   intro Y hY
   refine hY _ ⟨by show 1<2;omega,?_⟩
   have e:(s 0+1)%18446744073709551616=s 0+1:=Nat.mod_eq_of_lt (by omega)
   rw [e,upd_other (by omega)]
   dsimp only
   have hd:decide (s 0<limit)=true:=decide_eq_true (by omega)
   by_cases c2:s 0<s 1
   ·rw [if_pos c2]
    refine ⟨hd.symm,?_⟩
    rw [if_pos (by omega)]
    exact (if_pos c2).symm
   ·rw [if_neg c2]
    refine ⟨by show 1<2;omega,?_⟩
    rw [upd_other (by omega),if_pos rfl]
    simp only [if_true]
    refine ⟨hd.symm,?_⟩
    rw [if_pos (by omega)]
    exact (if_neg c2).symm
 ·rintro v L' x' ⟨q,s',⟨rfl,rfl⟩,rfl,rfl,rfl⟩
  exact ⟨rfl,rfl,rfl⟩
theorem get_lone (h1:1≤limit) (h2:limit≤1048576) {s:Nat→Nat} (hh:Has L (gC r limit s) F) :
  Tr Try.prog B 20 [.pointer (some ⟨r,0,none⟩),.nilIface] L x fun v L' x'=>v=.tuple #[.int .u64 (s 0:Nat),.int .u64 (s 1:Nat),.int .i64 0]∧L'=gC r limit s::F∧x'=x:=by
 refine (get_tr (A:=gLone x r limit) (g_at h1 h2) (s:=s) (Q:=fun a b s'=>a=s 0∧b=s 1∧s'=s) ⟨by show 0<2;omega,by show 1<2;omega,rfl,rfl,rfl⟩ hh).mono ?_
 rintro v L' x' ⟨a,b,s',⟨rfl,rfl,rfl⟩,_,_,rfl,rfl,rfl⟩
 exact ⟨rfl,rfl,rfl⟩
def BS (s:Nat→Nat) (a b c:Nat):Prop:=a<4∧b<2097152∧c<2199023255552∧s 0=c*8388608+b*4+a
theorem BS.parts {s:Nat→Nat} {a b c:Nat} (h:BS s a b c):s 0%4=a∧s 0/4%2097152=b∧s 0/8388608=c:=by
 obtain ⟨h1,h2,h3,h4⟩:=h
 rw [h4]
 omega
theorem BS.pack {s:Nat→Nat} {a b c:Nat} (ha:a<4) (hb:b<2097152) (hc:c<2199023255552):BS (upd s 0 (packN a b c)) a b c :=
 ⟨ha,hb,hc,by rw [upd_same,packN_eq ha hb hc]⟩
theorem turn_lone {G:Nat→Nat→Nat→Option (Nat × Nat × Nat)} {s:Nat→Nat} {Q:Nat × Nat × Nat→Bool→(Nat→Nat)→Prop}
  (g:match G (s 0%4) (s 0/4%2097152) (s 0/8388608) with
   | none=>Q (s 0%4,s 0/4%2097152,s 0/8388608) false s
   | some y=>Q y true (upd s 0 (packN y.1 y.2.1 y.2.2))):TurnT (bLone x r fails wait) G s Q:=by
 intro X hX
 refine hX _ ⟨by show 0<1;omega,?_⟩
 show match G (s 0%4) (s 0/4%2097152) (s 0/8388608) with | none=>_ | some y=>_
 cases hG:G (s 0%4) (s 0/4%2097152) (s 0/8388608) with
 | none=>rw [hG] at g;exact g
 | some y =>
  rw [hG] at g
  refine ⟨by show 0<1;omega,?_⟩
  rw [if_pos rfl]
  simp only [if_true]
  exact g
theorem ask_lone (h1:1≤fails) (h2:fails≤1048576) (h3:wait≤1099511627776) {now:Nat} (hn:now≤1099511627776) {s:Nat→Nat} {a b c:Nat} (S:BS s a b c) (hh:Has L (bC r fails wait s) F) :
  Tr Try.prog B 12 [.pointer (some ⟨r,0,none⟩),.nilIface,.int .u64 (now:Nat)] L x fun v L' x'=>∃ s',v=.tuple #[.bool (decide (a=0∨c+wait≤now)),.int .i64 0]∧BS s' (if a≠0∧c+wait≤now then 2 else a) b (if a≠0∧c+wait≤now then now else c)∧L'=bC r fails wait s'::F∧x'=x:=by
 obtain ⟨e1,e2,e3⟩:=S.parts
 refine (ask_tr (A:=bLone x r fails wait) (b_at h1 h2 h3) hn (s:=s) (Q:=fun q s'=>q=decide (a=0∨c+wait≤now)∧BS s' (if a≠0∧c+wait≤now then 2 else a) b (if a≠0∧c+wait≤now then now else c)) ?_ hh).mono ?_
 ·refine turn_lone ?_
  rw [e1,e2,e3]
  by_cases c1:a≠0∧c+wait≤now
  ·rw [show askG wait now a b c=some (2,b,now) from if_pos c1,if_pos c1,if_pos c1]
   refine ⟨?_,BS.pack (by show 2<4;omega) S.2.1 (by show now<_;omega)⟩
   rw [decide_eq_true (Or.inr c1.2)]
   rfl
  ·rw [show askG wait now a b c=none from if_neg c1,if_neg c1,if_neg c1]
   refine ⟨?_,S⟩
   by_cases c2:a=0
   ·simp [c2]
   ·have:¬ (c+wait≤now):=fun h=>c1 ⟨c2,h⟩
    simp [c2,this]
 ·rintro v L' x' ⟨q,s',⟨rfl,hS⟩,rfl,rfl,rfl⟩
  exact ⟨s',rfl,hS,rfl,rfl⟩
theorem tell_lone (h1:1≤fails) (h2:fails≤1048576) (h3:wait≤1099511627776) {now:Nat} (hn:now≤1099511627776) {good:Bool} {s:Nat→Nat} {a b c:Nat} (S:BS s a b c) (hb:b≤fails) (hh:Has L (bC r fails wait s) F) :
  Tr Try.prog B 13 [.pointer (some ⟨r,0,none⟩),.nilIface,.int .u64 (now:Nat),.bool good] L x fun v L' x'=>∃ s',v=.int .i64 0∧(match tellG fails now good a b c with
   | none=>BS s' a b c
   | some y=>BS s' y.1 y.2.1 y.2.2)∧L'=bC r fails wait s'::F∧x'=x:=by
 obtain ⟨e1,e2,e3⟩:=S.parts
 refine (tell_tr (A:=bLone x r fails wait) (b_at h1 h2 h3) hn (s:=s) (Q:=fun s'=>match tellG fails now good a b c with
   | none=>BS s' a b c
   | some y=>BS s' y.1 y.2.1 y.2.2) ?_ hh).mono ?_
 ·refine turn_lone ?_
  rw [e1,e2,e3]
  cases hG:tellG fails now good a b c with
  | none=>exact S
  | some y =>
   have hy:y.1<4∧y.2.1<2097152∧y.2.2<2199023255552:=by
    unfold tellG at hG
    split at hG
    ·cases hG
    split at hG
    ·cases hG;exact ⟨by show 0<4;omega,by show 0<2097152;omega,by show 0<2199023255552;omega⟩
    split at hG
    ·cases hG;exact ⟨by show 1<4;omega,S.2.1,by show now<_;omega⟩
    split at hG
    ·cases hG;exact ⟨by show 1<4;omega,by show fails<_;omega,by show now<_;omega⟩
    ·cases hG;exact ⟨by show 0<4;omega,by show b+1<_;omega,by show 0<2199023255552;omega⟩
   exact BS.pack hy.1 hy.2.1 hy.2.2
 ·rintro v L' x' ⟨s',hS,rfl,rfl,rfl⟩
  exact ⟨s',rfl,hS,rfl,rfl⟩
theorem bget_lone (h1:1≤fails) (h2:fails≤1048576) (h3:wait≤1099511627776) {s:Nat→Nat} {a b c:Nat} (S:BS s a b c) (hh:Has L (bC r fails wait s) F) :
  Tr Try.prog B 14 [.pointer (some ⟨r,0,none⟩),.nilIface] L x fun v L' x'=>v=.tuple #[.int .i64 (a:Nat),.int .u64 (b:Nat),.int .u64 (c:Nat),.int .i64 0]∧L'=bC r fails wait s::F∧x'=x:=by
 obtain ⟨e1,e2,e3⟩:=S.parts
 refine (bget_tr (A:=bLone x r fails wait) (b_at h1 h2 h3) (s:=s) (Q:=fun o s'=>o=s 0∧s'=s) ⟨by show 0<1;omega,rfl,rfl⟩ hh).mono ?_
 rintro v L' x' ⟨o,s',_,⟨rfl,rfl⟩,rfl,rfl,rfl⟩
 rw [e1,e2,e3]
 exact ⟨rfl,rfl,rfl⟩
end
end
end Go.Proofs.Ytnnpdmhmpgmpnaa
namespace Go.PB.Mach
section
def T (cs:List Cl) (c p:Nat) (r:Nat→Nat) (pre:List (Bool × List Nat)) (said:List Nat):Th:={ calls:=cs,call:=c,pc:=p,r:=r,ans:=pre++[(false,said)],over:=false }
def Goes (k:Nat) (t t':Th):Prop:=∀ f,onF (f+k) t=onF f t'
theorem Goes.trans {k k':Nat} {t t' t'':Th} (a:Goes k t t') (b:Goes k' t' t''):Goes (k'+k) t t'':=fun f=>by
 rw [← Nat.add_assoc,a,b]
theorem Goes.on {k f:Nat} {t t' t'':Th} (a:Goes k t t') (h:onF f t'=some t''):onF (f+k) t=some t'':=by rw [a,h]
theorem Goes.on1 {f:Nat} {t t' t'':Th} (a:Goes 1 t t') (h:onF f t'=some t''):onF (f+1) t=some t'':=a.on h
section
variable {cs:List Cl} {cl:Cl} {c p:Nat} {r:Nat→Nat} {pre:List (Bool × List Nat)} {said:List Nat} {x:In}
variable {on a b cc d n:Nat}
end
section
variable {cs:List Cl} {cl:Cl} {c p:Nat} {r:Nat→Nat} {pre:List (Bool × List Nat)} {said:List Nat} {x:In} {on a b cc d n vb vc v:Nat}
variable {f:Nat} {w:Wd} {l:List Nat} {q:Nat} {ws:List (List Nat)} {t':Th}
structure Op (f:Nat) (w:Wd) (t:Th) (m:Nat × Nat) (w':Wd) (t':Th):Prop where
 over:t.over=false
 on:opF f w t=some (w',t')
 mark:t.mark=m
end
inductive Runs (f:Nat):Wd→Th→List (Nat × Nat)→Wd→Th→Prop
 | nil {w:Wd} {t:Th}:Runs f w t [] w t
 | cons {w w1 w2:Wd} {t t1 t2:Th} {m:Nat × Nat} {ms:List (Nat × Nat)}:Op f w t m w1 t1→Runs f w1 t1 ms w2 t2→Runs f w t (m::ms) w2 t2
theorem Runs.trans {f:Nat} {w w1 w2:Wd} {t t1 t2:Th} {ms ms':List (Nat × Nat)} (a:Runs f w t ms w1 t1) (b:Runs f w1 t1 ms' w2 t2):Runs f w t (ms++ms') w2 t2:=by
 induction a with
 | nil=>exact b
 | cons h _ ih=>exact .cons h (ih b)
end
end Go.PB.Mach
namespace Go.Proofs.Ytnnpdmhmpgmpnaa
open Go Go.PB
attribute [local irreducible] Mo Bin Eql Tr Wo Ap
section
variable {B:Hand} [Lets B] {L F:List HProp} {x:B.X}
def inC (x:Mach.In):List Value:=[.int .i64 (x.op:Nat),.int .i64 (x.on:Nat),.int .i64 (x.a:Nat),.int .i64 (x.b:Nat),.int .i64 (x.c:Nat),.int .i64 (x.d:Nat),.int .u64 (x.n:Nat)]
end
section
variable {B:Hand} [Lets B] {L F G:List HProp} {x:B.X}
structure CW where
 a:Option Addr
 c:Nat
 k:Nat→Option Addr × Nat
 d:Nat→Option Addr × Nat
def CW.v (w:CW) (n:Nat):Value:=.slice w.a n w.c
def codeC (w:CW) (cs:List Mach.Cl):HProp:=fun h=>∀ i cl,cs[i]?=some cl→∃ cb co,w.a=some ⟨cb,co,none⟩ ∧
 h.can ⟨cb,co+2*i,none⟩ (.slice (w.k i).1 cl.code.length (w.k i).2)∧h.can ⟨cb,co+2*i+1,none⟩ (.slice (w.d i).1 cl.data.length (w.d i).2) ∧
 (∀ j y,cl.code[j]?=some y→∃ kb ko,(w.k i).1=some ⟨kb,ko,none⟩∧∀ m v,(inC y)[m]?=some v→h.can ⟨kb,ko+7*j+m,none⟩ v) ∧
 (∀ j v,cl.data[j]?=some v→∃ db dq,(w.d i).1=some ⟨db,dq,none⟩∧h.can ⟨db,dq+j,none⟩ (num v))
section
variable {w:CW} {cs:List Mach.Cl} {cl:Mach.Cl} {i:Nat}
theorem can_mono {h h1 h2:Hp} (s:Split h h1 h2) {a:Addr} {v:Value} (c:h1.can a v):h.can a v:=⟨c.1,c.2.elim (fun e=>.inl (s.o1 _ _ _ e)) (fun e=>.inr (s.r1 _ _ _ e))⟩
def Obs (L:List HProp) (c:HProp):Prop:=∀ h,Star L h→c h
theorem code_mono {h h1 h2:Hp} (s:Split h h1 h2) (c:codeC w cs h1):codeC w cs h:=by
 intro i cl hi
 obtain ⟨cb,co,q1,q2,q3,q4,q5⟩:=c i cl hi
 refine ⟨cb,co,q1,can_mono s q2,can_mono s q3,fun j y hj=>?_,fun j v hj=>?_⟩
 ·obtain ⟨kb,ko,q6,q7⟩:=q4 j y hj
  exact ⟨kb,ko,q6,fun m v hm=>can_mono s (q7 m v hm)⟩
 ·obtain ⟨db,dq,q6,q7⟩:=q5 j v hj
  exact ⟨db,dq,q6,can_mono s q7⟩
theorem Obs.there {d:HProp} (o:Obs L (codeC w cs)):Obs (d::L) (codeC w cs):=fun h s=>by
 obtain ⟨h1,h2,s1,_,hL⟩:=s
 exact code_mono s1.swap (o h2 hL)
end
theorem own_calls {t:Mach.Th} {i:Mach.In}:(Mach.own t i).calls=t.calls∧(Mach.own t i).call=t.call∧(Mach.own t i).over=t.over:=by
 unfold Mach.own Mach.Th.put Mach.Th.tell
 dsimp only
 split <;> (try split) <;> exact ⟨rfl,rfl,rfl⟩
theorem own_ans {t:Mach.Th} {i:Mach.In} (h:i.op≠22):(Mach.own t i).ans=t.ans:=by
 unfold Mach.own Mach.Th.put Mach.Th.tell
 dsimp only
 split <;> (try split) <;> first | rfl | exact absurd (by assumption) h
end
section
structure Good (cs:List Mach.Cl) (t:Mach.Th) (k:Nat):Prop where
 calls:t.calls=cs
 ok:(cs.all Mach.Cl.ok)=true
 len:cs.length<1000000
 pc:t.pc<1000000
 call:t.call≤cs.length
 ans1:t.call≤t.ans.length
 ans2:t.ans.length≤t.call+1
 room:∀ y∈t.ans,y.2.length+k<1000000000
theorem Good.begun {cs:List Mach.Cl} {t:Mach.Th} {k:Nat} (g:Good cs t k) (hk:k<1000000000):Good cs t.begun k:=by
 unfold Mach.Th.begun
 split
 ·refine ⟨g.calls,g.ok,g.len,g.pc,g.call,by simp;omega,by simp;omega,fun y hy=>?_⟩
  rcases List.mem_append.1 hy with hy | hy
  ·exact g.room y hy
  ·cases List.mem_singleton.1 hy;simpa using hk
 ·exact g
theorem begun_ans {cs:List Mach.Cl} {t:Mach.Th} {k:Nat} (g:Good cs t k):t.begun.call=t.call∧t.call<t.begun.ans.length:=by
 unfold Mach.Th.begun
 split
 ·exact ⟨rfl,by simp;omega⟩
 ·exact ⟨rfl,by have:=g.ans1;omega⟩
theorem mem_modify {α:Type} {f:α→α}:∀ {l:List α} {i:Nat} {y:α},y∈l.modify i f→y∈l∨∃ z∈l,y=f z:=by
 intro l
 induction l with
 | nil=>intro i y h;simp at h
 | cons a l ih =>
  intro i y h
  cases i with
  | zero =>
   simp only [List.modify_zero_cons,List.mem_cons] at h
   rcases h with h | h
   ·exact .inr ⟨a,by simp,h⟩
   ·exact .inl (by simp [h])
  | succ i =>
   simp only [List.modify_succ_cons,List.mem_cons] at h
   rcases h with h | h
   ·exact .inl (by simp [h])
   ·rcases ih h with h | ⟨z,h1,h2⟩
    ·exact .inl (by simp [h])
    ·exact .inr ⟨z,by simp [h1],h2⟩
theorem Good.done {cs:List Mach.Cl} {t:Mach.Th} {k:Nat} (g:Good cs t k) (h:t.call<t.ans.length) (hl:t.call<cs.length):Good cs t.done k:=by
 refine ⟨g.calls,g.ok,g.len,by show 0<1000000;omega,by show t.call+1≤_;omega,?_,?_,fun y hy=>?_⟩
 ·show t.call+1≤(t.ans.modify _ _).length;rw [List.length_modify];omega
 ·show (t.ans.modify _ _).length≤t.call+1+1;rw [List.length_modify];have:=g.ans2;omega
 ·rcases mem_modify hy with h | ⟨z,h1,rfl⟩
  ·exact g.room y h
  ·exact g.room z h1
theorem own_pc {t:Mach.Th} {i:Mach.In}:(Mach.own t i).pc=t.pc+1∨(Mach.own t i).pc=i.n∧18≤i.op∧i.op≤21:=by
 obtain ⟨op,on,a,b,c,d,n⟩:=i
 unfold Mach.own Mach.Th.put Mach.Th.tell
 dsimp only
 split <;> (try split) <;> first | exact .inl rfl | exact .inr ⟨rfl,by omega,by omega⟩
theorem own_told {t:Mach.Th} {i:Mach.In} {k:Nat} (h:∀ y∈t.ans,y.2.length+(k+1)<1000000000):∀ y∈(Mach.own t i).ans,y.2.length+k<1000000000:=by
 intro y hy
 by_cases e:i.op=22
 ·have e2:(Mach.own t i).ans=(t.tell (t.r i.a)).ans:=by
   obtain ⟨op,on,a,b,c,dd,n⟩:=i
   simp only at e
   subst e
   rfl
  rw [e2] at hy
  rcases mem_modify hy with h1 | ⟨z,h1,rfl⟩
  ·have:=h y h1;omega
  ·have:=h z h1
   simp only [List.length_append,List.length_cons,List.length_nil];omega
 ·rw [own_ans e] at hy
  have:=h y hy;omega
theorem own_len {t:Mach.Th} {i:Mach.In}:(Mach.own t i).ans.length=t.ans.length:=by
 by_cases e:i.op=22
 ·have e2:(Mach.own t i).ans=(t.tell (t.r i.a)).ans:=by
   obtain ⟨op,on,a,b,c,dd,n⟩:=i
   simp only at e
   subst e
   rfl
  rw [e2]
  show (t.ans.modify _ _).length=_
  rw [List.length_modify]
 ·rw [own_ans e]
theorem Good.next {cs:List Mach.Cl} {t:Mach.Th} {k:Nat} (g:Good cs t k) (hl:t.call<cs.length):t.next=Mach.fin∨t.next.ok=true∧t.pc+1<1000000:=by
 unfold Mach.Th.next Mach.Th.cl
 obtain ⟨cl,hcl⟩:∃ cl,t.calls[t.call]?=some cl:=⟨t.calls[t.call]'(by rw [g.calls];omega),by simp⟩
 rw [List.getD_eq_getElem?_getD,List.getD_eq_getElem?_getD,hcl,Option.getD_some]
 have hok:=List.all_eq_true.1 g.ok cl (by rw [← g.calls];exact List.mem_of_getElem? hcl)
 simp only [Mach.Cl.ok,Bool.and_eq_true,decide_eq_true_eq] at hok
 cases hp:cl.code[t.pc]? with
 | none=>exact .inl rfl
 | some y =>
  have:=(List.getElem?_eq_some_iff.1 hp).1
  exact .inr ⟨List.all_eq_true.1 hok.1.1.1 y (List.mem_of_getElem? hp),by omega⟩
theorem Good.own {cs:List Mach.Cl} {t:Mach.Th} {k:Nat} (g:Good cs t (k+1)) (hl:t.call<cs.length) (hn:t.next.op≠23):Good cs (Mach.own t t.next) k:=by
 obtain ⟨o1,o2,o3⟩:=own_calls (t:=t) (i:=t.next)
 rcases g.next hl with hf | ⟨hok,hpc⟩
 ·rw [hf] at hn;exact absurd rfl hn
 refine ⟨o1.trans g.calls,g.ok,g.len,?_,by rw [o2];exact g.call,by rw [o2,own_len];exact g.ans1,by rw [o2,own_len];exact g.ans2,own_told g.room⟩
 rcases own_pc (t:=t) (i:=t.next) with h | ⟨h,h2,h3⟩
 ·rw [h];exact hpc
 ·rw [h]
  simp only [Mach.In.ok,Bool.and_eq_true,decide_eq_true_eq,Bool.or_eq_true,Bool.not_eq_true',decide_eq_false_iff_not] at hok
  obtain ⟨⟨⟨_,hj⟩,_⟩,_⟩:=hok
  rcases hj with hj | hj
  ·simp at hj;omega
  ·exact hj
theorem Good.onF {cs:List Mach.Cl}:∀ {f:Nat} {t t':Mach.Th} {k:Nat},Good cs t (k+f)→k+f<1000000000→Mach.onF f t=some t'→Good cs t' k:=by
 intro f
 induction f with
 | zero=>intro t t' k g hk h;cases h
 | succ f ih =>
  intro t t' k g hk h
  have weak:∀ {t:Mach.Th} {m:Nat},Good cs t m→k≤m→Good cs t k:=fun g hm=>⟨g.calls,g.ok,g.len,g.pc,g.call,g.ans1,g.ans2,fun y hy=>by have:=g.room y hy;omega⟩
  unfold Mach.onF at h
  split at h
  ·cases h;exact weak g (by omega)
  split at h
  ·cases h;exact ⟨g.calls,g.ok,g.len,g.pc,g.call,g.ans1,g.ans2,fun y hy=>by have:=g.room y hy;omega⟩
  rename_i h1 h2
  have hl:t.call<cs.length:=by rw [← g.calls];omega
  have gb:=g.begun hk
  obtain ⟨b1,b2⟩:=begun_ans g
  split at h
  ·cases h;exact weak gb (by omega)
  split at h
  ·exact ih (k:=k) ⟨(gb.done (by rw [b1];exact b2) (by rw [b1];exact hl)).calls,g.ok,g.len,by show 0<1000000;omega,(gb.done (by rw [b1];exact b2) (by rw [b1];exact hl)).call,(gb.done (by rw [b1];exact b2) (by rw [b1];exact hl)).ans1,(gb.done (by rw [b1];exact b2) (by rw [b1];exact hl)).ans2,fun y hy=>by have:=(gb.done (by rw [b1];exact b2) (by rw [b1];exact hl)).room y hy;omega⟩ (by omega) h
  ·rename_i h3
   exact ih (k:=k) (Good.own (k:=k+f) gb (by rw [b1];exact hl) h3) (by omega) h
variable {B:Hand} [Lets B] {L F G:List HProp} {x:B.X}
end
section
structure PT where
 tb:Nat
 cw:CW
 cs:List Mach.Cl
def PT.cv (p:PT):Value:=p.cw.v p.cs.length
abbrev Calls:=List (CW × List Mach.Cl)
structure CallsOk (F:List HProp) (cc:Calls):Prop where
 n:cc.length<1000
 obs:∀ y∈cc,Obs F (codeC y.1 y.2)
 ok:∀ y∈cc,(y.2.all Mach.Cl.ok)=true
 len:∀ y∈cc,y.2.length<1000000
theorem CallsOk.there {F:List HProp} {cc:Calls} {d:HProp} (c:CallsOk F cc):CallsOk (d::F) cc:=⟨c.n,fun y hy=>(c.obs y hy).there,c.ok,c.len⟩
variable {B:Hand} [Lets B] {L F G:List HProp} {x:B.X}
end
section
def Stands (t:Mach.Th):Prop:=t.over=true∨Mach.told t.next.op=true∧t.call<t.calls.length
structure PlayOk (f:Nat) (s:Mach.St) (q:List (PT × Mach.Th)):Prop where
 l:q.map (·.2)=s.l
 tr:s.tr.length≤16384
 good:∀ y∈q,Good y.1.cs y.2 ((16384-s.tr.length)*(f+1))
 st:∀ y∈q,Stands y.2
variable {B:Hand} [Lets B] {L F G:List HProp} {x:B.X}
end
end Go.Proofs.Ytnnpdmhmpgmpnaa
namespace Go.PB.Mach
def St.cut (s:St):List Nat:=(List.range s.l.length).filter fun k=>match s.l[k]? with | some t=>!t.over | none=>false
end Go.PB.Mach
namespace Go.Proofs.Ytnnpdmhmpgmpnaa
open Go Go.PB
attribute [local irreducible] Mo Bin Eql Tr Wo Ap
variable {B:Hand} [Lets B] {L F G:List HProp} {x:B.X}
end Go.Proofs.Ytnnpdmhmpgmpnaa
namespace Go.Proofs.Ytnnpdmhmpgmpnaa
open Go Go.PB
attribute [local irreducible] Mo Bin Eql Tr Wo Ap
section
section
variable {B:Hand} [Lets B] {L F G:List HProp} {x:B.X} {n k v:Nat}
def yes (q:Bool):Nat:=if q then 1 else 0
end
end
section
def RdTr (L:List HProp) (a:Option Addr) (l:List (Nat × (Int × Int))):Prop:=∀ (i:Nat) t,l[i]?=some t→∃ b o,a=some ⟨b,o,none⟩∧Rds L b (o+3*i) [.int .i64 (t.1:Nat),.int .u8 t.2.1,.int .i64 t.2.2]
def RdI (L:List HProp) (a:Option Addr) (l:List Nat):Prop:=∀ (i:Nat) k,l[i]?=some k→∃ b o,a=some ⟨b,o,none⟩∧Rd L b (o+i) (.int .i64 (k:Nat))
theorem RdTr.there {L:List HProp} {a:Option Addr} {l:List (Nat × (Int × Int))} {d:HProp} (h:RdTr L a l):RdTr (d::L) a l:=fun i t hi=>by
 obtain ⟨b,o,e,r⟩:=h i t hi
 exact ⟨b,o,e,fun j v hj=>.there (r j v hj)⟩
theorem RdI.there {L:List HProp} {a:Option Addr} {l:List Nat} {d:HProp} (h:RdI L a l):RdI (d::L) a l:=fun i t hi=>by
 obtain ⟨b,o,e,r⟩:=h i t hi
 exact ⟨b,o,e,.there r⟩
section
variable {B:Hand} [Lets B] {L F:List HProp} {x:B.X}
end
end
end Go.Proofs.Ytnnpdmhmpgmpnaa
namespace Go.PB
open Go
section
def Dup (c:HProp):Prop:=∀ (L:List HProp) (h:Hp),Star (c::L) h→Star (c::c::L) h
theorem dup_fro {b o:Nat} {vs:List Value}:Dup (fro b o vs):=fun L h s=>fro_two s
theorem dup_base {W:World}:Dup (base W):=fun L h s=>by
 obtain ⟨h1,h2,s1,ha,hL⟩:=s
 exact ⟨⟨fun _ _=>none,h1.ro,fun _=>none,fun _=>none⟩,h,⟨fun _ _ _ e=>s1.r1 _ _ _ e,fun _ _ _ e=>e,fun _ _ _ e=>by simp at e,fun _ _ _ e=>e,fun _ _=>.inl rfl,fun _ _ e=>by simp at e,fun _ _ e=>e,fun _=>.inl rfl,fun _ _ e=>by simp at e,fun _ _ e=>e⟩,ha,h1,h2,s1,ha,hL⟩
theorem all_cons {c:HProp} {M L:List HProp} {h:Hp} (s:Star (all (c::M)::L) h):Star (c::all M::L) h :=
 star_map (star_open (M:=c::M) s) (fun _ z=>z) fun _ z=>star_shut z
theorem cons_all {c:HProp} {M L:List HProp} {h:Hp} (s:Star (c::all M::L) h):Star (all (c::M)::L) h :=
 star_shut (M:=c::M) (star_map s (fun _ z=>z) fun _ z=>star_open z)
theorem dup_all:∀ {M:List HProp},(∀ c∈M,Dup c)→Dup (all M)
 | [],_=>fun L h s=>star_shut (M:=[]) s
 | c::M,hM=>fun L h s=>by
  have s1:=hM c (by simp) _ _ (all_cons s)
  have s2:Star (all M::c::c::L) h:=Ent.star (.take (.there (.there .here)) (.take .here (.take .here .refl))) s1
  have s3:=dup_all (fun d hd=>hM d (by simp [hd])) _ _ s2
  have s4:Star (c::all M::c::all M::L) h:=Ent.star (.take (.there (.there .here)) (.take .here (.take (.there .here) (.take .here .refl)))) s3
  exact cons_all (star_map s4 (fun _ z=>z) fun _ z=>star_map z (fun _ z=>z) fun _ z=>cons_all z)
theorem dup_many {c:HProp} (hc:Dup c) {L:List HProp} {h:Hp} (s:Star (c::L) h):∀ n,Star (all (List.replicate n c)::c::L) h
 | 0=>star_shut (M:=[]) s
 | n+1=>by
  have s1:=dup_many hc s n
  have s2:=hc _ _ (star_swap s1)
  have s3:Star (c::all (List.replicate n c)::c::L) h:=Ent.star (.take .here (.take (.there .here) (.take .here .refl))) s2
  rw [List.replicate_succ]
  exact cons_all s3
theorem star_zip:∀ {As Bs L:List HProp} {h:Hp},As.length=Bs.length→Star (all As::all Bs::L) h→Star (all (List.zipWith (fun a b=>all [a,b]) As Bs)::L) h
 | [],[],L,h,_,s=>star_shut (M:=[]) (star_drop (star_drop s))
 | [],b::Bs,L,h,e,s=>by simp at e
 | a::As,[],L,h,e,s=>by simp at e
 | a::As,b::Bs,L,h,e,s=>by
  have s1:=all_cons s
  have s2:Star (all (b::Bs)::a::all As::L) h:=Ent.star (.take (.there (.there .here)) (.take .here (.take .here .refl))) s1
  have s3:=all_cons s2
  have s4:Star (all As::all Bs::a::b::L) h:=Ent.star (.take (.there (.there (.there .here))) (.take (.there .here) (.take (.there .here) (.take .here .refl)))) s3
  have s5:=star_zip (by simpa using e) s4
  have s6:Star (a::b::all (List.zipWith (fun a b=>all [a,b]) As Bs)::L) h:=Ent.star (.take (.there .here) (.take (.there .here) (.take .here .refl))) s5
  exact cons_all (star_shut (M:=[_,_]) s6)
theorem star_tail:∀ {M L:List HProp} {h:Hp},Star (M++L) h→Star (all L::M) h
 | [],L,h,s=>star_shut (L:=[]) (by rw [List.append_nil];exact s)
 | c::M,L,h,s=>star_swap (star_map (L:=M++L) s (fun _ z=>z) fun _ z=>star_tail z)
theorem zeros_rep {n:Nat} {v:Value}:zeros n [v]=List.replicate n v:=by
 unfold zeros
 induction n with
 | zero=>rfl
 | succ n ih=>rw [List.replicate_succ,List.flatten_cons,ih,List.replicate_succ];rfl
end
end Go.PB
namespace Go.Proofs.Ytnnpdmhmpgmpnaa
open Go Go.PB
attribute [local irreducible] Mo Bin Eql Tr Wo Ap Wle
section
theorem rd_all {M L:List HProp} {b o:Nat} {v:Value} (r:Rd M b o v):Rd (all M::L) b o v:=fun h s =>
 r h (star_drop (star_tail (star_open s)))
theorem rdso_vec {L F:List HProp} {a:Option Addr} {n c:Nat} {cs:List Value} (hh:Has L (vec 1 (.slice a n c) cs) F) (hn:cs.length=n*1) (hz:a=none→n=0) (hy:∀ y,a=some y→y=⟨y.block,y.off,none⟩):RdsO L a n cs:=by
 refine ⟨by omega,?_⟩
 cases a with
 | none=>exact .inl (hz rfl)
 | some y =>
  obtain ⟨b,o,sp⟩:=y
  cases hy _ rfl
  exact .inr ⟨b,o,rfl,fun i v hi=>rd_vec hh hi⟩
end
section
def nvOk (s:NvS):Prop:=s.w≤5∧s.pk≤5∧0≤s.now∧s.now≤5∧0≤s.most∧s.most≤5
def bkC (bk bin:Nat) (bad:Bool):HProp:=all [arr bk 0 [.int .i64 (bin:Nat),.bool bad]]
def nvW (cb limit:Nat):WGm where
 σ:=NvS
 θ:=NvQ
 ζ:=Int × Int
 wf:=fun s i=>if i=0 then s.w else s.pk
 zf:=fun s=>(s.now,s.most)
 Z:=fun c=>arr cb 0 [.int .i64 c.1,.int .i64 c.2]
 plan:=nvPlan limit
 ok:=nvOk
 Pv:=fun q=>bkC q.bk q.bin q.bad
 up:=fun q h st=>star_open (M:=[_]) st
section
variable {cb r limit sb says turn fin wg:Nat} {Pm:HProp}
structure NvAt (s:GaS (nvW cb limit)) (q:NvQ) (c:Int × Int):Prop where
 q:s.q=q
 f:∀ i,i<2→s.f i=(nvW cb limit).wf s.s i
 c:c=(nvW cb limit).zf s.s
variable {a:Bool} {rest:List Bool} {bin bk:Nat} {bad:Bool}
end
end
section
section
variable {cb bk r limit sb says turn fin wg bin:Nat} {bad:Bool} {f:Nat→Nat} {F:List HProp} {h:Hp} {now most:Int}
end
section
variable {cb bk r limit sb says turn fin wg:Nat}
structure NvRo (Ro:HProp) (c8 b8 ib p8 l8 cb bk pp r limit:Nat) (bb bo nt bc qb qo qc k:Nat) (wa:Option Addr) (wc:Nat) (what:List Bool):Prop where
 h1:Rd [Ro] c8 0 (.pointer (some ⟨cb,0,none⟩))
 h2:Rd [Ro] b8 0 (.slice (some ⟨bb,bo,none⟩) nt bc)
 h3:Rd [Ro] bb (bo+k) (.pointer (some ⟨bk,0,none⟩))
 h4:Rd [Ro] ib 0 (.int .i64 (k:Nat))
 h5:Rd [Ro] p8 0 (.pointer (some ⟨pp,0,none⟩))
 h6:Rd [Ro] pp (0+0) (.pointer (some ⟨r,0,none⟩))
 h7:Rd [Ro] pp (0+2) (.int .u64 (limit:Nat))
 h8:Rd [Ro] l8 0 (.slice (some ⟨qb,qo,none⟩) nt qc)
 h9:Rd [Ro] qb (qo+k) (.slice wa what.length wc)
 h10:RdsO [Ro] wa what.length (what.map .bool)
 hk:k<nt
 hl:what.length≤10
end
end
section
section
variable {B:Hand} [Lets B] {x:B.X} {r limit fails wait n p:Nat} {L F:List HProp} {s:Nat→Nat}
theorem enter_yes (h1:1≤limit) (h2:limit≤1048576) (e0:s 0=n) (e1:s 1=p) (hlt:n<limit) (hh:Has L (gC r limit s) F) :
  Tr Try.prog B 19 [.pointer (some ⟨r,0,none⟩),.nilIface] L x fun v L' x'=>∃ s',v=.tuple #[.bool true,.int .i64 0]∧s' 0=n+1∧s' 1=max p (n+1)∧L'=gC r limit s'::F∧x'=x:=by
 refine (enter_lone h1 h2 hh).mono ?_
 rintro v L' x' ⟨rfl,rfl,rfl⟩
 rw [if_pos (by omega),decide_eq_true (show s 0<limit by omega)]
 refine ⟨_,rfl,?_,?_,rfl,rfl⟩
 ·unfold enterS
  split
  ·rw [upd_same];omega
  ·rw [upd_other (by omega),upd_same];omega
 ·unfold enterS
  split
  ·rw [upd_other (by omega)];omega
  ·rw [upd_same];omega
theorem enter_no (h1:1≤limit) (h2:limit≤1048576) (e0:s 0=n) (hge:limit≤n) (hh:Has L (gC r limit s) F) :
  Tr Try.prog B 19 [.pointer (some ⟨r,0,none⟩),.nilIface] L x fun v L' x'=>v=.tuple #[.bool false,.int .i64 0]∧L'=gC r limit s::F∧x'=x:=by
 refine (enter_lone h1 h2 hh).mono ?_
 rintro v L' x' ⟨rfl,rfl,rfl⟩
 rw [if_neg (by omega),decide_eq_false (show ¬ s 0<limit by omega)]
 exact ⟨rfl,rfl,rfl⟩
def pairC (p g b limit fails wait:Nat):HProp:=arr p 0 [.pointer (some ⟨g,0,none⟩),.pointer (some ⟨b,0,none⟩),.int .u64 (limit:Nat),.int .u64 (fails:Nat),.int .u64 (wait:Nat)]
theorem made_tr {l0 f0 w0:Nat} (hl:1+l0%1048576=limit) (hf:1+f0%1048576=fails) (hw:1+w0%1099511627776=wait) :
  Tr Try.prog B 10 [.int .u64 (l0:Nat),.int .u64 (f0:Nat),.int .u64 (w0:Nat)] L x fun v L' x'=>∃ p g b,v=.pointer (some ⟨p,0,none⟩)∧L'=pairC p g b limit fails wait::gC g limit (fun _=>0)::bC b fails wait (fun _=>0)::L∧x'=x:=by
 refine Tr.post (R:=fun v L' x'=>∃ p g b,v=.pointer (some ⟨p,0,none⟩)∧x'=x∧∀ h,Star L' h→Star (pairC p g b limit fails wait::gC g limit (fun _=>0)::bC b fails wait (fun _=>0)::L) h) ?_ (by rintro v L' x' ⟨p,g,b,rfl,rfl,hs⟩;exact ⟨_,⟨p,g,b,rfl,rfl,rfl⟩,hs⟩)
 have r1:(l0:Int).tmod 1048576=((l0%1048576:Nat):Int):=by rw [Int.tmod_eq_emod_of_nonneg (by omega)];omega
 have r2:(f0:Int).tmod 1048576=((f0%1048576:Nat):Int):=by rw [Int.tmod_eq_emod_of_nonneg (by omega)];omega
 have r3:(w0:Int).tmod 1099511627776=((w0%1099511627776:Nat):Int):=by rw [Int.tmod_eq_emod_of_nonneg (by omega)];omega
 have a1:IntKind.u64.wrap ((1:Int)+((l0%1048576:Nat):Int))=((limit:Nat):Int):=(wrap_u64 (by omega) (by omega)).trans (by omega)
 have a2:IntKind.u64.wrap ((1:Int)+((f0%1048576:Nat):Int))=((fails:Nat):Int):=(wrap_u64 (by omega) (by omega)).trans (by omega)
 have a3:IntKind.u64.wrap ((1:Int)+((w0%1099511627776:Nat):Int))=((wait:Nat):Int):=(wrap_u64 (by omega) (by omega)).trans (by omega)
 refine tr_of_body Try.func10 rfl Try.ntmps10 (by simp) fun um Q _ hQ=>?_
 simp only [argE,Nat.zero_add,Nat.reduceAdd]
 repeat (first | (apply wo_po;apply mo_bin;exact rfl;exact rfl;apply bin_rem;omega;(first | exact r1 | exact r2 | exact r3);exact trivial) | (apply wo_po;apply mo_bin;exact rfl;exact rfl;apply bin_add;(first | exact a1 | exact a2 | exact a3);exact trivial) | (apply wo_po;apply mo_buildV;(repeat (first | exact EvL.nil | apply EvL.cons rfl));exact rfl;exact trivial) | (apply wo_mo;apply mo_box;exact rfl;exact trivial) | refine we_seq ?_ | (refine wR ?_;try simp only [oS]) | refine wo_nil ?_ | refine wM ?_ | refine wA ?_)
 rintro v' L' ⟨p,rfl,rfl⟩
 refine wo_ent (arr p 0 [.pointer none,.pointer none,.int .u64 (limit:Nat),.int .u64 (fails:Nat),.int .u64 (wait:Nat)]::L) .refl ?_
 repeat (first | refine we_seq ?_ | (refine wR ?_;try simp only [oS]) | refine wo_nil ?_ | refine wM ?_ | refine wA ?_ | refine wN ?_ | refine wD ?_ | refine wL ?_)
 refine wo_call (.cons rfl .nil) trivial (new_tr (by omega) (by omega)) ?_
 rintro v' L' x' ⟨g,rfl,rfl,rfl⟩
 repeat (first | refine we_seq ?_ | refine wo_nil ?_ | refine wM ?_ | refine wA ?_ | (apply wo_po;apply mo_extract;exact rfl;exact rfl;exact gY))
 refine we_draw (List.range' 0 14) (by kernel_rfl) ?_
 repeat (first | refine aM ?_ | refine aN ?_ | refine aD ?_ | refine aL ?_)
 refine ap_callv rfl rfl rfl rfl trivial rfl rfl (.cons rfl (.cons rfl .nil)) (newb_tr (by omega) (by omega) (by omega) (by omega)) ?_
 rintro v' L' x' ⟨b,rfl,rfl,rfl⟩
 repeat (first | refine aM ?_ | refine aA ?_ | (apply ap_pure;exact rfl;exact rfl;exact gY;intro L;apply mo_extract;exact rfl;exact rfl) | refine ap_end ?_)
 repeat (first | refine wS ?_ | refine wneqF ?_ | refine we_seq ?_ | (refine wR ?_;try simp only [oS]) | refine wo_nil ?_ | refine wM ?_ | refine wA ?_ | refine wJ ?_ | refine wN ?_ | refine wD ?_ | (apply wo_po;apply mo_bin;exact rfl;exact rfl;apply bin_eq;apply eql_ptr_nil;exact gY) | refine wF ?_ | refine we_ret ?_ | refine we_skip ?_)
 (first | refine or1 Try.func10 Try.results10 hQ rfl ?_ | refine on1 Try.func10 Try.results10 hQ rfl ?_)
 refine ⟨p,g,b,rfl,rfl,fun h st=>?_⟩
 have s1:Star (arr g 0 [.int .u64 (limit:Nat),.int .u64 0,.int .u64 0]::arr b 0 [.int .u64 (fails:Nat),.int .u64 (wait:Nat),.int .u64 0]::pairC p g b limit fails wait::L) h:=Ent.star (.take (.there .here) (.take .here .refl)) st
 exact Ent.star (.take (.there (.there .here)) (.take .here .refl)) (star_map (g_wds s1) (fun _ y=>y) (fun _ y=>b_wds y))
theorem awake_tr:Tr Try.prog B 11 [] L x fun v L' x'=>v=.bool true∧L'=L∧x'=x:=by
 refine Tr.post (R:=fun v L' x'=>v=.bool true∧x'=x∧∀ h,Star L' h→Star L h) ?_ (by rintro v L' x' ⟨rfl,rfl,hs⟩;exact ⟨L,⟨rfl,rfl,rfl⟩,hs⟩)
 refine tr_of_body Try.func11 rfl Try.ntmps11 (by simp) fun um Q _ hQ=>?_
 simp only [argE,Nat.zero_add,Nat.reduceAdd]
 repeat (first | refine we_seq ?_ | (refine wR ?_;try simp only [oS]) | refine wo_nil ?_ | refine wA ?_)
 refine wo_call (.cons rfl (.cons rfl (.cons rfl .nil))) trivial (made_tr (l0:=1) (f0:=1) (w0:=9) (limit:=2) (fails:=2) (wait:=10) rfl rfl rfl) ?_
 rintro v' L' x' ⟨p,g,b,rfl,rfl,rfl⟩
 refine wo_star (arr p 0 [.pointer (some ⟨g,0,none⟩),.pointer (some ⟨b,0,none⟩),.int .u64 (2:Nat),.int .u64 (2:Nat),.int .u64 (10:Nat)]::gC g 2 (fun _=>0)::bC b 2 10 (fun _=>0)::L) (fun h st=>st) ?_
 repeat (first | refine wneqF ?_ | refine we_seq ?_ | (refine wR ?_;try simp only [oS]) | refine wo_nil ?_ | refine wM ?_ | refine wA ?_ | refine wJ ?_ | refine wN ?_ | refine wD ?_ | refine wL ?_ | (apply wo_po;apply mo_bin;exact rfl;exact rfl;apply bin_eq;apply eql_ptr_nil;exact gY) | refine wF ?_ | refine we_skip ?_)
 refine wo_call (.cons rfl (.cons rfl .nil)) trivial (enter_yes (n:=0) (p:=0) (by omega) (by omega) rfl rfl (by omega) (.there .here)) ?_
 rintro v' L' x' ⟨s1,rfl,f1,f2,rfl,rfl⟩
 refine wo_star (arr p 0 [.pointer (some ⟨g,0,none⟩),.pointer (some ⟨b,0,none⟩),.int .u64 (2:Nat),.int .u64 (2:Nat),.int .u64 (10:Nat)]::gC g 2 s1::bC b 2 10 (fun _=>0)::L) (fun h st=>Ent.star (.take (.there .here) (.take .here .refl)) st) ?_
 repeat (first | refine we_seq ?_ | (refine wR ?_;try simp only [oS]) | refine wo_nil ?_ | refine wM ?_ | refine wA ?_ | refine wN ?_ | refine wD ?_ | (apply wo_po;apply mo_extract;exact rfl;exact rfl;exact gY) | refine wL ?_)
 refine wo_call (.cons rfl (.cons rfl .nil)) trivial (enter_yes (by omega) (by omega) f1 f2 (by omega) (.there .here)) ?_
 rintro v' L' x' ⟨s2,rfl,g1,g2,rfl,rfl⟩
 refine wo_star (arr p 0 [.pointer (some ⟨g,0,none⟩),.pointer (some ⟨b,0,none⟩),.int .u64 (2:Nat),.int .u64 (2:Nat),.int .u64 (10:Nat)]::gC g 2 s2::bC b 2 10 (fun _=>0)::L) (fun h st=>Ent.star (.take (.there .here) (.take .here .refl)) st) ?_
 repeat (first | refine we_seq ?_ | (refine wR ?_;try simp only [oS]) | refine wo_nil ?_ | refine wM ?_ | refine wA ?_ | refine wN ?_ | refine wD ?_ | (apply wo_po;apply mo_extract;exact rfl;exact rfl;exact gY) | refine wL ?_)
 refine wo_call (.cons rfl (.cons rfl .nil)) trivial (enter_no (by omega) (by omega) g1 (by omega) (.there .here)) ?_
 rintro v' L' x' ⟨rfl,rfl,rfl⟩
 refine wo_star (arr p 0 [.pointer (some ⟨g,0,none⟩),.pointer (some ⟨b,0,none⟩),.int .u64 (2:Nat),.int .u64 (2:Nat),.int .u64 (10:Nat)]::gC g 2 s2::bC b 2 10 (fun _=>0)::L) (fun h st=>Ent.star (.take (.there .here) (.take .here .refl)) st) ?_
 repeat (first | refine we_seq ?_ | (refine wR ?_;try simp only [oS]) | refine wo_nil ?_ | refine wM ?_ | refine wA ?_ | refine wN ?_ | refine wD ?_ | (apply wo_po;apply mo_extract;exact rfl;exact rfl;exact gY) | refine wL ?_)
 refine wo_call (.cons rfl (.cons rfl .nil)) trivial (get_lone (by omega) (by omega) (.there .here)) ?_
 rintro v' L' x' ⟨rfl,rfl,rfl⟩
 rw [g1,g2]
 refine wo_star (arr p 0 [.pointer (some ⟨g,0,none⟩),.pointer (some ⟨b,0,none⟩),.int .u64 (2:Nat),.int .u64 (2:Nat),.int .u64 (10:Nat)]::gC g 2 s2::bC b 2 10 (fun _=>0)::L) (fun h st=>Ent.star (.take (.there .here) (.take .here .refl)) st) ?_
 repeat (first | refine we_seq ?_ | (refine wR ?_;try simp only [oS]) | refine wo_nil ?_ | refine wM ?_ | refine wA ?_ | refine wN ?_ | refine wD ?_ | (apply wo_po;apply mo_extract;exact rfl;exact rfl;exact gY) | refine wL ?_)
 refine wo_call (.cons rfl (.cons rfl (.cons rfl (.cons rfl .nil)))) trivial (tell_lone (fails:=2) (wait:=10) (by omega) (by omega) (by omega) (now:=5) (by omega) (s:=fun _=>0) (a:=0) (b:=0) (c:=0) ⟨by omega,by omega,by omega,rfl⟩ (by omega) (.there (.there .here))) ?_
 rintro v' L' x' ⟨t1,rfl,t1S,rfl,rfl⟩
 replace t1S:BS t1 0 1 0:=t1S
 refine wo_star (arr p 0 [.pointer (some ⟨g,0,none⟩),.pointer (some ⟨b,0,none⟩),.int .u64 (2:Nat),.int .u64 (2:Nat),.int .u64 (10:Nat)]::gC g 2 s2::bC b 2 10 t1::L) (fun h st=>Ent.star (.take (.there .here) (.take (.there .here) .refl)) st) ?_
 repeat (first | refine we_seq ?_ | (refine wR ?_;try simp only [oS]) | refine wo_nil ?_ | refine wM ?_ | refine wN ?_ | refine wD ?_ | refine wL ?_)
 refine wo_call (.cons rfl (.cons rfl (.cons rfl (.cons rfl .nil)))) trivial (tell_lone (fails:=2) (wait:=10) (by omega) (by omega) (by omega) (now:=6) (by omega) t1S (by omega) (.there (.there .here))) ?_
 rintro v' L' x' ⟨t2,rfl,t2S,rfl,rfl⟩
 replace t2S:BS t2 1 2 6:=t2S
 refine wo_star (arr p 0 [.pointer (some ⟨g,0,none⟩),.pointer (some ⟨b,0,none⟩),.int .u64 (2:Nat),.int .u64 (2:Nat),.int .u64 (10:Nat)]::gC g 2 s2::bC b 2 10 t2::L) (fun h st=>Ent.star (.take (.there .here) (.take (.there .here) .refl)) st) ?_
 repeat (first | refine we_seq ?_ | (refine wR ?_;try simp only [oS]) | refine wo_nil ?_ | refine wM ?_ | refine wN ?_ | refine wD ?_ | refine wL ?_)
 refine wo_call (.cons rfl (.cons rfl (.cons rfl .nil))) trivial (ask_lone (fails:=2) (wait:=10) (by omega) (by omega) (by omega) (now:=15) (by omega) t2S (.there (.there .here))) ?_
 rintro v' L' x' ⟨t3,rfl,t3S,rfl,rfl⟩
 replace t3S:BS t3 1 2 6:=t3S
 refine wo_star (arr p 0 [.pointer (some ⟨g,0,none⟩),.pointer (some ⟨b,0,none⟩),.int .u64 (2:Nat),.int .u64 (2:Nat),.int .u64 (10:Nat)]::gC g 2 s2::bC b 2 10 t3::L) (fun h st=>Ent.star (.take (.there .here) (.take (.there .here) .refl)) st) ?_
 repeat (first | refine we_seq ?_ | (refine wR ?_;try simp only [oS]) | refine wo_nil ?_ | refine wM ?_ | refine wA ?_ | refine wN ?_ | refine wD ?_ | (apply wo_po;apply mo_extract;exact rfl;exact rfl;exact gY) | refine wL ?_)
 refine wo_call (.cons rfl (.cons rfl (.cons rfl .nil))) trivial (ask_lone (fails:=2) (wait:=10) (by omega) (by omega) (by omega) (now:=16) (by omega) t3S (.there (.there .here))) ?_
 rintro v' L' x' ⟨t4,rfl,t4S,rfl,rfl⟩
 replace t4S:BS t4 2 2 16:=t4S
 refine wo_star (arr p 0 [.pointer (some ⟨g,0,none⟩),.pointer (some ⟨b,0,none⟩),.int .u64 (2:Nat),.int .u64 (2:Nat),.int .u64 (10:Nat)]::gC g 2 s2::bC b 2 10 t4::L) (fun h st=>Ent.star (.take (.there .here) (.take (.there .here) .refl)) st) ?_
 repeat (first | refine we_seq ?_ | (refine wR ?_;try simp only [oS]) | refine wo_nil ?_ | refine wM ?_ | refine wA ?_ | refine wN ?_ | refine wD ?_ | (apply wo_po;apply mo_extract;exact rfl;exact rfl;exact gY) | refine wL ?_)
 refine wo_call (.cons rfl (.cons rfl (.cons rfl .nil))) trivial (ask_lone (fails:=2) (wait:=10) (by omega) (by omega) (by omega) (now:=17) (by omega) t4S (.there (.there .here))) ?_
 rintro v' L' x' ⟨t5,rfl,t5S,rfl,rfl⟩
 replace t5S:BS t5 2 2 16:=t5S
 refine wo_star (arr p 0 [.pointer (some ⟨g,0,none⟩),.pointer (some ⟨b,0,none⟩),.int .u64 (2:Nat),.int .u64 (2:Nat),.int .u64 (10:Nat)]::gC g 2 s2::bC b 2 10 t5::L) (fun h st=>Ent.star (.take (.there .here) (.take (.there .here) .refl)) st) ?_
 repeat (first | refine we_seq ?_ | (refine wR ?_;try simp only [oS]) | refine wo_nil ?_ | refine wM ?_ | refine wA ?_ | refine wN ?_ | refine wD ?_ | (apply wo_po;apply mo_extract;exact rfl;exact rfl;exact gY) | refine wL ?_)
 refine wo_call (.cons rfl (.cons rfl .nil)) trivial (bget_lone (fails:=2) (wait:=10) (by omega) (by omega) (by omega) t5S (.there (.there .here))) ?_
 rintro v' L' x' ⟨rfl,rfl,rfl⟩
 repeat (first | refine weqlT ?_ | refine we_seq ?_ | (refine wR ?_;try simp only [oS]) | refine wo_nil ?_ | refine wM ?_ | refine wA ?_ | refine wK ?_ | (apply wo_po;apply mo_extract;exact rfl;exact rfl;exact gY) | (apply wo_po;apply mo_not;exact rfl;exact gY) | refine we_ret ?_)
 (first | refine or1 Try.func11 Try.results11 hQ rfl ?_ | refine on1 Try.func11 Try.results11 hQ rfl ?_)
 exact ⟨rfl,rfl,fun h st=>Ent.star (.drop (.drop (.drop .refl))) st⟩
end
end
end Go.Proofs.Ytnnpdmhmpgmpnaa
namespace Go.Proofs.Ytnnpdmhmpgmpnaa
open Go Go.PB
attribute [local irreducible] Mo Bin Eql Tr Wo Ap Wle
attribute [local instance] Pass.of_no
section
theorem mo_sliceHdB {P:Program} {e:Env} {ty:TypeId} {L:List HProp} {t el sz n c u:Nat} {a:Option Addr} {k:IntKind} {j:Int} {o hi:Operand} [p:SlT P t el] [s:Siz P el sz] (hx:ev e o=some (.slice a n c)) (hh:ev e hi=some (.int k j)) (hj:j=(u:Nat)) (hu:u≤c) :
  Mo P e (.slice t o none (some hi) none) ty L fun v' L'=>v'=.slice a u c∧L'=L:=by
 have h:=mo_slice (P:=P) (e:=e) (ty:=ty) (L:=L) (t:=t) (l:=0) (u:=u) hx .no (.yes hh hj) (Nat.zero_le _) hu
 have e1:(if c=0 then a else a.map (·.add (0*sz)))=a:=by
  split
  ·rfl
  ·cases a with
   | none=>rfl
   | some y=>simp [Addr.add]
 rw [e1] at h
 exact h
theorem rd_liftB {L:List HProp}:∀ (M:List HProp) {b o:Nat} {v:Value},Rd L b o v→Rd (M++L) b o v
 | [],b,o,v,h=>h
 | c::M,b,o,v,h=>.there (rd_liftB M h)
theorem rdso_liftB {L:List HProp} (M:List HProp) {a:Option Addr} {n:Nat} {vs:List Value} (h:RdsO L a n vs):RdsO (M++L) a n vs :=
 ⟨h.1,h.2.imp id fun ⟨b,o,e,r⟩=>⟨b,o,e,fun i v hi=>rd_liftB M (r i v hi)⟩⟩
abbrev RWB:=Option Addr × Nat × List Bool
def rvB (y:RWB):Value:=.slice y.1 y.2.2.length y.2.1
def ThsB (L:List HProp) (a:Option Addr) (rs:List RWB):Prop:=∀ (i:Nat) y,rs[i]?=some y→∃ b o,a=some ⟨b,o,none⟩∧Rd L b (o+i) (rvB y)∧RdsO L y.1 y.2.2.length (y.2.2.map .bool)∧y.2.2.length≤y.2.1
theorem thsb_lift {L:List HProp} (M:List HProp) {a:Option Addr} {rs:List RWB} (h:ThsB L a rs):ThsB (M++L) a rs:=fun i y hy=>by
 obtain ⟨b,o,e,h1,h2,h3⟩:=h i y hy
 exact ⟨b,o,e,rd_liftB M h1,rdso_liftB M h2,h3⟩
theorem rdso_take {L:List HProp} {a:Option Addr} {l:List Bool} {n:Nat} (h:RdsO L a l.length (l.map .bool)):RdsO L a (l.take n).length ((l.take n).map .bool):=by
 refine ⟨by simp,?_⟩
 rcases h.2 with h0 | ⟨b,o,e,r⟩
 ·left;rw [List.length_take];omega
 ·right
  refine ⟨b,o,e,fun i v hi=>r i v ?_⟩
  rw [List.getElem?_map,List.getElem?_take] at hi
  split at hi
  ·rw [List.getElem?_map];exact hi
  ·cases hi
theorem sumN_take {α:Type} {φ:α→Nat} {l:List α} {i:Nat} {q:α} (h:l[i]?=some q):sumN ((l.take (i+1)).map φ)=sumN ((l.take i).map φ)+φ q:=by
 rw [List.take_add_one,h]
 simp only [Option.toList_some,List.map_append,List.map_cons,List.map_nil]
 generalize (l.take i).map φ=m
 induction m with
 | nil=>simp [sumN]
 | cons a m ih=>simp only [sumN,List.cons_append,List.foldr_cons] at ih ⊢;omega
theorem sumN_take_le {α:Type} {φ:α→Nat}:∀ {l:List α} {i:Nat},sumN ((l.take i).map φ)≤sumN (l.map φ)
 | [],_=>by simp [sumN]
 | _::_,0=>by simp [sumN]
 | a::l,i+1=>by
  have:=sumN_take_le (φ:=φ) (l:=l) (i:=i)
  simp only [List.take_succ_cons,List.map_cons,sumN,List.foldr_cons] at this ⊢;omega
section
variable {B:Hand} [Lets B] {x:B.X} {L:List HProp}
def stInv (x:B.X) (a:Option Addr) (c w limit:Nat) (qs:List (Nat × Nat)) (L:List HProp):PB.Inv Nat B.X where
 e:=fun i=>[(0,.slice a qs.length c),(1,.int .u64 (w:Nat)),(2,.int .u64 (limit:Nat)),(7,.int .i64 (sumN ((qs.take i).map (·.2)):Nat)),(8,.int .i64 (i:Nat))]
 L:=fun _=>L
 x:=fun _=>x
 ok:=fun i=>i≤qs.length
theorem settled_tr {a:Option Addr} {c w limit n:Nat} {qs:List (Nat × Nat)} (hn:qs.length=n) (h4:n≤16) (hb:∀ k q,qs[k]?=some q→∃ b o,a=some ⟨b,o,none⟩∧Rd L b (o+k) (.pointer (some ⟨q.1,0,none⟩))∧Rd L q.1 0 (.int .i64 (q.2:Nat))∧Rd L q.1 (0+1) (.bool false)) (hs:sumN (qs.map (·.2))=w) (hw:w≤limit) (hl:limit≤100) :
  Tr Try.prog B 27 [.slice a n c,.int .u64 (w:Nat),.int .u64 (limit:Nat)] L x fun v L' x'=>v=.bool true∧L'=L∧x'=x:=by
 subst hn
 refine tr_of_body Try.func27 rfl Try.ntmps27 (by simp) fun um Q _ hQ=>?_
 simp only [argE,Nat.zero_add,Nat.reduceAdd]
 repeat (first | refine we_seq ?_ | (refine wR ?_;try simp only [oS]) | refine wo_nil ?_ | refine wA ?_ | refine we_block ?_)
 refine we_loopN (stInv x a c w limit qs L) (fun i=>qs.length-i) 0 (Nat.zero_le _) ⟨rfl,rfl,rfl,rfl,rfl,trivial⟩ .refl rfl ?_
 intro i hi
 replace hi:i≤qs.length:=hi
 simp only [stInv]
 by_cases hlt:i<qs.length
 ·obtain ⟨q,hq⟩:∃ q,qs[i]?=some q:=⟨qs[i],List.getElem?_eq_getElem hlt⟩
  obtain ⟨b,o,rfl,r1,r2,r3⟩:=hb i q hq
  have e1:=sumN_take (φ:=fun q:Nat × Nat=>q.2) hq
  have e2:=sumN_take_le (φ:=fun q:Nat × Nat=>q.2) (l:=qs) (i:=i+1)
  obtain ⟨n0,hn0⟩:∃ n,sumN ((qs.take i).map (·.2))=n:=⟨_,rfl⟩
  obtain ⟨n1,hn1⟩:∃ n,sumN ((qs.take (i+1)).map (·.2))=n:=⟨_,rfl⟩
  rw [hn0,hn1] at e1
  rw [hn1,hs] at e2
  obtain ⟨qb,qn⟩:=q
  simp only at e1 r1 r2 r3
  rw [hn0]
  have hadd:IntKind.i64.wrap ((n0:Int)+(qn:Nat))=((n1:Nat):Int):=(wrap_i64 (by omega) (by omega)).trans (by omega)
  repeat (first | (apply wo_po;apply mo_index1;exact rfl;exact rfl;omega;exact trivial) | (apply wo_po;apply mo_load;exact rfl;(first | exact r1 | exact r2 | exact r3);exact trivial) | (apply wo_po;apply mo_bin;exact rfl;exact rfl;apply bin_add;exact hadd;exact trivial) | refine wlssT ?_ | refine we_seq ?_ | (refine wR ?_;try simp only [oS]) | refine wo_nil ?_ | refine wM ?_ | refine wA ?_ | refine wN ?_ | refine wD ?_ | refine wadd ?_ | refine wE ?_ | refine wT ?_ | refine wF ?_ | refine we_skip ?_ | refine we_block ?_)
  refine at_round (B:=B) (I:=stInv x (some ⟨b,o,none⟩) c w limit qs L) (R:=fun j=>qs.length-j<qs.length-i) (i+1) (by show qs.length-(i+1)<qs.length-i;omega) (by show i+1≤qs.length;omega) ?_ .refl rfl
  refine ⟨rfl,rfl,rfl,?_,rfl,trivial⟩
  show _=some (Value.int .i64 ((sumN ((qs.take (i+1)).map (·.2)):Nat):Int))
  rw [hn1];rfl
 ·obtain rfl:i=qs.length:=by omega
  rw [List.take_length,hs]
  repeat (first | refine wlssF ?_ | refine wleqT ?_ | refine weqlT ?_ | refine we_seq ?_ | (refine wR ?_;try simp only [oS]) | refine wo_nil ?_ | refine wM ?_ | refine wA ?_ | refine wK ?_ | refine wE ?_ | (apply wo_po;apply mo_conv;exact rfl;(first | exact wrap_i64 (by omega) (by omega) | exact wrap_u64 (by omega) (by omega));exact gY) | refine wF ?_ | refine we_ret ?_ | refine we_exit ?_)
  (first | refine or1 Try.func27 Try.results27 hQ rfl ?_ | refine on1 Try.func27 Try.results27 hQ rfl ?_)
  exact ⟨rfl,rfl,rfl⟩
end
def boxesN (ts:List Nat):List HProp:=ts.mapIdx fun i b=>arr b 0 [.int .i64 (i:Nat)]
theorem boxesN_snoc {ts:List Nat} {t:Nat}:boxesN (ts++[t])=boxesN ts++[arr t 0 [.int .i64 (ts.length:Nat)]]:=by
 unfold boxesN
 rw [List.mapIdx_append]
 simp
def mthB (RoS:HProp) (i:Nat) (t:Nat × Nat):HProp:=all [all [RoS,arr t.1 0 [.int .i64 (i:Nat)]],bkC t.2 0 false]
def bksC (ts:List (Nat × Nat)):List HProp:=ts.map fun t=>bkC t.2 0 false
theorem dealB {RoS:HProp} (hd:Dup RoS) {ts:List (Nat × Nat)} {L:List HProp} {h:Hp} (s:Star (RoS::all (boxesN (ts.map (·.1)))::all (bksC ts)::L) h):Star (all (ts.mapIdx (mthB RoS))::RoS::L) h:=by
 have s1:=dup_many hd s ts.length
 have s2:Star (all (List.replicate ts.length RoS)::all (boxesN (ts.map (·.1)))::all (bksC ts)::RoS::L) h:=Ent.star (.take .here (.take (.there .here) (.take (.there .here) (.take .here .refl)))) s1
 have s3:=star_zip (by simp [boxesN]) s2
 have s4:=star_zip (by simp [boxesN,bksC]) s3
 have e:List.zipWith (fun a b=>all [a,b]) (List.zipWith (fun a b=>all [a,b]) (List.replicate ts.length RoS) (boxesN (ts.map (·.1)))) (bksC ts)=ts.mapIdx (mthB RoS):=by
  apply List.ext_getElem?
  intro i
  by_cases hi:i<ts.length
  ·simp [boxesN,bksC,mthB,hi,List.getElem?_zipWith]
  ·have h1:(ts.mapIdx (mthB RoS))[i]?=none:=List.getElem?_eq_none_iff.2 (by simp;omega)
   rw [h1]
   apply List.getElem?_eq_none_iff.2
   simp [boxesN,bksC];omega
 rw [e] at s4
 exact s4
def bkRow (ts:List (Nat × Nat)) (n:Nat):List Value:=(ts.map fun t=>Value.pointer (some ⟨t.2,0,none⟩))++List.replicate (n-ts.length) (.pointer none)
theorem bkRow_len {ts:List (Nat × Nat)} {n:Nat} (h:ts.length≤n):(bkRow ts n).length=n:=by simp [bkRow];omega
theorem bkRow_set {ts:List (Nat × Nat)} {n:Nat} {t:Nat × Nat} (h:ts.length<n):(bkRow ts n).set ts.length (.pointer (some ⟨t.2,0,none⟩))=bkRow (ts++[t]) n:=by
 unfold bkRow
 rw [List.set_append_right _ _ (by simp)]
 obtain ⟨m,hm⟩:∃ m,n-ts.length=m+1:=⟨n-ts.length-1,by omega⟩
 rw [hm,List.replicate_succ]
 simp only [List.length_map,Nat.sub_self,List.set_cons_zero,List.map_append,List.map_cons,List.map_nil,List.append_assoc,List.singleton_append,List.length_append,List.length_cons,List.length_nil]
 rw [show n-(ts.length+(0+1))=m by omega]
theorem bkRow_full {ts:List (Nat × Nat)} {n:Nat} (h:ts.length=n):bkRow ts n=ts.map fun t=>Value.pointer (some ⟨t.2,0,none⟩):=by
 unfold bkRow;rw [h,Nat.sub_self];simp
theorem dup_cons {c:HProp} {M:List HProp} (hc:Dup c) (hM:Dup (all M)):Dup (all (c::M)):=fun L h s=>by
 have s1:=hc _ _ (all_cons s)
 have s2:Star (all M::c::c::L) h:=Ent.star (.take (.there (.there .here)) (.take .here (.take .here .refl))) s1
 have s3:=hM _ _ s2
 have s4:Star (c::all M::c::all M::L) h:=Ent.star (.take (.there (.there .here)) (.take .here (.take (.there .here) (.take .here .refl)))) s3
 exact cons_all (star_map s4 (fun _ z=>z) fun _ z=>star_map z (fun _ z=>z) fun _ z=>cons_all z)
theorem bksC_snoc {ts:List (Nat × Nat)} {t:Nat × Nat}:bksC (ts++[t])=bksC ts++[bkC t.2 0 false]:=by simp [bksC]
theorem vec_rowB {b o n c:Nat} {cs:List Value}:∀ h,vec 1 (.slice (some ⟨b,o,none⟩) n c) cs h→∃ sp,arr b o (cs++sp) h:=fun h z=>by
 rcases z with ⟨e,_⟩ | ⟨b',o',n',c',sp,e,h1,h2,h3,h4⟩
 ·cases e
 ·cases e;exact ⟨sp,h4⟩
def rowB (rs:List RWB) (i:Nat):List Bool:=match rs[i]? with | some y=>y.2.2 | none=>[]
section
variable {cb limit r c8 b8 p8 l8 bb pp b qb qo qc:Nat} {rs:List RWB} {sp:List Value} {D:HProp} {L:List HProp} {ts:List (Nat × Nat)}
theorem sumN_leB {l:List Nat} {c:Nat} (h:∀ a∈l,a≤c):sumN l≤c*l.length:=by
 induction l with
 | nil=>simp [sumN]
 | cons a l ih =>
  have h1:=ih fun b hb=>h b (by simp [hb])
  have h2:=h a (by simp)
  simp only [sumN,List.foldr_cons,List.length_cons,Nat.mul_add] at h1 ⊢;omega
theorem sumN_zero {α:Type} {φ:α→Nat} {l:List α} (h:∀ a∈l,φ a=0):sumN (l.map φ)=0:=by
 have:=sumN_leB (c:=0) (l:=l.map φ) fun a ha=>by
  obtain ⟨x,hx,rfl⟩:=List.mem_map.1 ha
  rw [h x hx];exact Nat.le_refl _
 omega
end
end
end Go.Proofs.Ytnnpdmhmpgmpnaa
namespace Go.PB
open Go.Conc
section
section
variable {P:Program} {b o:Nat}
theorem atom_load {f:Nat} [x:Exn P f (Extern.Atomic.loadT (.int .u64))] {n:Int}:Atom1 P (callFunc f [Value.pointer (some ⟨b,o,none⟩)].toArray) b o (.int .u64 n) (.int .u64 n) none:=by
 obtain ⟨g,h⟩:=looks_load (P:=P) (f:=f) (a:=⟨b,o,none⟩)
 refine ⟨_,fun e he=>?_,fun w hc _=>h w n hc⟩
 simp at he
 rcases he with rfl | rfl
 ·exact .inl ⟨_,rfl⟩
 ·exact .inr ⟨_,rfl⟩
theorem atom_add {f:Nat} [x:Exn P f (Extern.Atomic.update (Op.intArith .add) .u64 true)] {n d:Int}:Atom1 P (callFunc f [Value.pointer (some ⟨b,o,none⟩),.int .u64 d].toArray) b o (.int .u64 n) (.int .u64 (IntKind.u64.wrap (n+d))) (some (.int .u64 (IntKind.u64.wrap (n+d)))):=by
 obtain ⟨g,h⟩:=adds_add (P:=P) (f:=f) (a:=⟨b,o,none⟩) (d:=d)
 refine ⟨_,fun e he=>?_,fun w hc hf=>h w n hc hf⟩
 simp at he
 rcases he with rfl | rfl | rfl
 ·exact .inl ⟨_,rfl⟩
 ·exact .inr ⟨_,rfl⟩
 ·exact .inr ⟨_,rfl⟩
theorem atom_cas {f:Nat} [x:Exn P f (Extern.Atomic.casT (.int .u64))] {n m y:Int}:Atom1 P (callFunc f [Value.pointer (some ⟨b,o,none⟩),.int .u64 m,.int .u64 y].toArray) b o (.int .u64 n) (.bool (decide (n=m))) (if n=m then some (.int .u64 y) else none):=by
 obtain ⟨g,h⟩:=swaps_cas (P:=P) (f:=f) (a:=⟨b,o,none⟩) (old:=m) (new:=y)
 by_cases hn:n=m
 ·rw [if_pos hn,decide_eq_true hn]
  refine ⟨_,fun e he=>?_,fun w hc hf=>(h w n hc hf).1 hn⟩
  simp at he
  rcases he with rfl | rfl | rfl
  ·exact .inl ⟨_,rfl⟩
  ·exact .inr ⟨_,rfl⟩
  ·exact .inr ⟨_,rfl⟩
 ·rw [if_neg hn,decide_eq_false hn]
  refine ⟨_,fun e he=>?_,fun w hc hf=>(h w n hc hf).2 hn⟩
  simp at he
  rcases he with rfl | rfl
  ·exact .inl ⟨_,rfl⟩
  ·exact .inr ⟨_,rfl⟩
theorem atom_store {f:Nat} [x:Exn P f Extern.Atomic.storeT] {n y:Int}:Atom1 P (callFunc f [Value.pointer (some ⟨b,o,none⟩),.int .u64 y].toArray) b o (.int .u64 n) unit (some (.int .u64 y)):=by
 refine ⟨#[⟨.mark (.extern f),false,true⟩,⟨.cell ⟨b,o,none⟩,true,true⟩],fun e he=>?_,fun w hc hf=>ext_runT (v:=unit) ?_⟩
 ·simp at he
  rcases he with rfl | rfl
  ·exact .inl ⟨_,rfl⟩
  ·exact .inr ⟨_,rfl⟩
 ·show (Sem.bind (store ⟨b,o,none⟩ (.int .u64 y) .atomic) fun _=>(pure unit:Sem Value)).runT P w _=_
  rw [store_runT hc hf rfl]
  rfl
end
theorem wo_atom {P:Program} {cv:Value} {kd:CallKind} {n:Nat} {K:Post (fHand P cv)} {e:Env} {z:Z} {L:List HProp} {l:List OpG} {d:Option Nat} {ty:TypeId} {gd:Option (Nat × Bool)} {op:Op}
  {g:Game} {s1 s2 s3 wg m:Nat} {q:g.θ} {mk:Int × Int} {F:g.σ→g.σ × g.θ} {Rv:g.σ→Value→Prop} (hpl:g.plan q=some (mk,F)) (hg:gYes e gd) (hk:kd≠.early)
  (ha:∀ t,Agree e t→∀ st r,g.ok st→g.U st r→∃ b o old v new,r.own b o=some old∧Atom1 P (execOp (evT t) (opOf op ty)) b o old v new∧g.U (F st).1 (r.lay b o new)∧Rv st v)
  (k:∀ st v m',m=m'+1→g.ok st→Rv st v→Wo P (fHand P cv) kd n l K (setE d v e) z L (⟨g,s1,s2,s3,wg,.free (F st).2 m'⟩:TX)) :
  Wo P (fHand P cv) kd n (⟨d,op,ty,gd⟩::l) K e z L (⟨g,s1,s2,s3,wg,.free q m⟩:TX) :=
 wo_act (R:=fun v L' x'=>∃ st m',m=m'+1∧g.ok st∧Rv st v∧L'=L∧x'=(⟨g,s1,s2,s3,wg,.free (F st).2 m'⟩:TX)) hg hk
  (fun t h O a s qq=>⟨q,m,mk,F,rfl,hpl,fun n' st r e1 h1 h2=>by
   obtain ⟨b,o,old,v,new,c1,c2,c3,c4⟩:=ha t a st r h1 h2
   exact ⟨b,o,old,v,new,c1,c2,c3,qq v L _ h ⟨st,n',e1,h1,c4,rfl,rfl⟩ s⟩⟩)
  (by rintro v L' x' ⟨st,m',h1,h2,h3,rfl,rfl⟩;exact k st v m' h1 h2 h3)
end
end Go.PB
namespace Go.Proofs.Ytnnpdmhmpgmpnaa
open Go Go.PB
attribute [local irreducible] Mo Bin Eql Tr Wo Ap Wle
attribute [local instance] Pass.of_no
section
abbrev fH:Hand:=fHand Try.prog cvT
structure ThrT (g:Game) where
 fv:Value
 q0:g.θ
 M:HProp
structure ThrF (g:Game) (N:Nat) (t:ThrT g):Prop where
 run:∃ f first cap,callee? t.fv=some (f,first,cap)∧Ent' Try.prog f∧∀ wg F,Tr Try.prog fH f (first++[.nilIface]++cap) (t.M::F) (tx g 0 0 0 wg (.free t.q0 N)) fun v L' x' =>
  ∃ q' n',x'=tx g 0 0 0 wg (.free q' n')∧g.plan q'=none∧∀ h,Star L' h→Star (g.Fin q'::F) h
section
variable {g:Game}
theorem goesF_tr {N wg tb:Nat} {t:ThrT g} (TO:ThrF g N t) (hfin:∀ q h,g.Pv q h→g.Fin q h) {hc:Hp} (hs:Star [t.M,arr tb 0 [t.fv]] hc) :
  Nonempty (Run Try.prog tH false (tEnd Try.prog 58) (goFr Try.prog { target:=.fn (.func 57) [.pointer (some ⟨wg,0,none⟩),.pointer (some ⟨tb,0,none⟩)].toArray,args:=#[] }) [] hc (tx g 0 0 0 wg (.free t.q0 N))):=by
 obtain ⟨f,first,cap,hcal,en,tr⟩:=TO.run
 have e1:Enterable Try.prog 57:=(inferInstance:Ent' Try.prog 57).ok
 have e3:Enterable Try.prog 58:=(inferInstance:Ent' Try.prog 58).ok
 refine go_runF Try.func57 rfl Try.ntmps57 (by simp) Try.results57 e1 e3 rfl hfin hs ?_
 simp only [argE,Nat.zero_add,Nat.reduceAdd]
 repeat (first | refine we_seq ?_ | (refine wR ?_;try simp only [oS]))
 refine wo_defer (first:=[]) (cap:=[]) (args:=[_]) (vs:=[.pointer (some ⟨wg,0,none⟩)]) rfl (.cons rfl .nil) trivial ?_
 repeat (first | (apply wo_po;apply mo_load;exact rfl;exact .there (Rd.row (k:=0) rfl rfl);exact trivial) | (refine wR ?_;try simp only [oS]) | refine wo_nil ?_)
 refine wo_callv (args:=[_]) rfl hcal (.cons rfl .nil) trivial (tr wg _) ?_
 rintro v L' x' ⟨q',n',rfl,hp,hL⟩
 refine wo_star _ hL ?_
 repeat (first | refine wo_nil ?_)
 exact fun t h _ _ st=>⟨rfl,q',⟨hp,n',rfl⟩,star_map st (fun _ a=>a) (fun _ _=>trivial)⟩
abbrev fx (g:Game) (fd:FreeD g) (wg:Nat) (s:g.σ) (ad nf:Nat):MX:=.game ⟨g,wg,[],some s,0,ad,false,.play,some fd,nf⟩
def freeInv (fd:FreeD g) (ts:List (ThrT g)) (s0:g.σ) (wg:Nat) (tv:Value) (F:List HProp):PB.Inv Nat MX where
 e:=fun i=>[(4,.pointer (some ⟨wg,0,none⟩)),(12,tv),(13,.int .i64 (ts.length:Nat)),(14,.int .i64 (i:Nat))]
 L:=fun i=>all ((ts.drop i).map ThrT.M)::F
 x:=fun i=>fx g fd wg s0 i i
 ok:=fun i=>i≤ts.length
theorem free_tr {fd:FreeD g} {ts:List (ThrT g)} {s0:g.σ} {F:List HProp} {ta:Option Addr} {tn tc:Nat} (hcut:∀ r,g.U s0 r→g.U s0 { r with obj:=fun _=>none }) (hq:fd.q0=ts.map ThrT.q0) (hI:fd.I s0 fd.q0) (hφ:fd.φ s0 fd.q0≤fd.N) (hfin:∀ q h,g.Pv q h→g.Fin q h)
  (hts:∀ t∈ts,ThrF g fd.N t) (h1:0<ts.length) (h16:ts.length≤16) (hrt:RdsO F ta tn (ts.map ThrT.fv)) :
  Tr Try.prog mT 26 [.slice ta tn tc] (g.U s0::all (ts.map ThrT.M)::F) .idle fun v L' x' =>
   ∃ s qs,fd.I s qs∧(∀ q∈qs,g.plan q=none)∧qs.length=ts.length∧v=.int .i64 0∧x'=.idle∧L'=g.U s::all (qs.map g.Fin)::F:=by
 refine Tr.post (R:=fun v L' x'=>∃ s qs,fd.I s qs∧(∀ q∈qs,g.plan q=none)∧qs.length=ts.length∧v=.int .i64 0∧x'=MX.idle∧∀ h,Star L' h→Star (g.U s::all (qs.map g.Fin)::F) h) ?_
  (by rintro v L' x' ⟨s,qs,a1,a2,a3,rfl,rfl,h2⟩;exact ⟨_,⟨s,qs,a1,a2,a3,rfl,rfl,rfl⟩,h2⟩)
 have hfn:∀ v∈ts.map ThrT.fv,isFn v:=by
  intro v hv
  obtain ⟨t,ht,rfl⟩:=List.mem_map.1 hv
  obtain ⟨f,first,cap,hc,_⟩:=(hts t ht).run
  revert hc
  cases t.fv with
  | func a b c=>exact fun _=>⟨a,b,c,rfl⟩
  | _=>intro hc;cases hc
 have htn:tn=ts.length:=by have:=hrt.1;simpa using this
 subst htn
 refine tr_of_body Try.func26 rfl Try.ntmps26 (by simp) fun um Q _ hQ=>?_
 simp only [argE,Nat.zero_add,Nat.reduceAdd]
 repeat (first | refine we_seq ?_ | (refine wR ?_;try simp only [oS]) | refine wo_nil ?_ | refine wM ?_ | refine wA ?_)
 refine wo_call (.cons rfl .nil) trivial (wrong_tr (fun v hv=>.inr (hfn v hv)) hrt.there.there (by omega)) ?_
 rintro v' L' x' ⟨⟨k,rfl,hk⟩,rfl,rfl⟩
 obtain rfl:k=0:=by
  rcases hk with ⟨_,h⟩ | ⟨_,h⟩
  ·obtain ⟨_,_,_,h⟩:=hfn _ h;cases h
  ·rw [h,List.length_map,if_neg (by omega),if_neg (by omega)]
 repeat (first | (apply wo_mo;apply mo_allocS;exact trivial) | refine wneqF ?_ | refine we_seq ?_ | (refine wR ?_;try simp only [oS]) | refine wo_nil ?_ | refine wM ?_ | refine wA ?_ | refine wF ?_ | refine we_skip ?_)
 rintro v' L' ⟨wg,rfl,rfl⟩
 refine wo_beginF g fd s0 (wg:=wg) (R:=all (ts.map ThrT.M)::F) hcut hI hφ (fun h st=>Ent.star (.take (.there (.there .here)) (.take .here (.take .here .refl))) st) ?_
 repeat (first | refine we_seq ?_ | (refine wR ?_;try simp only [oS]) | refine wo_nil ?_ | refine wM ?_ | refine wE ?_ | refine we_block ?_)
 refine we_loopN (freeInv fd ts s0 wg (.slice ta ts.length tc) (shpC wg 144 2::F)) (fun i=>ts.length-i) 0 (Nat.zero_le _) ⟨rfl,rfl,rfl,rfl,trivial⟩ (.take (.there .here) (.take .here .refl)) rfl ?_
 intro j hj
 replace hj:j≤ts.length:=hj
 simp only [freeInv]
 by_cases hlt:j<ts.length
 ·obtain ⟨tb,to,rfl,hrd⟩:=hrt.rds (by omega)
  have ht:ts[j]?=some ts[j]:=List.getElem?_eq_getElem hlt
  have hrj:=hrd j (ts[j].fv) (by simp [ht])
  have hTO:=hts _ (List.getElem_mem hlt)
  have hdrop:ts.drop j=ts[j]::ts.drop (j+1):=List.drop_eq_getElem_cons hlt
  obtain ⟨fa,fb,fc,hfe⟩:=hfn ts[j].fv (List.mem_map.2 ⟨_,List.getElem_mem hlt,rfl⟩)
  rw [hfe] at hrj
  rw [hdrop]
  refine we_star (ts[j].M::all ((ts.drop (j+1)).map ThrT.M)::shpC wg 144 2::F) (fun h st=>star_head st) ?_
  repeat (first | (apply wo_po;apply mo_index1;exact rfl;exact rfl;omega;exact gY) | (apply wo_po;apply mo_load;exact rfl;exact .there (.there (.there hrj));exact trivial) | (apply wo_mo;apply mo_alloc;exact trivial) | refine wlssT ?_ | refine we_seq ?_ | (refine wR ?_;try simp only [oS]) | refine wo_nil ?_ | refine wT ?_ | refine we_skip ?_ | refine we_block ?_)
  rintro v' L' ⟨tb',rfl,rfl⟩
  repeat (first | refine wS ?_ | refine we_seq ?_ | (refine wR ?_;try simp only [oS]) | refine wo_nil ?_)
  refine wo_call (.cons rfl (.cons rfl .nil)) trivial (wgAdd_tr (X:=⟨g,wg,[],some s0,0,j,false,.play,some fd,j⟩) rfl (by show j<1000;omega) (by show j=0+j;omega) rfl rfl (fun h st=>shp_of (.there (.there (.there .here))) st)) ?_
  rintro v1 L1 x1 ⟨rfl,rfl,rfl⟩
  repeat (first | (apply wo_po;apply mo_makeFunc (first:=[]) (cap:=[_,_]) (vf:=[]);exact .nil;exact .cons rfl (.cons rfl .nil);exact trivial) | (refine wR ?_;try simp only [oS]) | refine wo_nil ?_)
  refine wo_startF (X:=⟨g,wg,[],some s0,0,j+1,false,.play,some fd,j⟩) (fd:=fd) (q0:=ts[j].q0) (M:=[ts[j].M,arr tb' 0 [.func fa fb fc]]) (R:=all ((ts.drop (j+1)).map ThrT.M)::shpC wg 144 2::F) (cap:=[_,_]) rfl trivial rfl rfl rfl (by show j+1=0+j+1;omega) (by show fd.q0[j]?=_;rw [hq];simp [ht]) (fun h st=>star_shut (M:=[_,_]) (Ent.star (.take (.there .here) (.take .here (.take .here (.take .here .refl)))) st)) (fun hc st=>goesF_tr (t:=ts[j]) hTO hfin (by rw [hfe];exact st)) ?_
  repeat (first | (refine wR ?_;try simp only [oS]) | refine wo_nil ?_ | refine wM ?_ | refine wadd ?_)
  refine at_round (B:=mT) (I:=freeInv fd ts s0 wg (.slice (some ⟨tb,to,none⟩) ts.length tc) (shpC wg 144 2::F)) (R:=fun i'=>ts.length-i'<ts.length-j) (j+1) (by show ts.length-(j+1)<ts.length-j;omega) (show j+1≤ts.length by omega) ?_ .refl rfl
  exact ⟨rfl,rfl,rfl,rfl,trivial⟩
 ·obtain rfl:j=ts.length:=by omega
  repeat (first | refine wlssF ?_ | refine we_seq ?_ | (refine wR ?_;try simp only [oS]) | refine wo_nil ?_ | refine wF ?_ | refine we_exit ?_)
  refine wo_call (.cons rfl .nil) trivial (wgWait_tr (X:=⟨g,wg,[],some s0,0,ts.length,false,.play,some fd,ts.length⟩) rfl (by show ts.length<1000;omega) (by show ts.length=0+ts.length;omega) (fun s hs=>by cases hs) (fun d hd=>by cases hd;show ts.length=fd.q0.length;rw [hq,List.length_map]) rfl (fun h st=>shp_of (.there .here) st)) ?_
  rintro v' L' x' ⟨rfl,rfl,rfl⟩
  refine wo_star ((fun r=>∃ a:{ p:g.σ × List g.θ // fd.I p.1 p.2∧(∀ q∈p.2,g.plan q=none)∧p.2.length=fd.q0.length },all (g.U a.1.1::a.1.2.map g.Fin) r)::all ((ts.drop ts.length).map ThrT.M)::shpC wg 144 2::F) (fun h st=>star_map st (fun r hr=>?_) fun _ a=>a) ?_
  ·obtain ⟨s,qs,b1,b2,b3,b4⟩:=hr
   exact ⟨⟨(s,qs),b1,b2,b3⟩,b4⟩
  refine wo_ex .here ?_
  rintro ⟨⟨s,qs⟩,b1,b2,b3⟩
  repeat (first | refine we_seq ?_ | (refine wR ?_;try simp only [oS]) | refine wo_nil ?_ | refine wA ?_ | refine we_ret ?_)
  (first | refine or1 Try.func26 Try.results26 hQ rfl ?_ | refine on1 Try.func26 Try.results26 hQ rfl ?_)
  refine ⟨s,qs,b1,b2,by rw [b3,hq,List.length_map],rfl,rfl,fun h st=>?_⟩
  exact Ent.star (.take .here (.take .here (.drop (.drop .refl)))) (star_head st)
end
end
end Go.Proofs.Ytnnpdmhmpgmpnaa
namespace Go.PB
open Go.Conc
section
variable {P:Program} {cv:Value} {kd:CallKind} {n:Nat} {K:Post (fHand P cv)} {e:Env} {z:Z} {L:List HProp} {l:List OpG} {d:Option Nat} {ty:TypeId} {gd:Option (Nat × Bool)} {tys:Array TypeId}
 {g:Game} {s1 s2 s3 wg m:Nat} {q:g.θ} {mk:Int × Int} {F:g.σ→g.σ × g.θ} {b o:Nat}
theorem wo_loadF {f:Nat} [x:Exn P f (Extern.Atomic.loadT (.int .u64))] {o1:Operand} (Rv:g.σ→Int→Prop) (hx:ev e o1=some (.pointer (some ⟨b,o,none⟩))) (hpl:g.plan q=some (mk,F)) (hg:gYes e gd) (hk:kd≠.early)
  (ha:∀ st r,g.ok st→g.U st r→∃ v,r.own b o=some (.int .u64 v)∧g.U (F st).1 r∧Rv st v)
  (k:∀ st v m',m=m'+1→g.ok st→Rv st v→Wo P (fHand P cv) kd n l K (setE d (.int .u64 v) e) z L (⟨g,s1,s2,s3,wg,.free (F st).2 m'⟩:TX)) :
  Wo P (fHand P cv) kd n (⟨d,.call ⟨.value (.func f),#[o1],tys⟩,ty,gd⟩::l) K e z L (⟨g,s1,s2,s3,wg,.free q m⟩:TX) :=
 wo_atom (Rv:=fun st v=>∃ w,v=.int .u64 w∧Rv st w) hpl hg hk (fun t a st r h1 h2=>by
  obtain ⟨v,c1,c2,c3⟩:=ha st r h1 h2
  exact ⟨b,o,_,.int .u64 v,none,c1,by rw [exec_call (args:=[o1]) (.cons hx .nil) a];exact atom_load,c2,v,rfl,c3⟩)
  (by rintro st _ m' h1 h2 ⟨w,rfl,h3⟩;exact k st w m' h1 h2 h3)
theorem wo_storeF {f:Nat} [x:Exn P f Extern.Atomic.storeT] {o1 o2:Operand} {y:Int} (hx:ev e o1=some (.pointer (some ⟨b,o,none⟩))) (hy:ev e o2=some (.int .u64 y)) (hpl:g.plan q=some (mk,F)) (hg:gYes e gd) (hk:kd≠.early)
  (ha:∀ st r,g.ok st→g.U st r→∃ v,r.own b o=some (.int .u64 v)∧g.U (F st).1 (r.lay b o (some (.int .u64 y))))
  (k:∀ st m',m=m'+1→g.ok st→Wo P (fHand P cv) kd n l K (setE d unit e) z L (⟨g,s1,s2,s3,wg,.free (F st).2 m'⟩:TX)) :
  Wo P (fHand P cv) kd n (⟨d,.call ⟨.value (.func f),#[o1,o2],tys⟩,ty,gd⟩::l) K e z L (⟨g,s1,s2,s3,wg,.free q m⟩:TX) :=
 wo_atom (Rv:=fun st v=>v=unit) hpl hg hk (fun t a st r h1 h2=>by
  obtain ⟨v,c1,c2⟩:=ha st r h1 h2
  exact ⟨b,o,_,unit,_,c1,by rw [exec_call (args:=[o1,o2]) (.cons hx (.cons hy .nil)) a];exact atom_store,c2,rfl⟩)
  (by rintro st _ m' h1 h2 rfl;exact k st m' h1 h2)
theorem wo_addF {f:Nat} [x:Exn P f (Extern.Atomic.update (Op.intArith .add) .u64 true)] {o1 o2:Operand} {y:Int} (Rv:g.σ→Int→Prop) (hx:ev e o1=some (.pointer (some ⟨b,o,none⟩))) (hy:ev e o2=some (.int .u64 y)) (hpl:g.plan q=some (mk,F)) (hg:gYes e gd) (hk:kd≠.early)
  (ha:∀ st r,g.ok st→g.U st r→∃ v w,r.own b o=some (.int .u64 v)∧IntKind.u64.wrap (v+y)=w∧g.U (F st).1 (r.lay b o (some (.int .u64 w)))∧Rv st w)
  (k:∀ st v m',m=m'+1→g.ok st→Rv st v→Wo P (fHand P cv) kd n l K (setE d (.int .u64 v) e) z L (⟨g,s1,s2,s3,wg,.free (F st).2 m'⟩:TX)) :
  Wo P (fHand P cv) kd n (⟨d,.call ⟨.value (.func f),#[o1,o2],tys⟩,ty,gd⟩::l) K e z L (⟨g,s1,s2,s3,wg,.free q m⟩:TX) :=
 wo_atom (Rv:=fun st v=>∃ w,v=.int .u64 w∧Rv st w) hpl hg hk (fun t a st r h1 h2=>by
  obtain ⟨v,w,c1,rfl,c2,c3⟩:=ha st r h1 h2
  exact ⟨b,o,_,_,_,c1,by rw [exec_call (args:=[o1,o2]) (.cons hx (.cons hy .nil)) a];exact atom_add,c2,_,rfl,c3⟩)
  (by rintro st _ m' h1 h2 ⟨w,rfl,h3⟩;exact k st w m' h1 h2 h3)
theorem wo_casF {f:Nat} [x:Exn P f (Extern.Atomic.casT (.int .u64))] {o1 o2 o3:Operand} {a y:Int} (Rv:g.σ→Bool→Prop) (hx:ev e o1=some (.pointer (some ⟨b,o,none⟩))) (hy:ev e o2=some (.int .u64 a)) (hz:ev e o3=some (.int .u64 y)) (hpl:g.plan q=some (mk,F)) (hg:gYes e gd) (hk:kd≠.early)
  (ha:∀ st r,g.ok st→g.U st r→∃ v,r.own b o=some (.int .u64 v)∧g.U (F st).1 (r.lay b o (if v=a then some (.int .u64 y) else none))∧Rv st (decide (v=a)))
  (k:∀ st v m',m=m'+1→g.ok st→Rv st v→Wo P (fHand P cv) kd n l K (setE d (.bool v) e) z L (⟨g,s1,s2,s3,wg,.free (F st).2 m'⟩:TX)) :
  Wo P (fHand P cv) kd n (⟨d,.call ⟨.value (.func f),#[o1,o2,o3],tys⟩,ty,gd⟩::l) K e z L (⟨g,s1,s2,s3,wg,.free q m⟩:TX) :=
 wo_atom (Rv:=fun st v=>∃ w,v=.bool w∧Rv st w) hpl hg hk (fun t ag st r h1 h2=>by
  obtain ⟨v,c1,c2,c3⟩:=ha st r h1 h2
  exact ⟨b,o,_,_,_,c1,by rw [exec_call (args:=[o1,o2,o3]) (.cons hx (.cons hy (.cons hz .nil))) ag];exact atom_cas,c2,_,rfl,c3⟩)
  (by rintro st _ m' h1 h2 ⟨w,rfl,h3⟩;exact k st w m' h1 h2 h3)
end
end Go.PB
namespace Go.Proofs.Ytnnpdmhmpgmpnaa
open Go Go.PB
attribute [local irreducible] Mo Bin Eql Tr Wo Ap Wle
attribute [local instance] Pass.of_no
section
variable {G:WGm} {addr:Nat→Nat × Nat} {N:Nat} {K:List (Nat × Nat × Value)} {wg:Nat} {L F:List HProp} {b o w:Nat}
theorem U_own {s:G.σ} {r:Hp} (hU:(G.g addr N K).U s r) (hw:w<N) (ha:addr w=(b,o)):r.own b o=some (.int .u64 (G.wf s w:Nat))∧G.wf s w<18446744073709551616:=by
 obtain ⟨h1,h2,sp,hc,_⟩:=hU
 have:=hc.1 w hw
 rw [ha] at this
 exact ⟨sp.o1 _ _ _ this.2,this.1⟩
theorem U_keep {s s':G.σ} {r:Hp} (hU:(G.g addr N K).U s r) (hf:∀ i,i<N→G.wf s' i=G.wf s i) (hz:G.zf s'=G.zf s):(G.g addr N K).U s' r:=by
 show Star [_,G.Z (G.zf s')] r
 rw [hz]
 exact star_map hU (wds_congr fun i hi=>(hf i hi).symm) fun _ z=>z
theorem U_lay (A:Apart addr N K) {s s':G.σ} {r:Hp} {n:Nat} (hU:(G.g addr N K).U s r) (hw:w<N) (ha:addr w=(b,o)) (hn:n<18446744073709551616) (hf:∀ i,i<N→G.wf s' i=upd (G.wf s) w n i) (hz:G.zf s'=G.zf s):(G.g addr N K).U s' (r.lay b o (some (.int .u64 (n:Nat)))):=by
 have h1:Star (wds addr N K (upd (G.wf s) w n)::[G.Z (G.zf s)]) (r.set b o (.int .u64 (n:Nat))):=(wt_wds A (.here:Has [wds addr N K (G.wf s),G.Z (G.zf s)] _ _) hw ha hn r hU).2
 show Star [_,G.Z (G.zf s')] _
 rw [hz]
 exact star_map h1 (wds_congr fun i hi=>(hf i hi).symm) fun _ z=>z
structure FrS (G:WGm) where
 q:G.θ
 n:Nat
abbrev frX (G:WGm) (addr:Nat→Nat × Nat) (N:Nat) (K:List (Nat × Nat × Value)) (wg:Nat) (s:FrS G):TX:=tx (G.g addr N K) 0 0 0 wg (.free s.q s.n)
theorem load_free (hw:w<N) (ha:addr w=(b,o)) {q:G.θ} {m:Nat} {mk:Int × Int} {FF:G.σ→G.σ × G.θ} (hpl:G.plan q=some (mk,FF)) (hk:∀ st,G.ok st→(∀ i,i<N→G.wf (FF st).1 i=G.wf st i)∧G.zf (FF st).1=G.zf st) :
  Tr Try.prog fH 50 [.pointer (some ⟨b,o,none⟩)] L (frX G addr N K wg ⟨q,m⟩) fun v L' x'=>∃ st m',m'<m∧G.ok st∧G.wf st w<18446744073709551616∧v=.int .u64 (G.wf st w:Nat)∧L'=L∧x'=frX G addr N K wg ⟨(FF st).2,m'⟩:=by
 refine tr_of_body Try.func50 rfl Try.ntmps50 (by simp) fun um Q _ hQ=>?_
 simp only [argE,Nat.zero_add,Nat.reduceAdd]
 repeat (first | refine we_seq ?_ | (refine wR ?_;try simp only [oS]) | refine wo_nil ?_ | refine wM ?_ | refine wA ?_ | refine wN ?_ | refine wD ?_)
 refine wo_loadF (g:=G.g addr N K) (F:=FF) (b:=b) (o:=o) (fun st v=>v=(G.wf st w:Nat)∧G.wf st w<18446744073709551616) rfl hpl trivial (by decide) (fun st r h1 h2=>⟨_,(U_own h2 hw ha).1,U_keep h2 (hk st h1).1 (hk st h1).2,rfl,(U_own h2 hw ha).2⟩) ?_
 rintro st _ m' hm hok ⟨rfl,hlt⟩
 repeat (first | refine wo_nil ?_ | refine wA ?_ | refine we_ret ?_)
 (first | refine or1 Try.func50 Try.results50 hQ rfl ?_ | refine on1 Try.func50 Try.results50 hQ rfl ?_)
 exact ⟨st,m',(by have h0:m=m'+1:=hm;omega),hok,hlt,rfl,rfl,rfl⟩
theorem store_free (A:Apart addr N K) (hw:w<N) (ha:addr w=(b,o)) {n:Nat} (hn:n<18446744073709551616) {q:G.θ} {m:Nat} {mk:Int × Int} {FF:G.σ→G.σ × G.θ} (hpl:G.plan q=some (mk,FF)) (hk:∀ st,G.ok st→(∀ i,i<N→G.wf (FF st).1 i=upd (G.wf st) w n i)∧G.zf (FF st).1=G.zf st) :
  Tr Try.prog fH 87 [.pointer (some ⟨b,o,none⟩),.int .u64 (n:Nat)] L (frX G addr N K wg ⟨q,m⟩) fun v L' x'=>∃ st m',m'<m∧G.ok st∧v=.tuple #[]∧L'=L∧x'=frX G addr N K wg ⟨(FF st).2,m'⟩:=by
 refine tr_of_body Try.func87 rfl Try.ntmps87 (by simp) fun um Q _ hQ=>?_
 simp only [argE,Nat.zero_add,Nat.reduceAdd]
 repeat (first | (refine wR ?_;try simp only [oS]) | refine wM ?_ | refine wN ?_ | refine wD ?_)
 refine wo_storeF (g:=G.g addr N K) (F:=FF) (b:=b) (o:=o) (y:=(n:Nat)) rfl rfl hpl trivial (by decide) (fun st r h1 h2=>⟨_,(U_own h2 hw ha).1,U_lay A h2 hw ha hn (hk st h1).1 (hk st h1).2⟩) ?_
 rintro st m' hm hok
 repeat (first | refine wo_nil ?_)
 (first | refine or0 Try.func87 Try.results87 hQ ?_ | refine on0 Try.func87 Try.results87 hQ ?_)
 exact ⟨st,m',(by have h0:m=m'+1:=hm;omega),hok,rfl,rfl,rfl⟩
theorem add_free (A:Apart addr N K) (hw:w<N) (ha:addr w=(b,o)) {n:Nat} {q:G.θ} {m:Nat} {mk:Int × Int} {FF:G.σ→G.σ × G.θ} (hpl:G.plan q=some (mk,FF)) (hk:∀ st,G.ok st→(∀ i,i<N→G.wf (FF st).1 i=upd (G.wf st) w ((G.wf st w+n)%18446744073709551616) i)∧G.zf (FF st).1=G.zf st) :
  Tr Try.prog fH 85 [.pointer (some ⟨b,o,none⟩),.int .u64 (n:Nat)] L (frX G addr N K wg ⟨q,m⟩) fun v L' x'=>∃ st m',m'<m∧G.ok st∧v=.int .u64 ((G.wf st w+n)%18446744073709551616:Nat)∧L'=L∧x'=frX G addr N K wg ⟨(FF st).2,m'⟩:=by
 refine tr_of_body Try.func85 rfl Try.ntmps85 (by simp) fun um Q _ hQ=>?_
 simp only [argE,Nat.zero_add,Nat.reduceAdd]
 repeat (first | refine we_seq ?_ | (refine wR ?_;try simp only [oS]) | refine wo_nil ?_ | refine wM ?_ | refine wA ?_ | refine wN ?_ | refine wD ?_)
 refine wo_addF (g:=G.g addr N K) (F:=FF) (b:=b) (o:=o) (y:=(n:Nat)) (fun st v=>v=(((G.wf st w+n)%18446744073709551616:Nat):Int)) rfl rfl hpl trivial (by decide) (fun st r h1 h2=>⟨_,((G.wf st w+n)%18446744073709551616:Nat),(U_own h2 hw ha).1,by rw [wrap_u64_mod];omega,U_lay A h2 hw ha (Nat.mod_lt _ (by decide)) (hk st h1).1 (hk st h1).2,rfl⟩) ?_
 rintro st _ m' hm hok rfl
 repeat (first | refine wo_nil ?_ | refine wA ?_ | refine we_ret ?_)
 (first | refine or1 Try.func85 Try.results85 hQ rfl ?_ | refine on1 Try.func85 Try.results85 hQ rfl ?_)
 exact ⟨st,m',(by have h0:m=m'+1:=hm;omega),hok,rfl,rfl,rfl⟩
theorem cas_free (A:Apart addr N K) (hw:w<N) (ha:addr w=(b,o)) {a n:Nat} (hn:n<18446744073709551616) {q:G.θ} {m:Nat} {mk:Int × Int} {FF:G.σ→G.σ × G.θ} (hpl:G.plan q=some (mk,FF)) (hk:∀ st,G.ok st→(∀ i,i<N→G.wf (FF st).1 i=(if G.wf st w=a then upd (G.wf st) w n else G.wf st) i)∧G.zf (FF st).1=G.zf st) :
  Tr Try.prog fH 73 [.pointer (some ⟨b,o,none⟩),.int .u64 (a:Nat),.int .u64 (n:Nat)] L (frX G addr N K wg ⟨q,m⟩) fun v L' x'=>∃ st m',m'<m∧G.ok st∧v=.bool (decide (G.wf st w=a))∧L'=L∧x'=frX G addr N K wg ⟨(FF st).2,m'⟩:=by
 refine tr_of_body Try.func73 rfl Try.ntmps73 (by simp) fun um Q _ hQ=>?_
 simp only [argE,Nat.zero_add,Nat.reduceAdd]
 repeat (first | refine we_seq ?_ | (refine wR ?_;try simp only [oS]) | refine wo_nil ?_ | refine wM ?_ | refine wA ?_ | refine wN ?_ | refine wD ?_)
 refine wo_casF (g:=G.g addr N K) (F:=FF) (b:=b) (o:=o) (a:=(a:Nat)) (y:=(n:Nat)) (fun st v=>v=decide (G.wf st w=a)) rfl rfl rfl hpl trivial (by decide) (fun st r h1 h2=>⟨_,(U_own h2 hw ha).1,?_,decide_eq_decide.2 (by omega)⟩) ?_
 ·have hk':=hk st h1
  by_cases hw':G.wf st w=a
  ·rw [if_pos hw'] at hk';rw [if_pos (by omega)];exact U_lay A h2 hw ha hn hk'.1 hk'.2
  ·rw [if_neg hw'] at hk';rw [if_neg (by omega)];exact U_keep h2 hk'.1 hk'.2
 rintro st _ m' hm hok rfl
 repeat (first | refine wo_nil ?_ | refine wA ?_ | refine we_ret ?_)
 (first | refine or1 Try.func73 Try.results73 hQ rfl ?_ | refine on1 Try.func73 Try.results73 hQ rfl ?_)
 exact ⟨st,m',(by have h0:m=m'+1:=hm;omega),hok,rfl,rfl,rfl⟩
def FrStep (G:WGm) (N:Nat) (w:Nat) (s:FrS G) (f:G.σ→Nat→Nat) (R:G.σ→FrS G→Prop):Prop :=
 w<N∧∃ mk F,G.plan s.q=some (mk,F)∧(∀ st,G.ok st→(∀ i,i<N→G.wf (F st).1 i=f st i)∧G.zf (F st).1=G.zf st)∧∀ st n,n<s.n→G.ok st→R st ⟨(F st).2,n⟩
def freAcc (G:WGm) (addr:Nat→Nat × Nat) (N:Nat) (K:List (Nat × Nat × Value)) (A:Apart addr N K) (wg:Nat) (Cf:HProp):Acc fH .nilIface where
 S:=FrS G
 C:=fun _=>Cf
 x:=fun s=>frX G addr N K wg s
 step:=fun _ _ s R=>R s
 addr:=addr
 load:=fun w s R=>FrStep G N w s G.wf fun st s'=>R (G.wf st w) s'
 store:=fun w n s R=>FrStep G N w s (fun st=>upd (G.wf st) w n) fun _ s'=>R s'
 cas:=fun w a n s R=>FrStep G N w s (fun st=>if G.wf st w=a then upd (G.wf st) w n else G.wf st) fun st s'=>R (decide (G.wf st w=a)) s'
 add:=fun w n s R=>FrStep G N w s (fun st=>upd (G.wf st) w ((G.wf st w+n)%18446744073709551616)) fun st s'=>R ((G.wf st w+n)%18446744073709551616) s'
 swap:=fun w n s R=>FrStep G N w s (fun st=>upd (G.wf st) w n) fun st s'=>R (G.wf st w) s'
 gate:=.inl ⟨rfl,fun op w s R h=>h⟩
 load_ok:=fun w s R L F b o ha ⟨hw,mk,FF,hpl,hk,hR⟩ hh=>tr_star _ (fun h st=>hh.star st) ((load_free hw ha hpl hk).post fun v L' x' ⟨st,m',h1,h2,h3,h4,h5,h6⟩ =>
  ⟨_,⟨G.wf st w,⟨(FF st).2,m'⟩,h3,hR st m' h1 h2,h4,rfl,h6⟩,fun h st=>by rw [h5] at st;exact st⟩)
 store_ok:=fun w n s R L F b o ha hn ⟨hw,mk,FF,hpl,hk,hR⟩ hh=>tr_star _ (fun h st=>hh.star st) ((store_free A hw ha hn hpl hk).post fun v L' x' ⟨st,m',h1,h2,h4,h5,h6⟩ =>
  ⟨_,⟨⟨(FF st).2,m'⟩,hR st m' h1 h2,h4,rfl,h6⟩,fun h st=>by rw [h5] at st;exact st⟩)
 cas_ok:=fun w a n s R L F b o ha hn ⟨hw,mk,FF,hpl,hk,hR⟩ hh=>tr_star _ (fun h st=>hh.star st) ((cas_free A hw ha hn hpl hk).post fun v L' x' ⟨st,m',h1,h2,h4,h5,h6⟩ =>
  ⟨_,⟨_,⟨(FF st).2,m'⟩,hR st m' h1 h2,h4,rfl,h6⟩,fun h st=>by rw [h5] at st;exact st⟩)
 add_ok:=fun w n s R L F b o ha hn ⟨hw,mk,FF,hpl,hk,hR⟩ hh=>tr_star _ (fun h st=>hh.star st) ((add_free A hw ha hpl hk).post fun v L' x' ⟨st,m',h1,h2,h4,h5,h6⟩ =>
  ⟨_,⟨_,⟨(FF st).2,m'⟩,Nat.mod_lt _ (by decide),hR st m' h1 h2,h4,rfl,h6⟩,fun h st=>by rw [h5] at st;exact st⟩)
end
end Go.Proofs.Ytnnpdmhmpgmpnaa
namespace Go.Proofs.Ytnnpdmhmpgmpnaa
open Go Go.PB
attribute [local irreducible] Mo Bin Eql Tr Wo Ap Wle
section
theorem wds_cut1 {addr:Nat→Nat × Nat} {N r o:Nat} {v:Value} {K:List (Nat × Nat × Value)} {f:Nat→Nat} (A:Apart addr N ((r,o,v)::K)) (hK:∀ k∈K,¬ (k.1=r∧k.2.1=o)) {L:List HProp} {h:Hp} (s:Star (wds addr N ((r,o,v)::K) f::L) h):Star (wds addr N K f::arr r o [v]::L) h:=by
 obtain ⟨h1,h2,sp,hc,hL⟩:=s
 have hk:h1.own r o=some v:=hc.2 (r,o,v) List.mem_cons_self
 let ha:Hp:={ h1 with own:=fun b p=>if b=r∧p=o then none else h1.own b p }
 let hb:Hp:=⟨fun b p=>if b=r∧p=o then some v else none,fun _ _=>none,fun _=>none,fun _=>none⟩
 have s1:Split h1 ha hb:=by
  refine ⟨fun _ _ _ e=>e,fun _ _ _ e=>(by cases e),fun b p u e=>?_,fun b p u e=>?_,fun b p=>?_,fun _ _ e=>e,fun _ _ e=>(by cases e),fun _=>.inr rfl,fun _ _ e=>e,fun _ _ e=>(by cases e)⟩
  ·simp only [ha] at e;split at e
   ·cases e
   ·exact e
  ·simp only [hb] at e;split at e
   ·rename_i hh;cases e;rw [hh.1,hh.2];exact hk
   ·cases e
  ·by_cases hh:b=r∧p=o
   ·left;simp [ha,hh]
   ·right;simp [hb,hh]
 obtain ⟨t1,t2⟩:=sp.swap.assoc s1
 refine ⟨ha,_,t1,⟨fun w hw=>?_,fun k hk=>?_⟩,hb,h2,t2.swap,fun i u hi=>?_,hL⟩
 ·obtain ⟨e1,e2⟩:=hc.1 w hw
  refine ⟨e1,?_⟩
  have hne:=A.fix w hw (r,o,v) List.mem_cons_self
  show (if (addr w).1=r∧(addr w).2=o then none else h1.own (addr w).1 (addr w).2)=_
  rw [if_neg fun hh=>hne (Prod.ext hh.1 hh.2)];exact e2
 ·show (if k.1=r∧k.2.1=o then none else h1.own k.1 k.2.1)=_
  rw [if_neg (hK k hk)];exact hc.2 k (List.mem_cons_of_mem _ hk)
 ·have:i=0:=by have:=(List.getElem?_eq_some_iff.1 hi).1;simp at this;omega
  subst this
  simp at hi;subst hi
  show (if r=r∧o+0=o then some _ else none)=_
  rw [if_pos ⟨rfl,Nat.add_zero o⟩]
theorem apart_tail {addr:Nat→Nat × Nat} {N:Nat} {c:Nat × Nat × Value} {K:List (Nat × Nat × Value)} (A:Apart addr N (c::K)):Apart addr N K:=⟨A.inj,fun w hw k hk=>A.fix w hw k (List.mem_cons_of_mem _ hk)⟩
theorem cut_own2 {A:HProp} (hA:∀ r:Hp,A r→A { r with obj:=fun _=>none }) {r:Hp} (h:Star [A,fun _=>True] r):Star [A,fun _=>True] { r with obj:=fun _=>none }:=by
 obtain ⟨h1,h2,sp,c,h3⟩:=h
 exact ⟨{ h1 with obj:=fun _=>none },{ h2 with obj:=fun _=>none },⟨sp.r1,sp.r2,sp.o1,sp.o2,sp.od,fun _ _ e=>(by cases e),fun _ _ e=>(by cases e),fun _=>.inr rfl,sp.s1,sp.s2⟩,hA _ c,star_one trivial⟩
end
end Go.Proofs.Ytnnpdmhmpgmpnaa
namespace Go.Proofs.Ytnnpdmhmpgmpnaa
open Go Go.PB
attribute [local irreducible] Mo Bin Eql Tr Wo Ap Wle
attribute [local instance] Pass.of_no
section
def gfOk (s:GfS):Prop:=s.w≤5∧s.pk≤5
def gfW (limit:Nat):WGm where
 σ:=GfS
 θ:=GfQ
 ζ:=Unit
 wf:=fun s i=>if i=0 then s.w else s.pk
 zf:=fun _=>()
 Z:=fun _ _=>True
 plan:=gfPlan limit
 ok:=gfOk
 Pv:=fun q=>bkC q.bk q.bin q.bad
 up:=fun q h st=>star_open (M:=[_]) st
theorem gf_apart (r:Nat):Apart (gAddr r) 2 []:=apart_tail (g_apart r 0)
section
variable {r limit wg:Nat} {Cf:HProp} {rest:List Bool} {bin bk m0:Nat} {bad:Bool}
abbrev gfAcc (r limit wg:Nat) (Cf:HProp):Acc fH .nilIface:=freAcc (gfW limit) (gAddr r) 2 [] (gf_apart r) wg Cf
theorem gf_at (h1:1≤limit) (h2:limit≤1048576) (hC:Rd [Cf] r 0 (.int .u64 (limit:Nat))):GaugeAt (gfAcc r limit wg Cf) r limit:=⟨h1,h2,fun s=>hC,fun w _=>rfl⟩
theorem gf_enter2 {n:Nat} (hn:n<limit) (h5:limit≤5):Enter2T (gfAcc r limit wg Cf) n (fun ok s'=>∃ m,s'=(⟨gfEnd rest (if ok=true then bin+1 else bin) bad bk,m⟩:FrS (gfW limit))) ⟨(⟨true::rest,bin,bad,.pL (n+1),bk⟩:GfQ),m0⟩:=by
 intro X hX
 have key:∀ m,X ⟨(⟨true::rest,bin,bad,.pL (n+1),bk⟩:GfQ),m⟩:=by
  intro m
  induction m using Nat.strongRecOn with
  | _ m ih =>
  refine hX _ ?_
  unfold Enter2F
  refine ⟨by show 1<2;omega,_,_,rfl,fun (st:GfS) _=>⟨fun i _=>rfl,rfl⟩,fun (st:GfS) m1 hm1 _=>?_⟩
  have hm1':m1<m:=hm1
  show if n<st.pk then _ else _
  by_cases c1:n<st.pk
  ·have c1':n+1≤st.pk:=c1
   rw [if_pos c1]
   simp only [if_pos c1']
   exact ⟨m1,rfl⟩
  ·have c1':¬ n+1≤st.pk:=c1
   rw [if_neg c1]
   simp only [if_neg c1']
   refine ⟨by show 1<2;omega,_,_,rfl,fun (st2:GfS) _=>?_,fun (st2:GfS) m2 hm2 _=>?_⟩
   ·by_cases c:st2.pk=st.pk
    ·refine ⟨fun i hi=>?_,rfl⟩
     simp only [if_pos c]
     rw [if_pos (show (gfW limit).wf st2 1=(gfW limit).wf st 1 from c)]
     obtain rfl | rfl:i=0∨i=1:=by omega
     ·rfl
     ·show n+1=upd _ 1 ((n+1)%18446744073709551616) 1
      rw [upd_same,Nat.mod_eq_of_lt (by omega)]
    ·refine ⟨fun i hi=>?_,rfl⟩
     simp only [if_neg c]
     rw [if_neg (show ¬ (gfW limit).wf st2 1=(gfW limit).wf st 1 from c)]
   ·have hm2':m2<m1:=hm2
    show if decide (st2.pk=st.pk)=true then _ else _
    by_cases c:st2.pk=st.pk
    ·rw [if_pos (by simpa using c)]
     simp only [if_pos c]
     exact ⟨m2,rfl⟩
    ·rw [if_neg (by simpa using c)]
     simp only [if_neg c]
     exact ih m2 (by omega)
 exact key m0
theorem gf_enter (h5:limit≤5):EnterT (gfAcc r limit wg Cf) limit ⟨(⟨true::rest,bin,bad,.L,bk⟩:GfQ),m0⟩ fun ok s'=>∃ m,s'=(⟨gfEnd rest (if ok=true then bin+1 else bin) bad bk,m⟩:FrS (gfW limit)):=by
 unfold EnterT
 refine ⟨by show 0<2;omega,_,_,rfl,fun (st:GfS) _=>⟨fun i _=>rfl,rfl⟩,fun (st:GfS) m1 hm1 hok hn X hX=>?_⟩
 have H:∀ (m:Nat) (st:GfS),gfOk st→X (st.w,⟨(if limit≤st.w then gfEnd rest bin bad bk else ⟨true::rest,bin,bad,.C st.w,bk⟩:GfQ),m⟩):=by
  intro m
  induction m using Nat.strongRecOn with
  | _ m ih =>
  intro st hok
  refine hX _ ?_
  unfold Enter1F
  refine ⟨by have:=hok.1;show st.w<_;omega,?_⟩
  dsimp only
  by_cases c1:limit≤st.w
  ·simp only [if_pos c1]
   exact ⟨m,rfl⟩
  ·simp only [if_neg c1]
   refine ⟨by show 0<2;omega,_,_,rfl,fun (st2:GfS) _=>?_,fun (st2:GfS) m2 hm2 _=>?_⟩
   ·by_cases c:st2.w=st.w
    ·refine ⟨fun i hi=>?_,rfl⟩
     simp only [if_pos c,if_true]
     rw [if_pos (show (gfW limit).wf st2 0=st.w from c)]
     obtain rfl | rfl:i=0∨i=1:=by omega
     ·show st.w+1=upd _ 0 ((st.w+1)%18446744073709551616) 0
      rw [upd_same,Nat.mod_eq_of_lt (by omega)]
     ·rfl
    ·refine ⟨fun i hi=>?_,rfl⟩
     simp only [if_neg c]
     rw [if_neg (show ¬ (gfW limit).wf st2 0=st.w from c)]
   ·have hm2':m2<m:=hm2
    show if decide (st2.w=st.w)=true then _ else _
    by_cases c:st2.w=st.w
    ·rw [if_pos (by simpa using c)]
     simp only [if_pos c,if_true]
     exact gf_enter2 (by omega) h5
    ·rw [if_neg (by simpa using c)]
     simp only [if_neg c]
     refine ⟨by show 0<2;omega,_,_,rfl,fun (st:GfS) _=>⟨fun i _=>rfl,rfl⟩,fun (st3:GfS) m3 hm3 hok3 hn3=>?_⟩
     have hm3':m3<m2:=hm3
     simp only [if_true]
     exact ih m3 (by omega) st3 hok3
 have:=H m1 st hok
 simp only [if_true]
 exact this
theorem gf_leave:LeaveT (gfAcc r limit wg Cf) ⟨(⟨false::rest,bin,false,.L,bk⟩:GfQ),m0⟩ fun e s'=>(e=0∨e=3)∧∃ m,s'=(⟨gfEnd rest (bin-1) (decide (e≠0)) bk,m⟩:FrS (gfW limit)):=by
 intro X hX
 have key:∀ m,X ⟨(⟨false::rest,bin,false,.L,bk⟩:GfQ),m⟩:=by
  intro m
  induction m using Nat.strongRecOn with
  | _ m ih =>
  refine hX _ ?_
  unfold LeaveF
  refine ⟨by show 0<2;omega,_,_,rfl,fun (st:GfS) _=>⟨fun i _=>rfl,rfl⟩,fun (st:GfS) m1 hm1 hok=>?_⟩
  have hm1':m1<m:=hm1
  replace hok:gfOk st:=hok
  have hw5:=hok.1
  simp only [Bool.false_eq_true,if_false]
  show if st.w=0 then _ else _
  by_cases c1:st.w=0
  ·rw [if_pos c1]
   simp only [if_pos c1]
   exact ⟨.inr (by first | trivial | rfl),m1,rfl⟩
  ·rw [if_neg c1]
   simp only [if_neg c1]
   obtain ⟨v,hv⟩:∃ v,(st.w+18446744073709551616-1)%18446744073709551616=v:=⟨_,rfl⟩
   have hv':v=st.w-1:=by omega
   show (gfAcc r limit wg Cf).step 5 0 _ fun s=>(gfAcc r limit wg Cf).cas 0 st.w ((st.w+18446744073709551616-1)%18446744073709551616) s _
   rw [hv]
   refine ⟨by show 0<2;omega,_,_,rfl,fun (st2:GfS) _=>?_,fun (st2:GfS) m2 hm2 _=>?_⟩
   ·by_cases c:st2.w=st.w
    ·refine ⟨fun i hi=>?_,rfl⟩
     simp only [if_pos c,Bool.false_eq_true,if_false]
     rw [if_pos (show (gfW limit).wf st2 0=st.w from c)]
     obtain rfl | rfl:i=0∨i=1:=by omega
     ·show st.w-1=upd _ 0 v 0
      rw [upd_same,hv']
     ·rfl
    ·refine ⟨fun i hi=>?_,rfl⟩
     simp only [if_neg c]
     rw [if_neg (show ¬ (gfW limit).wf st2 0=st.w from c)]
   ·have hm2':m2<m1:=hm2
    show if decide (st2.w=st.w)=true then _ else _
    by_cases c:st2.w=st.w
    ·rw [if_pos (by simpa using c)]
     simp only [if_pos c,Bool.false_eq_true,if_false]
     exact ⟨.inl (by first | trivial | rfl),m2,rfl⟩
    ·rw [if_neg (by simpa using c)]
     simp only [if_neg c]
     exact ih m2 (by omega)
 exact key m0
def gwInv (bk r limit wg:Nat) (wa:Option Addr) (wc:Nat) (what:List Bool) (Ro:HProp) (F:List HProp):PB.Inv (Nat × Nat × Bool × Nat) TX where
 e:=fun i=>[(0,.pointer (some ⟨bk,0,none⟩)),(1,.pointer (some ⟨r,0,none⟩)),(2,.nilIface),(3,.slice wa what.length wc),(8,.int .i64 (i.1:Nat))]
 L:=fun i=>Ro::arr bk 0 [.int .i64 (i.2.1:Nat),.bool i.2.2.1]::F
 x:=fun i=>frX (gfW limit) (gAddr r) 2 [] wg ⟨gfEnd (what.drop i.1) i.2.1 i.2.2.1 bk,i.2.2.2⟩
 ok:=fun i=>i.1≤what.length∧i.2.1≤i.1
set_option maxHeartbeats 4000000 in
theorem gwalks_tr {wa:Option Addr} {wc m:Nat} {what:List Bool} {Ro:HProp} {F:List HProp} (h1:1≤limit) (h5:limit≤5) (hlen:what.length≤40) (hC:Rd [Ro] r 0 (.int .u64 (limit:Nat))) (hw:RdsO [Ro] wa what.length (what.map .bool)) :
  Tr Try.prog fH 25 [.pointer (some ⟨bk,0,none⟩),.pointer (some ⟨r,0,none⟩),.nilIface,.slice wa what.length wc] (Ro::arr bk 0 [.int .i64 (0:Nat),.bool false]::F) (frX (gfW limit) (gAddr r) 2 [] wg ⟨gfEnd what 0 false bk,m⟩) fun v L' x' =>
   ∃ bin bad m',v=.tuple #[]∧L'=Ro::arr bk 0 [.int .i64 (bin:Nat),.bool bad]::F∧x'=frX (gfW limit) (gAddr r) 2 [] wg ⟨(⟨[],bin,bad,.L,bk⟩:GfQ),m'⟩:=by
 have A1:GaugeAt (gfAcc r limit wg Ro) r limit:=gf_at h1 (by omega) hC
 refine tr_of_body Try.func25 rfl Try.ntmps25 (by simp) fun um Q _ hQ=>?_
 simp only [argE,Nat.zero_add,Nat.reduceAdd]
 repeat (first | refine we_seq ?_ | (refine wR ?_;try simp only [oS]) | refine wo_nil ?_ | refine wA ?_ | refine we_block ?_)
 refine we_loopN (gwInv bk r limit wg wa wc what Ro F) (fun i=>what.length-i.1) (0,0,false,m) ⟨Nat.zero_le _,Nat.zero_le _⟩ ⟨rfl,rfl,rfl,rfl,rfl,trivial⟩ .refl rfl ?_
 rintro ⟨i,bin,bad,m⟩ ⟨hi,hbi⟩
 dsimp only at hi hbi
 simp only [gwInv]
 by_cases hlt:i<what.length
 ·obtain ⟨a,ha⟩:∃ a,what[i]?=some a:=⟨what[i],List.getElem?_eq_getElem hlt⟩
  obtain ⟨wb,wo,rfl,hrd⟩:=hw.rds (by omega)
  have hra:∀ {M:List HProp},Rd (Ro::M) wb (wo+i) (.bool a):=Rd.of .here (hrd i _ (by rw [List.getElem?_map,ha];rfl))
  obtain ⟨rest,hrest⟩:∃ rest,what.drop (i+1)=rest:=⟨_,rfl⟩
  have hdr:what.drop i=a::rest:=by
   rw [List.drop_eq_getElem_cons hlt,(List.getElem?_eq_some_iff.1 ha).2,hrest]
  rw [hdr]
  have round:∀ (b2:Nat) (bad2:Bool) (m2:Nat),b2≤i+1→True:=fun _ _ _ _=>trivial
  repeat (first | (apply wo_po;apply mo_index1;exact rfl;exact rfl;omega;exact trivial) | (apply wo_po;apply mo_load;exact rfl;exact hra;exact trivial) | refine wlssT ?_ | refine we_seq ?_ | (refine wR ?_;try simp only [oS]) | refine wo_nil ?_ | refine wM ?_ | refine wE ?_ | refine wT ?_ | refine we_skip ?_ | refine we_block ?_)
  cases a with
  | true =>
   rw [gfEnd_true]
   have hadd:IntKind.i64.wrap ((bin:Int)+1)=((bin+1:Nat):Int):=(wrap_i64 (by omega) (by omega)).trans (by omega)
   repeat (first | refine we_seq ?_ | (refine wR ?_;try simp only [oS]) | refine wM ?_ | refine wT ?_)
   refine wo_call (.cons rfl (.cons rfl .nil)) trivial (enter_tr (A:=gfAcc r limit wg Ro) A1 (gf_enter h5) .here) ?_
   rintro v' L' x' ⟨ok,s',⟨m',rfl⟩,rfl,rfl,rfl⟩
   cases ok
   ·cases bad
    all_goals
     repeat (first | refine wS ?_ | refine wneqF ?_ | refine we_seq ?_ | (refine wR ?_;try simp only [oS]) | refine wo_nil ?_ | refine wM ?_ | refine wA ?_ | (apply wo_no;exact rfl) | refine wK ?_ | refine wJ ?_ | refine wN ?_ | refine wD ?_ | (apply wo_po;apply mo_extract;exact rfl;exact rfl;exact gY) | refine wL ?_ | refine wadd ?_ | refine wF ?_ | refine we_skip ?_ | refine we_exit ?_)
     refine at_round (B:=fH) (I:=gwInv bk r limit wg (some ⟨wb,wo,none⟩) wc what Ro F) (R:=fun j=>what.length-j.1<what.length-i) (i+1,bin,_,m') (by show what.length-(i+1)<what.length-i;omega) ⟨by show i+1≤what.length;omega,by show bin≤i+1;omega⟩ ⟨rfl,rfl,rfl,rfl,rfl,trivial⟩ .refl (by show frX _ _ _ _ _ _=frX _ _ _ _ _ _;rw [hrest];rfl)
   ·cases bad
    all_goals
     repeat (first | (apply wo_po;apply mo_bin;exact rfl;exact rfl;apply bin_add;exact hadd;exact trivial) | refine wS ?_ | refine wneqF ?_ | refine we_seq ?_ | (refine wR ?_;try simp only [oS]) | refine wo_nil ?_ | refine wM ?_ | refine wA ?_ | (apply wo_no;exact rfl) | refine wK ?_ | refine wJ ?_ | refine wN ?_ | refine wD ?_ | (apply wo_po;apply mo_extract;exact rfl;exact rfl;exact gY) | refine wL ?_ | refine wadd ?_ | refine wT ?_ | refine we_exit ?_)
     refine at_round (B:=fH) (I:=gwInv bk r limit wg (some ⟨wb,wo,none⟩) wc what Ro F) (R:=fun j=>what.length-j.1<what.length-i) (i+1,bin+1,_,m') (by show what.length-(i+1)<what.length-i;omega) ⟨by show i+1≤what.length;omega,by show bin+1≤i+1;omega⟩ ⟨rfl,rfl,rfl,rfl,rfl,trivial⟩ .refl (by show frX _ _ _ _ _ _=frX _ _ _ _ _ _;rw [hrest];rfl)
  | false =>
   cases bin with
   | zero =>
    rw [gfEnd_skip]
    repeat (first | refine weqlT ?_ | refine we_seq ?_ | (refine wR ?_;try simp only [oS]) | refine wo_nil ?_ | refine wM ?_ | refine wA ?_ | refine wN ?_ | refine wD ?_ | refine wL ?_ | refine wadd ?_ | refine wT ?_ | refine wF ?_ | refine we_skip ?_ | refine we_exit ?_)
    refine at_round (B:=fH) (I:=gwInv bk r limit wg (some ⟨wb,wo,none⟩) wc what Ro F) (R:=fun j=>what.length-j.1<what.length-i) (i+1,0,_,m) (by show what.length-(i+1)<what.length-i;omega) ⟨by show i+1≤what.length;omega,by show 0≤i+1;omega⟩ ⟨rfl,rfl,rfl,rfl,rfl,trivial⟩ .refl (by show frX _ _ _ _ _ _=frX _ _ _ _ _ _;rw [hrest])
   | succ bin =>
    have hsub:IntKind.i64.wrap (((bin+1:Nat):Int)-1)=((bin:Nat):Int):=(wrap_i64 (by omega) (by omega)).trans (by omega)
    cases bad with
    | true =>
     rw [gfEnd_bad]
     repeat (first | (apply wo_po;apply mo_bin;exact rfl;exact rfl;apply bin_sub;exact hsub;exact trivial) | refine wS ?_ | refine weqlF ?_ | refine we_seq ?_ | (refine wR ?_;try simp only [oS]) | refine wo_nil ?_ | refine wM ?_ | refine wA ?_ | (apply wo_no;exact rfl) | refine wK ?_ | refine wN ?_ | refine wD ?_ | refine wL ?_ | refine wadd ?_ | refine wF ?_ | refine we_skip ?_)
     refine at_round (B:=fH) (I:=gwInv bk r limit wg (some ⟨wb,wo,none⟩) wc what Ro F) (R:=fun j=>what.length-j.1<what.length-i) (i+1,bin,_,m) (by show what.length-(i+1)<what.length-i;omega) ⟨by show i+1≤what.length;omega,by show bin≤i+1;omega⟩ ⟨rfl,rfl,rfl,rfl,rfl,trivial⟩ .refl (by show frX _ _ _ _ _ _=frX _ _ _ _ _ _;rw [hrest])
    | false =>
     rw [gfEnd_false]
     repeat (first | refine weqlF ?_ | refine we_seq ?_ | (refine wR ?_;try simp only [oS]) | refine wo_nil ?_ | refine wM ?_ | refine wN ?_ | refine wD ?_ | refine wL ?_ | refine wF ?_ | refine we_skip ?_)
     refine wo_call (.cons rfl (.cons rfl .nil)) rfl (leave_tr (A:=gfAcc r limit wg Ro) A1 gf_leave .here) ?_
     rintro v' L' x' ⟨e,s',⟨he,m',rfl⟩,rfl,rfl,rfl⟩
     rcases he with rfl | rfl
     all_goals
      repeat (first | (apply wo_po;apply mo_bin;exact rfl;exact rfl;apply bin_sub;exact hsub;exact trivial) | refine wS ?_ | refine wneqT ?_ | refine wneqF ?_ | (refine wR ?_;try simp only [oS]) | refine wo_nil ?_ | refine wM ?_ | refine wA ?_ | refine wJ ?_ | refine wN ?_ | refine wD ?_ | refine wL ?_ | refine wadd ?_)
      refine at_round (B:=fH) (I:=gwInv bk r limit wg (some ⟨wb,wo,none⟩) wc what Ro F) (R:=fun j=>what.length-j.1<what.length-i) (i+1,bin,_,m') (by show what.length-(i+1)<what.length-i;omega) ⟨by show i+1≤what.length;omega,by show bin≤i+1;omega⟩ ⟨rfl,rfl,rfl,rfl,rfl,trivial⟩ .refl (by show frX _ _ _ _ _ _=frX _ _ _ _ _ _;rw [hrest];rfl)
 ·obtain rfl:i=what.length:=by omega
  rw [List.drop_length,gfEnd_nil]
  repeat (first | refine wlssF ?_ | refine we_seq ?_ | (refine wR ?_;try simp only [oS]) | refine wo_nil ?_ | refine wM ?_ | refine wE ?_ | refine wF ?_ | refine we_exit ?_)
  (first | refine or0 Try.func25 Try.results25 hQ ?_ | refine on0 Try.func25 Try.results25 hQ ?_)
  exact ⟨bin,bad,m,rfl,rfl,rfl⟩
end
end
end Go.Proofs.Ytnnpdmhmpgmpnaa
namespace Go.Proofs.Ytnnpdmhmpgmpnaa
open Go Go.PB
attribute [local irreducible] Mo Bin Eql Tr Wo Ap Wle
section
section
variable {B:Hand} [Lets B]
def kpAcc (x:B.X) (addr:Nat→Nat × Nat) (N:Nat) (A:Apart addr N []) (Cf:HProp):Acc B .nilIface where
 S:=Nat→Nat
 C:=fun s=>all [wds addr N [] s,Cf]
 x:=fun _=>x
 step:=fun _ _ s R=>R s
 addr:=addr
 load:=fun w s R=>w<N∧R (s w) s
 store:=fun w n s R=>w<N∧R (upd s w n)
 cas:=fun w a n s R=>w<N∧if s w=a then R true (upd s w n) else R false s
 add:=fun w n s R=>w<N∧R ((s w+n)%18446744073709551616) (upd s w ((s w+n)%18446744073709551616))
 swap:=fun w n s R=>w<N∧R (s w) (upd s w n)
 gate:=.inl ⟨rfl,fun _ _ _ _ h=>h⟩
 load_ok:=fun w s R L F b o ha hl hh=>tr_star _ (fun h st=>star_open (hh.star st)) (tr_pure (of_has .here fun h hc=>(hc.1 w hl.1).1) fun hs =>
  (load_lone (rd_wds .here hl.1 ha)).post fun v L' x' ⟨h1,h2,h3⟩=>⟨_,⟨s w,s,hs,hl.2,h1,rfl,h3⟩,fun h st=>star_shut (M:=[_,_]) (by rw [h2] at st;exact st)⟩)
 store_ok:=fun w n s R L F b o ha hn hl hh=>tr_star _ (fun h st=>star_open (hh.star st))
  ((store_lone (wt_wds A .here hl.1 ha hn)).post fun v L' x' ⟨h1,h2,h3⟩=>⟨_,⟨upd s w n,hl.2,h1,rfl,h3⟩,fun h st=>star_shut (M:=[_,_]) (by rw [h2] at st;exact st)⟩)
 cas_ok:=fun w m n s R L F b o ha hn hl hh=>tr_star _ (fun h st=>star_open (hh.star st))
  ((cas_lone (rd_wds .here hl.1 ha) (wt_wds A .here hl.1 ha hn)).post fun v L' x' ⟨h1,h2,h3⟩=>by
   obtain ⟨h4,h5⟩:=hl
   by_cases e:s w=m
   ·rw [if_pos e] at h5;rw [if_pos (by omega)] at h2;exact ⟨_,⟨true,_,h5,by rw [h1];simp [e],rfl,h3⟩,fun h st=>star_shut (M:=[_,_]) (by rw [h2] at st;exact st)⟩
   ·rw [if_neg e] at h5;rw [if_neg (by omega)] at h2;exact ⟨_,⟨false,_,h5,by rw [h1];simp;omega,rfl,h3⟩,fun h st=>star_shut (M:=[_,_]) (by rw [h2] at st;exact st)⟩)
 add_ok:=fun w n s R L F b o ha hn hl hh=>tr_star _ (fun h st=>star_open (hh.star st))
  ((add_lone (r:=((s w+n)%18446744073709551616:Nat)) (rd_wds .here hl.1 ha) (by rw [wrap_u64_mod];omega) (wt_wds A .here hl.1 ha (Nat.mod_lt _ (by decide)))).post fun v L' x' ⟨h1,h2,h3⟩=>⟨_,⟨_,_,Nat.mod_lt _ (by decide),hl.2,h1,rfl,h3⟩,fun h st=>star_shut (M:=[_,_]) (by rw [h2] at st;exact st)⟩)
end
end
end Go.Proofs.Ytnnpdmhmpgmpnaa
