/-
  Part 8 of 9.
-/
import Derived.Test.YtmkkanmkjfnpdaaMq7
import Derived.Test.YtmkkanmkjfnpdaaMq3
set_option linter.unusedVariables false
set_option linter.unusedSimpArgs false
namespace Go.PB
open Go.Conc Go.Conc.Lib
open Go.ConcR (KK stA smA rd wr mk DC0)
section
variable {P:Program} {main:Bool} {fr:Frame} {cs:List Frame} {o:Oper} {w w':World}
theorem atOp_step (a:AtOp fr o):∃ ops i l k,fr=mkFr ⟨fr.fn,fr.kind⟩ fr.tmps fr.defers (.inRegion ops (i::l)::k)∧ops[i]?=some o∧Region.wanted o (yielded ops fr.tmps)=true∧fr.eval=evT fr.tmps:=by
 obtain ⟨hm,hr,ops,i,l,k,htd,ho,hw⟩:=a
 refine ⟨ops,i,l,k,?_,ho,hw,?_⟩
 ·cases fr;simp only at hm hr htd;subst hm;subst hr;subst htd;rfl
 ·funext q;cases q <;> rfl
theorem step_value {v:Value} {es:Array Event} (a:AtOp fr o) (ne:fr.kind≠.early) (hr:(execOp fr.eval o).runT P w #[]=(.ok (.value v) w',es)) :
  stepG P main (G fr cs) w=.go (G (fr.finish v) cs) w' (seen P fr.fn es):=by
 obtain ⟨ops,i,l,k,e,ho,hw,he⟩:=atOp_step a
 have hs:=stepG_op (P:=P) (main:=main) (b:=⟨fr.fn,fr.kind⟩) (t:=fr.tmps) (d:=fr.defers) (l:=l) (k:=k) (cs:=cs) (w:=w) ho hw
 rw [← e] at hs
 rw [hs]
 rw [he] at hr
 have hk:(fr.kind == .early)=false:=by cases hx:fr.kind <;> first | rfl | exact absurd hx ne
 have hk':((mkFr ⟨fr.fn,fr.kind⟩ fr.tmps fr.defers (.inRegion ops (i::l)::k)).kind == .early)=false:=hk
 simp only [stepG.apply,if_true,hr,hk,GStep.after,Bool.false_eq_true,if_false,Array.append_empty]
 rfl
theorem step_comm {cases:Array CommCase} {bl:Bool} {sh:CommShape} (a:AtOp fr o) (hr:(execOp fr.eval o).runT P w #[]=(.ok (.comm cases bl sh) w,#[])) :
  stepG P main (G fr cs) w=.comm (G fr cs) cases bl sh w #[]:=by
 obtain ⟨ops,i,l,k,e,ho,hw,he⟩:=atOp_step a
 have hs:=stepG_op (P:=P) (main:=main) (b:=⟨fr.fn,fr.kind⟩) (t:=fr.tmps) (d:=fr.defers) (l:=l) (k:=k) (cs:=cs) (w:=w) ho hw
 rw [← e] at hs
 rw [hs]
 rw [he] at hr
 simp only [stepG.apply,if_true,hr,GStep.after,ite_self]
 rfl
theorem step_spawn {d:Deferred} {f:Fn} {cap:Array Value} (hd:d.target=.fn f cap) (a:AtOp fr o) (hr:(execOp fr.eval o).runT P w #[]=(.ok (.spawn d) w,#[])) :
  stepG P main (G fr cs) w=.spawn (G (fr.finish undef) cs) (G (goFr P d) []) w #[]:=by
 obtain ⟨ops,i,l,k,e,ho,hw,he⟩:=atOp_step a
 have hs:=stepG_op (P:=P) (main:=main) (b:=⟨fr.fn,fr.kind⟩) (t:=fr.tmps) (d:=fr.defers) (l:=l) (k:=k) (cs:=cs) (w:=w) ho hw
 rw [← e] at hs
 rw [hs]
 rw [he] at hr
 simp only [stepG.apply,if_true,hr,GStep.after,ite_self,hd,Bool.and_false,Bool.false_and,Bool.false_eq_true,if_false]
 rfl
theorem step_block {es:Array Event} (a:AtOp fr o) (hr:(execOp fr.eval o).runT P w #[]=(.halt .blocked w',es)) :
  stepG P main (G fr cs) w=.go { G fr cs with status:=.blocked } w' #[]:=by
 obtain ⟨ops,i,l,k,e,ho,hw,he⟩:=atOp_step a
 have hs:=stepG_op (P:=P) (main:=main) (b:=⟨fr.fn,fr.kind⟩) (t:=fr.tmps) (d:=fr.defers) (l:=l) (k:=k) (cs:=cs) (w:=w) ho hw
 rw [← e] at hs
 rw [hs]
 rw [he] at hr
 simp only [stepG.apply,if_true,hr,GStep.after,ite_self]
 rfl
end
structure Runs (g:Goroutine) (fr:Frame) (cs:List Frame):Prop where
 frame:g.frame=fr
 callers:g.callers=cs
 status:g.status=.running
 dying:g.dying=none
structure Parks (g:Goroutine) (fr:Frame) (cs:List Frame) (cases:Array CommCase) (sh:CommShape):Prop where
 frame:g.frame=fr
 callers:g.callers=cs
 status:g.status=.blocked
 dying:g.dying=none
 offers:g.offers=some (cases,sh)
structure Sleeps (g:Goroutine) (fr:Frame) (cs:List Frame):Prop where
 frame:g.frame=fr
 callers:g.callers=cs
 status:g.status=.blocked
 dying:g.dying=none
 offers:g.offers=none
theorem Runs.step {P:Program} {main:Bool} {g:Goroutine} {fr:Frame} {cs:List Frame} (r:Runs g fr cs) (w:World):stepG P main g w=stepG P main (G fr cs) w :=
 stepG_same r.frame r.callers r.dying w
theorem runs_G {fr:Frame} {cs:List Frame}:Runs (G fr cs) fr cs:=⟨rfl,rfl,rfl,rfl⟩
theorem Parks.eq {g:Goroutine} {fr:Frame} {cs:List Frame} {cases:Array CommCase} {sh:CommShape} (p:Parks g fr cs cases sh):g=parked (G fr cs) cases sh:=by
 obtain ⟨h1,h2,h3,h4,h5⟩:=p
 cases g;simp only at h1 h2 h3 h4 h5;subst h1;subst h2;subst h3;subst h4;subst h5;rfl
section
variable (P:Program) (cv:Value) (L:WgLink) (Em:Frame→List Frame→Hp→MX→Prop)
abbrev TN:=Node P (tHand P cv) false (tEnd P L.done)
abbrev MN:=Node P (mHand P cv L.done L.tWg) true Em
inductive Slot:Type 1
 | act (n:TN P cv L)
 | out (k m:Nat)
variable {P cv L}
def SBel:Slot P cv L→Slot P cv L→Prop
 | .act n,.act n'=>Relation.TransGen Below n n'
 | .out _ _,.act _=>True
 | .act _,.out _ _=>False
 | .out k m,.out k' m'=>k<k'∨(k=k'∧m<m')
theorem sbel_wf:WellFounded (SBel (P:=P) (cv:=cv) (L:=L)):=by
 have ho:∀ k m,Acc (SBel (P:=P) (cv:=cv) (L:=L)) (.out k m):=by
  intro k
  induction k using Nat.strongRecOn with
  | _ k ihk =>
   intro m
   induction m using Nat.strongRecOn with
   | _ m ihm =>
    refine ⟨_,fun s hs=>?_⟩
    cases s with
    | act n=>exact hs.elim
    | out k' m' =>
     rcases hs with h | ⟨rfl,h⟩
     ·exact ihk k' h m'
     ·exact ihm m' h
 refine ⟨fun s=>?_⟩
 cases s with
 | out k m=>exact ho k m
 | act n =>
  induction n using (WellFounded.transGen (below_wf (P:=P) (B:=tHand P cv) (main:=false) (E:=tEnd P L.done))).induction with
  | _ n ih =>
   refine ⟨_,fun s hs=>?_⟩
   cases s with
   | act n'=>exact ih n' hs
   | out k m=>exact ho k m
def ZS (P:Program) (ty:TypeId) (Wg:Nat):Nat→Goroutine→World→Prop
 | 6=>ZR P ty Wg
 | 5=>ZK P ty Wg
 | 4=>Z1 P ty Wg
 | 3=>Z2 P ty Wg
 | 2=>Z3 P ty Wg
 | 1=>Z4 P ty Wg
 | _=>fun _ _=>False
theorem zs_running {P:Program} {ty:TypeId} {Wg k:Nat} {g:Goroutine} {w:World} (h:ZS P ty Wg k g w):g.status=.running:=by
 unfold ZS at h
 split at h <;> first | exact h.1 | exact h.elim
theorem zg_running {P:Program} {ty:TypeId} {Wg k m:Nat} {g:Goroutine} {w:World} (h:Zg P ty Wg (ZS P ty Wg k) m g w):g.status=.running:=by
 unfold Zg at h
 cases m with
 | zero=>exact zs_running (h w fun x=>x)
 | succ m=>exact h.elim (fun h=>zs_running (h w fun x=>x)) (fun h=>h.1)
theorem zg_step {P:Program} {ty:TypeId} {Wg k m:Nat} {g:Goroutine} {w:World} (h:Zg P ty Wg (ZS P ty Wg k) m g w) :
  ZS P ty Wg k g w∨∃ m' g',m=m'+1∧stepG P false g w=.go g' w #[]∧Zg P ty Wg (ZS P ty Wg k) m' g' w:=by
 unfold Zg at h
 cases m with
 | zero=>exact .inl (h w fun x=>x)
 | succ m =>
  rcases h with h | ⟨_,h⟩
  ·exact .inl (h w fun x=>x)
  ·right
   have:=h w fun x=>x
   revert this
   cases e:stepG P false g w <;> simp only [GStep.goes,false_imp_iff]
   rintro ⟨⟨rfl,rfl⟩,q⟩
   exact ⟨m,_,rfl,rfl,q⟩
theorem zg_rely {P:Program} {ty:TypeId} {Wg m:Nat} {S:Goroutine→World→Prop} {g:Goroutine} {w w':World} (h:Zg P ty Wg S m g w) (r:RL ty Wg w w'):Zg P ty Wg S m g w' :=
 Goes.rely (fun _ _ _ a b x=>b (a x)) h r
structure Mem (w:World) (t:Trace) (hp:Nat→Hp):Prop where
 fits:∀ i,Fits (hp i) w
 sep:∀ i j,i≠j→Sep (hp i) (hp j)
 nr:∀ said,¬ Race said t
 low:Low t w.heap.size
 norel:∀ op∈t,∀ a,op.act≠.mark (.release a)
def put (hp:Nat→Hp) (a:Nat) (h:Hp):Nat→Hp:=fun i=>if i=a then h else hp i
theorem put_self {hp:Nat→Hp} {a:Nat} {h:Hp}:put hp a h a=h:=by simp [put]
theorem put_ne {hp:Nat→Hp} {a i:Nat} {h:Hp} (hi:i≠a):put hp a h i=hp i:=by simp [put,hi]
structure Own (a:Nat) (h:Hp) (w w':World) (h':Hp) (u:Trace):Prop where
 guar:Guar h w w' h'
 g:∀ op∈u,op.g=a
 mine:∀ op∈u,∀ b,op.act.touch?=some b→Mine h w w'.heap.size b
 plain:∀ op∈u,Plain op
theorem Mem.own {w w':World} {t u:Trace} {hp:Nat→Hp} {a:Nat} {h':Hp} (m:Mem w t hp) (o:Own a (hp a) w w' h' u) (k:Kn t (Knows t a) (hp a)):Mem w' (t++u) (put hp a h') where
 fits:=fun i=>by
  by_cases hi:i=a
  ·subst hi;rw [put_self];exact o.guar.fits
  ·rw [put_ne hi];exact fits_other o.guar (m.sep a i fun e=>hi e.symm) (m.fits a) (m.fits i)
 sep:=fun i j hij=>by
  by_cases hi:i=a
  ·subst hi;rw [put_self,put_ne fun e=>hij e.symm];exact sep_other o.guar (m.sep _ _ hij) (m.fits j)
  ·by_cases hj:j=a
   ·subst hj;rw [put_self,put_ne hi];exact (sep_other o.guar (m.sep _ _ fun e=>hij e.symm) (m.fits i)).symm
   ·rw [put_ne hi,put_ne hj];exact m.sep _ _ hij
 nr:=fun said=>(kn_step (m.nr said) k m.low o.guar o.g o.mine).1
 low:=(kn_step (m.nr false) k m.low o.guar o.g o.mine).2.2
 norel:=fun op ho b=>by
  rcases Array.mem_append.1 ho with ho | ho
  ·exact m.norel op ho b
  ·intro e;rcases o.plain op ho _ e with h | ⟨f,h⟩ <;> cases h
theorem Mem.mute {w w':World} {t u:Trace} {hp:Nat→Hp} (m:Mem w t hp) (hf:∀ i,Fits (hp i) w') (hs:w.heap.size≤w'.heap.size) (hm:∀ op∈u,op.act.touch?=none) (hr:∀ op∈u,∀ a,op.act≠.mark (.release a)):Mem w' (t++u) hp :=
 ⟨hf,m.sep,fun said=>race_mute (m.nr said) hm,(low_mute m.low hm).mono hs,fun op ho b=>(Array.mem_append.1 ho).elim (fun ho=>m.norel op ho b) (fun ho=>hr op ho b)⟩
theorem counts_old {t u:Trace} {j:Nat} (hj:j<t.size):(t++u).counts j↔t.counts j:=by
 unfold Trace.counts
 rw [act?_old hj]
 have:(t++u).heard j↔t.heard j:=by
  unfold Trace.heard Trace.g?
  simp only [getElem?_append_old hj,deaf_old (Nat.le_of_lt hj)]
 rw [this]
theorem g?_lt {t:Trace} {j i:Nat} (h:t.g? j=some i):j<t.size:=by
 unfold Trace.g? at h
 obtain ⟨op,ho,_⟩:=Option.map_eq_some_iff.1 h
 exact lt_size_of_getElem? ho
theorem g?_app {t u:Trace} {j:Nat} (h:j<t.size):(t++u).g? j=t.g? j:=by unfold Trace.g?;rw [getElem?_append_old h]
theorem g?_new {t u:Trace} {i j:Nat} (hu:∀ op∈u,op.g≠i) (h:(t++u).g? j=some i):j<t.size∧t.g? j=some i:=by
 unfold Trace.g? at h
 obtain ⟨op,ho,hg⟩:=Option.map_eq_some_iff.1 h
 rcases getElem?_append_cases ho with ⟨h1,h2⟩ | ⟨_,h2⟩
 ·exact ⟨h1,by simp [Trace.g?,h2,hg]⟩
 ·exact absurd hg (hu op h2)
def AllK (t:Trace) (i:Nat) (K:Nat→Prop):Prop:=∀ j,t.g? j=some i→t.counts j→K j
theorem AllK.app {t u:Trace} {i:Nat} {K K':Nat→Prop} (h:AllK t i K) (hK:∀ j,K j→K' j) (hu:∀ op∈u,op.g≠i):AllK (t++u) i K':=fun j hj hc=>by
 obtain ⟨h1,h2⟩:=g?_new hu hj
 exact hK _ (h j h2 ((counts_old h1).1 hc))
structure Rel (t:Trace) (wg i p:Nat):Prop where
 act:t.act? p=some (.mark (.releaseMerge ⟨wg,0,none⟩))
 g:t.g? p=some i
 heard:t.heard p
theorem Rel.app {t:Trace} {wg i p:Nat} (r:Rel t wg i p) (u:Trace):Rel (t++u) wg i p:=by
 have hp:=g?_lt r.g
 refine ⟨by rw [act?_old hp];exact r.act,by rw [g?_app hp];exact r.g,?_⟩
 obtain ⟨g,h1,h2⟩:=r.heard
 exact ⟨g,by rw [g?_app hp];exact h1,by rw [deaf_old (Nat.le_of_lt hp)];exact h2⟩
def SlotKn (t:Trace) (wg i:Nat) (h:Hp):Slot P cv L→Prop
 | .act n=>Kn t (Knows t i) h∧n.h=h∧Deaf t i=0
 | .out k m=>(k=6∧Kn t (Knows t i) h∧Deaf t i=0) ∨
   (k≤5∧(∃ p,Rel t wg i p∧Kn t (fun j=>Before t j p) h∧AllK t i fun j=>Before t j p)∧(k=5→Deaf t i=0)∧(1≤k→k≤4→Deaf t i=1))
theorem SlotKn.app {t u:Trace} {wg i:Nat} {h:Hp} {s:Slot P cv L} (k:SlotKn t wg i h s) (hu:∀ op∈u,op.g≠i) (hk:∀ {K K':Nat→Prop},Kn t K h→(∀ j,K j→K' j)→Kn (t++u) K' h):SlotKn (t++u) wg i h s:=by
 cases s with
 | act n=>exact ⟨hk k.1 fun j h=>h.app u,k.2.1,by rw [Deaf_others hu];exact k.2.2⟩
 | out c m =>
  rcases k with ⟨h1,h2,h3⟩ | ⟨h1,⟨p,h2,h3,h4⟩,h5,h6⟩
  ·exact .inl ⟨h1,hk h2 fun j h=>h.app u,by rw [Deaf_others hu];exact h3⟩
  ·exact .inr ⟨h1,⟨p,h2.app u,hk h3 fun j h=>h.app u,h4.app (fun j h=>h.app u) hu⟩,by rw [Deaf_others hu];exact h5,by rw [Deaf_others hu];exact h6⟩
structure Old (t:Trace) (i:Nat) (h:Hp) (s:Slot P cv L):Prop where
 out:∃ m,s=.out 0 m
 empty:h=Hp.empty
 all:AllK t i (Knows t 0)
theorem Old.app {t u:Trace} {i:Nat} {h:Hp} {s:Slot P cv L} (o:Old t i h s) (hu:∀ op∈u,op.g≠i):Old (t++u) i h s:=⟨o.out,o.empty,o.all.app (fun j h=>h.app u) hu⟩
end
end Go.PB
namespace Go.PB
open Go.Conc Go.Conc.Lib
open Go.ConcR (KK stA smA rd wr mk DC0)
def Seat.ch {σ θ:Type} (c:Seat σ θ):Nat→Nat
 | 0=>c.says
 | 1=>c.turn
 | _=>c.fin
def NewG (W0:World):MX→Prop
 | .idle=>True
 | .game X=>W0.heap.size≤X.wg∧∀ (j:Nat) (c:Seat X.g.σ X.g.θ) (a:Nat),X.seats[j]?=some c→W0.heap.size≤c.ch a
structure Side (w w':World):Prop where
 os:w'.os=w.os
 tape:w'.tape=w.tape
 output:w'.output=w.output
 frz:∀ a,w'.frozen? a=w.frozen? a
theorem Side.refl {w:World}:Side w w:=⟨rfl,rfl,rfl,fun _=>rfl⟩
theorem side_setCell {w:World} {a:Addr} {v:Value}:Side w (w.setCell a v):=⟨rfl,rfl,rfl,fun a'=>frozen_setCell ..⟩
structure Aft (W0 w:World) (hp:Nat→Hp) (x:MX):Prop where
 after:After W0 w
 own:∀ i b o v,(hp i).own b o=some v→W0.heap.size≤b
 obj:∀ i b v,(hp i).obj b=some v→W0.heap.size≤b
 game:NewG W0 x
section
variable {W0 w w':World} {hp:Nat→Hp} {x x':MX} {t u:Trace} {a:Nat} {h':Hp}
theorem Aft.le (A:Aft W0 w hp x):W0.heap.size≤w.heap.size:=A.after.1.size
theorem Aft.own_step (A:Aft W0 w hp x) (o:Own a (hp a) w w' h' u):Aft W0 w' (put hp a h') x where
 after:=⟨⟨o.guar.os.trans A.after.1.os,o.guar.tape.trans A.after.1.tape,o.guar.output.trans A.after.1.output,Nat.le_trans A.after.1.size o.guar.size,fun i hi=>by
  rw [o.guar.block i (Nat.lt_of_lt_of_le hi A.le) (fun o=>none_of fun v e=>by have:=A.own _ _ _ _ e;omega) (none_of fun v e=>by have:=A.obj _ _ _ e;omega)]
  exact A.after.1.block i hi⟩,fun a=>(o.guar.frz a).trans (A.after.2 a)⟩
 own:=fun i b k v e=>by
  by_cases hi:i=a
  ·subst hi
   rw [put_self] at e
   refine Nat.le_of_not_lt fun hlt=>?_
   have hlt':=Nat.lt_of_lt_of_le hlt A.le
   cases eh:(hp i).own b k with
   | none=>rw [o.guar.newo _ _ hlt' eh] at e;cases e
   | some v'=>have:=A.own _ _ _ _ eh;omega
  ·rw [put_ne hi] at e;exact A.own _ _ _ _ e
 obj:=fun i b v e=>by
  by_cases hi:i=a
  ·subst hi
   rw [put_self] at e
   refine Nat.le_of_not_lt fun hlt=>?_
   have hlt':=Nat.lt_of_lt_of_le hlt A.le
   cases eh:(hp i).obj b with
   | none=>rw [o.guar.newb _ hlt' eh] at e;cases e
   | some v'=>have:=A.obj _ _ _ eh;omega
  ·rw [put_ne hi] at e;exact A.obj _ _ _ e
 game:=A.game
theorem Aft.at_block (A:Aft W0 w hp x) {c:Nat} (hc:W0.heap.size≤c) (s:Side w w') (hw:∀ b,b≠c→w'.heap[b]?=w.heap[b]?) (hs:w'.heap.size=w.heap.size) (hx:NewG W0 x'):Aft W0 w' hp x' where
 after:=⟨⟨s.os.trans A.after.1.os,s.tape.trans A.after.1.tape,s.output.trans A.after.1.output,by rw [hs];exact A.after.1.size,fun i hi=>by rw [hw i (by omega)];exact A.after.1.block i hi⟩,fun a=>(s.frz a).trans (A.after.2 a)⟩
 own:=A.own
 obj:=A.obj
 game:=hx
theorem Aft.parts' (A:Aft W0 w hp x) {hp':Nat→Hp} (h1:∀ i b o v,(hp' i).own b o=some v→∃ k,(hp k).own b o=some v) (h2:∀ i b v,(hp' i).obj b=some v→∃ k,(hp k).obj b=some v) (hx:NewG W0 x'):Aft W0 w hp' x' where
 after:=A.after
 own:=fun i b o v e=>by obtain ⟨k,e⟩:=h1 _ _ _ _ e;exact A.own _ _ _ _ e
 obj:=fun i b v e=>by obtain ⟨k,e⟩:=h2 _ _ _ e;exact A.obj _ _ _ e
 game:=hx
theorem side_chan {ch:Nat} {o:Obj} {c n m:Nat} {bf:Array Value} {cl tm:Bool} (e:w.heap[ch]?=some (.chan c bf cl n m tm)) (ho:isCells o=false) (hos:w'.os=w.os) (ht:w'.tape=w.tape) (hou:w'.output=w.output) (hw:w'.heap=w.heap.setIfInBounds ch o):Side w w' where
 os:=hos
 tape:=ht
 output:=hou
 frz:=fun a=>by
  unfold World.frozen?
  rw [hw]
  by_cases h:ch=a.block
  ·subst h
   rw [Array.getElem?_setIfInBounds_self_of_lt (Array.getElem?_eq_some_iff.1 e).1,e]
   cases o <;> simp [isCells] at ho ⊢
  ·rw [Array.getElem?_setIfInBounds_ne h]
end
end Go.PB
namespace Go.PB
open Go.Conc Go.Conc.Lib
open Go.ConcR (KK stA smA rd wr mk DC0)
variable {W0:World} {P:Program} {cv:Value} {L:WgLink} {Em:Frame→List Frame→Hp→MX→Prop}
def SeatSt.isShut {σ θ:Type}:SeatSt σ θ→Bool
 | .shut _=>true
 | _=>false
def SeatSt.isRun {σ θ:Type}:SeatSt σ θ→Bool
 | .run _ _=>true
 | _=>false
inductive PhOk {g:Game} (left:Nat):SeatSt g.σ g.θ→Ph g.σ g.θ→Prop
 | run {s q n} (h:left≤n):PhOk left (.run s q) (.busy s q n)
 | said {q n} (h:left≤n) (hp:(g.plan q).isSome=true):PhOk left (.said q) (.said q n)
 | over {q} (hp:g.plan q=none):PhOk left (.said q) (.over q)
 | shutS {q n} (hp:(g.plan q).isSome=true):PhOk left (.shut q) (.said q n)
 | shutO {q}:PhOk left (.shut q) (.over q)
 | shutC {q}:PhOk left (.shut q) (.cut q)
def SlotG (w:World) (wg d:Nat) (g:Goroutine):Slot P cv L→Prop
 | .act n=>Runs g n.fr n.cs∨∃ cases sh,Parks g n.fr n.cs cases sh∧∃ fr cs h x o O at_ rr a k,n=⟨fr,cs,h,x,.comm o cases true sh O at_ rr a k⟩
 | .out 0 m=>QuitsD P m d g
 | .out (k+1) m=>Zg P L.tWg wg (ZS P L.tWg wg (k+1)) m g w
def SeatAt (X:GX) (c:Seat X.g.σ X.g.θ) (h:Hp):Slot P cv L→Prop
 | .act n=>∃ ph,n.x=⟨X.g,c.says,c.turn,c.fin,X.wg,ph⟩∧PhOk X.left c.st ph
 | .out k m=>k≤6∧∃ q,((c.st=.said q∧X.g.plan q=none)∨c.st=.shut q)∧Star [X.g.Fin q] h
def Slot.stage:Slot P cv L→Nat
 | .act _=>7
 | .out k _=>k
inductive WgPh (L:WgLink) (X:GX) (st:List Nat) (w:World):Prop
 | quiet (v wt:Nat) (at_:WgAt L.tWg X.wg w (v*KK+wt) 0) (hv:v+(X.seats.length+X.nf)=(st.filter fun k=>decide (4≤k)).length+X.ad) (late:∀ k∈st,k=0∨4≤k)
   (hw:wt=match X.wt with | .parked=>1 | _=>0) (park:X.wt=.parked→0<v)
   (b:match X.wt with | .wait b=>v≤b | .seen v0=>v≤v0 | .woken=>v=0 | .zero=>v=0 | _=>True)
 | late (p:X.wt=.parked) (i k:Nat) (hi:st[i]?=some k) (hk:k=3∨k=2) (at_:WgAt L.tWg X.wg w 1 0) (oth:∀ j k,st[j]?=some k→j≠i→k=0)
 | late1 (p:X.wt=.parked) (i:Nat) (hi:st[i]?=some 1) (at_:WgAt L.tWg X.wg w 0 0) (oth:∀ j k,st[j]?=some k→j≠i→k=0)
 | free (p:X.wt=.parked) (at_:WgAt L.tWg X.wg w 0 1) (oth:∀ k∈st,k=0)
abbrev St (X:GX):=Seat X.g.σ X.g.θ
structure GameAt (X:GX) (gs:Array Goroutine) (w:World) (t:Trace) (sl:List (Slot P cv L)) (hp:Nat→Hp) (nb:Nat):Prop where
 len:sl.length=nb+(X.seats.length+X.nf)
 old:∀ (i:Nat) (s:Slot P cv L),i<nb→sl[i]?=some s→Old t (i+1) (hp (i+1)) s
 seat:∀ (j:Nat) (c:St X),X.seats[j]?=some c→∃ s,sl[nb+j]?=some s∧SeatAt X c (hp (nb+j+1)) s
 know:∀ (j:Nat) (s:Slot P cv L),sl[nb+j]?=some s→SlotKn t X.wg (nb+j+1) (hp (nb+j+1)) s
 chan:∀ (j:Nat) (c:St X),X.seats[j]?=some c→∀ a,a<3→∃ n,w.heap[c.ch a]?=some (Obj.chan 0 #[] (decide (a=2)&&c.st.isShut) n n false)
 dist:∀ (j j':Nat) (c c':St X) (a a':Nat),X.seats[j]?=some c→X.seats[j']?=some c'→a<3→a'<3→c.ch a=c'.ch a'→j=j'∧a=a'
 noch:∀ (i j:Nat) (c:St X) (a:Nat),X.seats[j]?=some c→a<3→(hp i).obj (c.ch a)=none
 nowg:∀ i o,(hp i).own X.wg o=none∧(hp i).ro X.wg o=none
 wg:WgPh L X (sl.map Slot.stage) w
 wgt:∀ (i:Nat) (a:Touch) (o:Nat),o<2→touchAt t i=some a→a.loc=.cell ⟨X.wg,o,none⟩ →
  (a.kind≠.plain∧(a.kind=.said→t.g? i=some 0))∨(Knows t 0 i∧∀ (j:Nat),j<X.seats.length+X.nf→Knows t (nb+j+1) i)
 deaf:Deaf t 0=if X.deaf then 1 else 0
 tok0:X.tok=none→∃ (j:Nat) (c:St X),X.seats[j]?=some c∧c.st.isRun=true∧∀ (j':Nat) (c':St X),X.seats[j']?=some c'→j'≠j→c'.st.isRun=false
 tok1:X.tok.isSome=true→∀ (j:Nat) (c:St X),X.seats[j]?=some c→c.st.isRun=false
 adp:X.wt=.play→X.ad=X.seats.length+X.nf∨(X.ad=X.seats.length+X.nf+1∧X.tok.isSome=true)
 ads:X.wt≠.play→X.ad=X.seats.length+X.nf∧∀ (j:Nat) (c:St X),X.seats[j]?=some c→c.st.isShut=true
 adl:X.ad≤1000
 live:∀ (j:Nat) (c:St X) (g:Goroutine),X.seats[j]?=some c→gs[nb+j+1]?=some g→c.st.isShut=true→g.status≠.blocked
 park:∀ (g0:Goroutine) (cases:Array CommCase) (sh:CommShape),gs[0]?=some g0→g0.status=.blocked→g0.offers=some (cases,sh)→∃ (j:Nat) (c:St X),X.seats[j]?=some c∧X.wt=.play ∧
   ((∃ z,cases=#[rcase c.says z])∨(∃ v z,cases=#[scase c.turn v z]))∧∀ (g:Goroutine),gs[nb+j+1]?=some g→g.status≠.blocked
 sleep:∀ (g0:Goroutine),gs[0]?=some g0→g0.status=.blocked→g0.offers=none→X.wt=.parked∧¬ WgAt L.tWg X.wg w 0 1
 cht:∀ (j:Nat) (c:St X) (a i:Nat) (b:Touch),X.seats[j]?=some c→a<3→touchAt t i=some b→b.loc=.obj (c.ch a)→Knows t 0 i
def FreeSt {g:Game} (wg m:Nat) (q:g.θ) (h:Hp):Slot P cv L→Prop
 | .act n=>∃ n',n.x=⟨g,0,0,0,wg,.free q n'⟩∧m≤n'
 | .out _ _=>g.plan q=none∧Star [g.Fin q] h
structure Pool (W0:World) (g:Game) (wg nf:Nat) (d:FreeD g) (w:World) (t:Trace) (sl:List (Slot P cv L)) (hp:Nat→Hp) (nb:Nat) (pl:Hp) (s:g.σ) (qs:List g.θ):Prop where
 len:sl.length=nb+nf
 u:g.U s pl
 fits:Fits pl w
 obj:∀ b ob,pl.obj b=some ob→W0.heap.size≤b∧∀ i a,touchAt t i=some a→a.loc=.obj b→Knows t 0 i
 sep:∀ i,Sep (hp i) pl
 nowg:∀ o,pl.own wg o=none∧pl.ro wg o=none
 new:∀ b o v,pl.own b o=some v→W0.heap.size≤b
 kno:∀ b o v,pl.own b o=some v→∀ i a,touchAt t i=some a→a.loc=.cell ⟨b,o,none⟩→(a.kind=.atomic∧t.counts i∧∃ j,j<nf∧t.g? i=some (nb+j+1))∨(Knows t 0 i∧∀ j,j<nf→Knows t (nb+j+1) i)
 knr:∀ b o v,pl.ro b o=some v→∀ i a,touchAt t i=some a→a.loc=.cell ⟨b,o,none⟩→a.write=true→Knows t 0 i∧∀ j,j<nf→Knows t (nb+j+1) i
 inv:d.I s qs
 pot:d.φ s qs≤d.N
 qlen:qs.length=d.q0.length
 slot:∀ (j:Nat) (sx:Slot P cv L),sl[nb+j]?=some sx→∃ q,qs[j]?=some q∧FreeSt wg (d.φ s qs) q (hp (nb+j+1)) sx
 rest:∀ j,nf≤j→qs[j]?=d.q0[j]?
def PoolOk (W0:World) (x:MX) (w:World) (t:Trace) (sl:List (Slot P cv L)) (hp:Nat→Hp):Prop:=match x with
 | .idle=>True
 | .game X=>(X.free=none→X.nf=0)∧∀ d,X.free=some d→X.seats=[]∧X.tok.isSome=true∧∃ nb pl s qs,Pool W0 X.g X.wg X.nf d w t sl hp nb pl s qs
theorem touchAt_lt {t:Trace} {i:Nat} {a:Touch} (h:touchAt t i=some a):i<t.size:=by
 obtain ⟨op,ho,_⟩:=touch_of h
 exact lt_size_of_getElem? ho
theorem Pool.step {g:Game} {wg nf:Nat} {d:FreeD g} {w w':World} {t u:Trace} {sl sl':List (Slot P cv L)} {hp hp':Nat→Hp} {nb:Nat} {pl:Hp} {s:g.σ} {qs:List g.θ} (p:Pool W0 g wg nf d w t sl hp nb pl s qs)
  (hf:Fits pl w') (hs:∀ i,Sep (hp' i) pl) (hu:∀ op∈u,∀ a,op.act.touch?=some a→(∀ b o,a.loc=.cell ⟨b,o,none⟩→pl.own b o=none∧(a.write=true→pl.ro b o=none))∧∀ b,a.loc=.obj b→pl.obj b=none) (hl:sl'.length=sl.length)
  (hsl:∀ (m:Nat) (q:g.θ) (i:Nat) (sx':Slot P cv L),sl'[i]?=some sx'→∃ sx,sl[i]?=some sx∧(FreeSt wg m q (hp (i+1)) sx→FreeSt wg m q (hp' (i+1)) sx')):Pool W0 g wg nf d w' (t++u) sl' hp' nb pl s qs where
 len:=by rw [hl];exact p.len
 u:=p.u
 fits:=hf
 obj:=fun b ob e=>⟨(p.obj b ob e).1,fun i a ha hl=>by
  rcases touch_split ha with ha | ⟨op,ho,_,h2⟩
  ·exact ((p.obj b ob e).2 i a ha hl).app u
  ·have:=(hu op ho a h2).2 b hl
   rw [e] at this;cases this⟩
 sep:=hs
 nowg:=p.nowg
 new:=p.new
 kno:=fun b o v e i a ha hl=>by
  rcases touch_split ha with ha | ⟨op,ho,_,h2⟩
  ·rcases p.kno b o v e i a ha hl with ⟨h1,h2,j,h3,h4⟩ | ⟨h1,h2⟩
   ·exact .inl ⟨h1,(counts_old (touchAt_lt ha)).2 h2,j,h3,by rw [g?_app (touchAt_lt ha)];exact h4⟩
   ·exact .inr ⟨h1.app u,fun j hj=>(h2 j hj).app u⟩
  ·have:=((hu op ho a h2).1 b o hl).1
   rw [e] at this;cases this
 knr:=fun b o v e i a ha hl hw=>by
  rcases touch_split ha with ha | ⟨op,ho,_,h2⟩
  ·obtain ⟨h1,h2⟩:=p.knr b o v e i a ha hl hw
   exact ⟨h1.app u,fun j hj=>(h2 j hj).app u⟩
  ·have:=((hu op ho a h2).1 b o hl).2 hw
   rw [e] at this;cases this
 inv:=p.inv
 pot:=p.pot
 qlen:=p.qlen
 slot:=fun j sx' hj=>by
  obtain ⟨q0,_⟩:∃ q,qs[j]?=some q:=by
   obtain ⟨sx,h1,_⟩:∃ sx,sl[nb+j]?=some sx∧True:=⟨_,List.getElem?_eq_getElem (by rw [← hl];exact (List.getElem?_eq_some_iff.1 hj).1),trivial⟩
   obtain ⟨q,h2,_⟩:=p.slot j sx h1
   exact ⟨q,h2⟩
  obtain ⟨sx,h1,h2⟩:=hsl (d.φ s qs) q0 (nb+j) sx' hj
  obtain ⟨q,h3,h4⟩:=p.slot j sx h1
  obtain ⟨sx2,h5,h6⟩:=hsl (d.φ s qs) q (nb+j) sx' hj
  rw [h1] at h5;cases h5
  exact ⟨q,h3,h6 h4⟩
 rest:=p.rest
theorem PoolOk.step {x:MX} {w w':World} {t u:Trace} {sl sl':List (Slot P cv L)} {hp hp':Nat→Hp} (p:PoolOk W0 x w t sl hp)
  (H:∀ pl:Hp,(∀ X,x=.game X→∀ o,pl.own X.wg o=none∧pl.ro X.wg o=none)→(∀ i,Sep (hp i) pl)→Fits pl w→Fits pl w'∧(∀ i,Sep (hp' i) pl) ∧
   ∀ op∈u,∀ a,op.act.touch?=some a→(∀ b o,a.loc=.cell ⟨b,o,none⟩→pl.own b o=none∧(a.write=true→pl.ro b o=none))∧∀ b,a.loc=.obj b→pl.obj b=none) (hl:sl'.length=sl.length)
  (hsl:∀ (g:Game) (wg m:Nat) (q:g.θ) (i:Nat) (sx':Slot P cv L),sl'[i]?=some sx'→∃ sx,sl[i]?=some sx∧(FreeSt wg m q (hp (i+1)) sx→FreeSt wg m q (hp' (i+1)) sx')):PoolOk W0 x w' (t++u) sl' hp':=by
 cases x with
 | idle=>trivial
 | game X =>
  refine ⟨p.1,fun d hd=>?_⟩
  obtain ⟨h1,h2,nb,pl,s,qs,h3⟩:=p.2 d hd
  obtain ⟨e1,e2,e3⟩:=H pl (fun X' e o=>by cases e;exact h3.nowg o) h3.sep h3.fits
  exact ⟨h1,h2,nb,pl,s,qs,h3.step e1 e2 e3 hl fun m q=>hsl X.g X.wg m q⟩
theorem PoolOk.same {x:MX} {w:World} {t:Trace} {sl:List (Slot P cv L)} {hp hp':Nat→Hp} (p:PoolOk W0 x w t sl hp) (hs:∀ i,Frz (hp i) (hp' i)) (ho:∀ i,i≠0→hp' i=hp i):PoolOk W0 x w t sl hp':=by
 have:=p.step (w':=w) (u:=#[]) (sl':=sl) (hp':=hp') (fun pl _ h2 h3=>⟨h3,fun i=>(hs i).sep (h2 i),fun op ho=>by simp at ho⟩) rfl fun g wg m q i sx hi=>⟨sx,hi,fun h=>by rw [ho _ (by omega)];exact h⟩
 rwa [Array.append_empty] at this
structure IdleAt (t:Trace) (sl:List (Slot P cv L)) (hp:Nat→Hp) (gs:Array Goroutine):Prop where
 old:∀ (i:Nat) (s:Slot P cv L),sl[i]?=some s→Old t (i+1) (hp (i+1)) s
 deaf:Deaf t 0=0
 runs:∀ (g0:Goroutine),gs[0]?=some g0→g0.status≠.blocked
def MainG (g:Goroutine) (n:MN P cv L Em):Prop :=
 Runs g n.fr n.cs∨(∃ cases sh,Parks g n.fr n.cs cases sh∧∃ fr cs h x o O at_ rr a k,n=⟨fr,cs,h,x,.comm o cases true sh O at_ rr a k⟩) ∨
  (Sleeps g n.fr n.cs∧∃ fr cs h x o O at_ ne a k,n=⟨fr,cs,h,x,.act o O at_ ne a k⟩)
structure Cfg (W0:World) (gs:Array Goroutine) (w:World) (t:Trace) (M:MN P cv L Em) (sl:List (Slot P cv L)) (hp:Nat→Hp):Prop where
 size:gs.size=sl.length+1
 main:∃ g,gs[0]?=some g∧MainG g M
 thr:∀ i s,sl[i]?=some s→∃ g,gs[i+1]?=some g∧SlotG w (match M.x with | .game X=>X.wg | .idle=>0) (Deaf t (i+1)) g s
 mem:Mem w t hp
 aft:Aft W0 w hp M.x
 hp0:hp 0=M.h
 hpn:∀ i,sl.length<i→hp i=Hp.empty
 tg:∀ (i:Nat) (op:MemOp),t[i]?=some op→op.g≤sl.length
 kn0:Kn t (Knows t 0) (hp 0)
 game:match M.x with
  | .idle=>IdleAt t sl hp gs
  | .game X=>∃ nb,GameAt X gs w t sl hp nb
 pool:PoolOk W0 M.x w t sl hp
theorem Cfg.turns {gs:Array Goroutine} {w:World} {t:Trace} {M:MN P cv L Em} {sl:List (Slot P cv L)} {hp:Nat→Hp} {X:GX} {j:Nat} {cx:St X} (c:Cfg W0 gs w t M sl hp) (hX:M.x=.game X) (hj:X.seats[j]?=some cx):X.free=none∧X.nf=0:=by
 have hp:=c.pool
 rw [hX] at hp
 cases hf:X.free with
 | none=>exact ⟨rfl,hp.1 hf⟩
 | some d=>rw [(hp.2 d hf).1] at hj;simp at hj
end Go.PB
namespace Go.PB
open Go.Conc Go.Conc.Lib
open Go.ConcR (KK stA smA rd wr mk DC0)
variable {W0:World} {P:Program} {cv:Value} {L:WgLink} {Em:Frame→List Frame→Hp→MX→Prop}
theorem woken_cases (g g':Goroutine) (w':World) (o:Goroutine):woken P g g' w' o=o∨(woken P g g' w' o={ o with status:=.running }∧(o.status=.blocked∨o.status=.waiting)):=by
 unfold woken
 split
 ·unfold Goroutine.again
  split
  ·rename_i h1 h2
   simp only
   split
   ·exact .inr ⟨rfl,.inl h1⟩
   ·exact .inl rfl
  ·rename_i h1 h2;exact .inr ⟨rfl,.inl h1⟩
  ·rename_i h1;exact .inr ⟨rfl,.inr h1⟩
  ·exact .inl rfl
 ·exact .inl rfl
theorem woken_blocked {g g':Goroutine} {w':World} {o:Goroutine} (h:(woken P g g' w' o).status=.blocked):woken P g g' w' o=o:=by
 rcases woken_cases (P:=P) g g' w' o with e | ⟨e,_⟩
 ·exact e
 ·rw [e] at h;cases h
theorem woken_run {g g':Goroutine} {w':World} {o:Goroutine} (h:o.status=.running):woken P g g' w' o=o:=by
 rcases woken_cases (P:=P) g g' w' o with e | ⟨e,h' | h'⟩
 ·exact e
 ·rw [h] at h';cases h'
 ·rw [h] at h';cases h'
theorem woken_fin {g g':Goroutine} {w':World} {o:Goroutine} (h:o.status=.running∨o.status=.finished):woken P g g' w' o=o:=by
 rcases woken_cases (P:=P) g g' w' o with e | ⟨e,h' | h'⟩
 ·exact e
 ·rcases h with h | h <;> (rw [h] at h';cases h')
 ·rcases h with h | h <;> (rw [h] at h';cases h')
theorem MainG.woken {w':World} {g g' o:Goroutine} {n:MN P cv L Em} (h:MainG o n):MainG (woken P g g' w' o) n:=by
 rcases woken_cases (P:=P) g g' w' o with e | ⟨e,hb⟩
 ·rw [e];exact h
 ·rw [e]
  rcases h with h | ⟨_,_,h,_⟩ | ⟨h,_⟩
  ·exact .inl ⟨h.frame,h.callers,rfl,h.dying⟩
  ·exact .inl ⟨h.frame,h.callers,rfl,h.dying⟩
  ·exact .inl ⟨h.frame,h.callers,rfl,h.dying⟩
structure Gs (P:Program) (a:Nat) (gs gs':Array Goroutine) (g':Goroutine):Prop where
 size:gs'.size=gs.size
 self:gs'[a]?=some g'
 other:∀ (i:Nat) (g:Goroutine),i≠a→gs[i]?=some g→∃ x x' w,gs'[i]?=some (woken P x x' w g)
 back:∀ (i:Nat) (g:Goroutine),i≠a→gs'[i]?=some g→g.status=.blocked→gs[i]?=some g
theorem gs_go {a:Nat} {gs:Array Goroutine} {g g':Goroutine} {w':World} (h:gs[a]?=some g):Gs P a gs ((gs.map (woken P g g' w')).setIfInBounds a g') g':=by
 have hlt:=(Array.getElem?_eq_some_iff.1 h).1
 refine ⟨by simp,by simp [hlt],fun i o hi ho=>⟨g,g',w',?_⟩,fun i o hi ho hb=>?_⟩
 ·rw [Array.getElem?_setIfInBounds_ne fun e=>hi e.symm,Array.getElem?_map,ho];rfl
 ·rw [Array.getElem?_setIfInBounds_ne fun e=>hi e.symm,Array.getElem?_map] at ho
  obtain ⟨o',h1,h2⟩:=Option.map_eq_some_iff.1 ho
  subst h2
  rw [woken_blocked hb];exact h1
theorem own_chan {w w':World} {h h':Hp} {b:Nat} {ob:Obj} (g:Guar h w w' h') (f:Fits h w) (hn:h.obj b=none) (hc:isCells ob=false) (e:w.heap[b]?=some ob):w'.heap[b]?=some ob:=by
 rw [g.block b (Array.getElem?_eq_some_iff.1 e).1 (fun o=>none_of fun v hv=>?_) hn]
 ·exact e
 ·have h1:=f.own _ _ _ hv
  unfold World.cell? at h1
  simp only [e] at h1
  cases ob <;> simp [isCells] at h1 hc
theorem own_wg {w w':World} {h h':Hp} {ty:TypeId} {wg:Nat} {st sm:Int} (g:Guar h w w' h') (f:Fits h w) (hn:∀ o,h.own wg o=none∧h.ro wg o=none) (e:WgAt ty wg w st sm):WgAt ty wg w' st sm:=by
 refine e.of_heap ?_
 obtain ⟨fz,e,_⟩:=e
 rw [g.block wg (Array.getElem?_eq_some_iff.1 e).1 (fun o=>(hn o).1) (none_of fun v hv=>?_)]
 ·have h1:=f.obj _ _ hv
  rw [e] at h1;cases h1
  have:=f.objn _ _ hv
  simp [isCells] at this
theorem WgPh.at {X:GX} {st:List Nat} {w w':World} (p:WgPh L X st w) (h:∀ a b,WgAt L.tWg X.wg w a b→WgAt L.tWg X.wg w' a b):WgPh L X st w':=by
 cases p with
 | quiet v wt a hv late hw park b=>exact .quiet v wt (h _ _ a) hv late hw park b
 | late p i k hi hk a oth=>exact .late p i k hi hk (h _ _ a) oth
 | late1 p i hi a oth=>exact .late1 p i hi (h _ _ a) oth
 | free p a oth=>exact .free p (h _ _ a) oth
theorem WgPh.ex {X:GX} {st:List Nat} {w:World} (p:WgPh L X st w):∃ a b,WgAt L.tWg X.wg w a b:=by
 cases p with
 | quiet v wt a=>exact ⟨_,_,a⟩
 | late p i k hi hk a=>exact ⟨_,_,a⟩
 | late1 p i hi a=>exact ⟨_,_,a⟩
 | free p a=>exact ⟨_,_,a⟩
theorem wgAt_lt {ty:TypeId} {wg:Nat} {w:World} {a b:Int} (h:WgAt ty wg w a b):wg<w.heap.size:=by obtain ⟨_,h,_⟩:=h;exact (Array.getElem?_eq_some_iff.1 h).1
structure Sl (a:Nat) (sl sl':List (Slot P cv L)) (h':Hp):Prop where
 len:sl'.length=sl.length
 other:∀ j,j+1≠a→sl'[j]?=sl[j]?
 self:∀ j,j+1=a→∃ n n':TN P cv L,sl[j]?=some (.act n)∧sl'[j]?=some (.act n')∧n'.x=n.x∧n'.h=h'
theorem Sl.stages {a:Nat} {sl sl':List (Slot P cv L)} {h':Hp} (s:Sl a sl sl' h'):sl'.map Slot.stage=sl.map Slot.stage:=by
 apply List.ext_getElem?
 intro j
 simp only [List.getElem?_map]
 by_cases hj:j+1=a
 ·obtain ⟨n,n',h1,h2,_⟩:=s.self j hj
  rw [h1,h2];rfl
 ·rw [s.other j hj]
theorem GameAt.own {X:GX} {gs gs':Array Goroutine} {w w':World} {t u:Trace} {sl sl':List (Slot P cv L)} {hp:Nat→Hp} {nb a:Nat} {h':Hp} {g':Goroutine}
  (G:GameAt X gs w t sl hp nb) (m:Mem w t hp) (o:Own a (hp a) w w' h' u) (k:Kn t (Knows t a) (hp a)) (q:Gs P a gs gs' g') (s:Sl a sl sl' h') (hr:g'.status≠.blocked):GameAt X gs' w' (t++u) sl' (put hp a h') nb:=by
 have hwg:=G.wg.ex
 obtain ⟨wa,wb,hwa⟩:=hwg
 have hnew:∀ i a' o',touchAt (t++u) i=some a'→a'.loc=.cell ⟨X.wg,o',none⟩→touchAt t i=some a':=fun i a' o' ha hl=>by
  rcases touch_split ha with ha | ⟨op,ho,_,hb⟩
  ·exact ha
  ·exfalso
   rcases o.mine op ho a' hb with ⟨bl,o2,h1,_,h3⟩ | ⟨r,h1,_⟩
   ·rw [h1] at hl;cases hl
    have:=G.nowg a o'
    rcases h3 with h3 | h3 | ⟨_,h3⟩
    ·have:=wgAt_lt hwa;omega
    ·rw [this.1] at h3;cases h3
    ·rw [this.2] at h3;cases h3
   ·rw [h1] at hl;cases hl
 have hna:∀ i,i≠a→∀ op∈u,op.g≠i:=fun i hi op ho e=>hi (by rw [← e,o.g op ho])
 refine ⟨by rw [s.len];exact G.len,fun i c hi hc=>?_,fun j c hc=>?_,fun j c hc=>?_,fun j c hc b hb=>?_,G.dist,fun i j c b hc hb=>?_,fun i b=>?_,?_,fun i b o' ho2 hb hl=>?_,?_,G.tok0,G.tok1,G.adp,G.ads,G.adl,fun j c g hc hg hs hb=>?_,fun g0 cases sh hg hb ho=>?_,fun g0 hg hb ho=>?_,fun j c b i x hc hb hx hl=>?_⟩
 ·by_cases ha:i+1=a
  ·obtain ⟨n,n',h1,_⟩:=s.self i ha
   obtain ⟨m',e⟩:=(G.old i _ hi h1).out
   cases e
  ·rw [s.other i ha] at hc
   rw [put_ne ha]
   exact (G.old i c hi hc).app (hna _ ha)
 ·obtain ⟨sx,h1,h2⟩:=G.seat j c hc
  by_cases ha:nb+j+1=a
  ·obtain ⟨n,n',h3,h4,h5,h6⟩:=s.self _ ha
   rw [h1] at h3;cases h3
   exact ⟨_,h4,by
    obtain ⟨ph,e1,e2⟩:=h2
    exact ⟨ph,h5.trans e1,e2⟩⟩
  ·exact ⟨sx,by rw [s.other _ ha];exact h1,by rw [put_ne ha];exact h2⟩
 ·by_cases ha:nb+j+1=a
  ·obtain ⟨n,n',h3,h4,h5,h6⟩:=s.self _ ha
   rw [h4] at hc;cases hc
   have hk:=G.know j _ h3
   subst ha
   rw [put_self]
   exact ⟨(kn_step (m.nr false) k m.low o.guar o.g o.mine).2.1,h6,by rw [Deaf_plain o.plain];exact hk.2.2⟩
  ·rw [s.other _ ha] at hc
   rw [put_ne ha]
   exact (G.know j c hc).app (hna _ ha) fun kk hK=>kn_other kk (fun j hj=>hK j hj) (m.sep a _ fun e=>ha e.symm) (m.fits _) o.mine
 ·obtain ⟨n,e⟩:=G.chan j c hc b hb
  exact ⟨n,own_chan o.guar (m.fits a) (G.noch a j c b hc hb) rfl e⟩
 ·by_cases ha:i=a
  ·subst ha
   obtain ⟨n,e⟩:=G.chan j c hc b hb
   rw [put_self]
   exact o.guar.newb _ (Array.getElem?_eq_some_iff.1 e).1 (G.noch i j c b hc hb)
  ·rw [put_ne ha];exact G.noch i j c b hc hb
 ·by_cases ha:i=a
  ·subst ha
   rw [put_self]
   exact ⟨o.guar.newo _ _ (wgAt_lt hwa) (G.nowg i b).1,o.guar.newr _ _ (wgAt_lt hwa) (G.nowg i b).1 (G.nowg i b).2⟩
  ·rw [put_ne ha];exact G.nowg i b
 ·rw [s.stages]
  exact G.wg.at fun x y hxy=>own_wg o.guar (m.fits a) (G.nowg a) hxy
 ·have hb':=hnew i b o' hb hl
  rcases G.wgt i b o' ho2 hb' hl with this | ⟨k0,k1⟩
  ·refine .inl ⟨this.1,fun hs=>?_⟩
   have h1:=this.2 hs
   rw [g?_app (g?_lt h1)];exact h1
  ·exact .inr ⟨k0.app u,fun j hj=>(k1 j hj).app u⟩
 ·rw [Deaf_plain o.plain];exact G.deaf
 ·by_cases ha:nb+j+1=a
  ·subst ha;rw [q.self] at hg;cases hg;exact hr hb
  ·exact G.live j c g hc (q.back _ _ ha hg hb) hs hb
 ·by_cases ha:0=a
  ·subst ha;rw [q.self] at hg;cases hg;exact absurd hb hr
  ·obtain ⟨j,c,h1,h2,h3,h4⟩:=G.park g0 cases sh (q.back _ _ ha hg hb) hb ho
   refine ⟨j,c,h1,h2,h3,fun g hg2 hb2=>?_⟩
   by_cases ha2:nb+j+1=a
   ·subst ha2;rw [q.self] at hg2;cases hg2;exact hr hb2
   ·exact h4 g (q.back _ _ ha2 hg2 hb2) hb2
 ·by_cases ha:0=a
  ·subst ha;rw [q.self] at hg;cases hg;exact absurd hb hr
  ·have:=G.sleep g0 (q.back _ _ ha hg hb) hb ho
   refine ⟨this.1,fun hx=>this.2 ?_⟩
   have hz:=own_wg o.guar (m.fits a) (G.nowg a) hwa
   have:=WgAt.unique hz hx
   rw [this.1,this.2] at hwa;exact hwa
 ·rcases touch_split hx with hx | ⟨op,ho,_,h2⟩
  ·exact (G.cht j c b i x hc hb hx hl).app u
  ·exfalso
   obtain ⟨n,e⟩:=G.chan j c hc b hb
   rcases o.mine op ho x h2 with ⟨bl,o2,h1,_⟩ | ⟨r,h1,_,h3⟩
   ·rw [h1] at hl;cases hl
   ·rw [h1] at hl;cases hl
    rcases h3 with h3 | h3
    ·have:=(Array.getElem?_eq_some_iff.1 e).1;omega
    ·rw [G.noch a j c b hc hb] at h3;cases h3
end Go.PB
namespace Go.PB
open Go.Conc Go.Conc.Lib
open Go.ConcR (KK stA smA rd wr mk DC0)
variable {W0:World} {P:Program} {cv:Value} {L:WgLink} {Em:Frame→List Frame→Hp→MX→Prop}
theorem own_of_events {a:Nat} {h h':Hp} {w w':World} {fn:FuncId} {pos:String} {es:Array Event} (g:Guar h w w' h') (he:∀ e∈es,EvOk Still h w w'.heap.size e):Own a h w w' h' (MemOp.ofEvents a fn pos es) where
 guar:=g
 g:=fun op ho=>by obtain ⟨e,_,rfl⟩:=ofEvents_mem ho;rfl
 mine:=fun op ho b hb=>by obtain ⟨e,h1,rfl⟩:=ofEvents_mem ho;exact (mine_of_event (fun _ x=>x) (he e h1)).2 b hb
 plain:=fun op ho m hm=>by obtain ⟨e,h1,rfl⟩:=ofEvents_mem ho;exact (mine_of_event (fun _ x=>x) (he e h1)).1 m hm
theorem slot_woken {w w' w2:World} {wg d d':Nat} {g g' o:Goroutine} {s:Slot P cv L} (hd:d'=d) (r:RL L.tWg wg w w') (hs:SlotG w wg d o s):SlotG w' wg d' (woken P g g' w2 o) s:=by
 subst hd
 cases s with
 | act n =>
  rcases hs with h | ⟨cases,sh,h,hx⟩
  ·exact .inl (by rw [woken_run h.status];exact h)
  ·rcases woken_cases (P:=P) g g' w2 o with e | ⟨e,_⟩
   ·exact .inr ⟨cases,sh,by rw [e];exact h,hx⟩
   ·exact .inl (by rw [e];exact ⟨h.frame,h.callers,rfl,h.dying⟩)
 | out k m =>
  cases k with
  | zero=>show QuitsD P m d' _;rw [woken_fin (QuitsD.status hs)];exact hs
  | succ k=>show Zg P L.tWg wg _ m _ w';rw [woken_run (zg_running hs)];exact zg_rely hs r
theorem old_woken {w w' w2:World} {wg d d':Nat} {g g' o:Goroutine} {t:Trace} {i:Nat} {h:Hp} {s:Slot P cv L} (ol:Old t i h s) (hd:d'=d) (hs:SlotG w wg d o s):SlotG w' wg d' (woken P g g' w2 o) s:=by
 obtain ⟨m,rfl⟩:=ol.out
 subst hd
 show QuitsD P m d' _
 rw [woken_fin (QuitsD.status hs)];exact hs
theorem Cfg.own {gs gs':Array Goroutine} {w w':World} {t u:Trace} {M M':MN P cv L Em} {sl sl':List (Slot P cv L)} {hp:Nat→Hp} {a:Nat} {h':Hp} {fr':Frame} {cs':List Frame}
  (c:Cfg W0 gs w t M sl hp) (ha:a≤sl.length) (o:Own a (hp a) w w' h' u) (kn:Kn t (Knows t a) (hp a)) (q:Gs P a gs gs' (G fr' cs')) (s:Sl a sl sl' h') (hx:M'.x=M.x) (hh:M'.h=put hp a h' 0)
  (hm:a≠0→M'=M) (hm0:a=0→M'.fr=fr'∧M'.cs=cs') (hs:∀ j n',j+1=a→sl'[j]?=some (.act n')→n'.fr=fr'∧n'.cs=cs'):Cfg W0 gs' w' (t++u) M' sl' (put hp a h') where
 size:=by rw [q.size,s.len];exact c.size
 main:=by
  by_cases h0:a=0
  ·subst h0
   obtain ⟨e1,e2⟩:=hm0 rfl
   exact ⟨_,q.self,.inl (by rw [e1,e2];exact runs_G)⟩
  ·rw [hm h0]
   obtain ⟨g,h1,h2⟩:=c.main
   obtain ⟨x,x',w2,h3⟩:=q.other 0 g (fun e=>h0 e.symm) h1
   exact ⟨_,h3,h2.woken⟩
 thr:=fun i sx hi=>by
  by_cases hia:i+1=a
  ·obtain ⟨n,n',h1,h2,h3,h4⟩:=s.self i hia
   rw [h2] at hi;cases hi
   obtain ⟨e1,e2⟩:=hs i n' hia h2
   exact ⟨_,by rw [hia];exact q.self,.inl (by rw [e1,e2];exact runs_G)⟩
  ·rw [s.other i hia] at hi
   obtain ⟨g,h1,h2⟩:=c.thr i sx hi
   obtain ⟨x,x',w2,h3⟩:=q.other (i+1) g hia h1
   refine ⟨_,h3,?_⟩
   have hd:Deaf (t++u) (i+1)=Deaf t (i+1):=Deaf_others fun op ho e=>hia (by rw [← e,o.g op ho])
   have hgame:=c.game
   rw [hx]
   cases hM:M.x with
   | idle=>rw [hM] at hgame h2;exact old_woken (hgame.old i sx hi) hd h2
   | game X =>
    rw [hM] at hgame h2
    obtain ⟨nb,hG⟩:=hgame
    obtain ⟨p1,p2,hp'⟩:=hG.wg.ex
    exact slot_woken hd (fun _=>⟨_,_,own_wg o.guar (c.mem.fits a) (hG.nowg a) hp'⟩) h2
 mem:=c.mem.own o kn
 aft:=by rw [hx];exact c.aft.own_step o
 hp0:=hh.symm
 hpn:=fun i hi=>by
  rw [s.len] at hi
  rw [put_ne (by omega)];exact c.hpn i hi
 tg:=fun i op hi=>by
  rw [s.len]
  rcases getElem?_append_cases hi with ⟨_,h⟩ | ⟨_,h⟩
  ·exact c.tg i op h
  ·rw [o.g op h];exact ha
 kn0:=by
  by_cases h0:a=0
  ·subst h0;rw [put_self];exact (kn_step (c.mem.nr false) kn c.mem.low o.guar o.g o.mine).2.1
  ·rw [put_ne fun e=>h0 e.symm]
   exact kn_other c.kn0 (fun j hj=>hj.app u) (c.mem.sep a 0 h0) (c.mem.fits 0) o.mine
 game:=by
  have hgame:=c.game
  rw [hx]
  cases hM:M.x with
  | idle =>
   rw [hM] at hgame
   refine ⟨fun i sx hi=>?_,by rw [Deaf_plain o.plain];exact hgame.deaf,fun g0 hg hb=>?_⟩
   ·by_cases hia:i+1=a
    ·obtain ⟨n,n',h1,h2,h3,h4⟩:=s.self i hia
     obtain ⟨m',e⟩:=(hgame.old i _ h1).out
     cases e
    ·rw [s.other i hia] at hi
     rw [put_ne hia]
     exact (hgame.old i sx hi).app fun op ho e=>hia (by rw [← e,o.g op ho])
   ·by_cases h0:0=a
    ·subst h0;rw [q.self] at hg;cases hg;cases hb
    ·exact hgame.runs g0 (q.back _ _ h0 hg hb) hb
  | game X =>
   rw [hM] at hgame
   obtain ⟨nb,hG⟩:=hgame
   exact ⟨nb,hG.own c.mem o kn q s (by intro e;cases e)⟩
 pool:=by
  rw [hx]
  refine c.pool.step (fun pl _ hsp hf=>⟨fits_other o.guar (hsp a) (c.mem.fits a) hf,fun i=>?_,fun op ho b hb=>⟨fun x y hl=>?_,fun x hl=>?_⟩⟩) s.len fun g wg m q i sx' hi=>?_
  ·by_cases hi:i=a
   ·subst hi;rw [put_self];exact sep_other o.guar (hsp i) hf
   ·rw [put_ne hi];exact hsp i
  rotate_left
  ·rcases o.mine op ho b hb with ⟨bl,o2,h1,_,h3⟩ | ⟨r,h1,_,h3⟩
   ·rw [h1] at hl;cases hl
   ·rw [h1] at hl;cases hl
    rcases h3 with h3 | h3
    ·exact none_of fun v e=>by have:=(Array.getElem?_eq_some_iff.1 (hf.obj _ _ e)).1;omega
    ·obtain ⟨v,hv⟩:=Option.isSome_iff_exists.1 h3
     exact (hsp a).bb _ _ hv
  rotate_left
  ·rcases o.mine op ho b hb with ⟨bl,o2,h1,_,h3⟩ | ⟨r,h1,_⟩
   ·rw [h1] at hl;cases hl
    rcases h3 with h3 | h3 | ⟨hw,h3⟩
    ·exact ⟨none_of fun v e=>by have:=cell_lt (hf.own _ _ _ e);omega,fun _=>none_of fun v e=>by have:=cell_lt (hf.ro _ _ _ e);omega⟩
    ·obtain ⟨v,hv⟩:=Option.isSome_iff_exists.1 h3
     exact ⟨(hsp a).oo _ _ _ hv,fun _=>(hsp a).wr _ _ _ hv⟩
    ·obtain ⟨v,hv⟩:=Option.isSome_iff_exists.1 h3
     exact ⟨(hsp a).rw _ _ _ hv,fun h=>by rw [hw] at h;cases h⟩
   ·rw [h1] at hl;cases hl
  ·by_cases hia:i+1=a
   ·obtain ⟨n,n',h1,h2,h3,h4⟩:=s.self i hia
    rw [h2] at hi;cases hi
    exact ⟨_,h1,fun ⟨n2,e,h⟩=>⟨n2,h3.trans e,h⟩⟩
   ·exact ⟨sx',by rw [← s.other i hia];exact hi,fun h=>by rw [put_ne hia];exact h⟩
theorem cfg_priv0 {gs:Array Goroutine} {w:World} {t:Trace} {fr:Frame} {cs:List Frame} {h:Hp} {x:MX} {r:Run P (mHand P cv L.done L.tWg) true Em fr cs h x} {sl:List (Slot P cv L)} {hp:Nat→Hp} {g:Goroutine} {sc:Option (Nat × Nat)}
  (c:Cfg W0 gs w t (⟨fr,cs,h,x,r⟩:MN P cv L Em) sl hp) (hg:gs[0]?=some g) (hr:Runs g fr cs) (nx:Nx P Still true fr cs h w) (r':Run P (mHand P cv L.done L.tWg) true Em nx.fr' nx.cs' nx.h' x) :
  ∃ gs' ops,runT P (crowd gs w sc) 0=(.next (crowd gs' nx.w' sc),ops)∧Cfg W0 gs' nx.w' (t++ops) (⟨nx.fr',nx.cs',nx.h',x,r'⟩:MN P cv L Em) sl (put hp 0 nx.h'):=by
 have hst:stepG P ((0:Nat) == 0) g w=.go (G nx.fr' nx.cs') nx.w' nx.es:=by rw [hr.step];exact nx.step
 have h0:hp 0=h:=c.hp0
 refine ⟨_,_,runT_crowd_go hg hst,?_⟩
 refine Cfg.own c (Nat.zero_le _) (by rw [h0];exact own_of_events nx.guar nx.evs) c.kn0 (gs_go hg) ⟨rfl,fun j _=>rfl,fun j hj=>by omega⟩ rfl (by rw [put_self]) (fun e=>absurd rfl e) (fun _=>⟨rfl,rfl⟩) (fun j n' hj=>by omega)
theorem cfg_priv1 {gs:Array Goroutine} {w:World} {t:Trace} {M:MN P cv L Em} {sl:List (Slot P cv L)} {hp:Nat→Hp} {g:Goroutine} {sc:Option (Nat × Nat)} {i:Nat} {fr:Frame} {cs:List Frame} {h:Hp} {x:TX} {r:Run P (tHand P cv) false (tEnd P L.done) fr cs h x}
  (c:Cfg W0 gs w t M sl hp) (hi:sl[i]?=some (.act ⟨fr,cs,h,x,r⟩)) (hg:gs[i+1]?=some g) (hr:Runs g fr cs) (nx:Nx P Still false fr cs h w) (r':Run P (tHand P cv) false (tEnd P L.done) nx.fr' nx.cs' nx.h' x) :
  ∃ gs' ops,runT P (crowd gs w sc) (i+1)=(.next (crowd gs' nx.w' sc),ops)∧Cfg W0 gs' nx.w' (t++ops) M (sl.set i (.act ⟨nx.fr',nx.cs',nx.h',x,r'⟩)) (put hp (i+1) nx.h'):=by
 have hlt:i<sl.length:=(List.getElem?_eq_some_iff.1 hi).1
 have hst:stepG P (i+1 == 0) g w=.go (G nx.fr' nx.cs') nx.w' nx.es:=by rw [hr.step];exact nx.step
 have hkn:Kn t (Knows t (i+1)) (hp (i+1))∧h=hp (i+1):=by
  have hgame:=c.game
  cases hM:M.x with
  | idle=>rw [hM] at hgame;obtain ⟨m',e⟩:=(hgame.old i _ hi).out;cases e
  | game X =>
   rw [hM] at hgame
   obtain ⟨nb,hG⟩:=hgame
   by_cases hin:i<nb
   ·obtain ⟨m',e⟩:=(hG.old i _ hin hi).out;cases e
   ·have:=hG.know (i-nb) _ (by rw [Nat.add_sub_cancel' (by omega)];exact hi)
    rw [Nat.add_sub_cancel' (by omega)] at this
    exact ⟨this.1,this.2.1⟩
 obtain ⟨hkn,he⟩:=hkn
 refine ⟨_,_,runT_crowd_go hg hst,?_⟩
 refine Cfg.own c (by omega) (by rw [← he];exact own_of_events nx.guar nx.evs) hkn (gs_go hg) ⟨by simp,fun j hj=>by rw [List.getElem?_set_ne (by omega)],fun j hj=>?_⟩ rfl (by rw [put_ne (by omega)];exact c.hp0.symm) (fun _=>rfl) (fun e=>by omega) (fun j n' hj hn=>?_)
 ·obtain rfl:j=i:=by omega
  exact ⟨_,⟨nx.fr',nx.cs',nx.h',x,r'⟩,hi,by simp [hlt],rfl,rfl⟩
 ·obtain rfl:j=i:=by omega
  simp [hlt] at hn
  subst hn
  exact ⟨rfl,rfl⟩
end Go.PB
namespace Go.PB
open Go.Conc Go.Conc.Lib
open Go.ConcR (KK stA smA rd wr mk DC0)
variable {W0:World} {P:Program} {cv:Value} {L:WgLink} {Em:Frame→List Frame→Hp→MX→Prop}
theorem fits_wg {h:Hp} {w w':World} {ty:TypeId} {wg:Nat} {a b a' b':Int} (f:Fits h w) (hn:∀ o,h.own wg o=none∧h.ro wg o=none) (e:WgAt ty wg w a b) (e':WgAt ty wg w' a' b') (hw:∀ c,c≠wg→w'.heap[c]?=w.heap[c]?):Fits h w':=by
 obtain ⟨fz,e,_⟩:=e
 obtain ⟨fz',e',_⟩:=e'
 have hc:∀ c o,c≠wg→w'.cell? ⟨c,o,none⟩=w.cell? ⟨c,o,none⟩:=fun c o hne=>by unfold World.cell?;rw [hw c hne]
 have hfz:∀ c o,c≠wg→w'.frozen? ⟨c,o,none⟩=w.frozen? ⟨c,o,none⟩:=fun c o hne=>by unfold World.frozen?;rw [hw c hne]
 have no:∀ c o v,h.own c o=some v→c≠wg:=fun c o v hv he=>by subst he;rw [(hn o).1] at hv;cases hv
 have nr:∀ c o v,h.ro c o=some v→c≠wg:=fun c o v hv he=>by subst he;rw [(hn o).2] at hv;cases hv
 refine ⟨fun c o v hv=>by rw [hc _ _ (no _ _ _ hv)];exact f.own _ _ _ hv,fun c o v hv=>by rw [hfz _ _ (no _ _ _ hv)];exact f.thaw _ _ _ hv,fun c o v hv=>by rw [hc _ _ (nr _ _ _ hv)];exact f.ro _ _ _ hv,f.disj,fun c ob hv=>?_,f.objn,fun c y hv=>?_⟩
 ·by_cases hcw:c=wg
  ·subst hcw
   have h1:=f.obj _ _ hv
   rw [e] at h1;cases h1
   have:=f.objn _ _ hv
   simp [isCells] at this
  ·rw [hw c hcw];exact f.obj _ _ hv
 ·by_cases hcw:c=wg
  ·subst hcw
   have h1:=f.shp _ _ hv
   unfold World.shape? at h1 ⊢
   rw [e] at h1;rw [e']
   simpa using h1
  ·unfold World.shape?;rw [hw c hcw];exact f.shp _ _ hv
structure Shy (wg a:Nat) (u:Trace):Prop where
 g:∀ op∈u,op.g=a
 touch:∀ op∈u,∀ b,op.act.touch?=some b→(∃ o,o<2∧b.loc=.cell ⟨wg,o,none⟩)∧b.kind=.atomic
 norel:∀ op∈u,∀ a,op.act≠.mark (.release a)
theorem shy_race {said:Bool} {t u:Trace} {wg a:Nat} (nr:¬ Race said t) (s:Shy wg a u) (h:∀ i b o,o<2→touchAt t i=some b→b.loc=.cell ⟨wg,o,none⟩→(b.kind≠.plain∧(b.kind=.said→t.g? i=some 0))∨Knows t a i):¬ Race said (t++u) :=
 noRace_append nr s.g fun i b hb op ho b' hb' hc=>by
  obtain ⟨⟨o,ho2,h1⟩,h2⟩:=s.touch op ho b' hb'
  obtain ⟨hl,_,_,h3⟩:=hc
  rw [h1] at hl
  rcases h i b o ho2 hb hl with this | hk
  rotate_left
  ·exact hk
  rcases h3 with h3 | h3 | ⟨_,_,h3⟩
  ·exact absurd h3 this.1
  ·rw [h2] at h3;cases h3
  ·rw [h2] at h3;cases h3
theorem shy_kn {t u:Trace} {K K':Nat→Prop} {h:Hp} {wg a:Nat} (kn:Kn t K h) (hK:∀ j,K j→K' j) (s:Shy wg a u) (hn:∀ o,h.own wg o=none∧h.ro wg o=none):Kn (t++u) K' h where
 own:=fun b o v e i b' hb hl=>by
  rcases touch_split hb with hb | ⟨op,ho,_,h2⟩
  ·exact hK _ (kn.own _ _ _ e _ _ hb hl)
  ·obtain ⟨⟨o',_,h1⟩,_⟩:=s.touch op ho b' h2
   rw [h1] at hl;cases hl;rw [(hn o).1] at e;cases e
 ro:=fun b o v e i b' hb hl hw=>by
  rcases touch_split hb with hb | ⟨op,ho,_,h2⟩
  ·exact hK _ (kn.ro _ _ _ e _ _ hb hl hw)
  ·obtain ⟨⟨o',_,h1⟩,_⟩:=s.touch op ho b' h2
   rw [h1] at hl;cases hl;rw [(hn o).2] at e;cases e
 obj:=fun b v e i b' hb hl=>by
  rcases touch_split hb with hb | ⟨op,ho,_,h2⟩
  ·exact hK _ (kn.obj _ _ e _ _ hb hl)
  ·obtain ⟨⟨o',_,h1⟩,_⟩:=s.touch op ho b' h2
   rw [h1] at hl;cases hl
theorem Mem.shy {w w':World} {t u:Trace} {hp:Nat→Hp} {wg a:Nat} {ty:TypeId} {p q p' q':Int} (m:Mem w t hp) (s:Shy wg a u) (hn:∀ i o,(hp i).own wg o=none∧(hp i).ro wg o=none)
  (h:∀ i b o,o<2→touchAt t i=some b→b.loc=.cell ⟨wg,o,none⟩→(b.kind≠.plain∧(b.kind=.said→t.g? i=some 0))∨Knows t a i) (e:WgAt ty wg w p q) (e':WgAt ty wg w' p' q') (hw:∀ c,c≠wg→w'.heap[c]?=w.heap[c]?) (hs:w'.heap.size=w.heap.size):Mem w' (t++u) hp where
 fits:=fun i=>fits_wg (m.fits i) (hn i) e e' hw
 sep:=m.sep
 nr:=fun said=>shy_race (m.nr said) s h
 low:=fun i b hb=>by
  rw [hs]
  rcases touch_split hb with hb | ⟨op,ho,_,h2⟩
  ·exact m.low i b hb
  ·obtain ⟨⟨o',_,h1⟩,_⟩:=s.touch op ho b h2
   exact ⟨fun d hd=>(by rw [h1] at hd;cases hd;exact wgAt_lt e),fun r hr=>by rw [h1] at hr;cases hr⟩
 norel:=fun op ho b=>(Array.mem_append.1 ho).elim (fun ho=>m.norel op ho b) (fun ho=>s.norel op ho b)
theorem Cfg.slot {gs gs':Array Goroutine} {w w':World} {t u:Trace} {M:MN P cv L Em} {sl:List (Slot P cv L)} {hp:Nat→Hp} {X:GX} {nb j:Nat} {s s':Slot P cv L} {g':Goroutine}
  (c:Cfg W0 gs w t M sl hp) (hX:M.x=.game X) (hG:GameAt X gs w t sl hp nb) (hs:sl[nb+j]?=some s) (q:Gs P (nb+j+1) gs gs' g') (hr:g'.status≠.blocked)
  (hsd:Side w w') (hw:∀ b,b≠X.wg→w'.heap[b]?=w.heap[b]?) (hsz:w'.heap.size=w.heap.size) (ph:WgPh L X ((sl.map Slot.stage).set (nb+j) s'.stage) w') (sh:Shy X.wg (nb+j+1) u)
  (sg:SlotG w' X.wg (Deaf (t++u) (nb+j+1)) g' s') (sk:SlotKn (t++u) X.wg (nb+j+1) (hp (nb+j+1)) s') (sa:∀ c:St X,X.seats[j]?=some c→SeatAt X c (hp (nb+j+1)) s')
  (sp:∀ (g:Game) (wg m:Nat) (q:g.θ) (h:Hp),FreeSt wg m q h s→FreeSt wg m q h s')
  (hsl:∀ g0,gs'[0]?=some g0→g0.status=.blocked→g0.offers=none→¬ WgAt L.tWg X.wg w' 0 1):Cfg W0 gs' w' (t++u) M (sl.set (nb+j) s') hp:=by
 have hlt:nb+j<sl.length:=(List.getElem?_eq_some_iff.1 hs).1
 obtain ⟨p1,p2,e1⟩:=hG.wg.ex
 obtain ⟨p3,p4,e2⟩:=ph.ex
 have hwg0:W0.heap.size≤X.wg:=by have:=c.aft.game;rw [hX] at this;exact this.1
 have hng:∀ i,i≠nb+j+1→∀ op∈u,op.g≠i:=fun i hi op ho e=>hi (by rw [← e,sh.g op ho])
 have hrl:RL L.tWg X.wg w w':=fun _=>⟨_,_,e2⟩
 have hmem:=c.mem.shy sh hG.nowg (fun i b o ho2 hb hl=>(hG.wgt i b o ho2 hb hl).imp id fun k=>k.2 j (by have:=hG.len;omega)) e1 e2 hw hsz
 refine ⟨by rw [q.size,List.length_set];exact c.size,?_,fun i sx hi=>?_,hmem,c.aft.at_block hwg0 hsd hw hsz c.aft.game,c.hp0,fun i hi=>c.hpn i (by simpa using hi),fun i op hi=>?_,?_,?_,?_⟩
 ·obtain ⟨g,h1,h2⟩:=c.main
  obtain ⟨x,x',w2,h3⟩:=q.other 0 g (by omega) h1
  exact ⟨_,h3,h2.woken⟩
 ·rw [hX]
  by_cases hij:i=nb+j
  ·subst hij
   simp [hlt] at hi
   subst hi
   exact ⟨_,q.self,sg⟩
  ·rw [List.getElem?_set_ne fun e=>hij e.symm] at hi
   obtain ⟨g,h1,h2⟩:=c.thr i sx hi
   rw [hX] at h2
   obtain ⟨x,x',w2,h3⟩:=q.other (i+1) g (by omega) h1
   exact ⟨_,h3,slot_woken (Deaf_others (hng _ (by omega))) hrl h2⟩
 ·simp only [List.length_set]
  rcases getElem?_append_cases hi with ⟨_,h⟩ | ⟨_,h⟩
  ·exact c.tg i op h
  ·rw [sh.g op h];omega
 ·exact shy_kn c.kn0 (fun j h=>h.app u) sh (hG.nowg 0)
 ·rw [hX]
  refine ⟨nb,⟨by rw [List.length_set];exact hG.len,fun i sx hi hc=>?_,fun k cx hc=>?_,fun k sx hc=>?_,fun k cx hc b hb=>?_,hG.dist,hG.noch,hG.nowg,by simpa only [List.map_set] using ph,fun i b o ho2 hb hl=>?_,?_,hG.tok0,hG.tok1,hG.adp,hG.ads,hG.adl,fun k cx g hc hg hsx hb=>?_,fun g0 cases shp hg hb ho=>?_,fun g0 hg hb ho=>⟨?_,hsl g0 hg hb ho⟩,fun k cx b i x hc hb hx hl=>?_⟩⟩
  ·rw [List.getElem?_set_ne (by omega)] at hc
   exact (hG.old i sx hi hc).app (hng _ (by omega))
  ·obtain ⟨sx,h1,h2⟩:=hG.seat k cx hc
   by_cases hkj:k=j
   ·subst hkj;exact ⟨s',by simp [hlt],sa cx hc⟩
   ·exact ⟨sx,by rw [List.getElem?_set_ne (by omega)];exact h1,h2⟩
  ·by_cases hkj:k=j
   ·subst hkj
    simp [hlt] at hc
    subst hc;exact sk
   ·rw [List.getElem?_set_ne (by omega)] at hc
    exact (hG.know k sx hc).app (hng _ (by omega)) fun kk hK=>shy_kn kk hK sh (hG.nowg _)
  ·obtain ⟨n,e⟩:=hG.chan k cx hc b hb
   refine ⟨n,?_⟩
   rw [hw _ fun he=>?_]
   ·exact e
   ·obtain ⟨_,e1,_⟩:=e1;rw [he] at e;rw [e1] at e;cases e
  ·rcases touch_split hb with hb | ⟨op,ho,hi,h2⟩
   ·rcases hG.wgt i b o ho2 hb hl with this | ⟨k0,k1⟩
    ·refine .inl ⟨this.1,fun hsd=>?_⟩
     have h1:=this.2 hsd
     rw [g?_app (g?_lt h1)];exact h1
    ·exact .inr ⟨k0.app u,fun j hj=>(k1 j hj).app u⟩
   ·have:=(sh.touch op ho b h2).2
    rw [this];exact .inl ⟨by simp,fun h=>by cases h⟩
  ·rw [Deaf_others (hng 0 (by omega))];exact hG.deaf
  ·by_cases hkj:k=j
   ·subst hkj;rw [q.self] at hg;cases hg;exact hr hb
   ·exact hG.live k cx g hc (q.back _ _ (by omega) hg hb) hsx hb
  ·obtain ⟨k,cx,h1,h2,h3,h4⟩:=hG.park g0 cases shp (q.back _ _ (by omega) hg hb) hb ho
   refine ⟨k,cx,h1,h2,h3,fun g hg2 hb2=>?_⟩
   by_cases hkj:k=j
   ·subst hkj;rw [q.self] at hg2;cases hg2;exact hr hb2
   ·exact h4 g (q.back _ _ (by omega) hg2 hb2) hb2
  ·exact (hG.sleep g0 (q.back _ _ (by omega) hg hb) hb ho).1
  ·rcases touch_split hx with hx | ⟨op,ho,_,h2⟩
   ·exact (hG.cht k cx b i x hc hb hx hl).app u
   ·obtain ⟨⟨o',_,h1⟩,_⟩:=sh.touch op ho x h2
    rw [h1] at hl;cases hl
 ·refine c.pool.step (fun pl hw' hs' hf=>⟨fits_wg hf (hw' X hX) e1 e2 hw,hs',fun op ho b hb=>⟨fun x y hl=>?_,fun x hl=>by rw [(sh.touch op ho b hb).1.choose_spec.2] at hl;cases hl⟩⟩) (by rw [List.length_set]) fun g wg m q i sx' hi=>?_
  ·obtain ⟨⟨o',_,h1⟩,_⟩:=sh.touch op ho b hb
   rw [h1] at hl;cases hl
   exact ⟨(hw' X hX _).1,fun _=>(hw' X hX _).2⟩
  ·by_cases hij:i=nb+j
   ·subst hij
    simp [hlt] at hi
    subst hi
    exact ⟨s,hs,sp g wg m q _⟩
   ·rw [List.getElem?_set_ne fun e=>hij e.symm] at hi
    exact ⟨sx',hi,id⟩
end Go.PB
namespace Go.PB
open Go.Conc Go.Conc.Lib
open Go.ConcR (KK stA smA rd wr mk DC0)
theorem count_set {p:Nat→Bool}:∀ {l:List Nat} {i a:Nat} (b:Nat),l[i]?=some a→((l.set i b).filter p).length+(if p a then 1 else 0)=(l.filter p).length+(if p b then 1 else 0)
 | x::l,0,a,b,h=>by
  simp at h;subst h
  simp only [List.set_cons_zero,List.filter_cons]
  cases p b <;> cases p x <;> simp
 | x::l,i+1,a,b,h=>by
  have ih:=count_set (p:=p) (l:=l) (i:=i) b (by simpa using h)
  simp only [List.set_cons_succ,List.filter_cons]
  cases p x <;> simp <;> omega
 | [],i,a,b,h=>by simp at h
theorem count_pos {p:Nat→Bool} {l:List Nat} {i a:Nat} (h:l[i]?=some a) (hp:p a=true):0<(l.filter p).length :=
 List.length_pos_of_mem (List.mem_filter.2 ⟨List.mem_of_getElem? h,hp⟩)
theorem count_one {p:Nat→Bool} {l:List Nat} {i a:Nat} (h:l[i]?=some a) (hp:p a=true) (h0:p 0=false) (h1:(l.filter p).length=1):∀ j k,l[j]?=some k→j≠i→p k=false:=by
 intro j k hj hne
 have:=count_set (p:=p) 0 h
 rw [hp,h0,h1] at this
 simp at this
 by_cases hk:p k=true
 ·have h2:(l.set i 0)[j]?=some k:=by rw [List.getElem?_set_ne fun e=>hne e.symm];exact hj
  have:=this k (List.mem_of_getElem? h2)
  rw [hk] at this;cases this
 ·simpa using hk
theorem count_tail {p:Nat→Bool} (h0:p 0=false):∀ {l:List Nat} {n:Nat},(∀ i k,i<n→l[i]?=some k→k=0)→(l.filter p).length≤l.length-n
 | [],n,_=>by simp
 | x::l,0,_=>by simpa using List.length_filter_le p (x::l)
 | x::l,n+1,h=>by
  have hx:x=0:=h 0 x (by omega) rfl
  subst hx
  have:=count_tail (p:=p) h0 (l:=l) (n:=n) fun i k hi hk=>h (i+1) k (by omega) (by simpa using hk)
  simp only [List.filter_cons,h0]
  simpa using this
section
variable {L:WgLink} {X:GX} {st:List Nat} {w w':World} {I:Nat}
theorem WgPh.far {a b:Nat} (p:WgPh L X st w) (hi:st[I]?=some a) (ha:4≤a) (hb:4≤b) (h:∀ x y,WgAt L.tWg X.wg w x y→WgAt L.tWg X.wg w' x y):WgPh L X (st.set I b) w':=by
 have hlt:=(List.getElem?_eq_some_iff.1 hi).1
 cases p with
 | quiet v wt at_ hv late hw park bb =>
  have:=count_set (p:=fun k=>decide (4≤k)) b hi
  simp only [ha,hb,decide_true,if_true] at this
  refine .quiet v wt (h _ _ at_) (by omega) (fun k hk=>?_) hw park bb
  rcases List.mem_or_eq_of_mem_set hk with hk | rfl
  ·exact late k hk
  ·exact .inr hb
 | late p i k hik hk at_ oth =>
  exfalso
  by_cases e:I=i
  ·subst e;rw [hi] at hik;cases hik;omega
  ·have:=oth I a hi e;omega
 | late1 p i hik at_ oth =>
  exfalso
  by_cases e:I=i
  ·subst e;rw [hi] at hik;cases hik;omega
  ·have:=oth I a hi e;omega
 | free p at_ oth=>exfalso;have:=oth a (List.mem_of_getElem? hi);omega
theorem WgPh.same {a:Nat} (p:WgPh L X st w) (hi:st[I]?=some a) (h:∀ x y,WgAt L.tWg X.wg w x y→WgAt L.tWg X.wg w' x y):WgPh L X (st.set I a) w':=by
 have hlt:=(List.getElem?_eq_some_iff.1 hi).1
 have e:st.set I a=st:=by
  apply List.ext_getElem?
  intro j
  by_cases hj:I=j
  ·subst hj;rw [List.getElem?_set_self hlt,hi]
  ·rw [List.getElem?_set_ne hj]
 rw [e]
 exact p.at h
theorem WgPh.at4 (p:WgPh L X st w) (hi:st[I]?=some 4):∃ v wt:Nat,WgAt L.tWg X.wg w (v*KK+wt) 0∧v+(X.seats.length+X.nf)=(st.filter fun k=>decide (4≤k)).length+X.ad∧(∀ k∈st,k=0∨4≤k) ∧
  wt=(match X.wt with | .parked=>1 | _=>0)∧(X.wt=.parked→0<v)∧(match X.wt with | .wait b=>v≤b | .seen v0=>v≤v0 | .woken=>v=0 | .zero=>v=0 | _=>True):=by
 cases p with
 | quiet v wt at_ hv late hw park bb=>exact ⟨v,wt,at_,hv,late,hw,park,bb⟩
 | late p i k hik hk at_ oth =>
  exfalso
  by_cases e:I=i
  ·subst e;rw [hi] at hik;cases hik;omega
  ·have:=oth I 4 hi e;omega
 | late1 p i hik at_ oth =>
  exfalso
  by_cases e:I=i
  ·subst e;rw [hi] at hik;cases hik
  ·have:=oth I 4 hi e;omega
 | free p at_ oth=>exfalso;have:=oth 4 (List.mem_of_getElem? hi);omega
theorem WgPh.at23 {k:Nat} (p:WgPh L X st w) (hi:st[I]?=some k) (hk:k=3∨k=2):X.wt=.parked∧WgAt L.tWg X.wg w 1 0∧∀ j k,st[j]?=some k→j≠I→k=0:=by
 cases p with
 | quiet v wt at_ hv late hw park bb=>exfalso;have:=late k (List.mem_of_getElem? hi);omega
 | late p i k' hik hk' at_ oth =>
  by_cases e:I=i
  ·subst e;exact ⟨p,at_,oth⟩
  ·exfalso;have:=oth I k hi e;omega
 | late1 p i hik at_ oth =>
  exfalso
  by_cases e:I=i
  ·subst e;rw [hi] at hik;cases hik;omega
  ·have:=oth I k hi e;omega
 | free p at_ oth=>exfalso;have:=oth k (List.mem_of_getElem? hi);omega
theorem WgPh.at1 (p:WgPh L X st w) (hi:st[I]?=some 1):X.wt=.parked∧WgAt L.tWg X.wg w 0 0∧∀ j k,st[j]?=some k→j≠I→k=0:=by
 cases p with
 | quiet v wt at_ hv late hw park bb=>exfalso;have:=late 1 (List.mem_of_getElem? hi);omega
 | late p i k' hik hk' at_ oth =>
  exfalso
  by_cases e:I=i
  ·subst e;rw [hi] at hik;cases hik;omega
  ·have:=oth I 1 hi e;omega
 | late1 p i hik at_ oth =>
  by_cases e:I=i
  ·subst e;exact ⟨p,at_,oth⟩
  ·exfalso;have:=oth I 1 hi e;omega
 | free p at_ oth=>exfalso;have:=oth 1 (List.mem_of_getElem? hi);omega
theorem WgPh.notFree {k:Nat} (p:WgPh L X st w) (hi:st[I]?=some k) (hk:0<k):¬ WgAt L.tWg X.wg w 0 1:=by
 intro hx
 cases p with
 | quiet v wt at_ hv late hw park bb=>exact absurd (at_.unique hx).2 (by decide)
 | late p i k' hik hk' at_ oth=>exact absurd (at_.unique hx).2 (by decide)
 | late1 p i hik at_ oth=>exact absurd (at_.unique hx).2 (by decide)
 | free p at_ oth=>have:=oth k (List.mem_of_getElem? hi);omega
end
def EvShy (wg:Nat) (e:Event):Prop:=(∃ m,e=⟨.mark m,false,true⟩∧(MemAct.mark m).touch?=none∧∀ a,m≠.release a)∨∃ o wr,e=⟨.cell ⟨wg,o,none⟩,wr,true⟩∧o<2
theorem evShy_act {wg:Nat} {e:Event} (h:EvShy wg e):(∀ b,(MemAct.ofEvent e).touch?=some b→(∃ o,o<2∧b.loc=.cell ⟨wg,o,none⟩)∧b.kind=.atomic)∧∀ a,MemAct.ofEvent e≠.mark (.release a):=by
 rcases h with ⟨m,rfl,h1,h2⟩ | ⟨o,wr,rfl,ho2⟩
 ·refine ⟨fun b hb=>?_,fun a ha=>?_⟩
  ·have:(MemAct.ofEvent ⟨.mark m,false,true⟩).touch?=none:=h1
   rw [this] at hb;cases hb
  ·have:MemAct.ofEvent ⟨.mark m,false,true⟩=.mark m:=rfl
   rw [this] at ha;cases ha;exact h2 a rfl
 ·refine ⟨fun b hb=>?_,fun a ha=>?_⟩
  ·have:(MemAct.ofEvent ⟨.cell ⟨wg,o,none⟩,wr,true⟩).touch?=some ⟨.cell ⟨wg,o,none⟩,wr,.atomic⟩:=by cases wr <;> rfl
   rw [this] at hb;cases hb;exact ⟨⟨o,ho2,rfl⟩,rfl⟩
  ·cases wr <;> cases ha
theorem shy_of {wg a:Nat} {fn:FuncId} {pos:String} {es:Array Event} (h:∀ e∈es,EvShy wg e):Shy wg a (MemOp.ofEvents a fn pos es) where
 g:=fun op ho=>by obtain ⟨e,_,rfl⟩:=ofEvents_mem ho;rfl
 touch:=fun op ho b hb=>by obtain ⟨e,h1,rfl⟩:=ofEvents_mem ho;exact (evShy_act (h e h1)).1 b hb
 norel:=fun op ho b=>by obtain ⟨e,h1,rfl⟩:=ofEvents_mem ho;exact (evShy_act (h e h1)).2 b
theorem allK_deaf {t:Trace} {K K':Nat→Prop} {a wg:Nat} {fn:FuncId} {pos:String} {es:Array Event} (h:AllK t a K) (hK:∀ j,K j→K' j) (hes:∀ e∈es,EvShy wg e)
  (hd:∀ (j:Nat) (e:Event),es[j]?=some e→(MemAct.ofEvent e).touch?≠none→0<deafBehind (Deaf t a) (es.extract 0 j)):AllK (t++MemOp.ofEvents a fn pos es) a K':=by
 intro j hj hc
 rcases Nat.lt_or_ge j t.size with hlt | hge
 ·exact hK _ (h j (by rw [← g?_app hlt];exact hj) ((counts_old hlt).1 hc))
 ·exfalso
  obtain ⟨x,h1,h2,h3⟩:=hc
  obtain ⟨op,ho,hx⟩:=touch_of h1
  obtain ⟨i,rfl⟩:∃ i,j=t.size+i:=⟨j-t.size,by omega⟩
  have ho':(MemOp.ofEvents a fn pos es)[i]?=some op:=by
   rw [Array.getElem?_append_right (by omega)] at ho
   simpa using ho
  rw [ofEvents_eq] at ho'
  rw [Array.getElem?_map] at ho'
  obtain ⟨e,he,rfl⟩:=Option.map_eq_some_iff.1 ho'
  have hem:e∈es:=Array.mem_of_getElem? he
  have hk:=((evShy_act (hes e hem)).1 x hx).2
  rcases h3 with h3 | ⟨g,hg,hd0⟩
  ·exact h3 hk
  ·have hlt:=(Array.getElem?_eq_some_iff.1 he).1
   rw [hj] at hg;cases hg
   rw [deaf_inside t a fn pos es i (by omega)] at hd0
   have:=hd i e he (by rw [hx];simp)
   omega
end Go.PB
namespace Go.PB
open Go.Conc Go.Conc.Lib
open Go.ConcR (KK stA smA rd wr mk DC0)
variable {W0:World} {P:Program} {cv:Value} {L:WgLink} {Em:Frame→List Frame→Hp→MX→Prop}
theorem again_offers {o:Goroutine} {w:World} (h:(o.again w).status=.blocked):(o.again w).offers≠none:=by
 intro hn
 rcases ho:o.offers with _ | ⟨a,b⟩ <;> cases hs:o.status <;> simp only [Goroutine.again,hs,ho] at h hn <;> first | (cases h;done) | (rw [hs] at h;cases h;done) | (split at hn <;> (simp only [ho] at hn;cases hn;done)) | (rw [ho] at hn;cases hn;done) | skip
theorem g?_of {t:Trace} {i:Nat} {op:MemOp} (h:t[i]?=some op):t.g? i=some op.g:=by simp [Trace.g?,h]
theorem setCell_ne {w:World} {a:Addr} {v:Value} {b:Nat} (h:b≠a.block):(w.setCell a v).heap[b]?=w.heap[b]?:=by
 unfold World.setCell
 simp only [Array.getElem?_modify]
 rw [if_neg fun e=>h e.symm]
theorem setCell_size {w:World} {a:Addr} {v:Value}:(w.setCell a v).heap.size=w.heap.size:=by
 unfold World.setCell;simp
theorem leaves_shy {t:Trace} {wg a:Nat} {h:Hp} {fn:FuncId} {pos:String} {es:Array Event} (k:∃ p,Rel t wg a p∧Kn t (fun j=>Before t j p) h∧AllK t a fun j=>Before t j p) (hn:∀ o,h.own wg o=none∧h.ro wg o=none) (hes:∀ e∈es,EvShy wg e)
  (hd:∀ (j:Nat) (e:Event),es[j]?=some e→(MemAct.ofEvent e).touch?≠none→0<deafBehind (Deaf t a) (es.extract 0 j)) :
  ∃ p,Rel (t++MemOp.ofEvents a fn pos es) wg a p∧Kn (t++MemOp.ofEvents a fn pos es) (fun j=>Before (t++MemOp.ofEvents a fn pos es) j p) h∧AllK (t++MemOp.ofEvents a fn pos es) a fun j=>Before (t++MemOp.ofEvents a fn pos es) j p:=by
 obtain ⟨p,h1,h2,h3⟩:=k
 exact ⟨p,h1.app _,shy_kn h2 (fun j h=>h.app _) (shy_of hes) hn,allK_deaf h3 (fun j h=>h.app _) hes hd⟩
section
variable {gs:Array Goroutine} {w:World} {t:Trace} {M:MN P cv L Em} {sl:List (Slot P cv L)} {hp:Nat→Hp} {X:GX} {nb j k m:Nat} {g:Goroutine} {sc:Option (Nat × Nat)}
theorem cfg_out (c:Cfg W0 gs w t M sl hp) (hX:M.x=.game X) (hG:GameAt X gs w t sl hp nb) (hs:sl[nb+j]?=some (.out (k+1) m)) (hg:gs[nb+j+1]?=some g) :
  ∃ gs' w' ops k' m',runT P (crowd gs w sc) (nb+j+1)=(.next (crowd gs' w' sc),ops)∧(k'<k+1∨(k'=k+1∧m'<m))∧Cfg W0 gs' w' (t++ops) M (sl.set (nb+j) (.out k' m')) hp:=by
 obtain ⟨g0,hg0,hz⟩:=c.thr _ _ hs
 rw [hg] at hg0;cases hg0
 rw [hX] at hz
 replace hz:Zg P L.tWg X.wg (ZS P L.tWg X.wg (k+1)) m g w:=hz
 have hst:(sl.map Slot.stage)[nb+j]?=some (k+1):=by rw [List.getElem?_map,hs];rfl
 have hseat:∀ cs:St X,X.seats[j]?=some cs→SeatAt X cs (hp (nb+j+1)) (.out (k+1) m:Slot P cv L):=fun cs hcs=>by
  obtain ⟨s,h1,h2⟩:=hG.seat j cs hcs
  rw [hs] at h1;cases h1;exact h2
 have hkn:=hG.know j _ hs
 have hk6:k+1≤6:=by
  obtain ⟨h,_⟩ | ⟨h,_⟩:=hkn
  ·omega
  ·omega
 have hnw:=hG.nowg (nb+j+1)
 have key:∀ {g':Goroutine} {w':World} {es:Array Event} {k' m':Nat},stepG P false g w=.go g' w' es→(∀ e∈es,EvShy X.wg e)→(k'<k+1∨(k'=k+1∧m'<m))→Side w w'→(∀ b,b≠X.wg→w'.heap[b]?=w.heap[b]?)→w'.heap.size=w.heap.size →
   WgPh L X ((sl.map Slot.stage).set (nb+j) k') w'→SlotG w' X.wg (deafBehind (Deaf t (nb+j+1)) es) g' (.out k' m':Slot P cv L)→SlotKn (t++MemOp.ofEvents (nb+j+1) g.frame.fn g.frame.place es) X.wg (nb+j+1) (hp (nb+j+1)) (.out k' m':Slot P cv L) →
   g'.status≠.blocked→(¬ WgAt L.tWg X.wg w' 0 1∨(mayWake P g=true∧g'.status≠.waiting)) →
   ∃ gs' w' ops k' m',runT P (crowd gs w sc) (nb+j+1)=(.next (crowd gs' w' sc),ops)∧(k'<k+1∨(k'=k+1∧m'<m))∧Cfg W0 gs' w' (t++ops) M (sl.set (nb+j) (.out k' m')) hp:=by
  intro g' w' es k' m' hstep hes hlt hsd hw hsz ph sg sk hnb hsl
  have hst':stepG P (nb+j+1 == 0) g w=.go g' w' es:=hstep
  refine ⟨_,_,_,k',m',runT_crowd_go hg hst',hlt,?_⟩
  refine Cfg.slot c hX hG hs (gs_go hg) hnb hsd hw hsz ph (shy_of hes) (by rw [Deaf_own];exact sg) sk (fun cx hcx=>?_) (fun _ _ _ _ _ h=>h) (fun g0 h0 hb ho hx=>?_)
  ·exact ⟨by omega,(hseat cx hcx).2⟩
  ·rcases hsl with hsl | ⟨h1,h2⟩
   ·exact hsl hx
   ·rw [Array.getElem?_setIfInBounds_ne (by omega),Array.getElem?_map] at h0
    obtain ⟨o,e1,e2⟩:=Option.map_eq_some_iff.1 h0
    have hwk:woken P g g' w' o=o.again w':=by
     unfold woken
     rw [if_pos]
     simp only [h1,Bool.true_and,Bool.and_eq_true]
     exact ⟨by simpa using hnb,by simpa using h2⟩
    rw [hwk] at e2
    subst e2
    exact again_offers hb ho
 rcases zg_step hz with hz | ⟨m',g',rfl,hstep,hz'⟩
 ·rcases k with _ | _ | _ | _ | _ | _ | k
  ·-- it lets the starter go
   obtain ⟨hr,hmw,hz⟩:=(show Z4 P L.tWg X.wg g w from hz)
   obtain ⟨hp1,hat,hoth⟩:=hG.wg.at1 hst
   obtain ⟨g',q,hstep,hq⟩:=hz hat
   obtain ⟨h6,_,_⟩ | ⟨_,hlv,_,hdf⟩:=hkn
   ·omega
   have hd:Deaf t (nb+j+1)=1:=hdf (by omega) (by omega)
   refine key (k':=0) (m':=q) hstep (fun e he=>?_) (by omega) side_setCell (fun b hb=>setCell_ne hb) setCell_size (.free hp1 (hat.setSm 1) fun k hk=>?_) (by rw [hd];exact hq) (.inr ⟨by omega,leaves_shy hlv hnw ?_ ?_,fun h=>by omega,fun h=>by omega⟩) (fun h=>by have:=QuitsD.status hq;rw [h] at this;rcases this with h | h <;> cases h) (.inr ⟨hmw,fun h=>by have:=QuitsD.status hq;rw [h] at this;rcases this with h | h <;> cases h⟩)
   ·simp only [semEvents,List.mem_toArray,List.mem_cons,List.not_mem_nil,or_false] at he
    rcases he with rfl | rfl | rfl | rfl
    ·exact .inl ⟨_,rfl,rfl,fun a h=>by cases h⟩
    ·exact .inr ⟨_,_,rfl,by decide⟩
    ·exact .inr ⟨_,_,rfl,by decide⟩
    ·exact .inl ⟨_,rfl,rfl,fun a h=>by cases h⟩
   ·obtain ⟨i,hi⟩:=List.getElem?_of_mem hk
    by_cases e:i=nb+j
    ·subst e
     rw [List.getElem?_set_self (by simpa using (List.getElem?_eq_some_iff.1 hst).1)] at hi
     cases hi;rfl
    ·rw [List.getElem?_set_ne fun h=>e h.symm] at hi
     exact hoth i k hi e
   ·intro e he
    simp only [semEvents,List.mem_toArray,List.mem_cons,List.not_mem_nil,or_false] at he
    rcases he with rfl | rfl | rfl | rfl
    ·exact .inl ⟨_,rfl,rfl,fun a h=>by cases h⟩
    ·exact .inr ⟨_,_,rfl,by decide⟩
    ·exact .inr ⟨_,_,rfl,by decide⟩
    ·exact .inl ⟨_,rfl,rfl,fun a h=>by cases h⟩
   ·intro i e he ht
    rw [hd]
    rcases i with _ | _ | _ | _ | i
    ·simp only [semEvents] at he ⊢;simp [deafBehind]
    ·simp only [semEvents] at he ⊢;simp [deafBehind]
    ·simp only [semEvents] at he ⊢;simp [deafBehind]
    ·simp only [semEvents] at he ⊢;simp [deafBehind]
    ·simp [semEvents] at he
  ·-- the count is laid to nought
   obtain ⟨hr,hz⟩:=(show Z3 P L.tWg X.wg g w from hz)
   obtain ⟨hp1,hat,hoth⟩:=hG.wg.at23 hst (.inr rfl)
   obtain ⟨g',q,hstep,hq⟩:=hz hat
   obtain ⟨h6,_,_⟩ | ⟨_,hlv,_,hdf⟩:=hkn
   ·omega
   have hd:Deaf t (nb+j+1)=1:=hdf (by omega) (by omega)
   have hes:∀ e∈#[wr (stA X.wg)],EvShy X.wg e:=fun e he=>by simp at he;subst he;exact .inr ⟨_,_,rfl,by decide⟩
   refine key (k':=1) (m':=q) hstep hes (by omega) side_setCell (fun b hb=>setCell_ne hb) setCell_size (.late1 hp1 (nb+j) (List.getElem?_set_self (List.getElem?_eq_some_iff.1 hst).1) (hat.setSt 0) fun i k hi e=>hoth i k (by rwa [List.getElem?_set_ne fun h=>e h.symm] at hi) e) hq
    (.inr ⟨by omega,leaves_shy hlv hnw hes fun i e he ht=>?_,fun h=>by omega,fun _ _=>?_⟩) (fun h=>by have:=zg_running (k:=1) hq;rw [h] at this;cases this) (.inl fun hx=>absurd ((hat.setSt 0).unique hx).2 (by decide))
   ·rw [hd]
    rcases i with _ | i
    ·simp [deafBehind]
    ·simp at he
   ·rw [Deaf_own,hd];rfl
  ·-- the count is looked at again
   obtain ⟨hr,hz⟩:=(show Z2 P L.tWg X.wg g w from hz)
   obtain ⟨hp1,hat,hoth⟩:=hG.wg.at23 hst (.inl rfl)
   obtain ⟨g',q,hstep,hq⟩:=hz hat
   obtain ⟨h6,_,_⟩ | ⟨_,hlv,_,hdf⟩:=hkn
   ·omega
   have hd:Deaf t (nb+j+1)=1:=hdf (by omega) (by omega)
   have hes:∀ e∈#[rd (stA X.wg)],EvShy X.wg e:=fun e he=>by simp at he;subst he;exact .inr ⟨_,_,rfl,by decide⟩
   refine key (k':=2) (m':=q) hstep hes (by omega) Side.refl (fun b hb=>rfl) rfl (.late hp1 (nb+j) 2 (List.getElem?_set_self (List.getElem?_eq_some_iff.1 hst).1) (.inr rfl) hat fun i k hi e=>hoth i k (by rwa [List.getElem?_set_ne fun h=>e h.symm] at hi) e) hq
    (.inr ⟨by omega,leaves_shy hlv hnw hes fun i e he ht=>?_,fun h=>by omega,fun _ _=>?_⟩) (fun h=>by have:=zg_running (k:=2) hq;rw [h] at this;cases this) (.inl fun hx=>absurd (hat.unique hx).2 (by decide))
   ·rw [hd]
    rcases i with _ | i
    ·simp [deafBehind]
    ·simp at he
   ·rw [Deaf_own,hd];rfl
  ·-- it counts itself out
   obtain ⟨hr,hz⟩:=(show Z1 P L.tWg X.wg g w from hz)
   obtain ⟨v,wt,hat,hv,hlate,hwt,hpark,hb⟩:=hG.wg.at4 hst
   have hcnt:=count_pos (p:=fun k=>decide (4≤k)) hst rfl
   have htail:=count_tail (p:=fun k=>decide (4≤k)) rfl (l:=sl.map Slot.stage) (n:=nb) fun i k hi hk=>by
    rw [List.getElem?_map] at hk
    obtain ⟨s,e1,e2⟩:=Option.map_eq_some_iff.1 hk
    obtain ⟨m',rfl⟩:=(hG.old i s hi e1).out
    exact e2.symm
   have hlen:=hG.len
   have hadl:=hG.adl
   have hadn:X.seats.length+X.nf≤X.ad:=by
    by_cases hpl:X.wt=.play
    ·rcases hG.adp hpl with h | h <;> omega
    ·exact Nat.le_of_eq (hG.ads hpl).1.symm
   simp only [List.length_map] at htail
   obtain ⟨v,rfl⟩:∃ v',v=v'+1:=⟨v-1,by omega⟩
   have hwt1:wt≤1:=by rw [hwt];split <;> omega
   obtain ⟨g',hstep,hq1,hq0⟩:=hz v wt hwt1 (by omega) (by push_cast at hat;exact hat)
   obtain ⟨h6,_,_⟩ | ⟨_,hlv,_,hdf⟩:=hkn
   ·omega
   have hd:Deaf t (nb+j+1)=1:=hdf (by omega) (by omega)
   have hes:∀ e∈#[rd (stA X.wg),wr (stA X.wg)],EvShy X.wg e:=fun e he=>by
    simp at he
    rcases he with rfl | rfl <;> exact .inr ⟨_,_,rfl,by decide⟩
   have hdi:∀ (i:Nat) (e:Event),(#[rd (stA X.wg),wr (stA X.wg)]:Array Event)[i]?=some e→(MemAct.ofEvent e).touch?≠none→0<deafBehind (Deaf t (nb+j+1)) ((#[rd (stA X.wg),wr (stA X.wg)]:Array Event).extract 0 i):=fun i e he ht=>by
    rw [hd]
    rcases i with _ | _ | i
    ·simp [deafBehind]
    ·simp [deafBehind,rd]
    ·simp at he
   have hset:=count_set (p:=fun k=>decide (4≤k)) (b:=0) hst
   simp at hset
   by_cases hl:v=0∧wt=1
   ·obtain ⟨q,hq⟩:=hq1 hl
    obtain ⟨rfl,rfl⟩:=hl
    have hp1:X.wt=.parked:=by
     revert hwt
     cases X.wt <;> simp
    have had:=(hG.ads (by rw [hp1];simp)).1
    have hone:=count_one (p:=fun k=>decide (4≤k)) hst rfl rfl (by omega)
    refine key (k':=3) (m':=q) hstep hes (by omega) side_setCell (fun b hb=>setCell_ne hb) setCell_size (.late hp1 (nb+j) 3 (List.getElem?_set_self (List.getElem?_eq_some_iff.1 hst).1) (.inl rfl) (by simpa using hat.setSt _) fun i k hi e=>?_) hq
     (.inr ⟨by omega,leaves_shy hlv hnw hes hdi,fun h=>by omega,fun _ _=>?_⟩) (fun h=>by have:=zg_running (k:=3) hq;rw [h] at this;cases this) (.inl fun hx=>absurd ((hat.setSt _).unique hx).2 (by decide))
    ·rw [List.getElem?_set_ne fun h=>e h.symm] at hi
     have h1:=hone i k hi e
     have h2:=hlate k (List.mem_of_getElem? hi)
     simp at h1
     omega
    ·rw [Deaf_own,hd];rfl
   ·obtain ⟨q,hq⟩:=hq0 hl
    refine key (k':=0) (m':=q) hstep hes (by omega) side_setCell (fun b hb=>setCell_ne hb) setCell_size (.quiet v wt (hat.setSt _) (by omega) (fun k hk=>?_) hwt (fun hp1=>?_) ?_) (by rw [hd];exact hq)
     (.inr ⟨by omega,leaves_shy hlv hnw hes hdi,fun h=>by omega,fun h=>by omega⟩) (fun h=>by have:=QuitsD.status hq;rw [h] at this;rcases this with h | h <;> cases h) (.inl fun hx=>absurd ((hat.setSt _).unique hx).2 (by decide))
    ·rcases List.mem_or_eq_of_mem_set hk with hk | rfl
     ·exact hlate k hk
     ·exact .inl rfl
    ·have:wt=1:=by rw [hwt,hp1]
     omega
    ·revert hb
     cases X.wt <;> simp <;> omega
  ·-- it is deaf from here on
   obtain ⟨hr,g',q,hstep,hq⟩:=(show ZK P L.tWg X.wg g w from hz)
   obtain ⟨h6,_,_⟩ | ⟨_,hlv,hdf,_⟩:=hkn
   ·omega
   have hd:Deaf t (nb+j+1)=0:=hdf rfl
   have hes:∀ e∈#[mk .disable],EvShy X.wg e:=fun e he=>by simp at he;subst he;exact .inl ⟨_,rfl,rfl,fun a h=>by cases h⟩
   refine key (k':=4) (m':=q) hstep hes (by omega) Side.refl (fun b hb=>rfl) rfl (hG.wg.far hst (by omega) (by omega) fun _ _ h=>h) hq
    (.inr ⟨by omega,leaves_shy hlv hnw hes fun i e he ht=>?_,fun h=>by omega,fun _ _=>?_⟩) (fun h=>by have:=zg_running (k:=4) hq;rw [h] at this;cases this) (.inl (hG.wg.notFree hst (by omega)))
   ·rcases i with _ | i
    ·simp at he;subst he;exact absurd rfl ht
    ·simp at he
   ·rw [Deaf_own,hd];rfl
  ·-- it says that it's through
   obtain ⟨hr,g',q,hstep,hq⟩:=(show ZR P L.tWg X.wg g w from hz)
   obtain ⟨_,hkh,hd⟩ | ⟨h5,_⟩:=hkn
   ·have hes:∀ e∈#[mk (.releaseMerge (stA X.wg))],EvShy X.wg e:=fun e he=>by simp at he;subst he;exact .inl ⟨_,rfl,rfl,fun a h=>by cases h⟩
    have e0:(t++MemOp.ofEvents (nb+j+1) g.frame.fn g.frame.place #[mk (.releaseMerge (stA X.wg))])[t.size]?=some { g:=nb+j+1,fn:=g.frame.fn,pos:=g.frame.place,act:=.mark (.releaseMerge (stA X.wg)) }:=by
     rw [ofEvents_eq,Array.getElem?_append_right (Nat.le_refl _)];simp [mk];rfl
    have hkb:∀ i,Knows t (nb+j+1) i→Before (t++MemOp.ofEvents (nb+j+1) g.frame.fn g.frame.place #[mk (.releaseMerge (stA X.wg))]) i t.size:=fun i hi=>.inr (hi.hb_new (Nat.le_refl _) e0 rfl)
    refine key (k':=5) (m':=q) hstep hes (by omega) Side.refl (fun b hb=>rfl) rfl (hG.wg.far hst (by omega) (by omega) fun _ _ h=>h) hq
     (.inr ⟨by omega,⟨t.size,⟨act?_of e0,g?_of e0,_,g?_of e0,by rw [deaf_old (Nat.le_refl _)];exact hd⟩,shy_kn hkh hkb (shy_of hes) hnw,fun i hi hc=>?_⟩,fun _=>?_,fun h=>by omega⟩)
     (fun h=>by have:=zg_running (k:=5) hq;rw [h] at this;cases this) (.inl (hG.wg.notFree hst (by omega)))
    ·rcases Nat.lt_or_ge i t.size with hlt | hge
     ·rw [g?_app hlt] at hi
      obtain ⟨op,ho,hog⟩:=Option.map_eq_some_iff.1 (show (t[i]?).map (·.g)=some (nb+j+1) from hi)
      exact hkb i (by have:=knows_own ho;rwa [hog] at this)
     ·have:=g?_lt hi
      rw [ofEvents_eq] at this
      simp at this
      exact .inl (by omega)
    ·rw [Deaf_own,hd];rfl
   ·omega
  ·exact hz.elim
 ·refine key (k':=k+1) (m':=m') hstep (fun e he=>by simp at he) (by omega) Side.refl (fun b hb=>rfl) rfl (hG.wg.same hst fun _ _ h=>h) hz' ?_ (fun h=>by have:=zg_running hz';rw [h] at this;cases this) (.inl (hG.wg.notFree hst (by omega)))
  rw [ofEvents_none,Array.append_empty]
  exact hkn
end
end Go.PB
namespace Go.PB
open Go.Conc Go.Conc.Lib
open Go.ConcR (KK stA smA rd wr mk DC0)
variable {W0:World} {P:Program} {cv:Value} {L:WgLink} {Em:Frame→List Frame→Hp→MX→Prop}
theorem allK_mute {t u:Trace} {i:Nat} {K K':Nat→Prop} (h:AllK t i K) (hK:∀ j,K j→K' j) (hm:∀ op∈u,op.act.touch?=none):AllK (t++u) i K':=by
 intro j hj hc
 rcases Nat.lt_or_ge j t.size with hlt | hge
 ·exact hK _ (h j (by rw [← g?_app hlt];exact hj) ((counts_old hlt).1 hc))
 ·exfalso
  obtain ⟨x,h1,_⟩:=hc
  obtain ⟨op,ho,hx⟩:=touch_of h1
  rcases getElem?_append_cases ho with ⟨h2,_⟩ | ⟨_,h2⟩
  ·omega
  ·rw [hm op h2] at hx;cases hx
theorem slotKn_mute {t u:Trace} {wg i m m':Nat} {h:Hp} (k:SlotKn t wg i h (.out 0 m:Slot P cv L)) (hm:∀ op∈u,op.act.touch?=none):SlotKn (t++u) wg i h (.out 0 m':Slot P cv L):=by
 obtain ⟨h6,_⟩ | ⟨_,⟨p,h1,h2,h3⟩,_⟩:=k
 ·omega
 ·exact .inr ⟨by omega,⟨p,h1.app u,kn_mute h2 (fun j h=>h.app u) hm,allK_mute h3 (fun j h=>h.app u) hm⟩,fun h=>by omega,fun h=>by omega⟩
section
variable {gs:Array Goroutine} {w:World} {t:Trace} {M:MN P cv L Em} {sl:List (Slot P cv L)} {hp:Nat→Hp} {X:GX} {nb i k m:Nat} {g:Goroutine} {sc:Option (Nat × Nat)}
theorem mute_act {e:Event} (h:e.mute=true):(MemAct.ofEvent e).touch?=none∧∀ a,MemAct.ofEvent e≠.mark (.release a):=by
 obtain ⟨loc,wr,sy⟩:=e
 cases loc with
 | mark m=>cases m <;> first | (simp [Event.mute] at h;done) | (cases wr <;> cases sy <;> exact ⟨rfl,fun a h=>by cases h⟩)
 | _=>simp [Event.mute] at h
theorem cfg_quit (c:Cfg W0 gs w t M sl hp) (hs:sl[i]?=some (.out 0 m)) (hg:gs[i+1]?=some g) (hr:g.status=.running) :
  ∃ gs' ops m',runT P (crowd gs w sc) (i+1)=(.next (crowd gs' w sc),ops)∧m'<m∧Cfg W0 gs' w (t++ops) M (sl.set i (.out 0 m')) hp:=by
 obtain ⟨g0,hg0,hz⟩:=c.thr _ _ hs
 rw [hg] at hg0;cases hg0
 replace hz:QuitsD P m (Deaf t (i+1)) g:=hz
 have hlt:=(List.getElem?_eq_some_iff.1 hs).1
 cases m with
 | zero=>have:=hz.1;rw [hr] at this;cases this
 | succ m =>
  rcases hz with ⟨hf,_⟩ | ⟨_,g',es,hes,hstep,hq⟩
  ·rw [hr] at hf;cases hf
  have hst':stepG P (i+1 == 0) g w=.go g' w es:=hstep w
  refine ⟨_,_,m,runT_crowd_go hg hst',Nat.lt_succ_self _,?_⟩
  have q:=gs_go (P:=P) (g':=g') (w':=w) hg
  have hnb:g'.status≠.blocked:=fun h=>by have:=QuitsD.status hq;rw [h] at this;rcases this with h | h <;> cases h
  generalize hgs':(gs.map (woken P g g' w)).setIfInBounds (i+1) g'=gs' at q
  obtain ⟨u,hu⟩:∃ u,u=MemOp.ofEvents (i+1) g.frame.fn g.frame.place es:=⟨_,rfl⟩
  have hdf:Deaf (t++u) (i+1)=deafBehind (Deaf t (i+1)) es:=by rw [hu];exact Deaf_own ..
  have hug:∀ op∈u,op.g=i+1:=fun op ho=>by rw [hu] at ho;obtain ⟨e,_,rfl⟩:=ofEvents_mem ho;rfl
  have hum:∀ op∈u,op.act.touch?=none:=fun op ho=>by rw [hu] at ho;obtain ⟨e,h1,rfl⟩:=ofEvents_mem ho;exact (mute_act (hes e h1)).1
  have hur:∀ op∈u,∀ a,op.act≠.mark (.release a):=fun op ho=>by rw [hu] at ho;obtain ⟨e,h1,rfl⟩:=ofEvents_mem ho;exact (mute_act (hes e h1)).2
  rw [← hu]
  clear hu
  have hng:∀ k,k≠i+1→∀ op∈u,op.g≠k:=fun k hk op ho e=>hk (by rw [← e,hug op ho])
  refine ⟨by rw [q.size,List.length_set];exact c.size,?_,fun k sx hk=>?_,c.mem.mute c.mem.fits (Nat.le_refl _) hum hur,c.aft,c.hp0,fun k hk=>c.hpn k (by simpa using hk),fun k op hk=>?_,kn_mute c.kn0 (fun j h=>h.app u) hum,?_,c.pool.step (fun pl _ h2 h3=>⟨h3,h2,fun op ho b hb=>by rw [hum op ho] at hb;cases hb⟩) (by rw [List.length_set]) fun g wg m q k sx hk=>?_⟩
  rotate_right
  ·by_cases hki:k=i
   ·subst hki
    simp [hlt] at hk
    subst hk
    exact ⟨_,hs,id⟩
   ·rw [List.getElem?_set_ne fun e=>hki e.symm] at hk
    exact ⟨sx,hk,id⟩
  ·obtain ⟨g,h1,h2⟩:=c.main
   obtain ⟨x,x',w2,h3⟩:=q.other 0 g (by omega) h1
   exact ⟨_,h3,h2.woken⟩
  ·by_cases hki:k=i
   ·subst hki
    simp [hlt] at hk
    subst hk
    exact ⟨_,q.self,show QuitsD P m _ g' by rw [hdf];exact hq⟩
   ·rw [List.getElem?_set_ne fun e=>hki e.symm] at hk
    obtain ⟨g,h1,h2⟩:=c.thr k sx hk
    obtain ⟨x,x',w2,h3⟩:=q.other (k+1) g (by omega) h1
    exact ⟨_,h3,slot_woken (Deaf_others (hng _ (by omega))) (fun h=>h) h2⟩
  ·simp only [List.length_set]
   rcases getElem?_append_cases hk with ⟨_,h⟩ | ⟨_,h⟩
   ·exact c.tg k op h
   ·rw [hug op h];omega
  ·have hgame:=c.game
   cases hM:M.x with
   | idle =>
    rw [hM] at hgame
    refine ⟨fun k sx hk=>?_,by rw [Deaf_others (hng 0 (by omega))];exact hgame.deaf,fun g0 h0 hb=>hgame.runs g0 (q.back _ _ (by omega) h0 hb) hb⟩
    by_cases hki:k=i
    ·subst hki
     simp [hlt] at hk
     subst hk
     have ho:=hgame.old k _ hs
     exact ⟨⟨m,rfl⟩,ho.empty,allK_mute ho.all (fun j h=>h.app u) hum⟩
    ·rw [List.getElem?_set_ne fun e=>hki e.symm] at hk
     exact (hgame.old k sx hk).app (hng _ (by omega))
   | game X =>
    rw [hM] at hgame
    obtain ⟨nb,hG⟩:=hgame
    have hstg:(sl.set i (.out 0 m)).map Slot.stage=sl.map Slot.stage:=by
     apply List.ext_getElem?
     intro k
     rw [List.getElem?_map,List.getElem?_map]
     by_cases hki:i=k
     ·subst hki;rw [List.getElem?_set_self hlt,hs];rfl
     ·rw [List.getElem?_set_ne hki]
    refine ⟨nb,⟨by rw [List.length_set];exact hG.len,fun k sx hk hc=>?_,fun k cx hc=>?_,fun k sx hc=>?_,hG.chan,hG.dist,hG.noch,hG.nowg,by rw [hstg];exact hG.wg,fun k b o ho2 hb hl=>?_,?_,hG.tok0,hG.tok1,hG.adp,hG.ads,hG.adl,fun k cx gx hc hgx hsx hb=>?_,fun g0 cases shp hg hb ho=>?_,fun g0 hg hb ho=>hG.sleep g0 (q.back _ _ (by omega) hg hb) hb ho,fun k cx b i x hc hb hx hl=>?_⟩⟩
    ·by_cases hki:k=i
     ·subst hki
      simp [hlt] at hc
      subst hc
      have ho:=hG.old k _ hk hs
      exact ⟨⟨m,rfl⟩,ho.empty,allK_mute ho.all (fun j h=>h.app u) hum⟩
     ·rw [List.getElem?_set_ne fun e=>hki e.symm] at hc
      exact (hG.old k sx hk hc).app (hng _ (by omega))
    ·obtain ⟨sx,h1,h2⟩:=hG.seat k cx hc
     by_cases hki:nb+k=i
     ·subst hki
      rw [hs] at h1;cases h1
      exact ⟨.out 0 m,by simp [hlt],h2⟩
     ·exact ⟨sx,by rw [List.getElem?_set_ne fun e=>hki e.symm];exact h1,h2⟩
    ·by_cases hki:nb+k=i
     ·subst hki
      simp [hlt] at hc
      subst hc
      exact slotKn_mute (hG.know k _ hs) hum
     ·rw [List.getElem?_set_ne fun e=>hki e.symm] at hc
      exact (hG.know k sx hc).app (hng _ (by omega)) fun kk hK=>kn_mute kk hK hum
    ·rcases touch_split hb with hb | ⟨op,ho,hi,h2⟩
     ·rcases hG.wgt k b o ho2 hb hl with this | ⟨k0,k1⟩
      ·refine .inl ⟨this.1,fun hsd=>?_⟩
       have h1:=this.2 hsd
       rw [g?_app (g?_lt h1)];exact h1
      ·exact .inr ⟨k0.app u,fun j hj=>(k1 j hj).app u⟩
     ·rw [hum op ho] at h2;cases h2
    ·rw [Deaf_others (hng 0 (by omega))];exact hG.deaf
    ·by_cases hki:nb+k=i
     ·subst hki;rw [q.self] at hgx;cases hgx;exact hnb hb
     ·exact hG.live k cx gx hc (q.back _ _ (by omega) hgx hb) hsx hb
    ·obtain ⟨k,cx,h1,h2,h3,h4⟩:=hG.park g0 cases shp (q.back _ _ (by omega) hg hb) hb ho
     refine ⟨k,cx,h1,h2,h3,fun g hg2 hb2=>?_⟩
     by_cases hki:nb+k=i
     ·subst hki;rw [q.self] at hg2;cases hg2;exact hnb hb2
     ·exact h4 g (q.back _ _ (by omega) hg2 hb2) hb2
    ·rcases touch_split hx with hx | ⟨op,ho,_,h2⟩
     ·exact (hG.cht k cx b i x hc hb hx hl).app u
     ·rw [hum op ho] at h2;cases h2
end
end Go.PB
namespace Go.PB
open Go.Conc Go.Conc.Lib
open Go.ConcR (KK stA smA rd wr mk DC0)
variable {W0:World} {P:Program} {cv:Value} {L:WgLink} {Em:Frame→List Frame→Hp→MX→Prop}
structure Shy0 (wg:Nat) (u:Trace):Prop where
 g:∀ op∈u,op.g=0
 touch:∀ op∈u,∀ b,op.act.touch?=some b→(∃ o,o<2∧b.loc=.cell ⟨wg,o,none⟩)∧b.kind≠.plain
 norel:∀ op∈u,∀ a,op.act≠.mark (.release a)
def EvShy0 (wg:Nat) (e:Event):Prop:=EvShy wg e∨∃ o,o<2∧(e=⟨.mark (.read ⟨wg,o,none⟩),false,true⟩∨e=⟨.mark (.write ⟨wg,o,none⟩),false,true⟩)
theorem shy0_of {wg:Nat} {fn:FuncId} {pos:String} {es:Array Event} (h:∀ e∈es,EvShy0 wg e):Shy0 wg (MemOp.ofEvents 0 fn pos es) where
 g:=fun op ho=>by obtain ⟨e,_,rfl⟩:=ofEvents_mem ho;rfl
 touch:=fun op ho b hb=>by
  obtain ⟨e,h1,rfl⟩:=ofEvents_mem ho
  rcases h e h1 with h2 | ⟨o,ho2,rfl | rfl⟩
  ·have:=(evShy_act h2).1 b hb
   exact ⟨this.1,by rw [this.2];simp⟩
  ·have:(MemAct.ofEvent ⟨.mark (.read ⟨wg,o,none⟩),false,true⟩).touch?=some ⟨.cell ⟨wg,o,none⟩,false,.said⟩:=rfl
   rw [this] at hb;cases hb;exact ⟨⟨o,ho2,rfl⟩,by simp⟩
  ·have:(MemAct.ofEvent ⟨.mark (.write ⟨wg,o,none⟩),false,true⟩).touch?=some ⟨.cell ⟨wg,o,none⟩,true,.said⟩:=rfl
   rw [this] at hb;cases hb;exact ⟨⟨o,ho2,rfl⟩,by simp⟩
 norel:=fun op ho b=>by
  obtain ⟨e,h1,rfl⟩:=ofEvents_mem ho
  rcases h e h1 with h2 | ⟨o,ho2,rfl | rfl⟩
  ·exact (evShy_act h2).2 b
  ·intro e;cases e
  ·intro e;cases e
theorem shy0_kn {t u:Trace} {K K':Nat→Prop} {h:Hp} {wg:Nat} (kn:Kn t K h) (hK:∀ j,K j→K' j) (s:Shy0 wg u) (hn:∀ o,h.own wg o=none∧h.ro wg o=none):Kn (t++u) K' h where
 own:=fun b o v e i b' hb hl=>by
  rcases touch_split hb with hb | ⟨op,ho,_,h2⟩
  ·exact hK _ (kn.own _ _ _ e _ _ hb hl)
  ·obtain ⟨⟨o',_,h1⟩,_⟩:=s.touch op ho b' h2
   rw [h1] at hl;cases hl;rw [(hn o).1] at e;cases e
 ro:=fun b o v e i b' hb hl hw=>by
  rcases touch_split hb with hb | ⟨op,ho,_,h2⟩
  ·exact hK _ (kn.ro _ _ _ e _ _ hb hl hw)
  ·obtain ⟨⟨o',_,h1⟩,_⟩:=s.touch op ho b' h2
   rw [h1] at hl;cases hl;rw [(hn o).2] at e;cases e
 obj:=fun b v e i b' hb hl=>by
  rcases touch_split hb with hb | ⟨op,ho,_,h2⟩
  ·exact hK _ (kn.obj _ _ e _ _ hb hl)
  ·obtain ⟨⟨o',_,h1⟩,_⟩:=s.touch op ho b' h2
   rw [h1] at hl;cases hl
theorem Mem.shy0 {w w':World} {t u:Trace} {hp:Nat→Hp} {wg:Nat} {ty:TypeId} {p q p' q':Int} (m:Mem w t hp) (s:Shy0 wg u) (hn:∀ i o,(hp i).own wg o=none∧(hp i).ro wg o=none)
  (h:∀ i b o,o<2→touchAt t i=some b→b.loc=.cell ⟨wg,o,none⟩→(b.kind≠.plain∧(b.kind=.said→t.g? i=some 0))∨Knows t 0 i) (e:WgAt ty wg w p q) (e':WgAt ty wg w' p' q') (hw:∀ c,c≠wg→w'.heap[c]?=w.heap[c]?) (hs:w'.heap.size=w.heap.size):Mem w' (t++u) hp where
 fits:=fun i=>fits_wg (m.fits i) (hn i) e e' hw
 sep:=m.sep
 nr:=fun said=>noRace_append (m.nr said) s.g fun i b hb op ho b' hb' hc=>by
  obtain ⟨⟨o,ho2,h1⟩,h2⟩:=s.touch op ho b' hb'
  obtain ⟨hl,_,_,h3⟩:=hc
  rw [h1] at hl
  rcases h i b o ho2 hb hl with h4 | hk
  rotate_left
  ·exact hk
  rcases h3 with h3 | h3 | ⟨_,h3,_⟩
  ·exact absurd h3 h4.1
  ·exact absurd h3 h2
  ·obtain ⟨op',ho',hog⟩:=Option.map_eq_some_iff.1 (show (t[i]?).map (·.g)=some 0 from h4.2 h3)
   have:=knows_own ho';rwa [hog] at this
 low:=fun i b hb=>by
  rw [hs]
  rcases touch_split hb with hb | ⟨op,ho,_,h2⟩
  ·exact m.low i b hb
  ·obtain ⟨⟨o',_,h1⟩,_⟩:=s.touch op ho b h2
   exact ⟨fun d hd=>(by rw [h1] at hd;cases hd;exact wgAt_lt e),fun r hr=>by rw [h1] at hr;cases hr⟩
 norel:=fun op ho b=>(Array.mem_append.1 ho).elim (fun ho=>m.norel op ho b) (fun ho=>s.norel op ho b)
theorem seatAt_book {X:GX} {df:Bool} {ad:Nat} {wt:Wst} {c:St X} {h:Hp} {s:Slot P cv L} (k:SeatAt X c h s):SeatAt { X with deaf:=df,ad:=ad,wt:=wt } c h s:=by
 cases s with
 | act n=>exact k
 | out a b=>exact k
theorem Cfg.book {gs gs':Array Goroutine} {w w':World} {t u:Trace} {M M':MN P cv L Em} {sl:List (Slot P cv L)} {hp:Nat→Hp} {X:GX} {nb:Nat} {df:Bool} {ad:Nat} {wt:Wst}
  (c:Cfg W0 gs w t M sl hp) (hX:M.x=.game X) (hG:GameAt X gs w t sl hp nb) (q:Gs P 0 gs gs' (G M'.fr M'.cs))
  (hx:M'.x=.game { X with deaf:=df,ad:=ad,wt:=wt }) (hh:M'.h=M.h)
  (hsd:Side w w') (hw:∀ b,b≠X.wg→w'.heap[b]?=w.heap[b]?) (hsz:w'.heap.size=w.heap.size) (sh:Shy0 X.wg u)
  (ph:WgPh L { X with deaf:=df,ad:=ad,wt:=wt } (sl.map Slot.stage) w') (hdf:Deaf (t++u) 0=if df then 1 else 0)
  (adp:wt=.play→ad=X.seats.length+X.nf∨(ad=X.seats.length+X.nf+1∧X.tok.isSome=true))
  (ads:wt≠.play→ad=X.seats.length+X.nf∧∀ (j:Nat) (c:St X),X.seats[j]?=some c→c.st.isShut=true) (adl:ad≤1000):Cfg W0 gs' w' (t++u) M' sl hp:=by
 obtain ⟨p1,p2,e1⟩:=hG.wg.ex
 obtain ⟨p3,p4,e2⟩:=ph.ex
 replace e2:WgAt L.tWg X.wg w' p3 p4:=e2
 have hng:∀ i,i≠0→∀ op∈u,op.g≠i:=fun i hi op ho e=>hi (by rw [← e,sh.g op ho])
 have hrl:RL L.tWg X.wg w w':=fun _=>⟨_,_,e2⟩
 have hmem:=c.mem.shy0 sh hG.nowg (fun i b o ho2 hb hl=>(hG.wgt i b o ho2 hb hl).imp id fun k=>k.1) e1 e2 hw hsz
 refine ⟨by rw [q.size];exact c.size,⟨_,q.self,.inl runs_G⟩,fun i sx hi=>?_,hmem,(by rw [hx];have hg:=c.aft.game;rw [hX] at hg;exact c.aft.at_block hg.1 hsd hw hsz hg),by rw [hh];exact c.hp0,c.hpn,fun i op hi=>?_,?_,?_,?_⟩
 rotate_right
 ·rw [hx]
  have hp:=c.pool
  rw [hX] at hp
  refine PoolOk.step (x:=.game X) hp (fun pl hw' hs' hf=>⟨fits_wg hf (hw' X rfl) e1 e2 hw,hs',fun op ho b hb=>⟨fun x y hl=>?_,fun x hl=>by rw [(sh.touch op ho b hb).1.choose_spec.2] at hl;cases hl⟩⟩) rfl fun g wg m q i sx hi=>⟨sx,hi,id⟩
  obtain ⟨⟨o',_,h1⟩,_⟩:=sh.touch op ho b hb
  rw [h1] at hl;cases hl
  exact ⟨(hw' X rfl _).1,fun _=>(hw' X rfl _).2⟩
 ·rw [hx]
  obtain ⟨g,h1,h2⟩:=c.thr i sx hi
  rw [hX] at h2
  obtain ⟨x,x',w2,h3⟩:=q.other (i+1) g (by omega) h1
  exact ⟨_,h3,slot_woken (Deaf_others (hng _ (by omega))) hrl h2⟩
 ·rcases getElem?_append_cases hi with ⟨_,h⟩ | ⟨_,h⟩
  ·exact c.tg i op h
  ·rw [sh.g op h];omega
 ·exact shy0_kn c.kn0 (fun j h=>h.app u) sh (hG.nowg 0)
 ·rw [hx]
  refine ⟨nb,⟨hG.len,fun i sx hi hc=>(hG.old i sx hi hc).app (hng _ (by omega)),fun k cx hc=>?_,fun k sx hc=>?_,fun k cx hc b hb=>?_,hG.dist,hG.noch,hG.nowg,ph,fun i b o ho2 hb hl=>?_,hdf,hG.tok0,hG.tok1,adp,ads,adl,fun k cx g hc hg hsx hb=>?_,fun g0 cases shp hg hb ho=>?_,fun g0 hg hb ho=>?_,fun k cx b i x hc hb hx hl=>?_⟩⟩
  ·obtain ⟨sx,h1,h2⟩:=hG.seat k cx hc
   exact ⟨sx,h1,seatAt_book h2⟩
  ·exact (hG.know k sx hc).app (hng _ (by omega)) fun kk hK=>shy0_kn kk hK sh (hG.nowg _)
  ·obtain ⟨n,e⟩:=hG.chan k cx hc b hb
   refine ⟨n,?_⟩
   rw [hw _ fun he=>?_]
   ·exact e
   ·obtain ⟨_,e1,_⟩:=e1;rw [he] at e;rw [e1] at e;cases e
  ·rcases touch_split hb with hb | ⟨op,ho,hi,h2⟩
   ·rcases hG.wgt i b o ho2 hb hl with this | ⟨k0,k1⟩
    ·refine .inl ⟨this.1,fun hsd=>?_⟩
     have h1:=this.2 hsd
     rw [g?_app (g?_lt h1)];exact h1
    ·exact .inr ⟨k0.app u,fun j hj=>(k1 j hj).app u⟩
   ·exact .inl ⟨(sh.touch op ho b h2).2,fun _=>by rw [g?_of hi,sh.g op ho]⟩
  ·exact hG.live k cx g hc (q.back _ _ (by omega) hg hb) hsx hb
  ·rw [q.self] at hg;cases hg;cases hb
  ·rw [q.self] at hg;cases hg;cases hb
  ·rcases touch_split hx with hx | ⟨op,ho,_,h2⟩
   ·exact (hG.cht k cx b i x hc hb hx hl).app u
   ·obtain ⟨⟨o',_,h1⟩,_⟩:=sh.touch op ho x h2
    rw [h1] at hl;cases hl
end Go.PB
namespace Go.PB
open Go.Conc Go.Conc.Lib
open Go.ConcR (KK stA smA rd wr mk DC0)
variable {W0:World} {P:Program} {cv:Value} {L:WgLink} {Em:Frame→List Frame→Hp→MX→Prop}
theorem seen_one {fn:FuncId} {f:FuncId} {m:Mark} (hm:∀ f,m≠.extern f):seen P fn #[⟨.mark (.extern f),false,true⟩,⟨.mark m,false,true⟩]=#[⟨.mark m,false,true⟩]:=by
 cases m <;> first | (exact absurd rfl (hm _)) | simp [seen]
theorem seen_rd {fn:FuncId} {f:FuncId} {a:Addr}:seen P fn #[⟨.mark (.extern f),false,true⟩,⟨.cell a,false,true⟩]=#[rd a]:=by simp [seen,rd]
theorem seen_rw {fn:FuncId} {f:FuncId} {a:Addr}:seen P fn #[⟨.mark (.extern f),false,true⟩,⟨.cell a,false,true⟩,⟨.cell a,true,true⟩]=#[rd a,wr a]:=by simp [seen,rd,wr]
theorem seen_sem {fn:FuncId} {f:FuncId} {a:Addr}:seen P fn #[⟨.mark (.extern f),false,true⟩,⟨.mark .disable,false,true⟩,⟨.cell a,false,true⟩,⟨.cell a,true,true⟩,⟨.mark .enable,false,true⟩]=semEvents a:=by simp [seen,semEvents]
theorem WgPh.quiet0 {X:GX} {st:List Nat} {w:World} (p:WgPh L X st w) (h:X.wt≠.parked):∃ v:Nat,WgAt L.tWg X.wg w (v*KK+0) 0∧v+(X.seats.length+X.nf)=(st.filter fun k=>decide (4≤k)).length+X.ad∧(∀ k∈st,k=0∨4≤k) ∧
  (match X.wt with | .wait b=>v≤b | .seen v0=>v≤v0 | .woken=>v=0 | .zero=>v=0 | _=>True):=by
 cases p with
 | quiet v wt at_ hv late hw park bb =>
  have:wt=0:=by
   rw [hw]
   split
   ·rename_i e;exact absurd e h
   ·rfl
  subst this
  exact ⟨v,by simpa using at_,hv,late,bb⟩
 | late p=>exact absurd p h
 | late1 p=>exact absurd p h
 | free p=>exact absurd p h
theorem count_le {X:GX} {gs:Array Goroutine} {w:World} {t:Trace} {sl:List (Slot P cv L)} {hp:Nat→Hp} {nb:Nat} (hG:GameAt X gs w t sl hp nb):((sl.map Slot.stage).filter fun k=>decide (4≤k)).length≤X.seats.length+X.nf:=by
 have htail:=count_tail (p:=fun k=>decide (4≤k)) rfl (l:=sl.map Slot.stage) (n:=nb) fun i k hi hk=>by
  rw [List.getElem?_map] at hk
  obtain ⟨s,e1,e2⟩:=Option.map_eq_some_iff.1 hk
  obtain ⟨m',rfl⟩:=(hG.old i s hi e1).out
  exact e2.symm
 have hlen:=hG.len
 simp only [List.length_map] at htail
 omega
theorem cfg_book {gs:Array Goroutine} {w:World} {t:Trace} {fr:Frame} {cs:List Frame} {h:Hp} {X:GX} {o:Oper} {O:Value→Hp→MX→Prop} {at_:AtOp fr o} {ne:fr.kind≠.early}
  {a:(mHand P cv L.done L.tWg).act (wakes o) (execOp fr.eval o) h (.game X) fun nx h' x'=>∃ v,nx=.value v∧O v h' x'} {k:∀ v h' x',O v h' x'→Run P (mHand P cv L.done L.tWg) true Em (fr.finish v) cs h' x'}
  {sl:List (Slot P cv L)} {hp:Nat→Hp} {g:Goroutine} {sc:Option (Nat × Nat)}
  (c:Cfg W0 gs w t (⟨fr,cs,h,.game X,.act o O at_ ne a k⟩:MN P cv L Em) sl hp) (hg:gs[0]?=some g) (hr:Runs g fr cs)
  (ma:MAct P (wakes o) (execOp fr.eval o) h X fun nx h' x'=>∃ v,nx=.value v∧O v h' x') :
  (∃ gs' w' ops v h' x' q,runT P (crowd gs w sc) 0=(.next (crowd gs' w' sc),ops)∧Cfg W0 gs' w' (t++ops) (⟨fr.finish v,cs,h',x',k v h' x' q⟩:MN P cv L Em) sl hp) ∨
  (X.wt=.parked∧(∃ es,(execOp fr.eval o).runT P w #[]=(.halt .blocked w,es))∧¬ WgAt L.tWg X.wg w 0 1) ∨
  (X.wt=.zero∧X.deaf=false∧(∀ d,X.free=some d→X.nf=d.q0.length)∧Says P (execOp fr.eval o) (.acquire ⟨X.wg,0,none⟩)∧∀ r h',X.ends r→Split h' h r→O unit h' .idle) ∨
  (∃ (j:Nat) (c:St X) (q0:X.g.θ),X.wt=.play∧X.deaf=false∧X.ad=X.seats.length∧X.tok.isSome=true∧X.seats[j]?=some c∧c.st=.said q0∧wakes o=true∧Shuts P (execOp fr.eval o) c.fin ∧
   O unit h (.game { X with seats:=X.seats.set j { c with st:=.shut q0 } })):=by
 obtain ⟨nb,hG⟩:∃ nb,GameAt X gs w t sl hp nb:=c.game
 have hdeaf:=hG.deaf
 have key:∀ {v:Value} {w':World} {es:Array Event} {df:Bool} {ad:Nat} {wt:Wst},(execOp fr.eval o).runT P w #[]=(.ok (.value v) w',es)→O v h (.game { X with deaf:=df,ad:=ad,wt:=wt })→(∀ e∈seen P fr.fn es,EvShy0 X.wg e) →
   Side w w'→(∀ b,b≠X.wg→w'.heap[b]?=w.heap[b]?)→w'.heap.size=w.heap.size→WgPh L { X with deaf:=df,ad:=ad,wt:=wt } (sl.map Slot.stage) w'→deafBehind (Deaf t 0) (seen P fr.fn es)=(if df then 1 else 0) →
   (wt=.play→ad=X.seats.length+X.nf∨(ad=X.seats.length+X.nf+1∧X.tok.isSome=true))→(wt≠.play→ad=X.seats.length+X.nf∧∀ (j:Nat) (c:St X),X.seats[j]?=some c→c.st.isShut=true)→ad≤1000 →
   (∃ gs' w' ops v h' x' q,runT P (crowd gs w sc) 0=(.next (crowd gs' w' sc),ops)∧Cfg W0 gs' w' (t++ops) (⟨fr.finish v,cs,h',x',k v h' x' q⟩:MN P cv L Em) sl hp):=by
  intro v w' es df ad wt hrun hO hes hsd hw hsz ph hd adp ads adl
  have hst:stepG P ((0:Nat) == 0) g w=.go (G (fr.finish v) cs) w' (seen P fr.fn es):=by rw [hr.step];exact step_value at_ ne hrun
  exact ⟨_,_,_,v,h,_,hO,runT_crowd_go hg hst,Cfg.book c rfl hG (gs_go hg) rfl rfl hsd hw hsz (shy0_of hes) ph (by rw [Deaf_own];exact hd) adp ads adl⟩
 have same:∀ {df:Bool},WgPh L { X with deaf:=df } (sl.map Slot.stage) w:=fun {df}=>by
  cases hG.wg with
  | quiet v wt at_ hv late hw park bb=>exact .quiet v wt at_ hv late hw park bb
  | late p i k hik hk at_ oth=>exact .late p i k hik hk at_ oth
  | late1 p i hik at_ oth=>exact .late1 p i hik at_ oth
  | free p at_ oth=>exact .free p at_ oth
 have e1:∀ e:Event,e∈#[rd (stA X.wg)]→EvShy0 X.wg e:=fun e he=>by simp at he;subst he;exact .inl (.inr ⟨_,_,rfl,by decide⟩)
 have e2:∀ e:Event,e∈#[rd (stA X.wg),wr (stA X.wg)]→EvShy0 X.wg e:=fun e he=>by simp at he;rcases he with rfl | rfl <;> exact .inl (.inr ⟨_,_,rfl,by decide⟩)
 cases ma with
 | disable d a q =>
  obtain ⟨v,hv,q⟩:=q;cases hv
  obtain ⟨f,hf⟩:=a
  have hs:=seen_one (P:=P) (fn:=fr.fn) (f:=f) (m:=.disable) (fun _=>by simp)
  exact .inl (key (hf w) q (by rw [hs];intro e he;simp at he;subst he;exact .inl (.inl ⟨_,rfl,rfl,fun a h=>by cases h⟩)) Side.refl (fun b _=>rfl) rfl same (by rw [hs,hdeaf,d];rfl) hG.adp hG.ads hG.adl)
 | enable d a q =>
  obtain ⟨v,hv,q⟩:=q;cases hv
  obtain ⟨f,hf⟩:=a
  have hs:=seen_one (P:=P) (fn:=fr.fn) (f:=f) (m:=.enable) (fun _=>by simp)
  exact .inl (key (hf w) q (by rw [hs];intro e he;simp at he;subst he;exact .inl (.inl ⟨_,rfl,rfl,fun a h=>by cases h⟩)) Side.refl (fun b _=>rfl) rfl same (by rw [hs,hdeaf,d];rfl) hG.adp hG.ads hG.adl)
 | read m hm a q =>
  obtain ⟨v,hv,q⟩:=q;cases hv
  obtain ⟨f,hf⟩:=a
  have hs:=seen_one (P:=P) (fn:=fr.fn) (f:=f) (m:=m) (fun _=>by rcases hm with rfl | rfl <;> simp)
  refine .inl (key (df:=X.deaf) (hf w) q ?_ Side.refl (fun b _=>rfl) rfl same ?_ hG.adp hG.ads hG.adl)
  ·rw [hs];intro e he;simp at he;subst he
   rcases hm with rfl | rfl
   ·exact .inr ⟨1,by decide,.inl rfl⟩
   ·exact .inr ⟨1,by decide,.inr rfl⟩
  ·rw [hs,hdeaf]
   rcases hm with rfl | rfl <;> cases X.deaf <;> rfl
 | add p hd ha tk d a q =>
  obtain ⟨v,hat,hv,hlate,_⟩:=hG.wg.quiet0 (by rw [p];simp)
  have hcl:=count_le hG
  obtain ⟨v',hv',q⟩:=q v (by omega);cases hv'
  obtain ⟨f,hf⟩:=a
  have hrun:=hf w _ hat.cellSt (hat.thaw 0)
  have ew:IntKind.u64.wrap ((v:Int)*KK+0+kk)=((v+1:Nat):Int)*KK:=by
   rw [IntKind.wrap_u64];simp only [KK,kk];push_cast;omega
  rw [ew] at hrun
  refine .inl (key hrun (by exact q) (by rw [seen_rw];exact e2) side_setCell (fun b hb=>setCell_ne hb) setCell_size (.quiet (v+1) 0 (by simpa [stA,KK,kk] using hat.setSt _) (by simp only;omega) hlate (by simp only [p]) (by simp only [p];intro h;cases h) (by simp only [p])) (by rw [seen_rw,hdeaf,d];rfl) (fun _=>.inr ⟨by omega,tk⟩) (fun h=>absurd p h) (by omega))
 | look b p d a q q0 =>
  obtain ⟨v,hat,hv,hlate,hb⟩:=hG.wg.quiet0 (by rcases p with p | p <;> simp [p])
  have hcl:=count_le hG
  have hvb:v≤b:=by
   rcases p with p | ⟨p,p2,p3,_⟩
   ·rw [p] at hb;exact hb
   ·omega
  have hads:X.ad=X.seats.length+X.nf∧∀ (j:Nat) (c:St X),X.seats[j]?=some c→c.st.isShut=true:=by
   rcases p with p | ⟨p,p2,p3,p4⟩
   ·exact hG.ads (by rw [p];simp)
   ·refine ⟨p3,fun j c hc=>?_⟩
    have:=p4 c (List.mem_of_getElem? hc)
    unfold Seat.closed at this
    unfold SeatSt.isShut
    cases hcs:c.st <;> simp [hcs] at this ⊢
  obtain ⟨f,hf⟩:=a
  have hrun:=hf w _ hat.cellSt
  rcases Nat.eq_zero_or_pos v with rfl | hpos
  ·obtain ⟨v',hv',q⟩:=q0;cases hv'
   have ez:(((0:Nat):Int)*KK+0)=0:=by simp
   rw [ez] at hrun
   exact .inl (key hrun q (by rw [seen_rd];exact e1) Side.refl (fun b _=>rfl) rfl (.quiet 0 0 (by simpa using hat) hv hlate rfl (fun h=>by cases h) rfl) (by rw [seen_rd,hdeaf,d];rfl) (fun h=>by cases h) (fun _=>hads) hG.adl)
  ·obtain ⟨v',hv',q⟩:=q v hpos hvb;cases hv'
   have ez:((v:Int)*KK+0)=(v:Int)*kk:=by simp [KK,kk]
   rw [ez] at hrun
   exact .inl (key hrun q (by rw [seen_rd];exact e1) Side.refl (fun b _=>rfl) rfl (.quiet v 0 (by simpa using hat) hv hlate rfl (fun h=>by cases h) (Nat.le_refl _)) (by rw [seen_rd,hdeaf,d];rfl) (fun h=>by cases h) (fun _=>hads) hG.adl)
 | swap v hpos p d a q q0 =>
  obtain ⟨v',hat,hv,hlate,hb⟩:=hG.wg.quiet0 (by rw [p];simp)
  rw [p] at hb
  have hads:=hG.ads (by rw [p];simp)
  obtain ⟨f,hf⟩:=a
  have hrun:=hf w _ hat.cellSt (hat.thaw 0)
  by_cases he:v'=v
  ·subst he
   obtain ⟨v'',hv',q⟩:=q;cases hv'
   have hrun:=hrun.1 (by simp [KK,kk])
   refine .inl (key hrun q (by rw [seen_rw];exact e2) side_setCell (fun b hb=>setCell_ne hb) setCell_size (.quiet v' 1 (by simpa [stA,KK,kk] using hat.setSt _) hv hlate rfl (fun _=>hpos) trivial) (by rw [seen_rw,hdeaf,d];rfl) (fun h=>by cases h) (fun _=>hads) hG.adl)
  ·obtain ⟨v'',hv',q⟩:=q0 v' (by simp only at hb;omega);cases hv'
   have hrun:=hrun.2 (by simp only [KK,kk];omega)
   exact .inl (key hrun q (by rw [seen_rd];exact e1) Side.refl (fun b _=>rfl) rfl (.quiet v' 0 (by simpa using hat) hv hlate rfl (fun h=>by cases h) (Nat.le_refl _)) (by rw [seen_rd,hdeaf,d];rfl) (fun h=>by cases h) (fun _=>hads) hG.adl)
 | sem p d a q =>
  obtain ⟨f,hf⟩:=a
  have hads:=hG.ads (by rw [p];simp)
  have stay:∀ {x:Int},WgAt L.tWg X.wg w x 0→X.wt=.parked∧(∃ es,(execOp fr.eval o).runT P w #[]=(.halt .blocked w,es))∧¬ WgAt L.tWg X.wg w 0 1:=fun hat =>
   ⟨p,(hf w 0 hat.cellSm (hat.thaw 1)).1 rfl,fun hx=>absurd (hat.unique hx).2 (by decide)⟩
  cases hG.wg with
  | quiet v wt at_ hv late hw park bb=>exact .inr (.inl (stay at_))
  | late p i k hik hk at_ oth=>exact .inr (.inl (stay at_))
  | late1 p i hik at_ oth=>exact .inr (.inl (stay at_))
  | free p at_ oth =>
   obtain ⟨v',hv',q⟩:=q;cases hv'
   have hrun:=(hf w 1 at_.cellSm (at_.thaw 1)).2 rfl
   have hcnt:((sl.map Slot.stage).filter fun k=>decide (4≤k))=[]:=List.filter_eq_nil_iff.2 fun k hk=>by simp [oth k hk]
   refine .inl (key hrun q ?_ side_setCell (fun b hb=>setCell_ne hb) setCell_size (.quiet 0 0 (by simpa [smA] using at_.setSm 0) (by rw [hcnt];simp [hads.1]) (fun k hk=>.inl (oth k hk)) rfl (fun h=>by cases h) rfl) ?_ (fun h=>by cases h) (fun _=>hads) hG.adl)
   ·rw [seen_sem]
    intro e he
    simp only [semEvents,List.mem_toArray,List.mem_cons,List.not_mem_nil,or_false] at he
    rcases he with rfl | rfl | rfl | rfl
    ·exact .inl (.inl ⟨_,rfl,rfl,fun a h=>by cases h⟩)
    ·exact .inl (.inr ⟨_,_,rfl,by decide⟩)
    ·exact .inl (.inr ⟨_,_,rfl,by decide⟩)
    ·exact .inl (.inl ⟨_,rfl,rfl,fun a h=>by cases h⟩)
   ·rw [seen_sem,hdeaf,d];rfl
 | last p d a q =>
  obtain ⟨v,hat,hv,hlate,hb⟩:=hG.wg.quiet0 (by rw [p];simp)
  rw [p] at hb
  replace hb:v=0:=hb
  subst hb
  have hads:=hG.ads (by rw [p];simp)
  obtain ⟨f,hf⟩:=a
  have hrun:=hf w _ hat.cellSt
  obtain ⟨v',hv',q⟩:=q;cases hv'
  have ez:(((0:Nat):Int)*KK+0)=0:=by simp
  rw [ez] at hrun
  exact .inl (key hrun q (by rw [seen_rd];exact e1) Side.refl (fun b _=>rfl) rfl (.quiet 0 0 (by simpa using hat) hv hlate rfl (fun h=>by cases h) rfl) (by rw [seen_rd,hdeaf,d];rfl) (fun h=>by cases h) (fun _=>hads) hG.adl)
 | acquire p d hn a q=>exact .inr (.inr (.inl ⟨p,d,hn,a,fun r h' h1 h2=>by obtain ⟨v,hv,q⟩:=q r h' h1 h2;cases hv;exact q⟩))
 | shut j cx q0 p d ad tk hj st hw a q=>exact .inr (.inr (.inr ⟨j,cx,q0,p,d,ad,tk,hj,st,hw,a,by obtain ⟨v,hv,q⟩:=q;cases hv;exact q⟩))
theorem step_late {main:Bool} {b:Base} {tt:Array Value} {ds:List Deferred} {todo:List Item} {f:Fn} {cap args:Array Value} {cs:List Frame} {w w':World} {v:Value} {es:Array Event} (hr:(invoke (.fn f cap) args).runT P w #[]=(.ok (.value v) w',es)) :
  stepG P main (G (endFr b tt ({ target:=.fn f cap,args }::ds) todo .returning) cs) w=.go (G (endFr b tt ds todo .returning) cs) w' (seen P b.fn es):=by
 simp only [stepG,G,endFr,unwind,callDeferred,Bool.false_and,Bool.false_eq_true,if_false,hr,GStep.after]
 simp
theorem cfg_late {gs:Array Goroutine} {w:World} {t:Trace} {b:Base} {tt:Array Value} {ds:List Deferred} {todo:List Item} {f:Fn} {cap args:Array Value} {cs:List Frame} {h:Hp} {X:GX} {O:Hp→MX→Prop}
  {a:(mHand P cv L.done L.tWg).late (invoke (.fn f cap) args) h (.game X) O} {k:∀ h' x',O h' x'→Run P (mHand P cv L.done L.tWg) true Em (endFr b tt ds todo .returning) cs h' x'}
  {sl:List (Slot P cv L)} {hp:Nat→Hp} {g:Goroutine} {sc:Option (Nat × Nat)}
  (c:Cfg W0 gs w t (⟨_,cs,h,.game X,.late b tt ds todo f cap args O rfl a k⟩:MN P cv L Em) sl hp) (hg:gs[0]?=some g) (hr:Runs g (endFr b tt ({ target:=.fn f cap,args }::ds) todo .returning) cs)
  (d:X.deaf=true) (sy:Says P (invoke (.fn f cap) args) .enable) (q:O h (.game { X with deaf:=false })) :
  ∃ gs' w' ops,runT P (crowd gs w sc) 0=(.next (crowd gs' w' sc),ops)∧Cfg W0 gs' w' (t++ops) (⟨_,cs,h,_,k h _ q⟩:MN P cv L Em) sl hp:=by
 obtain ⟨nb,hG⟩:∃ nb,GameAt X gs w t sl hp nb:=c.game
 have hdeaf:=hG.deaf
 obtain ⟨f',hf⟩:=sy
 have hs:=seen_one (P:=P) (fn:=b.fn) (f:=f') (m:=.enable) (fun _=>by simp)
 have same:WgPh L { X with deaf:=false } (sl.map Slot.stage) w:=by
  cases hG.wg with
  | quiet v wt at_ hv late hw park bb=>exact .quiet v wt at_ hv late hw park bb
  | late p i k hik hk at_ oth=>exact .late p i k hik hk at_ oth
  | late1 p i hik at_ oth=>exact .late1 p i hik at_ oth
  | free p at_ oth=>exact .free p at_ oth
 have hst:stepG P ((0:Nat) == 0) g w=.go (G (endFr b tt ds todo .returning) cs) w (seen P b.fn #[⟨.mark (.extern f'),false,true⟩,⟨.mark .enable,false,true⟩]):=by rw [hr.step];exact step_late (hf w)
 exact ⟨_,_,_,runT_crowd_go hg hst,Cfg.book c rfl hG (gs_go hg) rfl rfl Side.refl (fun b _=>rfl) rfl (shy0_of (by rw [hs];intro e he;simp at he;subst he;exact .inl (.inl ⟨_,rfl,rfl,fun a h=>by cases h⟩))) same (by rw [Deaf_own,hs,hdeaf,d];rfl) hG.adp hG.ads hG.adl⟩
end Go.PB
namespace Go.PB
open Go.Conc
section
variable {P:Program} {gs:Array Goroutine} {w w₁:World} {sl:Option (Nat × Nat)} {i j k:Nat} {g g₂ gj:Goroutine} {es:Array Event} {c cap s r:Nat} {buf:Array Value} {tm closed:Bool} {v z zj:Value}
 {blocking:Bool} {shape shj:CommShape} {cs cases:Array CommCase}
theorem crowd_sel_send_meets (hi:gs[i]?=some g) (h:stepG P (i == 0) g w=.comm g₂ cases blocking shape w₁ es) (hk:cases[k]?=some (scase c v z))
  (ho:∀ (m:Nat) (c':CommCase),m≠k→cases[m]?=some c'→NoWays w₁ (gs.setIfInBounds i ph) c')
  (hc:w₁.heap[c]?=some (.chan cap buf false s r tm)) (hij:j≠i) (hj:gs[j]?=some (parked gj #[rcase c zj] shj)) (hp:partners (gs.setIfInBounds i ph) c false=[(j,0)]) :
  runT P (crowd gs w sl) i=(.next (crowd ((gs.setIfInBounds j (gj.finishComm P #[rcase c zj] shj 0 v true)).setIfInBounds i (g₂.finishComm P cases shape k undef false)) (w₁.setChan c cap buf false (s+1) (r+1) tm) sl),
   MemOp.ofEvents i g.frame.fn g.frame.place es++#[{ g:=i,fn:=g₂.frame.fn,pos:=g₂.frame.place,act:=.send c s },{ g:=j,fn:=gj.frame.fn,pos:=gj.frame.place,act:=.recv c r cap },
    { g:=i,fn:=g₂.frame.fn,pos:=g₂.frame.place,act:=.sendDone c s },{ g:=j,fn:=gj.frame.fn,pos:=gj.frame.place,act:=.recvDone c r }]):=by
 have hw:ways w₁ (gs.setIfInBounds i ph) (scase c v z)=[.partner j 0]:=by simp [ways,scase,hc,hp]
 have hj':=stand_get (i:=i) hij hj
 have hfp:=finishPartner_at P (gs.setIfInBounds i ph) hj' (cs:=#[rcase c zj]) (sh:=shj) rfl 0 v
 have hgd:(gs.setIfInBounds i ph).getD j default=parked gj #[rcase c zj] shj:=by rw [Array.getD_eq_getD_getElem?,hj'];rfl
 rw [runT_crowd_comm hi h]
 unfold communicate
 simp only [ready_one hk (by rw [hw];simp) ho,hw]
 rw [if_neg]
 ·simp [choose,Sem.run,Question.forced,bind,Sem.bind,pure,rcase,crowd,hc,hfp,hgd,set_stand2,finishComm_parked,scase,parked,World.setChan]
  rfl
 ·rw [Bool.not_eq_true];exact any_ill (made_of_one hk (made_send v z hc) ho)
theorem crowd_recv_meets_sel (hi:gs[i]?=some g) (h:stepG P (i == 0) g w=.comm g₂ #[rcase c z] blocking shape w₁ es) (hc:w₁.heap[c]?=some (.chan cap #[] closed s r tm))
  (hij:j≠i) (hj:gs[j]?=some (parked gj cs shj)) (hk:cs[k]?=some (scase c v zj)) (hp:partners (gs.setIfInBounds i ph) c true=[(j,k)]) :
  runT P (crowd gs w sl) i=(.next (crowd ((gs.setIfInBounds j (gj.finishComm P cs shj k undef false)).setIfInBounds i (g₂.finishComm P #[rcase c z] shape 0 v true)) (w₁.setChan c cap #[] closed (s+1) (r+1) tm) sl),
   MemOp.ofEvents i g.frame.fn g.frame.place es++#[{ g:=j,fn:=gj.frame.fn,pos:=gj.frame.place,act:=.send c s },{ g:=i,fn:=g₂.frame.fn,pos:=g₂.frame.place,act:=.recv c r cap },
    { g:=j,fn:=gj.frame.fn,pos:=gj.frame.place,act:=.sendDone c s },{ g:=i,fn:=g₂.frame.fn,pos:=g₂.frame.place,act:=.recvDone c r }]):=by
 rw [runT_crowd_comm hi h]
 have hj':=stand_get (i:=i) hij hj
 have hfp:=finishPartner_at P (gs.setIfInBounds i ph) hj' (cs:=cs) (sh:=shj) rfl k undef
 have hgd:(gs.setIfInBounds i ph).getD j default=parked gj cs shj:=by rw [Array.getD_eq_getD_getElem?,hj'];rfl
 have hov:offeredValue (gs.setIfInBounds i ph) j k=v:=by simp [offeredValue,hj',parked,hk,scase]
 simp [communicate,ways,rcase,hc,hp,choose,Sem.run,Question.forced,bind,Sem.bind,pure,World.setChan,crowd,hfp,hgd,hov,set_stand2,finishComm_parked,scase,parked,hk]
 rfl
end
def meet (a b:Nat) (fa:FuncId) (pa:String) (fb:FuncId) (pb:String) (c k:Nat):Trace :=
 #[{ g:=a,fn:=fa,pos:=pa,act:=.send c k },{ g:=b,fn:=fb,pos:=pb,act:=.recv c k 0 },{ g:=a,fn:=fa,pos:=pa,act:=.sendDone c k },{ g:=b,fn:=fb,pos:=pb,act:=.recvDone c k }]
section
variable {a b c k:Nat} {fa fb:FuncId} {pa pb:String} {t:Trace}
theorem meet_mute:∀ op∈meet a b fa pa fb pb c k,op.act.touch?=none:=by
 intro op hop
 simp only [meet,List.mem_toArray,List.mem_cons,List.not_mem_nil,or_false] at hop
 rcases hop with rfl | rfl | rfl | rfl <;> rfl
theorem meet_norel:∀ op∈meet a b fa pa fb pb c k,∀ x,op.act≠.mark (.release x):=by
 intro op hop x
 simp only [meet,List.mem_toArray,List.mem_cons,List.not_mem_nil,or_false] at hop
 rcases hop with rfl | rfl | rfl | rfl <;> simp
theorem meet_g:∀ op∈meet a b fa pa fb pb c k,op.g=a∨op.g=b:=by
 intro op hop
 simp only [meet,List.mem_toArray,List.mem_cons,List.not_mem_nil,or_false] at hop
 rcases hop with rfl | rfl | rfl | rfl <;> simp
theorem meet_plain:∀ op∈meet a b fa pa fb pb c k,Plain op:=by
 intro op hop m hm
 simp only [meet,List.mem_toArray,List.mem_cons,List.not_mem_nil,or_false] at hop
 rcases hop with rfl | rfl | rfl | rfl <;> cases hm
theorem meet_knows (ha:Deaf t a=0) (hb:Deaf t b=0) {i:Nat} (h:Knows t a i):Knows (t++meet a b fa pa fb pb c k) b i:=by
 have e0:(t++meet a b fa pa fb pb c k)[t.size]?=some { g:=a,fn:=fa,pos:=pa,act:=.send c k }:=by simp [meet]
 have e3:(t++meet a b fa pa fb pb c k)[t.size+3]?=some { g:=b,fn:=fb,pos:=pb,act:=.recvDone c k }:=by simp [meet]
 have hd:(t++meet a b fa pa fb pb c k).deaf b (t.size+3)=0:=by
  have e1:(t++meet a b fa pa fb pb c k)[t.size+1]?=some { g:=b,fn:=fb,pos:=pb,act:=.recv c k 0 }:=by simp [meet]
  have e2:(t++meet a b fa pa fb pb c k)[t.size+2]?=some { g:=a,fn:=fa,pos:=pa,act:=.sendDone c k }:=by simp [meet]
  rw [deaf_succ e2,deaf_succ e1,deaf_succ e0,deaf_old (Nat.le_refl _)]
  exact hb
 have edge:HappensBefore (t++meet a b fa pa fb pb c k) t.size (t.size+3) :=
  Relation.TransGen.single (.inr ⟨.handOver (act?_of e0) (act?_of e3),⟨a,g?_of e0,by rw [deaf_old (Nat.le_refl _)];exact ha⟩,⟨b,g?_of e3,hd⟩⟩)
 exact ⟨t.size+3,_,e3,rfl,.inr ((h.hb_new (Nat.le_refl _) e0 rfl).trans edge)⟩
end
end Go.PB
namespace Go.PB
open Go.Conc Go.Conc.Lib
open Go.ConcR (KK stA smA rd wr mk DC0)
variable {W0:World} {P:Program} {cv:Value} {L:WgLink} {Em:Frame→List Frame→Hp→MX→Prop}
theorem offers_sr {g:Goroutine} {c d ch:Nat} {v z1 z2:Value} {sh:CommShape} (b:Bool):offersAt (parked g #[scase c v z1,rcase d z2] sh) ch b=if b then (if c=ch then [0] else []) else (if d=ch then [1] else []):=by
 cases b <;> by_cases h1:c=ch <;> by_cases h2:d=ch <;> simp [offersAt,parked,scase,rcase,h1,h2]
theorem offers_rr {g:Goroutine} {c d ch:Nat} {z1 z2:Value} {sh:CommShape} (b:Bool):offersAt (parked g #[rcase c z1,rcase d z2] sh) ch b=if b then [] else (if c=ch then [0] else [])++(if d=ch then [1] else []):=by
 cases b <;> by_cases h1:c=ch <;> by_cases h2:d=ch <;> simp [offersAt,parked,scase,rcase,h1,h2]
theorem offers_none {g:Goroutine} (h:g.offers=none) (c:Nat) (b:Bool):offersAt g c b=[]:=by
 unfold offersAt
 rw [h]
 cases g.status <;> rfl
section
variable {fr:Frame} {cs:List Frame} {h h':Hp} {o:Oper} {cases:Array CommCase} {bl:Bool} {sh:CommShape} {at_:AtOp fr o} {rr:∀ w,Fits h w→(execOp fr.eval o).runT P w #[]=(.ok (.comm cases bl sh) w,#[])}
theorem thr_comm {rr:∀ w,Fits h w→(execOp fr.eval o).runT P w #[]=(.ok (.comm cases true sh) w,#[])} {X:GX} {cx:St X} {x:TX} {O:Value→Hp→TX→Prop} {a:(tHand P cv).comm cases true sh h x O} {k:∀ v h' x',O v h' x'→Run P (tHand P cv) false (tEnd P L.done) (fr.finish v) cs h' x'}
  (sa:SeatAt X cx h' (.act ⟨fr,cs,h,x,.comm o cases true sh O at_ rr a k⟩:Slot P cv L)) :
  True∧sh=.select ∧
  ((∃ s q n z1 z2 h1 r,cx.st=.run s q∧X.left≤n∧cases=#[scase cx.says (X.g.says q) z1,rcase cx.fin z2]∧Split h h1 r∧X.g.U s r ∧
    O (.tuple #[goInt 0,.bool false,z2]) h1 ⟨X.g,cx.says,cx.turn,cx.fin,X.wg,X.g.next q n⟩) ∨
   (∃ q n m f z1 z2,(cx.st=.said q∨cx.st=.shut q)∧(cx.st=.said q→X.left≤n)∧X.g.plan q=some (m,f)∧cases=#[rcase cx.turn z1,rcase cx.fin z2] ∧
    (∀ n' s r h',n=n'+1→X.g.W s r→Split h' h r→O (.tuple #[goInt 0,.bool true,.agg #[],z2]) h' ⟨X.g,cx.says,cx.turn,cx.fin,X.wg,.busy (f s).1 (f s).2 n'⟩) ∧
    O (.tuple #[goInt 1,.bool false,z1,z2]) h ⟨X.g,cx.says,cx.turn,cx.fin,X.wg,.cut q⟩)):=by
 obtain ⟨ph,e,p⟩:=sa
 replace e:x=_:=e
 subst e
 have a':(true=true∧sh=.select ∧
   ((∃ (s:X.g.σ) (q:X.g.θ) (n:Nat) (z1 z2:Value) (h' r:Hp),ph=.busy s q n∧cases=#[scase cx.says (X.g.says q) z1,rcase cx.fin z2]∧Split h h' r∧X.g.U s r ∧
     O (.tuple #[goInt 0,.bool false,z2]) h' ⟨X.g,cx.says,cx.turn,cx.fin,X.wg,X.g.next q n⟩) ∨
    (∃ (q:X.g.θ) (n:Nat) (m:Int × Int) (f:X.g.σ→X.g.σ × X.g.θ) (z1 z2:Value),ph=.said q n∧X.g.plan q=some (m,f)∧cases=#[rcase cx.turn z1,rcase cx.fin z2] ∧
     (∀ n' s r h',n=n'+1→X.g.W s r→Split h' h r→O (.tuple #[goInt 0,.bool true,.agg #[],z2]) h' ⟨X.g,cx.says,cx.turn,cx.fin,X.wg,.busy (f s).1 (f s).2 n'⟩) ∧
     O (.tuple #[goInt 1,.bool false,z1,z2]) h ⟨X.g,cx.says,cx.turn,cx.fin,X.wg,.cut q⟩)))∨Tries cases true sh h (⟨X.g,cx.says,cx.turn,cx.fin,X.wg,ph⟩:TX) O∨TriesF cases true sh h (⟨X.g,cx.says,cx.turn,cx.fin,X.wg,ph⟩:TX) O:=a
 rcases a' with a' | a' | a'
 rotate_left
 ·cases a'.1
 ·cases a'.1
 have b1:True:=trivial
 obtain ⟨_,b2,⟨s,q,n,z1,z2,h1,r,e1,e2,e3,e4,e5⟩ | ⟨q,n,m,f,z1,z2,e1,e2,e3,e4,e5⟩⟩:=a'
 ·refine ⟨b1,b2,.inl ⟨s,q,n,z1,z2,h1,r,?_,?_,e2,e3,e4,e5⟩⟩
  ·rw [e1] at p
   generalize cx.st=st at p
   cases p;rfl
  ·rw [e1] at p
   generalize cx.st=st at p
   cases p;assumption
 ·rw [e1] at p
  refine ⟨b1,b2,.inr ⟨q,n,m,f,z1,z2,?_,?_,e2,e3,e4,e5⟩⟩
  ·generalize cx.st=st at p
   cases p
   ·exact .inl rfl
   ·exact .inr rfl
  ·intro hst
   rw [hst] at p
   cases p;assumption
theorem main_comm {X:GX} {O:Value→Hp→MX→Prop} (a:(mHand P cv L.done L.tWg).comm cases true sh h (.game X) O) :
  True∧∃ (j:Nat) (c:St X),X.wt=.play∧X.deaf=false∧X.seats[j]?=some c ∧
  ((∃ z s q,cases=#[rcase c.says z]∧sh=.recv false∧c.st=.run s q∧X.tok=none∧∀ r h',X.g.U s r→Split h' h r →
    O (X.g.says q) h' (.game { X with tok:=some s,seats:=X.seats.set j { c with st:=.said q } })) ∨
   (∃ z q m f s l h' r,cases=#[scase c.turn (.agg #[]) z]∧sh=.send∧c.st=.said q∧X.g.plan q=some (m,f)∧X.tok=some s∧X.left=l+1∧X.ad=X.seats.length∧Split h h' r∧X.g.W s r ∧
    O undef h' (.game { X with tok:=none,left:=l,seats:=X.seats.set j { c with st:=.run (f s).1 (f s).2 } }))):=by
 rcases a with ⟨_,X',j,c,e,e2,e3,e4,e5⟩ | a
 ·cases e
  exact ⟨trivial,j,c,e2,e3,e4,e5⟩
 ·cases a.1
end
section
variable {gs:Array Goroutine} {w:World} {t:Trace} {M:MN P cv L Em} {sl:List (Slot P cv L)} {hp:Nat→Hp} {X:GX} {nb:Nat}
theorem offers_at (c:Cfg W0 gs w t M sl hp) (hX:M.x=.game X) (hG:GameAt X gs w t sl hp nb) {j:Nat} {cx:St X} (hj:X.seats[j]?=some cx) {a:Nat} (ha:a<3) {b:Bool} {i:Nat} {g:Goroutine} (hg:gs[i]?=some g) (ho:offersAt g (cx.ch a) b≠[]) :
  (i=0∧((a=0∧b=false∧∃ z sh,Parks g M.fr M.cs #[rcase cx.says z] sh)∨(a=1∧b=true∧∃ v z sh,Parks g M.fr M.cs #[scase cx.turn v z] sh))) ∨
  (i=nb+j+1∧∃ n,sl[nb+j]?=some (.act n)∧((a=0∧b=true∧∃ v z1 z2,Parks g n.fr n.cs #[scase cx.says v z1,rcase cx.fin z2] .select)∨(a=2∧b=false)∨(a=1∧b=false∧∃ z1 z2,Parks g n.fr n.cs #[rcase cx.turn z1,rcase cx.fin z2] .select))):=by
 cases i with
 | zero =>
  left
  obtain ⟨g',h1,h2⟩:=c.main
  rw [hg] at h1;cases h1
  refine ⟨rfl,?_⟩
  rcases h2 with h | ⟨cases,sh,h,hn⟩ | ⟨h,_⟩
  ·exact absurd (offersAt_of_not_blocked (by rw [h.status];simp) _ _) ho
  ·obtain ⟨fr,cs,hh,x,o,O,at_,rr,aa,k,rfl⟩:=hn
   replace hX:x=.game X:=hX
   subst hX
   obtain ⟨_,jm,cm,_,_,hm,hcase⟩:=main_comm aa
   rcases hcase with ⟨z,s,q,rfl,rfl,_⟩ | ⟨z,q,m,f,s,l,h',r,rfl,rfl,_⟩
   ·rw [h.eq] at ho
    left
    cases b with
    | true=>rw [offersAt_parked_recv'] at ho;exact absurd rfl ho
    | false =>
     rw [offersAt_parked_recv] at ho
     have e:cm.says=cx.ch a:=Decidable.byContradiction fun hne=>ho (by rw [if_neg hne])
     obtain ⟨rfl,rfl⟩:=hG.dist jm j cm cx 0 a hm hj (by omega) ha e
     rw [hm] at hj;cases hj
     exact ⟨rfl,rfl,z,_,h⟩
   ·rw [h.eq] at ho
    right
    cases b with
    | false=>rw [offersAt_parked_send'] at ho;exact absurd rfl ho
    | true =>
     rw [offersAt_parked_send] at ho
     have e:cm.turn=cx.ch a:=Decidable.byContradiction fun hne=>ho (by rw [if_neg hne])
     obtain ⟨rfl,rfl⟩:=hG.dist jm j cm cx 1 a hm hj (by omega) ha e
     rw [hm] at hj;cases hj
     exact ⟨rfl,rfl,_,z,_,h⟩
  ·exact absurd (offers_none h.offers _ _) ho
 | succ i =>
  right
  have hlt:i<sl.length:=by have:=c.size;have:=(Array.getElem?_eq_some_iff.1 hg).1;omega
  obtain ⟨s,hs⟩:∃ s,sl[i]?=some s:=⟨sl[i],List.getElem?_eq_getElem hlt⟩
  obtain ⟨g',h1,h2⟩:=c.thr i s hs
  rw [hg] at h1;cases h1
  have nb_of:g.status≠.blocked→False:=fun h=>ho (offersAt_of_not_blocked h _ _)
  cases s with
  | out k m =>
   exfalso
   cases k with
   | zero=>exact nb_of fun h=>by have:=QuitsD.status (P:=P) (n:=m) h2;rw [h] at this;rcases this with h | h <;> cases h
   | succ k=>exact nb_of fun h=>by have:=zg_running (k:=k+1) h2;rw [h] at this;cases this
  | act n =>
   have hin:nb≤i:=Nat.le_of_not_lt fun hlt=>by obtain ⟨m',e⟩:=(hG.old i _ hlt hs).out;cases e
   obtain ⟨j',rfl⟩:∃ j',i=nb+j':=⟨i-nb,by omega⟩
   obtain ⟨c',hc'⟩:∃ c':St X,X.seats[j']?=some c':=by
    have:=hG.len
    have:=(c.turns hX hj).2
    exact ⟨X.seats[j']'(by omega),List.getElem?_eq_getElem _⟩
   obtain ⟨s',h3,h4⟩:=hG.seat j' c' hc'
   rw [hs] at h3;cases h3
   rcases h2 with h | ⟨cases,sh,h,hn⟩
   ·exact (nb_of (by rw [h.status];simp)).elim
   ·obtain ⟨fr,cs,hh,x,o,O,at_,rr,aa,k,rfl⟩:=hn
    obtain ⟨_,rfl,⟨s,q,n,z1,z2,h1',r,_,_,rfl,_⟩ | ⟨q,n,m,f,z1,z2,_,_,_,rfl,_⟩⟩:=thr_comm h4
    ·rw [h.eq,offers_sr] at ho
     cases b with
     | true =>
      simp only [if_true] at ho
      have e:c'.says=cx.ch a:=Decidable.byContradiction fun hne=>ho (by rw [if_neg hne])
      obtain ⟨rfl,rfl⟩:=hG.dist j' j c' cx 0 a hc' hj (by omega) ha e
      rw [hc'] at hj;cases hj
      exact ⟨rfl,_,hs,.inl ⟨rfl,rfl,_,z1,z2,h⟩⟩
     | false =>
      simp only [Bool.false_eq_true,if_false] at ho
      have e:c'.fin=cx.ch a:=Decidable.byContradiction fun hne=>ho (by rw [if_neg hne])
      obtain ⟨rfl,rfl⟩:=hG.dist j' j c' cx 2 a hc' hj (by omega) ha e
      exact ⟨rfl,_,hs,.inr (.inl ⟨rfl,rfl⟩)⟩
    ·rw [h.eq,offers_rr] at ho
     cases b with
     | true=>simp at ho
     | false =>
      simp only [Bool.false_eq_true,if_false] at ho
      by_cases e:c'.turn=cx.ch a
      ·obtain ⟨rfl,rfl⟩:=hG.dist j' j c' cx 1 a hc' hj (by omega) ha e
       rw [hc'] at hj;cases hj
       exact ⟨rfl,_,hs,.inr (.inr ⟨rfl,rfl,z1,z2,h⟩)⟩
      ·rw [if_neg e] at ho
       have e:c'.fin=cx.ch a:=Decidable.byContradiction fun hne=>ho (by rw [if_neg hne];rfl)
       obtain ⟨rfl,rfl⟩:=hG.dist j' j c' cx 2 a hc' hj (by omega) ha e
       exact ⟨rfl,_,hs,.inr (.inl ⟨rfl,rfl⟩)⟩
theorem stand_nil (c:Cfg W0 gs w t M sl hp) (hX:M.x=.game X) (hG:GameAt X gs w t sl hp nb) {j:Nat} {cx:St X} (hj:X.seats[j]?=some cx) {a:Nat} (ha:a<3) {b:Bool} {i:Nat}
  (h0:i≠0→((a=0∧b=false)∨(a=1∧b=true))→∀ g,gs[0]?=some g→offersAt g (cx.ch a) b=[])
  (h1:i≠nb+j+1→((a=0∧b=true)∨(a=2∧b=false)∨(a=1∧b=false))→∀ g,gs[nb+j+1]?=some g→offersAt g (cx.ch a) b=[]):partners (gs.setIfInBounds i ph) (cx.ch a) b=[]:=by
 refine partners_nil fun k g hk=>?_
 rcases getElem?_stand gs i k g hk with ⟨_,rfl⟩ | ⟨hne,hk⟩
 ·exact offersAt_ph _ _
 ·refine Decidable.byContradiction fun ho=>?_
  rcases offers_at c hX hG hj ha hk ho with ⟨rfl,h⟩ | ⟨rfl,n,_,h⟩
  ·exact ho (h0 (fun e=>hne e.symm) (h.imp (fun h=>⟨h.1,h.2.1⟩) fun h=>⟨h.1,h.2.1⟩) g hk)
  ·refine ho (h1 (fun e=>hne e.symm) ?_ g hk)
   rcases h with h | h | h
   ·exact .inl ⟨h.1,h.2.1⟩
   ·exact .inr (.inl h)
   ·exact .inr (.inr ⟨h.1,h.2.1⟩)
theorem stand_main (c:Cfg W0 gs w t M sl hp) (hX:M.x=.game X) (hG:GameAt X gs w t sl hp nb) {j:Nat} {cx:St X} (hj:X.seats[j]?=some cx) {a:Nat} (ha:a<3) {b:Bool} {i:Nat} (hi:i≠0) {g:Goroutine} (hg:gs[0]?=some g) (hb:(a=0∧b=false)∨(a=1∧b=true)) :
  partners (gs.setIfInBounds i ph) (cx.ch a) b=(offersAt g (cx.ch a) b).map fun k=>(0,k):=by
 refine partners_one (by rw [Array.getElem?_setIfInBounds_ne hi];exact hg) fun k x hk hx=>?_
 rcases getElem?_stand gs i k x hx with ⟨_,rfl⟩ | ⟨hne,hx⟩
 ·exact offersAt_ph _ _
 ·refine Decidable.byContradiction fun ho=>?_
  rcases offers_at c hX hG hj ha hx ho with ⟨rfl,h⟩ | ⟨rfl,n,_,h⟩
  ·exact hk rfl
  ·rcases h with h | h | h <;> rcases hb with hb | hb <;> (obtain ⟨h1,h2⟩:=hb;simp_all)
theorem stand_thr (c:Cfg W0 gs w t M sl hp) (hX:M.x=.game X) (hG:GameAt X gs w t sl hp nb) {j:Nat} {cx:St X} (hj:X.seats[j]?=some cx) {a:Nat} (ha:a<3) {b:Bool} {i:Nat} (hi:i≠nb+j+1) {g:Goroutine} (hg:gs[nb+j+1]?=some g)
  (hb:(a=0∧b=true)∨(a=1∧b=false)):partners (gs.setIfInBounds i ph) (cx.ch a) b=(offersAt g (cx.ch a) b).map fun k=>(nb+j+1,k):=by
 refine partners_one (by rw [Array.getElem?_setIfInBounds_ne hi];exact hg) fun k x hk hx=>?_
 rcases getElem?_stand gs i k x hx with ⟨_,rfl⟩ | ⟨hne,hx⟩
 ·exact offersAt_ph _ _
 ·refine Decidable.byContradiction fun ho=>?_
  rcases offers_at c hX hG hj ha hx ho with ⟨rfl,h⟩ | ⟨rfl,n,_,h⟩
  ·rcases h with h | h <;> rcases hb with hb | hb <;> (obtain ⟨h1,h2⟩:=hb;simp_all)
  ·exact hk rfl
end
end Go.PB
namespace Go.PB
open Go.Conc Go.Conc.Lib
open Go.ConcR (KK stA smA rd wr mk DC0)
variable {W0:World} {P:Program} {cv:Value} {L:WgLink} {Em:Frame→List Frame→Hp→MX→Prop}
theorem fits_chan {h:Hp} {w w':World} {ch n n':Nat} {o o':Obj} (f:Fits h w) (hn:h.obj ch=none) (e:w.heap[ch]?=some o) (ho:isCells o=false) (ho':isCells o'=false) (hw:w'.heap=w.heap.setIfInBounds ch o'):Fits h w':=by
 have hne:∀ c,c≠ch→w'.heap[c]?=w.heap[c]?:=fun c hc=>by rw [hw,Array.getElem?_setIfInBounds_ne fun e=>hc e.symm]
 have hc:∀ c x,c≠ch→w'.cell? ⟨c,x,none⟩=w.cell? ⟨c,x,none⟩:=fun c x hne'=>by unfold World.cell?;rw [hne c hne']
 have hfz:∀ c x,c≠ch→w'.frozen? ⟨c,x,none⟩=w.frozen? ⟨c,x,none⟩:=fun c x hne'=>by unfold World.frozen?;rw [hne c hne']
 have no:∀ c x v,w.cell? ⟨c,x,none⟩=some v→c≠ch:=fun c x v hv he=>by
  subst he
  unfold World.cell? at hv
  simp only [e] at hv
  cases o <;> simp [isCells] at ho hv
 refine ⟨fun c x v hv=>by rw [hc _ _ (no _ _ _ (f.own _ _ _ hv))];exact f.own _ _ _ hv,fun c x v hv=>by rw [hfz _ _ (no _ _ _ (f.own _ _ _ hv))];exact f.thaw _ _ _ hv,fun c x v hv=>by rw [hc _ _ (no _ _ _ (f.ro _ _ _ hv))];exact f.ro _ _ _ hv,f.disj,fun c ob hv=>?_,f.objn,fun c y hv=>?_⟩
 ·rw [hne c fun e=>by rw [e,hn] at hv;cases hv];exact f.obj _ _ hv
 ·have h1:=f.shp _ _ hv
  have hcc:c≠ch:=fun he=>by
   subst he
   unfold World.shape? at h1
   simp only [e] at h1
   cases o <;> simp [isCells] at ho h1
  unfold World.shape? at h1 ⊢
  rw [hne c hcc];exact h1
theorem slot_rely {w w':World} {wg d d':Nat} {o:Goroutine} {s:Slot P cv L} (hd:d'=d) (r:RL L.tWg wg w w') (hs:SlotG w wg d o s):SlotG w' wg d' o s:=by
 subst hd
 cases s with
 | act n=>exact hs
 | out k m =>
  cases k with
  | zero=>exact hs
  | succ k=>exact zg_rely hs r
def give (hp:Nat→Hp) (a b:Nat) (ha r:Hp):Nat→Hp:=put (put hp a ha) b ((hp b).join r)
section
variable {w w':World} {t u:Trace} {hp:Nat→Hp} {a b:Nat} {ha r:Hp}
theorem give_a (hab:a≠b):give hp a b ha r a=ha:=by unfold give;rw [put_ne hab,put_self]
theorem give_b:give hp a b ha r b=(hp b).join r:=by unfold give;rw [put_self]
theorem give_ne {i:Nat} (h1:i≠a) (h2:i≠b):give hp a b ha r i=hp i:=by unfold give;rw [put_ne h2,put_ne h1]
theorem give_sep (hab:a≠b) (hf:∀ i,Fits (hp i) w) (hs:∀ i j,i≠j→Sep (hp i) (hp j)) (s:Split (hp a) ha r):∀ i j,i≠j→Sep (give hp a b ha r i) (give hp a b ha r j):=by
 have ss:Sep ha r:=s.sep (hf a)
 have kab:Sep ha ((hp b).join r):=(sep_join (s.frz1.sep (hs a b hab)).symm ss.symm).symm
 have key:∀ i,i≠a→i≠b→Sep ha (hp i)∧Sep ((hp b).join r) (hp i):=fun i h1 h2=>⟨s.frz1.sep (hs a i fun e=>h1 e.symm),sep_join (hs b i fun e=>h2 e.symm) (s.frz2.sep (hs a i fun e=>h1 e.symm))⟩
 intro i j hij
 by_cases i1:i=a
 ·subst i1
  rw [give_a hab]
  by_cases j2:j=b
  ·subst j2;rw [give_b];exact kab
  ·rw [give_ne (fun e=>hij e.symm) j2];exact (key j (fun e=>hij e.symm) j2).1
 ·by_cases i2:i=b
  ·subst i2
   rw [give_b]
   by_cases j1:j=a
   ·subst j1;rw [give_a hab];exact kab.symm
   ·rw [give_ne j1 fun e=>hij e.symm];exact (key j j1 fun e=>hij e.symm).2
  ·rw [give_ne i1 i2]
   by_cases j1:j=a
   ·subst j1;rw [give_a hab];exact (key i i1 i2).1.symm
   ·by_cases j2:j=b
    ·subst j2;rw [give_b];exact (key i i1 i2).2.symm
    ·rw [give_ne j1 j2];exact hs _ _ hij
theorem give_fits (hab:a≠b) (hf:∀ i,Fits (hp i) w) (hs:∀ i j,i≠j→Sep (hp i) (hp j)) (s:Split (hp a) ha r):∀ i,Fits (give hp a b ha r i) w:=by
 intro i
 by_cases i1:i=a
 ·subst i1;rw [give_a hab];exact s.frz1.fits (hf i)
 ·by_cases i2:i=b
  ·subst i2;rw [give_b];exact fits_join (hf i) (s.frz2.fits (hf a)) (s.frz2.sep (hs a i hab)).symm
  ·rw [give_ne i1 i2];exact hf i
theorem give_obj (hab:a≠b) (s:Split (hp a) ha r) {x:Nat} (h:∀ i,(hp i).obj x=none):∀ i,(give hp a b ha r i).obj x=none:=by
 intro i
 have h1:ha.obj x=none:=none_of fun v e=>by have:=s.b1 _ _ e;rw [h a] at this;cases this
 have h2:r.obj x=none:=none_of fun v e=>by have:=s.b2 _ _ e;rw [h a] at this;cases this
 by_cases i1:i=a
 ·subst i1;rw [give_a hab];exact h1
 ·by_cases i2:i=b
  ·subst i2;rw [give_b];simp [Hp.join,h i,h2]
  ·rw [give_ne i1 i2];exact h i
theorem give_own (hab:a≠b) (s:Split (hp a) ha r) {x o:Nat} (h:∀ i,(hp i).own x o=none∧(hp i).ro x o=none):∀ i,(give hp a b ha r i).own x o=none∧(give hp a b ha r i).ro x o=none:=by
 intro i
 have h1:ha.own x o=none:=none_of fun v e=>by have:=s.o1 _ _ _ e;rw [(h a).1] at this;cases this
 have h2:r.own x o=none:=none_of fun v e=>by have:=s.o2 _ _ _ e;rw [(h a).1] at this;cases this
 have h3:ha.ro x o=none:=none_of fun v e=>by have:=s.r1 _ _ _ e;rw [(h a).2] at this;cases this
 have h4:r.ro x o=none:=none_of fun v e=>by have:=s.r2 _ _ _ e;rw [(h a).2] at this;cases this
 by_cases i1:i=a
 ·subst i1;rw [give_a hab];exact ⟨h1,h3⟩
 ·by_cases i2:i=b
  ·subst i2;rw [give_b];simp [Hp.join,(h i).1,(h i).2,h2,h4]
  ·rw [give_ne i1 i2];exact h i
end
theorem phOk_left {g:Game} {l l':Nat} {st:SeatSt g.σ g.θ} {ph:Ph g.σ g.θ} (p:PhOk l st ph) (h:l'≤l):PhOk l' st ph:=by
 cases p with
 | run h1=>exact .run (Nat.le_trans h h1)
 | said h1 hp=>exact .said (Nat.le_trans h h1) hp
 | over hp=>exact .over hp
 | shutS hp=>exact .shutS hp
 | shutO=>exact .shutO
 | shutC=>exact .shutC
theorem seatAt_left {X:GX} {tk:Option X.g.σ} {lf:Nat} {ss:List (St X)} {c:St X} {h:Hp} {s:Slot P cv L} (hl:lf≤X.left) (k:SeatAt X c h s):SeatAt { X with tok:=tk,left:=lf,seats:=ss } c h s:=by
 cases s with
 | act n=>obtain ⟨ph,e,p⟩:=k;exact ⟨ph,e,phOk_left p hl⟩
 | out a b=>exact k
theorem WgPh.seats {X:GX} {tk:Option X.g.σ} {lf:Nat} {ss:List (St X)} {st:List Nat} {w w':World} (hl:ss.length=X.seats.length) (p:WgPh L X st w) (h:∀ a b,WgAt L.tWg X.wg w a b→WgAt L.tWg X.wg w' a b):WgPh L { X with tok:=tk,left:=lf,seats:=ss } st w':=by
 cases p with
 | quiet v wt a hv late hw park b=>exact .quiet v wt (h _ _ a) (by simpa only [hl] using hv) late hw park b
 | late p i k hi hk a oth=>exact .late p i k hi hk (h _ _ a) oth
 | late1 p i hi a oth=>exact .late1 p i hi (h _ _ a) oth
 | free p a oth=>exact .free p (h _ _ a) oth
theorem seats_set {X:GX} {j k:Nat} {cx c:St X} {st':SeatSt X.g.σ X.g.θ} (hj:X.seats[j]?=some cx) (h:(X.seats.set j { cx with st:=st' })[k]?=some c):(k=j∧c={ cx with st:=st' })∨(k≠j∧X.seats[k]?=some c):=by
 by_cases e:k=j
 ·subst e
  rw [List.getElem?_set_self (List.getElem?_eq_some_iff.1 hj).1] at h
  cases h;exact .inl ⟨rfl,rfl⟩
 ·rw [List.getElem?_set_ne fun h=>e h.symm] at h
  exact .inr ⟨e,h⟩
theorem seats_old {X:GX} {j k:Nat} {cx c:St X} {st':SeatSt X.g.σ X.g.θ} (hj:X.seats[j]?=some cx) (h:(X.seats.set j { cx with st:=st' })[k]?=some c):∃ c0:St X,X.seats[k]?=some c0∧∀ a,c.ch a=c0.ch a:=by
 rcases seats_set hj h with ⟨rfl,rfl⟩ | ⟨_,h⟩
 ·exact ⟨cx,hj,fun a=>by unfold Seat.ch;split <;> rfl⟩
 ·exact ⟨c,h,fun a=>rfl⟩
theorem Cfg.met {gs gs':Array Goroutine} {w w':World} {t:Trace} {M M':MN P cv L Em} {sl:List (Slot P cv L)} {hp:Nat→Hp} {X:GX} {nb j:Nat} {cx:St X} {n n':TN P cv L} {a b c0 kc:Nat} {ha r:Hp} {fa fb:FuncId} {pa pb:String}
  {st':SeatSt X.g.σ X.g.θ} {tk:Option X.g.σ} {lf:Nat} {ph':Ph X.g.σ X.g.θ}
  (c:Cfg W0 gs w t M sl hp) (hX:M.x=.game X) (hG:GameAt X gs w t sl hp nb) (hj:X.seats[j]?=some cx) (hs:sl[nb+j]?=some (.act n)) (hab:(a=0∧b=nb+j+1)∨(a=nb+j+1∧b=0))
  (hsz:gs'.size=gs.size) (h0:∃ g,gs'[0]?=some g∧Runs g M'.fr M'.cs) (h1:∃ g,gs'[nb+j+1]?=some g∧Runs g n'.fr n'.cs) (ho:∀ i,i≠0→i≠nb+j+1→gs'[i]?=gs[i]?)
  (hc0:c0<3) (hc:w.heap[cx.ch c0]?=some (.chan 0 #[] false kc kc false)) (hw:w'.heap=w.heap.setIfInBounds (cx.ch c0) (.chan 0 #[] false (kc+1) (kc+1) false)) (hos:w'.os=w.os∧w'.tape=w.tape∧w'.output=w.output) (sp:Split (hp a) ha r)
  (hx:M'.x=.game { X with tok:=tk,left:=lf,seats:=X.seats.set j { cx with st:=st' } }) (hM:M'.h=give hp a b ha r 0) (hn:n'.h=give hp a b ha r (nb+j+1))
  (hsh:st'.isShut=false) (hs0:cx.st.isShut=false) (sa:n'.x=⟨X.g,cx.says,cx.turn,cx.fin,X.wg,ph'⟩) (pk:PhOk lf st' ph') (hl:lf≤X.left)
  (t0:tk=none→st'.isRun=true) (t1:tk.isSome=true→st'.isRun=false) (to:∀ (j':Nat) (c':St X),X.seats[j']?=some c'→j'≠j→c'.st.isRun=false)
  (hwt:X.wt=.play) (had:X.ad=X.seats.length) (hdf:X.deaf=false) :
  Cfg W0 gs' w' (t++meet a b fa pa fb pb (cx.ch c0) kc) M' (sl.set (nb+j) (.act n')) (give hp a b ha r):=by
 have hlt:nb+j<sl.length:=(List.getElem?_eq_some_iff.1 hs).1
 have hno:=c.turns hX hj
 have hne:a≠b:=by rcases hab with h | h <;> omega
 have hin:a≤sl.length∧b≤sl.length:=by rcases hab with h | h <;> omega
 obtain ⟨p1,p2,e1⟩:=hG.wg.ex
 have hwgne:cx.ch c0≠X.wg:=fun e=>by obtain ⟨_,e1,_⟩:=e1;rw [e] at hc;rw [hc] at e1;cases e1
 have hwg:∀ x y,WgAt L.tWg X.wg w x y→WgAt L.tWg X.wg w' x y:=fun x y h=>by
  exact h.of_heap (by rw [hw,Array.getElem?_setIfInBounds_ne hwgne])
 have hrl:RL L.tWg X.wg w w':=fun ⟨x,y,h⟩=>⟨x,y,hwg _ _ h⟩
 have hd0:Deaf t 0=0:=by rw [hG.deaf,hdf];rfl
 have hkj:=hG.know j _ hs
 have hdj:Deaf t (nb+j+1)=0:=hkj.2.2
 have hda:Deaf t a=0:=by rcases hab with ⟨rfl,_⟩ | ⟨rfl,_⟩ <;> assumption
 have hdb:Deaf t b=0:=by rcases hab with ⟨_,rfl⟩ | ⟨_,rfl⟩ <;> assumption
 have hka:Kn t (Knows t a) (hp a):=by
  rcases hab with ⟨rfl,_⟩ | ⟨rfl,_⟩
  ·exact c.kn0
  ·exact hkj.1
 have hkb:Kn t (Knows t b) (hp b):=by
  rcases hab with ⟨_,rfl⟩ | ⟨_,rfl⟩
  ·exact hkj.1
  ·exact c.kn0
 obtain ⟨u,hu⟩:∃ u,u=meet a b fa pa fb pb (cx.ch c0) kc:=⟨_,rfl⟩
 have hum:∀ op∈u,op.act.touch?=none:=by rw [hu];exact meet_mute
 have hur:∀ op∈u,∀ x,op.act≠.mark (.release x):=by rw [hu];exact meet_norel
 have hug:∀ op∈u,op.g=a∨op.g=b:=by rw [hu];exact meet_g
 have hup:∀ op∈u,Plain op:=by rw [hu];exact meet_plain
 have hknow:∀ i,Knows t a i→Knows (t++u) b i:=fun i h=>by rw [hu];exact meet_knows hda hdb h
 rw [← hu]
 clear hu
 have hng:∀ i,i≠0→i≠nb+j+1→∀ op∈u,op.g≠i:=fun i h1 h2 op ho e=>by rcases hug op ho with h | h <;> rcases hab with h' | h' <;> omega
 have hfit:=give_fits hne c.mem.fits c.mem.sep sp
 have hobj:∀ (k:Nat) (cx':St X) (d:Nat),X.seats[k]?=some cx'→d<3→∀ i,(give hp a b ha r i).obj (cx'.ch d)=none:=fun k cx' d hk hd=>give_obj hne sp fun i=>hG.noch i k cx' d hk hd
 have hkna:Kn (t++u) (Knows (t++u) a) (give hp a b ha r a):=by rw [give_a hne];exact kn_mute (sp.frz1.kn hka) (fun i h=>h.app u) hum
 have hknb:Kn (t++u) (Knows (t++u) b) (give hp a b ha r b):=by rw [give_b];exact kn_join (kn_mute hkb (fun i h=>h.app u) hum) (kn_mute (sp.frz2.kn hka) hknow hum)
 have hgn:∀ i,i≠0→i≠nb+j+1→give hp a b ha r i=hp i:=fun i h1 h2=>by rcases hab with h | h <;> exact give_ne (by omega) (by omega)
 have haft:Aft W0 w' (give hp a b ha r) M'.x:=by
  have hg:=c.aft.game
  rw [hX] at hg
  have h1:=c.aft.at_block (c:=cx.ch c0) (w':=w') (hg.2 j cx c0 hj) (side_chan hc rfl hos.1 hos.2.1 hos.2.2 hw) (fun b hb=>by rw [hw,Array.getElem?_setIfInBounds_ne fun e=>hb e.symm]) (by rw [hw];simp) c.aft.game
  refine h1.parts' (fun i b' o v e=>?_) (fun i b' v e=>?_) ?_
  ·by_cases i1:i=a
   ·subst i1;rw [give_a hne] at e;exact ⟨i,sp.o1 _ _ _ e⟩
   ·by_cases i2:i=b
    ·subst i2;rw [give_b] at e
     rcases or_some e with e | ⟨_,e⟩
     ·exact ⟨i,e⟩
     ·exact ⟨a,sp.o2 _ _ _ e⟩
    ·rw [give_ne i1 i2] at e;exact ⟨i,e⟩
  ·by_cases i1:i=a
   ·subst i1;rw [give_a hne] at e;exact ⟨i,sp.b1 _ _ e⟩
   ·by_cases i2:i=b
    ·subst i2;rw [give_b] at e
     rcases or_some e with e | ⟨_,e⟩
     ·exact ⟨i,e⟩
     ·exact ⟨a,sp.b2 _ _ e⟩
    ·rw [give_ne i1 i2] at e;exact ⟨i,e⟩
  ·rw [hx]
   refine ⟨hg.1,fun k c' d hk=>?_⟩
   obtain ⟨c1,h1,e1⟩:=seats_old hj hk
   rw [e1];exact hg.2 k c1 d h1
 refine ⟨by rw [hsz,List.length_set];exact c.size,?_,fun i sx hi=>?_,?_,haft,hM.symm,fun i hi=>?_,fun i op hi=>?_,?_,?_,by rw [hx];exact ⟨fun _=>hno.2,fun d hd=>by rw [hno.1] at hd;cases hd⟩⟩
 ·obtain ⟨g,h1,h2⟩:=h0
  exact ⟨g,h1,.inl h2⟩
 ·rw [hx]
  by_cases hij:i=nb+j
  ·subst hij
   simp [hlt] at hi
   subst hi
   obtain ⟨g,h1,h2⟩:=h1
   exact ⟨g,h1,.inl h2⟩
  ·rw [List.getElem?_set_ne fun e=>hij e.symm] at hi
   obtain ⟨g,h1,h2⟩:=c.thr i sx hi
   rw [hX] at h2
   exact ⟨g,by rw [ho (i+1) (by omega) (by omega)];exact h1,slot_rely (Deaf_others (hng _ (by omega) (by omega))) hrl h2⟩
 ·have hnch:∀ i,(give hp a b ha r i).obj (cx.ch c0)=none:=hobj j cx c0 hj hc0
  exact ⟨fun i=>fits_chan (n:=0) (n':=0) (hfit i) (hnch i) hc rfl rfl hw,give_sep hne c.mem.fits c.mem.sep sp,fun said=>race_mute (c.mem.nr said) hum,(low_mute c.mem.low hum).mono (by rw [hw];simp),
   fun op ho x=>(Array.mem_append.1 ho).elim (fun ho=>c.mem.norel op ho x) (fun ho=>hur op ho x)⟩
 ·rw [List.length_set] at hi
  rw [hgn i (by omega) (by omega)];exact c.hpn i hi
 ·rw [List.length_set]
  rcases getElem?_append_cases hi with ⟨_,h⟩ | ⟨_,h⟩
  ·exact c.tg i op h
  ·rcases hug op h with h | h <;> omega
 ·rcases hab with ⟨rfl,_⟩ | ⟨_,rfl⟩
  ·exact hkna
  ·exact hknb
 ·rw [hx]
  have hstg:(sl.set (nb+j) (.act n')).map Slot.stage=sl.map Slot.stage:=by
   apply List.ext_getElem?
   intro k
   rw [List.getElem?_map,List.getElem?_map]
   by_cases hki:nb+j=k
   ·subst hki;rw [List.getElem?_set_self hlt,hs];rfl
   ·rw [List.getElem?_set_ne hki]
  have hknj:Kn (t++u) (Knows (t++u) (nb+j+1)) (give hp a b ha r (nb+j+1)):=by
   rcases hab with ⟨_,rfl⟩ | ⟨rfl,_⟩
   ·exact hknb
   ·exact hkna
  refine ⟨nb,⟨by rw [List.length_set];simpa using hG.len,fun k sx hk hc=>?_,fun k cx' hc=>?_,fun k sx hc=>?_,fun k cx' hc' d hd=>?_,fun k k' d d' x x' hk hk' hx hx' e=>?_,fun i k cx' d hk hd=>?_,fun i o=>?_,by rw [hstg];exact hG.wg.seats (by simp) hwg,fun k x o ho2 hb hl=>?_,?_,fun e=>?_,fun e k cx' hk=>?_,fun _=>.inl (by have:=hno.2;simpa [this] using had),fun h=>absurd hwt h,hG.adl,fun k cx' g hk hg hsx hb=>?_,fun g0 cases shp hg hb ho'=>?_,fun g0 hg hb ho'=>?_,fun k cx' d i x hk hd hx hl=>?_⟩⟩
  ·rw [List.getElem?_set_ne (by omega)] at hc
   rw [hgn _ (by omega) (by omega)]
   exact (hG.old k sx hk hc).app (hng _ (by omega) (by omega))
  ·rcases seats_set hj hc with ⟨rfl,rfl⟩ | ⟨hk,hc⟩
   ·exact ⟨_,List.getElem?_set_self hlt,ph',sa,pk⟩
   ·obtain ⟨sx,h1,h2⟩:=hG.seat k cx' hc
    refine ⟨sx,by rw [List.getElem?_set_ne (by omega)];exact h1,?_⟩
    rw [hgn _ (by omega) (by omega)]
    exact seatAt_left hl h2
  ·by_cases hkj:k=j
   ·subst hkj
    simp [hlt] at hc
    subst hc
    exact ⟨hknj,hn,by rw [Deaf_plain hup];exact hdj⟩
   ·rw [List.getElem?_set_ne (by omega)] at hc
    rw [hgn _ (by omega) (by omega)]
    exact (hG.know k sx hc).app (hng _ (by omega) (by omega)) fun kk hK=>kn_mute kk hK hum
  ·obtain ⟨cq,hcq,hch⟩:=seats_old hj hc'
   rw [hch d]
   by_cases e:cq.ch d=cx.ch c0
   ·obtain ⟨rfl,rfl⟩:=hG.dist k j cq cx d c0 hcq hj hd hc0 e
    rcases seats_set hj hc' with ⟨_,rfl⟩ | ⟨h,_⟩
    ·refine ⟨kc+1,?_⟩
     rw [e,hw,Array.getElem?_setIfInBounds_self_of_lt (Array.getElem?_eq_some_iff.1 hc).1]
     show _=some (Obj.chan 0 #[] (decide (d=2)&&st'.isShut) _ _ _)
     rw [hsh,Bool.and_false]
    ·exact absurd rfl h
   ·obtain ⟨m,hm⟩:=hG.chan k cq hcq d hd
    refine ⟨m,?_⟩
    rw [hw,Array.getElem?_setIfInBounds_ne fun h=>e h.symm]
    rcases seats_set hj hc' with ⟨rfl,rfl⟩ | ⟨_,h⟩
    ·rw [hj] at hcq;cases hcq
     show _=some (Obj.chan 0 #[] (decide (d=2)&&st'.isShut) _ _ _)
     rw [hm,hsh,hs0]
    ·rw [hcq] at h;cases h;exact hm
  ·obtain ⟨c1,h1,e1⟩:=seats_old hj hk
   obtain ⟨c2,h2,e2⟩:=seats_old hj hk'
   rw [e1,e2] at e
   exact hG.dist k k' c1 c2 x x' h1 h2 hx hx' e
  ·obtain ⟨c1,h1,e1⟩:=seats_old hj hk
   rw [e1];exact hobj k c1 d h1 hd i
  ·exact give_own hne sp (fun i=>hG.nowg i o) i
  ·rcases touch_split hb with hb | ⟨op,ho,hi,h2⟩
   ·rcases hG.wgt k x o ho2 hb hl with this | ⟨k0,k1⟩
    ·refine .inl ⟨this.1,fun hsd=>?_⟩
     have h1:=this.2 hsd
     rw [g?_app (g?_lt h1)];exact h1
    ·exact .inr ⟨k0.app u,fun j' hj'=>(k1 j' (by simpa using hj')).app u⟩
   ·rw [hum op ho] at h2;cases h2
  ·rw [Deaf_plain hup,hdf];exact hd0
  ·refine ⟨j,_,List.getElem?_set_self (List.getElem?_eq_some_iff.1 hj).1,t0 e,fun j' c' h' hne'=>?_⟩
   rcases seats_set hj h' with ⟨h,_⟩ | ⟨_,h⟩
   ·exact absurd h hne'
   ·exact to j' c' h hne'
  ·rcases seats_set hj hk with ⟨rfl,rfl⟩ | ⟨h,hk⟩
   ·exact t1 e
   ·exact to k cx' hk h
  ·rcases seats_set hj hk with ⟨rfl,rfl⟩ | ⟨h,hk⟩
   ·replace hsx:st'.isShut=true:=hsx
    rw [hsh] at hsx;cases hsx
   ·rw [ho _ (by omega) (by omega)] at hg
    exact hG.live k cx' g hk hg hsx hb
  ·obtain ⟨g,h1,h2⟩:=h0
   rw [h1] at hg;cases hg
   rw [h2.status] at hb;cases hb
  ·obtain ⟨g,h1,h2⟩:=h0
   rw [h1] at hg;cases hg
   rw [h2.status] at hb;cases hb
  ·obtain ⟨c1,h1,e1⟩:=seats_old hj hk
   rw [e1] at hl
   rcases touch_split hx with hx | ⟨op,ho,hi,h2⟩
   ·exact (hG.cht k c1 d i x h1 hd hx hl).app u
   ·rw [hum op ho] at h2;cases h2
end Go.PB
namespace Go.PB
open Go.Conc Go.Conc.Lib
open Go.ConcR (KK stA smA rd wr mk DC0)
variable {W0:World} {P:Program} {cv:Value} {L:WgLink} {Em:Frame→List Frame→Hp→MX→Prop}
def isRunning (g:Goroutine):Nat:=match g.status with
 | .running=>1
 | _=>0
def nrun (gs:Array Goroutine):Nat:=(gs.toList.map isRunning).sum
theorem sum_set {l:List Nat}:∀ {i a b:Nat},l[i]?=some a→b<a→(l.set i b).sum<l.sum:=by
 induction l with
 | nil=>intro i a b h;simp at h
 | cons x l ih =>
  intro i a b h hb
  cases i with
  | zero=>simp at h;subst h;simp;exact hb
  | succ i =>
   have:=ih (i:=i) (by simpa using h) hb
   simp;exact this
theorem nrun_set {gs:Array Goroutine} {i:Nat} {g g':Goroutine} (h:gs[i]?=some g) (hr:g.status=.running) (hb:g'.status=.blocked):nrun (gs.setIfInBounds i g')<nrun gs:=by
 have e:(gs.setIfInBounds i g').toList.map isRunning=(gs.toList.map isRunning).set i (isRunning g'):=by simp [Array.toList_setIfInBounds,List.map_set]
 unfold nrun
 rw [e]
 refine sum_set (a:=isRunning g) (by simp [h]) ?_
 unfold isRunning
 rw [hr,hb];decide
theorem res_says {a b:Nat} {v z1 z2:Value}:commResult #[scase a v z1,rcase b z2] .select ((0:Nat):Int) undef false=.tuple #[goInt 0,.bool false,z2]:=by
 simp [commResult,scase,rcase]
theorem res_turn {a b:Nat} {v z1 z2:Value}:commResult #[rcase a z1,rcase b z2] .select ((0:Nat):Int) v true=.tuple #[goInt 0,.bool true,v,z2]:=by
 simp [commResult,scase,rcase]
theorem res_cut {a b:Nat} {z1 z2:Value}:commResult #[rcase a z1,rcase b z2] .select ((1:Nat):Int) z2 false=.tuple #[goInt 1,.bool false,z1,z2]:=by
 simp [commResult,scase,rcase]
section
variable {gs:Array Goroutine} {w:World} {t:Trace} {M:MN P cv L Em} {sl:List (Slot P cv L)} {hp:Nat→Hp} {X:GX} {nb j:Nat}
theorem Cfg.stall0 (c:Cfg W0 gs w t M sl hp) (hX:M.x=.game X) (hG:GameAt X gs w t sl hp nb) {gp:Goroutine} {cases:Array CommCase} {sh:CommShape} (hm:MainG gp M) (ho:gp.offers=some (cases,sh)) {cx:St X} (hj:X.seats[j]?=some cx) (hwt:X.wt=.play)
  (hc:(∃ z,cases=#[rcase cx.says z])∨(∃ v z,cases=#[scase cx.turn v z])) (hn:∀ (g:Goroutine),gs[nb+j+1]?=some g→g.status≠.blocked):Cfg W0 (gs.setIfInBounds 0 gp) w t M sl hp:=by
 have hlt:0<gs.size:=by have:=c.size;omega
 have hoth:∀ i,i≠0→(gs.setIfInBounds 0 gp)[i]?=gs[i]?:=fun i hi=>Array.getElem?_setIfInBounds_ne fun e=>hi e.symm
 have hself:(gs.setIfInBounds 0 gp)[0]?=some gp:=Array.getElem?_setIfInBounds_self_of_lt hlt
 refine ⟨by rw [Array.size_setIfInBounds];exact c.size,⟨gp,hself,hm⟩,fun i sx hi=>by rw [hoth _ (by omega)];exact c.thr i sx hi,c.mem,c.aft,c.hp0,c.hpn,c.tg,c.kn0,?_,c.pool⟩
 rw [hX]
 refine ⟨nb,⟨hG.len,hG.old,hG.seat,hG.know,hG.chan,hG.dist,hG.noch,hG.nowg,hG.wg,hG.wgt,hG.deaf,hG.tok0,hG.tok1,hG.adp,hG.ads,hG.adl,fun k cx g hk hg=>by rw [hoth _ (by omega)] at hg;exact hG.live k cx g hk hg,fun g0 cases' shp hg hb ho'=>?_,fun g0 hg hb ho'=>?_,hG.cht⟩⟩
 ·rw [hself] at hg;cases hg
  rw [ho] at ho';cases ho'
  exact ⟨j,cx,hj,hwt,hc,fun g hg=>by rw [hoth _ (by omega)] at hg;exact hn g hg⟩
 ·rw [hself] at hg;cases hg
  rw [ho] at ho';cases ho'
theorem Cfg.stall1 (c:Cfg W0 gs w t M sl hp) (hX:M.x=.game X) (hG:GameAt X gs w t sl hp nb) {gp:Goroutine} {s:Slot P cv L} (hs:sl[nb+j]?=some s) (hsg:SlotG w X.wg (Deaf t (nb+j+1)) gp s) {cx:St X} (hj:X.seats[j]?=some cx) (hsh:cx.st.isShut=false)
  (hn:∀ (g0:Goroutine) (cases:Array CommCase) (sh:CommShape),gs[0]?=some g0→g0.status=.blocked→g0.offers=some (cases,sh)→(∀ z,cases≠#[rcase cx.says z])∧∀ v z,cases≠#[scase cx.turn v z]):Cfg W0 (gs.setIfInBounds (nb+j+1) gp) w t M sl hp:=by
 have hlt:nb+j<sl.length:=(List.getElem?_eq_some_iff.1 hs).1
 have hlt':nb+j+1<gs.size:=by have:=c.size;omega
 have hoth:∀ i,i≠nb+j+1→(gs.setIfInBounds (nb+j+1) gp)[i]?=gs[i]?:=fun i hi=>Array.getElem?_setIfInBounds_ne fun e=>hi e.symm
 have hself:(gs.setIfInBounds (nb+j+1) gp)[nb+j+1]?=some gp:=Array.getElem?_setIfInBounds_self_of_lt hlt'
 refine ⟨by rw [Array.size_setIfInBounds];exact c.size,by rw [hoth 0 (by omega)];exact c.main,fun i sx hi=>?_,c.mem,c.aft,c.hp0,c.hpn,c.tg,c.kn0,?_,c.pool⟩
 ·by_cases e:i=nb+j
  ·subst e
   rw [hs] at hi;cases hi
   rw [hX]
   exact ⟨gp,hself,hsg⟩
  ·rw [hoth _ (by omega)];exact c.thr i sx hi
 rw [hX]
 refine ⟨nb,⟨hG.len,hG.old,hG.seat,hG.know,hG.chan,hG.dist,hG.noch,hG.nowg,hG.wg,hG.wgt,hG.deaf,hG.tok0,hG.tok1,hG.adp,hG.ads,hG.adl,fun k cx' g hk hg hsx=>?_,fun g0 cases' shp hg hb ho'=>?_,fun g0 hg hb ho'=>?_,hG.cht⟩⟩
 ·by_cases e:k=j
  ·subst e
   rw [hj] at hk;cases hk
   rw [hsh] at hsx;cases hsx
  ·rw [hoth _ (by omega)] at hg;exact hG.live k cx' g hk hg hsx
 ·rw [hoth 0 (by omega)] at hg
  obtain ⟨k,cx',h1,h2,h3,h4⟩:=hG.park g0 cases' shp hg hb ho'
  refine ⟨k,cx',h1,h2,h3,fun g hg2=>?_⟩
  by_cases e:k=j
  ·subst e
   rw [hj] at h1;cases h1
   have:=hn g0 cases' shp hg hb ho'
   rcases h3 with ⟨z,h3⟩ | ⟨v,z,h3⟩
   ·exact absurd h3 (this.1 z)
   ·exact absurd h3 (this.2 v z)
  ·rw [hoth _ (by omega)] at hg2;exact h4 g hg2
 ·rw [hoth 0 (by omega)] at hg
  exact hG.sleep g0 hg hb ho'
end
end Go.PB
