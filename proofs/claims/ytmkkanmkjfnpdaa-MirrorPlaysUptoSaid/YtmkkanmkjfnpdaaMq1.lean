/-
  Part 1 of 9.
-/
import GoSem.Step
set_option linter.unusedVariables false
set_option linter.unusedSimpArgs false
namespace Go.PB
section
structure Hp where
 own:Nat→Nat→Option Value
 ro  : Nat→Nat→Option Value
 obj:Nat→Option Obj
 shp:Nat→Option (TypeId × Nat)
def isCells:Obj→Bool
 | .cells ..=>true
 | _=>false
def Hp.can (h:Hp) (a:Addr) (v:Value):Prop:=a.spot=none∧(h.own a.block a.off=some v∨h.ro a.block a.off=some v)
def Hp.set (h:Hp) (b o:Nat) (v:Value):Hp:={ h with own:=fun b' o'=>if b'=b∧o'=o then some v else h.own b' o' }
def Hp.newCells (h:Hp) (b:Nat) (c:Array Value) (t:TypeId):Hp:={ h with own:=fun b' o'=>if b'=b then c[o']? else h.own b' o',shp:=fun b'=>if b'=b then some (t,c.size) else h.shp b' }
def Hp.setObj (h:Hp) (b:Nat) (ob:Obj):Hp:={ h with obj:=fun b'=>if b'=b then some ob else h.obj b' }
def Hp.fresh (h:Hp) (b:Nat):Prop:=(∀ o,h.own b o=none)∧(∀ o,h.ro b o=none)∧h.obj b=none∧h.shp b=none
structure Fits (h:Hp) (w:World):Prop where
 own:∀ b o v,h.own b o=some v→w.cell? ⟨b,o,none⟩=some v
 thaw:∀ b o v,h.own b o=some v→w.frozen? ⟨b,o,none⟩=false
 ro:∀ b o v,h.ro b o=some v→w.cell? ⟨b,o,none⟩=some v
 disj:∀ b o v,h.own b o=some v→h.ro b o=none
 obj:∀ b ob,h.obj b=some ob→w.heap[b]?=some ob
 objn:∀ b ob,h.obj b=some ob→isCells ob=false
 shp:∀ b y,h.shp b=some y→w.shape? b=some y
theorem cell_lt {w:World} {b o:Nat} {v:Value} (h:w.cell? ⟨b,o,none⟩=some v):b<w.heap.size:=by
 unfold World.cell? at h
 cases hb:w.heap[b]? with
 | none=>simp [hb] at h
 | some ob=>exact (Array.getElem?_eq_some_iff.1 hb).1
theorem shape_lt {w:World} {b:Nat} {y:TypeId × Nat} (h:w.shape? b=some y):b<w.heap.size:=by
 unfold World.shape? at h
 cases hb:w.heap[b]? with
 | none=>simp [hb] at h
 | some ob=>exact (Array.getElem?_eq_some_iff.1 hb).1
theorem shape_setCell (w:World) (a:Addr) (v:Value) (b:Nat):(w.setCell a v).shape? b=w.shape? b:=by
 unfold World.shape? World.setCell
 simp only [Array.getElem?_modify]
 by_cases hb:a.block=b
 ·subst hb
  simp only [if_true]
  cases e:w.heap[a.block]? with
  | none=>simp
  | some ob=>cases ob <;> simp;split <;> simp
 ·simp [hb]
theorem shape_push {w:World} {ob:Obj} {b:Nat} (hb:b<w.heap.size):({ w with heap:=w.heap.push ob }:World).shape? b=w.shape? b:=by
 unfold World.shape?
 simp only [Array.getElem?_push]
 rw [if_neg (by omega)]
theorem Fits.fresh {h:Hp} {w:World} (f:Fits h w) {b:Nat} (hb:w.heap.size≤b):h.fresh b:=by
 refine ⟨fun o=>?_,fun o=>?_,?_,?_⟩
 ·cases e:h.own b o with
  | none=>rfl
  | some v=>have:=cell_lt (f.own _ _ _ e);omega
 ·cases e:h.ro b o with
  | none=>rfl
  | some v=>have:=cell_lt (f.ro _ _ _ e);omega
 ·cases e:h.obj b with
  | none=>rfl
  | some ob=>have:=(Array.getElem?_eq_some_iff.1 (f.obj _ _ e)).1;omega
 ·cases e:h.shp b with
  | none=>rfl
  | some y=>have:=shape_lt (f.shp _ _ e);omega
theorem Fits.can {h:Hp} {w:World} (f:Fits h w) {a:Addr} {v:Value} (e:h.can a v):w.cell? a=some v:=by
 obtain ⟨b,o,s⟩:=a
 obtain ⟨hs,e⟩:=e
 simp only at hs e
 subst hs
 exact e.elim (f.own _ _ _) (f.ro _ _ _)
def EvOk (M:Mark→Prop) (h:Hp) (w:World) (n:Nat) (e:Event):Prop :=
 match e.loc with
 | .cell a=>a.spot=none∧a.block<n∧(w.heap.size≤a.block∨(h.own a.block a.off).isSome=true∨(e.write=false∧(h.ro a.block a.off).isSome=true))
 | .obj r=>r<n∧(w.heap.size≤r∨(h.obj r).isSome=true)
 | .mark m=>M m
 | _=>False
structure Guar (h:Hp) (w w':World) (h':Hp):Prop where
 fits:Fits h' w'
 size:w.heap.size≤w'.heap.size
 cell:∀ b o,b<w.heap.size→h.own b o=none→w'.cell? ⟨b,o,none⟩=w.cell? ⟨b,o,none⟩
 block:∀ b,b<w.heap.size→(∀ o,h.own b o=none)→h.obj b=none→w'.heap[b]?=w.heap[b]?
 frz:∀ a,w'.frozen? a=w.frozen? a
 newo:∀ b o,b<w.heap.size→h.own b o=none→h'.own b o=none
 newr:∀ b o,b<w.heap.size→h.own b o=none→h.ro b o=none→h'.ro b o=none
 newb:∀ b,b<w.heap.size→h.obj b=none→h'.obj b=none
 tape:w'.tape=w.tape
 os:w'.os=w.os
 output:w'.output=w.output
 drawn:w.drawn≤w'.drawn
 shape:∀ b,b<w.heap.size→w'.shape? b=w.shape? b
 news:∀ b,b<w.heap.size→h.shp b=none→h'.shp b=none
theorem Guar.refl {h:Hp} {w:World} (f:Fits h w):Guar h w w h :=
 ⟨f,Nat.le_refl _,fun _ _ _ _=>rfl,fun _ _ _ _=>rfl,fun _=>rfl,fun _ _ _ e=>e,fun _ _ _ _ e=>e,fun _ _ e=>e,rfl,rfl,rfl,Nat.le_refl _,fun _ _=>rfl,fun _ _ e=>e⟩
theorem Guar.trans {h h1 h2:Hp} {w w1 w2:World} (a:Guar h w w1 h1) (b:Guar h1 w1 w2 h2):Guar h w w2 h2 where
 fits:=b.fits
 size:=Nat.le_trans a.size b.size
 cell:=fun x o hx hn=>(b.cell x o (Nat.lt_of_lt_of_le hx a.size) (a.newo x o hx hn)).trans (a.cell x o hx hn)
 block:=fun x hx hn ho=>(b.block x (Nat.lt_of_lt_of_le hx a.size) (fun o=>a.newo x o hx (hn o)) (a.newb x hx ho)).trans (a.block x hx hn ho)
 frz:=fun x=>(b.frz x).trans (a.frz x)
 newo:=fun x o hx hn=>b.newo x o (Nat.lt_of_lt_of_le hx a.size) (a.newo x o hx hn)
 newr:=fun x o hx hn hr=>b.newr x o (Nat.lt_of_lt_of_le hx a.size) (a.newo x o hx hn) (a.newr x o hx hn hr)
 newb:=fun x hx hn=>b.newb x (Nat.lt_of_lt_of_le hx a.size) (a.newb x hx hn)
 tape:=b.tape.trans a.tape
 os:=b.os.trans a.os
 output:=b.output.trans a.output
 drawn:=Nat.le_trans a.drawn b.drawn
 shape:=fun x hx=>(b.shape x (Nat.lt_of_lt_of_le hx a.size)).trans (a.shape x hx)
 news:=fun x hx hn=>b.news x (Nat.lt_of_lt_of_le hx a.size) (a.news x hx hn)
theorem EvOk.back {M:Mark→Prop} {h h1:Hp} {w w1:World} {n:Nat} (g:Guar h w w1 h1) (e:Event) (x:EvOk M h1 w1 n e):EvOk M h w n e:=by
 unfold EvOk at x ⊢
 split at x
 ·rename_i a ha
  obtain ⟨hs,hn,hx⟩:=x
  refine ⟨hs,hn,?_⟩
  by_cases hlt:a.block<w.heap.size
  ·rcases hx with h1' | h2 | ⟨h3,h4⟩
   ·have:=g.size;omega
   ·right;left
    cases e1:h.own a.block a.off with
    | some v=>rfl
    | none=>rw [g.newo _ _ hlt e1] at h2;cases h2
   ·cases e1:h.own a.block a.off with
    | some v=>right;left;rfl
    | none =>
     right;right
     refine ⟨h3,?_⟩
     cases e2:h.ro a.block a.off with
     | some v=>rfl
     | none=>rw [g.newr _ _ hlt e1 e2] at h4;cases h4
  ·left;omega
 ·rename_i r hr
  obtain ⟨hn,x⟩:=x
  refine ⟨hn,?_⟩
  by_cases hlt:r<w.heap.size
  ·rcases x with h1' | h2
   ·have:=g.size;omega
   ·right
    cases e1:h.obj r with
    | some v=>rfl
    | none=>rw [g.newb _ hlt e1] at h2;cases h2
  ·left;omega
 ·exact x
 ·exact x
theorem EvOk.mono {M:Mark→Prop} {h:Hp} {w:World} {n n':Nat} (hn:n≤n') (e:Event) (x:EvOk M h w n e):EvOk M h w n' e:=by
 unfold EvOk at x ⊢
 split at x
 ·exact ⟨x.1,Nat.lt_of_lt_of_le x.2.1 hn,x.2.2⟩
 ·exact ⟨Nat.lt_of_lt_of_le x.1 hn,x.2⟩
 ·exact x
 ·exact x
def wpS (P:Program) (M:Mark→Prop) {α:Type}:Sem α→Hp→(α→Hp→Prop)→(Value→Hp→Prop)→Prop
 | .pure a,h,Q,_=>Q a h
 | .load _ a k,h,Q,X=>∃ v,h.can a v∧wpS P M (k v) h Q X
 | .store _ _ (.agg _) _,_,_,_=>False
 | .store _ _ (.tuple _) _,_,_,_=>False
 | .store _ a v k,h,Q,X=>a.spot=none∧(h.own a.block a.off).isSome=true∧wpS P M k (h.set a.block a.off v) Q X
 | .new (.cells c t (0,0)) k,h,Q,X=>∀ b,h.fresh b→wpS P M (k b) (h.newCells b c t) Q X
 | .new (.cells _ _ _) _,_,_,_=>False
 | .new o k,h,Q,X=>∀ b,h.fresh b→wpS P M (k b) (h.setObj b o) Q X
 | .shape r k,h,Q,X=>((∃ o,(h.own r o).isSome=true∨(h.ro r o).isSome=true)∨(h.shp r).isSome=true)∧∀ t n,(∀ o,(h.own r o).isSome=true∨(h.ro r o).isSome=true→o<n)→(∀ y,h.shp r=some y→y=(t,n))→wpS P M (k (some (t,n))) h Q X
 | .freeze _ _ _,_,_,_=>False
 | .frozen a k,h,Q,X=>∀ b:Bool,((h.own a.block a.off).isSome=true→b=false)→wpS P M (k b) h Q X
 | .getObj r k,h,Q,X=>∃ o,h.obj r=some o∧wpS P M (k o) h Q X
 | .setObj r o k,h,Q,X=>(h.obj r).isSome=true∧isCells o=false∧wpS P M k (h.setObj r o) Q X
 | .choose q k,h,Q,X=>if q.forced then wpS P M (k 0) h Q X else ∀ t,wpS P M (k (q.cut t)) h Q X
 | .sys _ _,_,_,_=>False
 | .program k,h,Q,X=>wpS P M (k P) h Q X
 | .mark m k,h,Q,X=>M m∧wpS P M k h Q X
 | .halt (.panic v),h,_,X=>X v h
 | .halt _,_,_,_=>False
theorem own_some {h:Hp} {b o:Nat} (e:(h.own b o).isSome=true):∃ v,h.own b o=some v:=Option.isSome_iff_exists.1 e
theorem cell_setCell {w:World} {b o b' o':Nat} {v x:Value} (hx:w.cell? ⟨b,o,none⟩=some x) :
  (w.setCell ⟨b,o,none⟩ v).cell? ⟨b',o',none⟩=if b'=b∧o'=o then some v else w.cell? ⟨b',o',none⟩:=by
 unfold World.cell? at hx ⊢
 unfold World.setCell
 simp only [Array.getElem?_modify]
 by_cases hb:b=b'
 ·subst hb
  cases e:w.heap[b]? with
  | none=>simp [e] at hx
  | some ob =>
   simp only [e] at hx
   cases ob with
   | cells c t f =>
    simp only [Option.isSome_none,Bool.false_eq_true,if_false] at hx
    have hlt:o<c.size:=(Array.getElem?_eq_some_iff.1 hx).1
    simp only [if_true,Option.map_some,Option.isSome_none,Bool.false_eq_true,if_false,true_and]
    rw [Array.getElem?_setIfInBounds]
    by_cases ho:o=o'
    ·subst ho;simp [hlt]
    ·simp [ho,show ¬ o'=o from fun h=>ho h.symm]
   | _=>simp at hx
 ·simp [hb,show ¬ b'=b from fun h=>hb h.symm]
theorem frozen_setCell (w:World) (a a':Addr) (v:Value):(w.setCell a v).frozen? a'=w.frozen? a':=by
 unfold World.frozen? World.setCell
 simp only [Array.getElem?_modify]
 by_cases hb:a.block=a'.block
 ·simp only [hb,if_true]
  cases e:w.heap[a'.block]? with
  | none=>simp
  | some ob=>cases ob <;> simp
 ·simp [hb]
theorem heap_setCell_other (w:World) (a:Addr) (v:Value) {b:Nat} (h:a.block≠b):(w.setCell a v).heap[b]?=w.heap[b]?:=by
 unfold World.setCell
 simp only [Array.getElem?_modify]
 simp [h]
theorem Guar.store {h:Hp} {w:World} (f:Fits h w) {a:Addr} (hs:a.spot=none) (ho:(h.own a.block a.off).isSome=true) (v:Value) :
  Guar h w (w.setCell a v) (h.set a.block a.off v):=by
 obtain ⟨b,o,s⟩:=a
 simp only at hs ho ⊢
 subst hs
 obtain ⟨x,hx⟩:=own_some ho
 have hc:=f.own _ _ _ hx
 have hsz:(w.setCell ⟨b,o,none⟩ v).heap.size=w.heap.size:=by unfold World.setCell;simp
 refine ⟨⟨?_,?_,?_,?_,?_,?_,fun b y e=>(shape_setCell ..).trans (f.shp b y e)⟩,by omega,?_,?_,fun _=>frozen_setCell ..,?_,fun _ _ _ _ e=>e,fun _ _ e=>e,rfl,rfl,rfl,Nat.le_refl _,fun _ _=>shape_setCell ..,fun _ _ e=>e⟩
 ·intro b' o' v' e
  simp only [Hp.set] at e
  rw [cell_setCell hc]
  split at e
  ·rename_i hh;simp [hh];simpa using e
  ·rename_i hh;simp [hh];exact f.own _ _ _ e
 ·intro b' o' v' e
  rw [frozen_setCell]
  simp only [Hp.set] at e
  split at e
  ·rename_i hh;obtain ⟨rfl,rfl⟩:=hh;exact f.thaw _ _ _ hx
  ·exact f.thaw _ _ _ e
 ·intro b' o' v' e
  rw [cell_setCell hc]
  have:¬ (b'=b∧o'=o):=by
   rintro ⟨rfl,rfl⟩
   have:=f.disj _ _ _ hx
   simp only [Hp.set] at e
   rw [this] at e;cases e
  simp only [this,if_false]
  exact f.ro _ _ _ e
 ·intro b' o' v' e
  simp only [Hp.set] at e ⊢
  split at e
  ·rename_i hh;obtain ⟨rfl,rfl⟩:=hh;exact f.disj _ _ _ hx
  ·exact f.disj _ _ _ e
 ·intro b' ob e
  have hob:=f.obj _ _ e
  have hn:=f.objn _ _ e
  have:b≠b':=by
   rintro rfl
   unfold World.cell? at hc
   simp only [hob] at hc
   cases ob <;> simp [isCells] at hc hn
  rw [heap_setCell_other _ _ _ this]
  exact hob
 ·exact f.objn
 ·intro b' o' _ hn
  rw [cell_setCell hc]
  have:¬ (b'=b∧o'=o):=by rintro ⟨rfl,rfl⟩;rw [hx] at hn;cases hn
  simp [this]
 ·intro b' _ hn _
  exact heap_setCell_other _ _ _ (by intro e;have:=hn o;simp only at e;rw [← e,hx] at this;cases this)
 ·intro b' o' _ hn
  simp only [Hp.set]
  have:¬ (b'=b∧o'=o):=by rintro ⟨rfl,rfl⟩;rw [hx] at hn;cases hn
  simp [this,hn]
theorem cell_push_old {w:World} {ob:Obj} {b o:Nat} (hb:b<w.heap.size):({ w with heap:=w.heap.push ob }:World).cell? ⟨b,o,none⟩=w.cell? ⟨b,o,none⟩:=by
 unfold World.cell?
 simp only [Array.getElem?_push]
 have:b≠w.heap.size:=by omega
 simp [this]
theorem frozen_push {w:World} {ob:Obj} (hob:∀ c t f,ob=.cells c t f→f=(0,0)) (a:Addr):({ w with heap:=w.heap.push ob }:World).frozen? a=w.frozen? a:=by
 unfold World.frozen?
 simp only [Array.getElem?_push]
 by_cases hb:a.block=w.heap.size
 ·have:w.heap[a.block]?=none:=by rw [hb];simp
  rw [this]
  simp only [hb,if_true]
  cases ob with
  | cells c t f=>have:=hob c t f rfl;subst this;simp
  | _=>rfl
 ·simp [hb]
theorem Guar.newCells {h:Hp} {w:World} (f:Fits h w) (c:Array Value) (t:TypeId) :
  Guar h w { w with heap:=w.heap.push (.cells c t) } (h.newCells w.heap.size c t):=by
 have hf:=f.fresh (Nat.le_refl w.heap.size)
 have hfr:∀ a,({ w with heap:=w.heap.push (.cells c t) }:World).frozen? a=w.frozen? a:=frozen_push (fun _ _ _ e=>by injection e with _ _ e3;exact e3.symm)
 have hnew:∀ o,({ w with heap:=w.heap.push (.cells c t) }:World).cell? ⟨w.heap.size,o,none⟩=c[o]?:=by
  intro o;unfold World.cell?;simp
 refine ⟨⟨?_,?_,?_,?_,?_,?_,?_⟩,by simp,?_,?_,hfr,?_,fun _ _ _ _ e=>e,fun _ _ e=>e,rfl,rfl,rfl,Nat.le_refl _,fun _ hb=>shape_push hb,fun b hb e=>by simp only [Hp.newCells];rw [if_neg (by omega)];exact e⟩
 ·intro b o v e
  simp only [Hp.newCells] at e
  split at e
  ·rename_i hh;subst hh;rw [hnew];exact e
  ·rename_i hh;have:=f.own _ _ _ e;rw [cell_push_old (cell_lt this)];exact this
 ·intro b o v e
  rw [hfr]
  simp only [Hp.newCells] at e
  split at e
  ·rename_i hh;subst hh;unfold World.frozen?;simp
  ·exact f.thaw _ _ _ e
 ·intro b o v e
  have:=f.ro _ _ _ e
  rw [cell_push_old (cell_lt this)];exact this
 ·intro b o v e
  simp only [Hp.newCells] at e ⊢
  split at e
  ·rename_i hh;subst hh;exact hf.2.1 o
  ·exact f.disj _ _ _ e
 ·intro b ob e
  have:=f.obj _ _ e
  have hlt:=(Array.getElem?_eq_some_iff.1 this).1
  simp only [Array.getElem?_push]
  rw [if_neg (by omega)]
  exact this
 ·exact f.objn
 ·intro b y e
  simp only [Hp.newCells] at e
  split at e
  ·rename_i hh;subst hh;cases e;unfold World.shape?;simp
  ·have:=f.shp _ _ e;rw [shape_push (shape_lt this)];exact this
 ·intro b o hb _
  exact cell_push_old hb
 ·intro b hb _ _
  simp only [Array.getElem?_push]
  rw [if_neg (by omega)]
 ·intro b o hb hn
  simp only [Hp.newCells]
  rw [if_neg (by omega)]
  exact hn
theorem Guar.newObj {h:Hp} {w:World} (f:Fits h w) (ob:Obj) (hob:isCells ob=false) :
  Guar h w { w with heap:=w.heap.push ob } (h.setObj w.heap.size ob):=by
 have hf:=f.fresh (Nat.le_refl w.heap.size)
 have hfr:∀ a,({ w with heap:=w.heap.push ob }:World).frozen? a=w.frozen? a:=frozen_push (fun _ _ _ e=>by subst e;cases hob)
 refine ⟨⟨?_,?_,?_,?_,?_,?_,fun b y e=>(shape_push (shape_lt (f.shp b y e))).trans (f.shp b y e)⟩,by simp,?_,?_,hfr,fun _ _ _ e=>e,fun _ _ _ _ e=>e,?_,rfl,rfl,rfl,Nat.le_refl _,fun _ hb=>shape_push hb,fun _ _ e=>e⟩
 ·intro b o v e
  have:=f.own _ _ _ e;rw [cell_push_old (cell_lt this)];exact this
 ·intro b o v e
  rw [hfr];exact f.thaw _ _ _ e
 ·intro b o v e
  have:=f.ro _ _ _ e
  rw [cell_push_old (cell_lt this)];exact this
 ·exact f.disj
 ·intro b ob' e
  simp only [Hp.setObj] at e
  simp only [Array.getElem?_push]
  split at e
  ·rename_i hh;subst hh;simpa using e
  ·have:=f.obj _ _ e
   have hlt:=(Array.getElem?_eq_some_iff.1 this).1
   rw [if_neg (by omega)]
   exact this
 ·intro b ob' e
  simp only [Hp.setObj] at e
  split at e
  ·injection e with e;subst e;exact hob
  ·exact f.objn _ _ e
 ·intro b o hb _
  exact cell_push_old hb
 ·intro b hb _ _
  simp only [Array.getElem?_push]
  rw [if_neg (by omega)]
 ·intro b hb hn
  simp only [Hp.setObj]
  rw [if_neg (by omega)]
  exact hn
theorem Guar.setObj {h:Hp} {w:World} (f:Fits h w) {r:Nat} (hr:(h.obj r).isSome=true) (ob:Obj) (hob:isCells ob=false) :
  Guar h w { w with heap:=w.heap.setIfInBounds r ob } (h.setObj r ob):=by
 obtain ⟨o0,ho0⟩:=Option.isSome_iff_exists.1 hr
 have h0:=f.obj _ _ ho0
 have hn0:=f.objn _ _ ho0
 have hlt:=(Array.getElem?_eq_some_iff.1 h0).1
 have hcell:∀ b o,({ w with heap:=w.heap.setIfInBounds r ob }:World).cell? ⟨b,o,none⟩=w.cell? ⟨b,o,none⟩:=by
  intro b o
  unfold World.cell?
  simp only [Array.getElem?_setIfInBounds]
  by_cases hb:r=b
  ·subst hb
   simp only [if_true,hlt,h0]
   cases ob <;> cases o0 <;> simp_all [isCells]
  ·simp [hb]
 have hfr:∀ a,({ w with heap:=w.heap.setIfInBounds r ob }:World).frozen? a=w.frozen? a:=by
  intro a
  unfold World.frozen?
  simp only [Array.getElem?_setIfInBounds]
  by_cases hb:r=a.block
  ·rw [hb] at hlt h0
   simp only [hb,if_true,hlt,h0]
   cases ob <;> cases o0 <;> simp_all [isCells]
  ·simp [hb]
 have hshp:∀ b,({ w with heap:=w.heap.setIfInBounds r ob }:World).shape? b=w.shape? b:=by
  intro b
  unfold World.shape?
  simp only [Array.getElem?_setIfInBounds]
  by_cases hb:r=b
  ·subst hb
   simp only [if_true,hlt,h0]
   cases ob <;> cases o0 <;> simp_all [isCells]
  ·simp [hb]
 refine ⟨⟨?_,?_,?_,?_,?_,?_,fun b y e=>(hshp b).trans (f.shp b y e)⟩,by simp,fun _ _ _ _=>hcell _ _,?_,hfr,fun _ _ _ e=>e,fun _ _ _ _ e=>e,?_,rfl,rfl,rfl,Nat.le_refl _,fun b _=>hshp b,fun _ _ e=>e⟩
 ·intro b o v e;rw [hcell];exact f.own _ _ _ e
 ·intro b o v e;rw [hfr];exact f.thaw _ _ _ e
 ·intro b o v e;rw [hcell];exact f.ro _ _ _ e
 ·exact f.disj
 ·intro b ob' e
  simp only [Hp.setObj] at e
  simp only [Array.getElem?_setIfInBounds]
  split at e
  ·rename_i hh;subst hh;simp only [if_true,hlt];exact e
  ·rename_i hh;rw [if_neg (fun h=>hh h.symm)];exact f.obj _ _ e
 ·intro b ob' e
  simp only [Hp.setObj] at e
  split at e
  ·injection e with e;subst e;exact hob
  ·exact f.objn _ _ e
 ·intro b _ _ hn
  simp only [Array.getElem?_setIfInBounds]
  rw [if_neg (by rintro rfl;rw [ho0] at hn;cases hn)]
 ·intro b _ hn
  simp only [Hp.setObj]
  rw [if_neg (by rintro rfl;rw [ho0] at hn;cases hn)]
  exact hn
theorem Fits.of_heap {h:Hp} {w w':World} (f:Fits h w) (e:w'.heap=w.heap):Fits h w':=by
 have hc:∀ a,w'.cell? a=w.cell? a:=fun a=>by unfold World.cell?;rw [e]
 have hf:∀ a,w'.frozen? a=w.frozen? a:=fun a=>by unfold World.frozen?;rw [e]
 exact ⟨fun b o v x=>by rw [hc];exact f.own b o v x,fun b o v x=>by rw [hf];exact f.thaw b o v x,fun b o v x=>by rw [hc];exact f.ro b o v x,f.disj,fun b ob x=>by rw [e];exact f.obj b ob x,f.objn,fun b y x=>by unfold World.shape?;rw [e];exact f.shp b y x⟩
theorem Guar.draw {h:Hp} {w:World} (f:Fits h w):Guar h w { w with drawn:=w.drawn+1 } h :=
 ⟨f.of_heap rfl,Nat.le_refl _,fun _ _ _ _=>rfl,fun _ _ _ _=>rfl,fun _=>rfl,fun _ _ _ e=>e,fun _ _ _ _ e=>e,fun _ _ e=>e,rfl,rfl,rfl,Nat.le_succ _,fun _ _=>rfl,fun _ _ e=>e⟩
def Ran (P:Program) (M:Mark→Prop) {α:Type} (s:Sem α) (h:Hp) (Q:α→Hp→Prop) (X:Value→Hp→Prop) (w:World) (es:Array Event):Prop :=
 (∃ a w' es' h',s.runT P w es=(.ok a w',es++es')∧Guar h w w' h'∧(∀ e∈es',EvOk M h w w'.heap.size e)∧Q a h') ∨
 (∃ v w' es' h',s.runT P w es=(.halt (.panic v) w',es++es')∧Guar h w w' h'∧(∀ e∈es',EvOk M h w w'.heap.size e)∧X v h')
theorem Ran.of_step {P:Program} {M:Mark→Prop} {α:Type} {s s1:Sem α} {h h1:Hp} {Q:α→Hp→Prop} {X:Value→Hp→Prop} {w w1:World} {es es1:Array Event}
  (hr:s.runT P w es=s1.runT P w1 (es++es1)) (g:Guar h w w1 h1) (he:∀ e∈es1,EvOk M h w w1.heap.size e) (r:Ran P M s1 h1 Q X w1 (es++es1)):Ran P M s h Q X w es:=by
 rcases r with ⟨a,w',es',h',e1,g1,e2,q⟩ | ⟨a,w',es',h',e1,g1,e2,q⟩
 ·refine .inl ⟨a,w',es1++es',h',by rw [hr,e1,Array.append_assoc],g.trans g1,fun e hm=>?_,q⟩
  rcases Array.mem_append.1 hm with hm | hm
  ·exact (he e hm).mono g1.size
  ·exact (e2 e hm).back g
 ·refine .inr ⟨a,w',es1++es',h',by rw [hr,e1,Array.append_assoc],g.trans g1,fun e hm=>?_,q⟩
  rcases Array.mem_append.1 hm with hm | hm
  ·exact (he e hm).mono g1.size
  ·exact (e2 e hm).back g
theorem wpS_sound {P:Program} {M:Mark→Prop} {α:Type} (s:Sem α):∀ {h:Hp} {Q:α→Hp→Prop} {X:Value→Hp→Prop},wpS P M s h Q X→∀ w es,Fits h w→Ran P M s h Q X w es:=by
 have none0:∀ {h:Hp} {w:World} {n:Nat} e,e∈(#[]:Array Event)→EvOk M h w n e:=fun e hm=>by simp at hm
 induction s with
 | pure a=>intro h Q X hs w es f;exact .inl ⟨a,w,#[],h,by simp [Sem.runT],.refl f,none0,hs⟩
 | load m a k ih =>
  intro h Q X hs w es f
  obtain ⟨v,hv,hk⟩:=hs
  refine Ran.of_step (s1:=k v) (h1:=h) (w1:=w) (es1:=#[⟨.cell a,false,m == .atomic⟩]) ?_ (.refl f) ?_ (ih v hk w _ f)
  ·rw [Array.append_singleton];simp [Sem.runT,f.can hv]
  ·intro e hm
   simp only [List.mem_toArray,List.mem_cons,List.not_mem_nil,or_false] at hm
   subst hm
   exact ⟨hv.1,(by obtain ⟨b,o,sp⟩:=a;have hs:sp=none:=hv.1;subst hs;exact cell_lt (f.can hv)),hv.2.elim (fun e=>.inr (.inl (by rw [e];rfl))) (fun e=>.inr (.inr ⟨rfl,by rw [e];rfl⟩))⟩
 | store m a v k ih =>
  intro h Q X hs w es f
  have key:a.spot=none∧(h.own a.block a.off).isSome=true∧wpS P M k (h.set a.block a.off v) Q X→(∀ c,v≠.agg c)→(∀ c,v≠.tuple c)→Ran P M (.store m a v k) h Q X w es:=by
   rintro ⟨h1,h2,h3⟩ n1 n2
   obtain ⟨x,hx⟩:=own_some h2
   have ha:a=⟨a.block,a.off,none⟩:=by obtain ⟨b,o,s⟩:=a;simp only at h1;subst h1;rfl
   have hc:w.cell? a=some x:=by rw [ha];exact f.own _ _ _ hx
   have hf:w.frozen? a=false:=by rw [ha];exact f.thaw _ _ _ hx
   refine Ran.of_step (s1:=k) (w1:=w.setCell a v) (es1:=#[⟨.cell a,true,m == .atomic⟩]) ?_ (.store f h1 h2 v) ?_ (ih h3 _ _ (Guar.store f h1 h2 v).fits)
   ·cases v with
    | agg c=>exact absurd rfl (n1 c)
    | tuple c=>exact absurd rfl (n2 c)
    | _=>rw [Array.append_singleton];simp [Sem.runT,hc,hf]
   ·intro e hm
    simp only [List.mem_toArray,List.mem_cons,List.not_mem_nil,or_false] at hm
    subst hm
    exact ⟨h1,(by simp only [World.setCell,Array.size_modify];exact cell_lt (f.own _ _ _ hx)),.inr (.inl h2)⟩
  cases v with
  | agg c=>exact hs.elim
  | tuple c=>exact hs.elim
  | _=>exact key hs (fun _=>by simp) (fun _=>by simp)
 | new o k ih =>
  intro h Q X hs w es f
  have hother:isCells o=false→(∀ b,h.fresh b→wpS P M (k b) (h.setObj b o) Q X)→Ran P M (.new o k) h Q X w es:=by
   intro hn hs
   refine Ran.of_step (s1:=k w.heap.size) (w1:={ w with heap:=w.heap.push o }) (es1:=#[]) (by simp [Sem.runT]) (.newObj f o hn) none0 (ih _ (hs _ (f.fresh (Nat.le_refl _))) _ _ (Guar.newObj f o hn).fits)
  cases o with
  | cells c t fz =>
   obtain ⟨x,y⟩:=fz
   cases x with
   | succ n=>exact hs.elim
   | zero =>
    cases y with
    | succ n=>exact hs.elim
    | zero =>
     refine Ran.of_step (s1:=k w.heap.size) (w1:={ w with heap:=w.heap.push (.cells c t) }) (es1:=#[]) (by simp [Sem.runT]) (.newCells f c t) none0 (ih _ (hs _ (f.fresh (Nat.le_refl _))) _ _ (Guar.newCells f c t).fits)
  | _=>exact hother rfl hs
 | shape r k ih =>
  intro h Q X hs w es f
  obtain ⟨ho,hk⟩:=hs
  have hcell:∀ o',((h.own r o').isSome=true∨(h.ro r o').isSome=true)→∃ v,w.cell? ⟨r,o',none⟩=some v:=by
   intro o' h'
   rcases h' with h' | h'
   ·obtain ⟨v,e⟩:=Option.isSome_iff_exists.1 h';exact ⟨v,f.own _ _ _ e⟩
   ·obtain ⟨v,e⟩:=Option.isSome_iff_exists.1 h';exact ⟨v,f.ro _ _ _ e⟩
  have hex:∃ c t fz,w.heap[r]?=some (.cells c t fz):=by
   rcases ho with ⟨o,ho⟩ | ho
   ·obtain ⟨v,hv⟩:=hcell o ho
    unfold World.cell? at hv
    cases e:w.heap[r]? with
    | none=>simp [e] at hv
    | some ob=>cases ob <;> simp [e] at hv;exact ⟨_,_,_,rfl⟩
   ·obtain ⟨y,hy⟩:=Option.isSome_iff_exists.1 ho
    have hs:=f.shp _ _ hy
    unfold World.shape? at hs
    cases e:w.heap[r]? with
    | none=>simp [e] at hs
    | some ob=>cases ob <;> simp [e] at hs;exact ⟨_,_,_,rfl⟩
  obtain ⟨c,t,fz,hc⟩:=hex
  refine Ran.of_step (s1:=k (some (t,c.size))) (w1:=w) (es1:=#[]) ?_ (.refl f) none0 (ih _ (hk t c.size ?_ ?_) _ _ f)
  ·simp [Sem.runT,World.shape?,hc]
  ·intro o' h'
   obtain ⟨v',hv'⟩:=hcell o' h'
   unfold World.cell? at hv'
   simp only [hc,Option.isSome_none,Bool.false_eq_true,if_false] at hv'
   exact (Array.getElem?_eq_some_iff.1 hv').1
  ·intro y hy
   have hs:=f.shp _ _ hy
   unfold World.shape? at hs
   simp only [hc] at hs
   exact (Option.some.inj hs).symm
 | freeze a n k ih=>intro h Q X hs;exact hs.elim
 | frozen a k ih =>
  intro h Q X hs w es f
  refine Ran.of_step (s1:=k (w.frozen? a)) (w1:=w) (es1:=#[]) (by simp [Sem.runT]) (.refl f) none0 (ih _ (hs _ ?_) _ _ f)
  intro ho
  obtain ⟨v,e⟩:=own_some ho
  have:=f.thaw _ _ _ e
  obtain ⟨b,o,s⟩:=a
  exact this
 | getObj r k ih =>
  intro h Q X hs w es f
  obtain ⟨o,ho,hk⟩:=hs
  have h0:=f.obj _ _ ho
  have hn:=f.objn _ _ ho
  refine Ran.of_step (s1:=k o) (w1:=w) (es1:=#[⟨.obj r,false,o.isChan⟩]) ?_ (.refl f) ?_ (ih _ hk _ _ f)
  ·rw [Array.append_singleton];cases o <;> simp_all [Sem.runT,isCells]
  ·intro e hm
   simp only [List.mem_toArray,List.mem_cons,List.not_mem_nil,or_false] at hm
   subst hm
   exact ⟨(Array.getElem?_eq_some_iff.1 h0).1,.inr (by rw [ho];rfl)⟩
 | setObj r o k ih =>
  intro h Q X hs w es f
  obtain ⟨hr,hn,hk⟩:=hs
  obtain ⟨o0,ho⟩:=Option.isSome_iff_exists.1 hr
  have h0:=f.obj _ _ ho
  have hn0:=f.objn _ _ ho
  refine Ran.of_step (s1:=k) (w1:={ w with heap:=w.heap.setIfInBounds r o }) (es1:=#[⟨.obj r,true,o.isChan⟩]) ?_ (.setObj f hr o hn) ?_ (ih hk _ _ (Guar.setObj f hr o hn).fits)
  ·rw [Array.append_singleton];cases o0 <;> simp_all [Sem.runT,isCells]
  ·intro e hm
   simp only [List.mem_toArray,List.mem_cons,List.not_mem_nil,or_false] at hm
   subst hm
   exact ⟨by simpa using (Array.getElem?_eq_some_iff.1 h0).1,.inr hr⟩
 | choose q k ih =>
  intro h Q X hs w es f
  unfold wpS at hs
  by_cases hq:q.forced=true
  ·rw [if_pos hq] at hs
   exact Ran.of_step (s1:=k 0) (w1:=w) (es1:=#[]) (by simp [Sem.runT,hq]) (.refl f) none0 (ih _ hs _ _ f)
  ·rw [if_neg hq] at hs
   exact Ran.of_step (s1:=k (q.cut (w.tape w.drawn q))) (w1:={ w with drawn:=w.drawn+1 }) (es1:=#[]) (by simp [Sem.runT,hq]) (.draw f) none0 (ih _ (hs _) _ _ (f.of_heap rfl))
 | sys c k ih=>intro h Q X hs;exact hs.elim
 | program k ih =>
  intro h Q X hs w es f
  exact Ran.of_step (s1:=k P) (w1:=w) (es1:=#[]) (by simp [Sem.runT]) (.refl f) none0 (ih _ hs _ _ f)
 | mark m k ih =>
  intro h Q X hs w es f
  refine Ran.of_step (s1:=k) (w1:=w) (es1:=#[⟨.mark m,false,true⟩]) (by rw [Array.append_singleton];simp [Sem.runT]) (.refl f) ?_ (ih hs.2 _ _ f)
  intro e hm
  simp only [List.mem_toArray,List.mem_cons,List.not_mem_nil,or_false] at hm
  subst hm
  exact hs.1
 | halt hh =>
  intro h Q X hs w es f
  cases hh with
  | panic v=>exact .inr ⟨v,w,#[],h,by simp [Sem.runT],.refl f,none0,hs⟩
  | _=>exact hs.elim
theorem wpS_bind {P:Program} {M:Mark→Prop} {α β:Type} (s:Sem α) (k:α→Sem β):∀ {h:Hp} {Q:β→Hp→Prop} {X:Value→Hp→Prop},wpS P M s h (fun a h=>wpS P M (k a) h Q X) X→wpS P M (s.bind k) h Q X:=by
 induction s with
 | pure a=>intro h Q X hs;exact hs
 | load m a k ih=>intro h Q X hs;obtain ⟨v,hv,hk⟩:=hs;exact ⟨v,hv,ih v hk⟩
 | store m a v k ih =>
  intro h Q X hs
  cases v with
  | agg c=>exact hs
  | tuple c=>exact hs
  | _=>exact ⟨hs.1,hs.2.1,ih hs.2.2⟩
 | new o k ih =>
  intro h Q X hs
  cases o with
  | cells c t fz =>
   obtain ⟨a,b⟩:=fz
   cases a with
   | succ n=>exact hs
   | zero=>cases b with
    | succ n=>exact hs
    | zero=>exact fun b hb=>ih b (hs b hb)
  | _=>exact fun b hb=>ih b (hs b hb)
 | shape r k ih=>intro h Q X hs;exact ⟨hs.1,fun t n hh hy=>ih _ (hs.2 t n hh hy)⟩
 | freeze a n k ih=>intro h Q X hs;exact hs
 | frozen a k ih=>intro h Q X hs;exact fun b hb=>ih b (hs b hb)
 | getObj r k ih=>intro h Q X hs;obtain ⟨v,hv,hk⟩:=hs;exact ⟨v,hv,ih v hk⟩
 | setObj r o k ih=>intro h Q X hs;exact ⟨hs.1,hs.2.1,ih hs.2.2⟩
 | choose qu k ih =>
  intro h Q X hs
  show wpS P M (.choose qu fun n=>(k n).bind _) h Q X
  unfold wpS at hs ⊢
  split
  ·rename_i hq;rw [if_pos hq] at hs;exact ih 0 hs
  ·rename_i hq;rw [if_neg hq] at hs;exact fun t=>ih _ (hs t)
 | sys c k ih=>intro h Q X hs;exact hs
 | program k ih=>intro h Q X hs;exact ih _ hs
 | mark m k ih=>intro h Q X hs;exact ⟨hs.1,ih hs.2⟩
 | halt hh=>intro h Q X hs;cases hh <;> exact hs
theorem sem_bind_pure {α:Type} (s:Sem α):s.bind Sem.pure=s:=by
 induction s <;> simp_all [Sem.bind]
 funext b;cases b <;> simp_all
theorem sem_bind_assoc {α β γ:Type} (s:Sem α) (f:α→Sem β) (g:β→Sem γ):(s.bind f).bind g=s.bind fun a=>(f a).bind g:=by
 induction s <;> simp_all [Sem.bind]
 funext b;cases b <;> simp_all
instance:LawfulMonad Sem:=LawfulMonad.mk' Sem (fun s=>sem_bind_pure s) (fun _ _=>rfl) (fun s f g=>sem_bind_assoc s f g)
end
end Go.PB
